/-
  Tc Td Te
-/
import Derived.Test.YtjmclobbfabnpaaGreatP1
set_option linter.unusedSimpArgs false
set_option linter.unusedVariables false
/-
  Whole numbers of the reference: Make, From, Trim, Is, Mul, Add.
-/
namespace Go.Proofs.YtjmclobbfabnpaaGreat.L
open Go Go.RowKit Go.Proofs
attribute [local go_sem] evalOps_nil evalOps_cons runW_t runW_f runE_s runP_s wantA evalOp effOp letters okDst coreA St.opv St.get St.at look constA St.put St.upd St.set decide_true List.all_nil List.all_cons Bool.and_true Bool.true_and and_self and_true true_and if_true if_false true_or Int.sub_zero List.nil_append List.cons_append List.append_nil Option.isSome_some List.getElem?_toArray List.getElem?_cons_succ List.getElem?_cons_zero Option.bind_some Option.map_some Option.map_none beq_self_eq_true Bool.false_beq Bool.true_beq Bool.not_true Bool.not_false Bool.false_eq_true cond_true cond_false binA binI List.map_cons List.map_nil boundA List.length_nil List.length_cons Nat.zero_mul Nat.one_mul Nat.mul_one Nat.zero_add Nat.add_zero Nat.zero_le Option.toList St.freshB AV.ment AV.ments Blk.ment V.sizes Nat.lt_add_one Bool.or_true Bool.true_or Bool.or_false Bool.false_or Bool.or_self if_pos if_neg decide_false decide_eq_true decide_eq_false wrap_i64 Int.toNat_natCast minA maxA Int.natCast_add Int.cast_ofNat_Int Option.isSome_none false_implies true_implies forall_const List.drop_zero Int.toNat_zero Int.add_sub_cancel lenA sliceA loadA indexAddrA partA fitsT V.atP V.offP V.size List.length_map List.getElem?_map Int.toNat_natCast_add_one Int.ofNat_eq_natCast TY calleeA capArg knotA capArgs toArgs toArg callA R.res R.mems R.blks R.av R.names R.nw invokeA storeA storeV fieldAddrA liveB V.off V.offs V.setP List.set_cons_zero List.set_cons_succ buildA buildP partsA appendA srcA copyA boxOk makeA AV.pure List.take_succ_cons List.take_zero nilA words entry List.zipIdx_cons List.zipIdx_nil Arg.av Arg.avs

/-- A whole number: its sign and its size. -/
def pV (p : Bool × List Int) : V := .agg [.bool p.1, words p.2]
def ival (p : Bool × List Int) : Int := if p.1 then -(val p.2 : Int) else val p.2
def zp (z : Int) : Bool × List Int := (decide (z < 0), digs z.natAbs)
theorem ival_zp (z : Int) : ival (zp z) = z := by
  unfold ival zp
  rw [(digs_ok _).2.2]
  by_cases h : z < 0
  · simp [h]; omega
  · simp [h]; omega
theorem digs_pos (n : Nat) : 0 < (digs n).length ↔ 0 < n := by
  constructor
  · intro h
    refine Nat.pos_of_ne_zero fun h0 => ?_
    rw [h0] at h
    exact absurd h (by decide)
  · intro h
    refine Nat.pos_of_ne_zero fun h0 => ?_
    have := (digs_ok n).2.2
    rw [List.eq_nil_of_length_eq_zero h0] at this
    simp [val] at this
    omega
theorem zp_of (b : Bool) (v : Nat) : zp (if b then -(v : Int) else v) = (b && decide (0 < (digs v).length), digs v) := by
  unfold zp
  have h := digs_pos v
  cases b
  · simp
  · simp
    exact h.symm
theorem zp_ival (p : Bool × List Int) : zp (ival p) = (p.1 && decide (0 < (digs (val p.2)).length), digs (val p.2)) := zp_of p.1 (val p.2)


theorem Make_ok (b : Bool) (l : List Int) (hl : l.length < 100000) (ol : okW l) : FnOk Tryz.prog 38 [.v (.bool b), .v (words l)] [.v true (pV (zp (ival (b, l))))] := by
  have h1 := rTrim_ok l hl ol
  rw [zp_ival]
  obtain ⟨D, hD⟩ : ∃ D, D = digs (val l) := ⟨_, rfl⟩
  simp only
  rw [← hD] at h1 ⊢
  refine FnOk.of Tryz.func38 rfl rfl fun cx w0 => ?_
  rw [show Tryz.f38.ntmps = 15 from rfl]
  refine Holds.step (Px := px) (T := TT) (ρ := fun _ => []) TTe (by simp (maxSteps := 100000) (disch := omega) only [go_sem, V.isAgg, V.flat, ↓reduceIte, Nat.reduceAdd, Nat.reduceSub, Nat.reduceLT, Nat.reduceEqDiff, reduceCtorEq, Nat.reduceLeDiff, Nat.reduceBEq, Nat.reduceMul, Int.reduceToNat]; rfl) (by repeat' first | exact trivial | constructor) ?_
  refine Holds.step (Px := px) (T := TT) (ρ := fun _ => [.v true (words D)]) TTe (by simp (maxSteps := 100000) (disch := omega) only [go_sem, V.isAgg, V.flat, ↓reduceIte, Nat.reduceAdd, Nat.reduceSub, Nat.reduceLT, Nat.reduceEqDiff, reduceCtorEq, Nat.reduceLeDiff, Nat.reduceBEq, Nat.reduceMul, Int.reduceToNat]; rfl) (by first | exact h1 | (repeat' first | exact trivial | exact h1 | constructor)) ?_
  cases b
  · refine Holds.step (Px := px) (T := TT) (ρ := fun _ => []) TTe (by simp (maxSteps := 100000) (disch := omega) only [go_sem, V.isAgg, V.flat, ↓reduceIte, Nat.reduceAdd, Nat.reduceSub, Nat.reduceLT, Nat.reduceEqDiff, reduceCtorEq, Nat.reduceLeDiff, Nat.reduceBEq, Nat.reduceMul, Int.reduceToNat]; rfl) (by repeat' first | exact trivial | constructor) ?_
    exact Holds.ret (RetOk.vs (show resAVs Tryz.prog _ _ [ResultVar.cell 4 26] = _ from by simp (maxSteps := 100000) (disch := omega) only [resAVs, AV.isPtr, go_sem, V.isAgg, V.flat, ↓reduceIte, Nat.reduceAdd, Nat.reduceSub, Nat.reduceLT, Nat.reduceEqDiff, reduceCtorEq, Nat.reduceLeDiff, Nat.reduceBEq, Nat.reduceMul, Int.reduceToNat]; rfl) (by exact ⟨⟨rfl, fun h => h⟩, trivial⟩) rfl)
  · by_cases h : 0 < D.length
    · refine Holds.step (Px := px) (T := TT) (ρ := fun _ => []) TTe (by simp (maxSteps := 100000) (disch := omega) only [go_sem, V.isAgg, V.flat, ↓reduceIte, Nat.reduceAdd, Nat.reduceSub, Nat.reduceLT, Nat.reduceEqDiff, reduceCtorEq, Nat.reduceLeDiff, Nat.reduceBEq, Nat.reduceMul, Int.reduceToNat, h]; rfl) (by repeat' first | exact trivial | constructor) ?_
      rw [decide_eq_true h]
      exact Holds.ret (RetOk.vs (show resAVs Tryz.prog _ _ [ResultVar.cell 4 26] = _ from by simp (maxSteps := 100000) (disch := omega) only [resAVs, AV.isPtr, go_sem, V.isAgg, V.flat, ↓reduceIte, Nat.reduceAdd, Nat.reduceSub, Nat.reduceLT, Nat.reduceEqDiff, reduceCtorEq, Nat.reduceLeDiff, Nat.reduceBEq, Nat.reduceMul, Int.reduceToNat]; rfl) (by exact ⟨⟨rfl, fun h => h⟩, trivial⟩) rfl)
    · refine Holds.step (Px := px) (T := TT) (ρ := fun _ => []) TTe (by simp (maxSteps := 100000) (disch := omega) only [go_sem, V.isAgg, V.flat, ↓reduceIte, Nat.reduceAdd, Nat.reduceSub, Nat.reduceLT, Nat.reduceEqDiff, reduceCtorEq, Nat.reduceLeDiff, Nat.reduceBEq, Nat.reduceMul, Int.reduceToNat, h]; rfl) (by repeat' first | exact trivial | constructor) ?_
      rw [decide_eq_false h]
      exact Holds.ret (RetOk.vs (show resAVs Tryz.prog _ _ [ResultVar.cell 4 26] = _ from by simp (maxSteps := 100000) (disch := omega) only [resAVs, AV.isPtr, go_sem, V.isAgg, V.flat, ↓reduceIte, Nat.reduceAdd, Nat.reduceSub, Nat.reduceLT, Nat.reduceEqDiff, reduceCtorEq, Nat.reduceLeDiff, Nat.reduceBEq, Nat.reduceMul, Int.reduceToNat]; rfl) (by exact ⟨⟨rfl, fun h => h⟩, trivial⟩) rfl)

theorem FromWord_ok (u : Nat) (hu : u < 18446744073709551616) : FnOk Tryz.prog 39 [.v (.int .u64 u)] [.v true (words (digs u))] := by
  have h1 := Word_ok u hu
  have o1 : okH [(u : Int) % 4294967296, (u : Int) / 4294967296] := by intro n hn; simp at hn; omega
  have h2 := nat_ok [(u : Int) % 4294967296, (u : Int) / 4294967296] (by simp) o1
  rw [show valH [(u : Int) % 4294967296, (u : Int) / 4294967296] = u from by simp only [valH]; omega] at h2
  refine FnOk.of Tryz.func39 rfl rfl fun cx w0 => ?_
  rw [show Tryz.f39.ntmps = 6 from rfl]
  refine Holds.step (Px := px) (T := TT) (ρ := fun _ => []) TTe (by simp (maxSteps := 100000) (disch := omega) only [go_sem, V.isAgg, V.flat, ↓reduceIte, Nat.reduceAdd, Nat.reduceSub, Nat.reduceLT, Nat.reduceEqDiff, reduceCtorEq, Nat.reduceLeDiff, Nat.reduceBEq, Nat.reduceMul, Int.reduceToNat]; rfl) (by repeat' first | exact trivial | constructor) ?_
  refine Holds.step (Px := px) (T := TT) (ρ := fun d => if d = 4 then [.v true (words [(u : Int) % 4294967296, (u : Int) / 4294967296])] else [.v true (words (digs u))]) TTe (by simp (maxSteps := 100000) (disch := omega) only [go_sem, V.isAgg, V.flat, ↓reduceIte, Nat.reduceAdd, Nat.reduceSub, Nat.reduceLT, Nat.reduceEqDiff, reduceCtorEq, Nat.reduceLeDiff, Nat.reduceBEq, Nat.reduceMul, Int.reduceToNat]; rfl) (by first | exact ⟨h1, h2⟩ | (repeat' first | exact trivial | exact h1 | exact h2 | constructor)) ?_
  exact Holds.ret (RetOk.vs rfl (by exact ⟨⟨rfl, fun h => h⟩, trivial⟩) rfl)

theorem From_ok (n : Int) (h1 : -9223372036854775808 ≤ n) (h2 : n < 9223372036854775808) : FnOk Tryz.prog 16 [.v (.int .i64 n)] [.v true (pV (zp n))] := by
  have ikd2 : ikd Tryz.prog 2 = some .i64 := by kernel_rfl
  have und2 : (Tryz.prog.underlying 2).isSome = true := by kernel_rfl
  have ikd69 : ikd Tryz.prog 52 = some .u64 := by kernel_rfl
  have und69 : (Tryz.prog.underlying 52).isSome = true := by kernel_rfl
  obtain ⟨u, hu⟩ : ∃ u, u = n.natAbs := ⟨_, rfl⟩
  have hw := FromWord_ok u (by omega)
  obtain ⟨od, zd, vd⟩ := digs_ok u
  have ld : (digs u).length ≤ 1 := digs_len (by omega)
  refine FnOk.of Tryz.func16 rfl rfl fun cx w0 => ?_
  rw [show Tryz.f16.ntmps = 14 from rfl]
  refine Holds.step (Px := px) (T := TT) (ρ := fun _ => []) TTe (by simp (maxSteps := 100000) (disch := omega) only [go_sem, V.isAgg, V.flat, ↓reduceIte, Nat.reduceAdd, Nat.reduceSub, Nat.reduceLT, Nat.reduceEqDiff, reduceCtorEq, Nat.reduceLeDiff, Nat.reduceBEq, Nat.reduceMul, Int.reduceToNat]; rfl) (by repeat' first | exact trivial | constructor) ?_
  refine Holds.seq ?_
  by_cases h : n < 0
  · have hM := Make_ok true (digs u) (by omega) od
    rw [show ival (true, digs u) = n from by rw [ival]; simp only [if_true]; rw [vd]; omega] at hM
    have e1 : IntKind.u64.wrap n = n + 18446744073709551616 := by rw [wrap_u64]; omega
    have e2 : IntKind.u64.wrap (0 - (n + 18446744073709551616)) = u := by rw [wrap_u64]; omega
    refine Holds.step (Px := px) (T := TT) (ρ := fun _ => []) TTe (by simp (maxSteps := 100000) (disch := omega) only [go_sem, V.isAgg, V.flat, ↓reduceIte, Nat.reduceAdd, Nat.reduceSub, Nat.reduceLT, Nat.reduceEqDiff, reduceCtorEq, Nat.reduceLeDiff, Nat.reduceBEq, Nat.reduceMul, Int.reduceToNat, h]; rfl) (by repeat' first | exact trivial | constructor) ?_
    refine Holds.condT rfl ?_
    refine Holds.step (Px := px) (T := TT) (ρ := fun d => if d = 8 then [.v true (words (digs u))] else [.v true (pV (zp n))]) TTe (by simp (maxSteps := 100000) (disch := omega) only [go_sem, V.isAgg, V.flat, ↓reduceIte, Nat.reduceAdd, Nat.reduceSub, Nat.reduceLT, Nat.reduceEqDiff, reduceCtorEq, Nat.reduceLeDiff, Nat.reduceBEq, Nat.reduceMul, Int.reduceToNat, ikd2, und2, ikd69, und69, e1, e2]; rfl) (by first | exact ⟨hw, hM⟩ | (repeat' first | exact trivial | exact hw | exact hM | constructor)) ?_
    exact Holds.ret (RetOk.vs (show resAVs Tryz.prog _ _ [ResultVar.cell 2 26] = _ from by simp (maxSteps := 100000) (disch := omega) only [resAVs, AV.isPtr, go_sem, V.isAgg, V.flat, ↓reduceIte, Nat.reduceAdd, Nat.reduceSub, Nat.reduceLT, Nat.reduceEqDiff, reduceCtorEq, Nat.reduceLeDiff, Nat.reduceBEq, Nat.reduceMul, Int.reduceToNat, pV]; rfl) (by exact ⟨⟨rfl, fun h => h⟩, trivial⟩) rfl)
  · have hM := Make_ok false (digs u) (by omega) od
    rw [show ival (false, digs u) = n from by rw [ival]; simp only [Bool.false_eq_true, if_false]; rw [vd]; omega] at hM
    have e1 : IntKind.u64.wrap n = u := by rw [wrap_u64]; omega
    refine Holds.step (Px := px) (T := TT) (ρ := fun _ => []) TTe (by simp (maxSteps := 100000) (disch := omega) only [go_sem, V.isAgg, V.flat, ↓reduceIte, Nat.reduceAdd, Nat.reduceSub, Nat.reduceLT, Nat.reduceEqDiff, reduceCtorEq, Nat.reduceLeDiff, Nat.reduceBEq, Nat.reduceMul, Int.reduceToNat, h]; rfl) (by repeat' first | exact trivial | constructor) ?_
    refine Holds.condF rfl (Holds.skip ?_)
    show Holds _ _ _ _ _ _ _
    refine Holds.step (Px := px) (T := TT) (ρ := fun d => if d = 12 then [.v true (words (digs u))] else [.v true (pV (zp n))]) TTe (by simp (maxSteps := 100000) (disch := omega) only [go_sem, V.isAgg, V.flat, ↓reduceIte, Nat.reduceAdd, Nat.reduceSub, Nat.reduceLT, Nat.reduceEqDiff, reduceCtorEq, Nat.reduceLeDiff, Nat.reduceBEq, Nat.reduceMul, Int.reduceToNat, ikd2, und2, ikd69, und69, e1]; rfl) (by first | exact ⟨hw, hM⟩ | (repeat' first | exact trivial | exact hw | exact hM | constructor)) ?_
    exact Holds.ret (RetOk.vs (show resAVs Tryz.prog _ _ [ResultVar.cell 2 26] = _ from by simp (maxSteps := 100000) (disch := omega) only [resAVs, AV.isPtr, go_sem, V.isAgg, V.flat, ↓reduceIte, Nat.reduceAdd, Nat.reduceSub, Nat.reduceLT, Nat.reduceEqDiff, reduceCtorEq, Nat.reduceLeDiff, Nat.reduceBEq, Nat.reduceMul, Int.reduceToNat, pV]; rfl) (by exact ⟨⟨rfl, fun h => h⟩, trivial⟩) rfl)

theorem TrimI_ok (p : Bool × List Int) (hl : p.2.length < 100000) (ol : okW p.2) : FnOk Tryz.prog 19 [.v (pV p)] [.v true (pV (zp (ival p)))] := by
  have hM := Make_ok p.1 p.2 hl ol
  rw [show (p.1, p.2) = p from rfl] at hM
  obtain ⟨Z, hZ⟩ : ∃ Z, Z = zp (ival p) := ⟨_, rfl⟩
  obtain ⟨b, l⟩ := p
  simp only at hM
  rw [← hZ] at hM ⊢
  refine FnOk.of Tryz.func19 rfl rfl fun cx w0 => ?_
  rw [show Tryz.f19.ntmps = 8 from rfl]
  refine Holds.step (Px := px) (T := TT) (ρ := fun _ => []) TTe (by simp (maxSteps := 100000) (disch := omega) only [go_sem, V.isAgg, V.flat, ↓reduceIte, Nat.reduceAdd, Nat.reduceSub, Nat.reduceLT, Nat.reduceEqDiff, reduceCtorEq, Nat.reduceLeDiff, Nat.reduceBEq, Nat.reduceMul, Int.reduceToNat, pV]; rfl) (by repeat' first | exact trivial | constructor) ?_
  refine Holds.step (Px := px) (T := TT) (ρ := fun _ => [.v true (pV Z)]) TTe (by simp (maxSteps := 100000) (disch := omega) only [go_sem, V.isAgg, V.flat, ↓reduceIte, Nat.reduceAdd, Nat.reduceSub, Nat.reduceLT, Nat.reduceEqDiff, reduceCtorEq, Nat.reduceLeDiff, Nat.reduceBEq, Nat.reduceMul, Int.reduceToNat, pV]; rfl) (by first | exact hM | (repeat' first | exact trivial | exact hM | constructor)) ?_
  exact Holds.ret (RetOk.vs (show resAVs Tryz.prog _ _ [ResultVar.cell 2 26] = _ from by simp (maxSteps := 100000) (disch := omega) only [resAVs, AV.isPtr, go_sem, V.isAgg, V.flat, ↓reduceIte, Nat.reduceAdd, Nat.reduceSub, Nat.reduceLT, Nat.reduceEqDiff, reduceCtorEq, Nat.reduceLeDiff, Nat.reduceBEq, Nat.reduceMul, Int.reduceToNat, pV]; rfl) (by exact ⟨⟨rfl, fun h => h⟩, trivial⟩) rfl)

theorem zp_ok (z : Int) : okW (zp z).2 := (digs_ok _).1
theorem zp_val (z : Int) : val (zp z).2 = z.natAbs := (digs_ok _).2.2
theorem zp_len {z : Int} {m : Nat} (h : z.natAbs < 18446744073709551616 ^ m) : (zp z).2.length ≤ m := digs_len h

theorem IsI_ok (z : Int) (q : Bool × List Int) (hz : (zp z).2.length < 40000) (hq : q.2.length < 40000) (oq : okW q.2) (h : ival q = z) : FnOk Tryz.prog 20 [.v (pV (zp z)), .v (pV q)] [.v true (.bool true)] := by
  have hv : val q.2 = z.natAbs := by rw [← h, ival]; split <;> omega
  have h1 := Is_ok (zp z).2 q.2 (by omega) (by omega) (by rw [hv]; exact Nat.lt_trans hz (by decide)) oq
  rw [show (zp z).2 = digs (val q.2) from by rw [hv]; rfl, decide_eq_true rfl, ← show (zp z).2 = digs (val q.2) from by rw [hv]; rfl] at h1
  have h2 := TrimI_ok q (by omega) oq
  rw [h] at h2
  obtain ⟨Z, hZ⟩ : ∃ Z, Z = zp z := ⟨_, rfl⟩
  rw [← hZ] at h1 h2 ⊢
  obtain ⟨zb, zl⟩ := Z
  obtain ⟨qb, ql⟩ := q
  simp only at h1
  refine FnOk.of Tryz.func20 rfl rfl fun cx w0 => ?_
  rw [show Tryz.f20.ntmps = 18 from rfl]
  refine Holds.step (Px := px) (T := TT) (ρ := fun _ => []) TTe (by simp (maxSteps := 100000) (disch := omega) only [go_sem, V.isAgg, V.flat, ↓reduceIte, Nat.reduceAdd, Nat.reduceSub, Nat.reduceLT, Nat.reduceEqDiff, reduceCtorEq, Nat.reduceLeDiff, Nat.reduceBEq, Nat.reduceMul, Int.reduceToNat, pV]; rfl) (by repeat' first | exact trivial | constructor) ?_
  refine Holds.dstep (Px := px) (T := TT) (ρ := fun d => if d = 9 then [.v true (.bool true)] else [.v true (pV (zb, zl))]) [] mixed (by kernel_rfl) TTe (by simp (maxSteps := 100000) (disch := omega) only [go_sem, V.isAgg, V.flat, ↓reduceIte, Nat.reduceAdd, Nat.reduceSub, Nat.reduceLT, Nat.reduceEqDiff, reduceCtorEq, Nat.reduceLeDiff, Nat.reduceBEq, Nat.reduceMul, Int.reduceToNat, pV, fieldA]; rfl) (by first | exact ⟨h1, h2⟩ | (repeat' first | exact trivial | exact h1 | exact h2 | constructor)) (by rfl) (by rfl) (by rfl) ?_
  exact Holds.ret (RetOk.vs rfl (by exact ⟨⟨rfl, fun h => h⟩, trivial⟩) rfl)
/-
  Whole numbers of the reference: Mul, Add, the value of a polynomial.
-/

theorem ival_mk (b : Bool) (v : Nat) : ival (b, digs v) = if b then -(v : Int) else v := by rw [ival]; simp only [(digs_ok v).2.2]
theorem ival_mul (a b : Bool) (u v : Nat) : (if (a != b) = true then -((u * v : Nat) : Int) else ((u * v : Nat) : Int)) = (if a then -(u : Int) else u) * (if b then -(v : Int) else v) := by
  cases a <;> cases b <;> simp [Int.neg_mul, Int.mul_neg]

theorem MulI_ok (p q : Bool × List Int) (hp : p.2.length < 20000) (hq : q.2.length < 20000) (op : okW p.2) (oq : okW q.2) : FnOk Tryz.prog 15 [.v (pV p), .v (pV q)] [.v true (pV (zp (ival p * ival q)))] := by
  have h1 := rMul_ok p.2 q.2 (by omega) (by omega) op oq
  have hl : (digs (val p.2 * val q.2)).length ≤ p.2.length + q.2.length := digs_len (by
    rw [Nat.pow_add]
    exact Nat.mul_lt_mul'' (val_lt op) (val_lt oq))
  have h2 := Make_ok (p.1 != q.1) (digs (val p.2 * val q.2)) (by omega) (digs_ok _).1
  rw [ival_mk, ival_mul] at h2
  rw [show (if p.1 = true then -(val p.2 : Int) else val p.2) = ival p from rfl, show (if q.1 = true then -(val q.2 : Int) else val q.2) = ival q from rfl] at h2
  obtain ⟨Z, hZ⟩ : ∃ Z, Z = zp (ival p * ival q) := ⟨_, rfl⟩
  obtain ⟨D, hD⟩ : ∃ D, D = digs (val p.2 * val q.2) := ⟨_, rfl⟩
  rw [← hZ, ← hD] at h2
  rw [← hD] at h1
  rw [← hZ]
  obtain ⟨pb, pl⟩ := p
  obtain ⟨qb, ql⟩ := q
  simp only at h1 h2
  refine FnOk.of Tryz.func15 rfl rfl fun cx w0 => ?_
  rw [show Tryz.f15.ntmps = 16 from rfl]
  refine Holds.step (Px := px) (T := TT) (ρ := fun _ => []) TTe (by simp (maxSteps := 100000) (disch := omega) only [go_sem, V.isAgg, V.flat, ↓reduceIte, Nat.reduceAdd, Nat.reduceSub, Nat.reduceLT, Nat.reduceEqDiff, reduceCtorEq, Nat.reduceLeDiff, Nat.reduceBEq, Nat.reduceMul, Int.reduceToNat, pV]; rfl) (by repeat' first | exact trivial | constructor) ?_
  have hx : (pb != qb) = !decide (pb = qb) := by cases pb <;> cases qb <;> rfl
  rw [hx] at h2
  refine Holds.dstep (Px := px) (T := TT) (ρ := fun d => if d = 14 then [.v true (words D)] else [.v true (pV Z)]) [] mixed (by kernel_rfl) TTe (by simp (maxSteps := 100000) (disch := omega) only [go_sem, V.isAgg, V.flat, ↓reduceIte, Nat.reduceAdd, Nat.reduceSub, Nat.reduceLT, Nat.reduceEqDiff, reduceCtorEq, Nat.reduceLeDiff, Nat.reduceBEq, Nat.reduceMul, Int.reduceToNat, pV, V.bool.injEq]; rfl) (by first | exact ⟨h1, h2⟩ | (repeat' first | exact trivial | exact h1 | exact h2 | constructor)) (by rfl) (by rfl) (by rfl) ?_
  exact Holds.ret (RetOk.vs (show resAVs Tryz.prog _ _ [ResultVar.cell 4 26] = _ from by simp (maxSteps := 100000) (disch := omega) only [resAVs, AV.isPtr, go_sem, V.isAgg, V.flat, ↓reduceIte, Nat.reduceAdd, Nat.reduceSub, Nat.reduceLT, Nat.reduceEqDiff, reduceCtorEq, Nat.reduceLeDiff, Nat.reduceBEq, Nat.reduceMul, Int.reduceToNat, pV]; rfl) (by exact ⟨⟨rfl, fun h => h⟩, trivial⟩) rfl)

theorem AddI_ok (p q : Bool × List Int) (hp : p.2.length < 20000) (hq : q.2.length < 20000) (op : okW p.2) (oq : okW q.2) : FnOk Tryz.prog 18 [.v (pV p), .v (pV q)] [.v true (pV (zp (ival p + ival q)))] := by
  have vp := val_lt op
  have vq := val_lt oq
  have lle : ∀ {v : Nat} {x : List Int}, okW x → v ≤ val x → (digs v).length ≤ x.length := fun ox h => digs_len (Nat.lt_of_le_of_lt h (val_lt ox))
  obtain ⟨pb, pl⟩ := p
  obtain ⟨qb, ql⟩ := q
  simp only at hp hq op oq vp vq
  refine FnOk.of Tryz.func18 rfl rfl fun cx w0 => ?_
  rw [show Tryz.f18.ntmps = 42 from rfl]
  refine Holds.step (Px := px) (T := TT) (ρ := fun _ => []) TTe (by simp (maxSteps := 100000) (disch := omega) only [go_sem, V.isAgg, V.flat, ↓reduceIte, Nat.reduceAdd, Nat.reduceSub, Nat.reduceLT, Nat.reduceEqDiff, reduceCtorEq, Nat.reduceLeDiff, Nat.reduceBEq, Nat.reduceMul, Int.reduceToNat, pV]; rfl) (by repeat' first | exact trivial | constructor) ?_
  refine Holds.next (fun σ => (pb ≠ qb ∧ val pl < val ql) ∧ ∀ a w, Rel cx w0 σ a w → Rel cx w0 { nt := 42, env := [(2, .ptr 2 0 [] 0), (3, .ptr 3 0 [] 0), (4, .ptr 4 0 [] 0)], mem := [(2, .box 26 (.v false (pV (pb, pl)))), (3, .box 26 (.v false (pV (qb, ql)))), (4, .box 26 (.v true (.agg [.bool false, .sl 1 []])))] } a w) ?_ ?_
  · refine Holds.blockN ?_
    by_cases hb : pb = qb
    · subst hb
      have h1 := rAdd_ok pl ql (by omega) (by omega) op oq
      have hl : (digs (val pl + val ql)).length ≤ pl.length + ql.length + 1 := digs_len (by
        have e1 : 18446744073709551616 ^ pl.length ≤ 18446744073709551616 ^ (pl.length + ql.length) := Nat.pow_le_pow_right (by decide) (by omega)
        have e2 : 18446744073709551616 ^ ql.length ≤ 18446744073709551616 ^ (pl.length + ql.length) := Nat.pow_le_pow_right (by decide) (by omega)
        rw [Nat.pow_succ]
        omega)
      have h2 := Make_ok pb (digs (val pl + val ql)) (by omega) (digs_ok _).1
      rw [ival_mk, show (if pb = true then -((val pl + val ql : Nat) : Int) else ((val pl + val ql : Nat) : Int)) = ival (pb, pl) + ival (pb, ql) from by unfold ival; cases pb <;> simp <;> omega] at h2
      obtain ⟨Z, hZ⟩ : ∃ Z, Z = zp (ival (pb, pl) + ival (pb, ql)) := ⟨_, rfl⟩
      obtain ⟨D, hD⟩ : ∃ D, D = digs (val pl + val ql) := ⟨_, rfl⟩
      rw [← hZ, ← hD] at h2
      rw [← hD] at h1
      rw [← hZ]
      refine Holds.step (Px := px) (T := TT) (ρ := fun _ => []) TTe (by simp (maxSteps := 100000) (disch := omega) only [go_sem, V.isAgg, V.flat, ↓reduceIte, Nat.reduceAdd, Nat.reduceSub, Nat.reduceLT, Nat.reduceEqDiff, reduceCtorEq, Nat.reduceLeDiff, Nat.reduceBEq, Nat.reduceMul, Int.reduceToNat, pV]; rfl) (by repeat' first | exact trivial | constructor) ?_
      refine Holds.condT rfl ?_
      refine Holds.dstep (Px := px) (T := TT) (ρ := fun d => if d = 17 then [.v true (words D)] else [.v true (pV Z)]) [] mixed (by kernel_rfl) TTe (by simp (maxSteps := 100000) (disch := omega) only [go_sem, V.isAgg, V.flat, ↓reduceIte, Nat.reduceAdd, Nat.reduceSub, Nat.reduceLT, Nat.reduceEqDiff, reduceCtorEq, Nat.reduceLeDiff, Nat.reduceBEq, Nat.reduceMul, Int.reduceToNat, pV]; rfl) (by first | exact ⟨h1, h2⟩ | (repeat' first | exact trivial | exact h1 | exact h2 | constructor)) (by rfl) (by rfl) (by rfl) ?_
      exact Holds.ret (RetOk.vs (show resAVs Tryz.prog _ _ [ResultVar.cell 4 26] = _ from by simp (maxSteps := 100000) (disch := omega) only [resAVs, AV.isPtr, go_sem, V.isAgg, V.flat, ↓reduceIte, Nat.reduceAdd, Nat.reduceSub, Nat.reduceLT, Nat.reduceEqDiff, reduceCtorEq, Nat.reduceLeDiff, Nat.reduceBEq, Nat.reduceMul, Int.reduceToNat, pV]; rfl) (by exact ⟨⟨rfl, fun h => h⟩, trivial⟩) rfl)
    · have hb' : (pb == qb) = false := beq_eq_false_iff_ne.2 hb
      have h1 := rCmp_ok pl ql (by omega) (by omega) op oq
      refine Holds.step (Px := px) (T := TT) (ρ := fun _ => []) TTe (by simp (maxSteps := 100000) (disch := omega) only [go_sem, V.isAgg, V.flat, ↓reduceIte, Nat.reduceAdd, Nat.reduceSub, Nat.reduceLT, Nat.reduceEqDiff, reduceCtorEq, Nat.reduceLeDiff, Nat.reduceBEq, Nat.reduceMul, Int.reduceToNat, pV, hb']; rfl) (by repeat' first | exact trivial | constructor) ?_
      refine Holds.condF rfl ?_
      by_cases hlt : val pl < val ql
      · rw [cmpN, if_pos hlt] at h1
        refine Holds.step (Px := px) (T := TT) (ρ := fun _ => [.v true (.int .i64 (-1))]) TTe (by simp (maxSteps := 100000) (disch := omega) only [go_sem, V.isAgg, V.flat, ↓reduceIte, Nat.reduceAdd, Nat.reduceSub, Nat.reduceLT, Nat.reduceEqDiff, reduceCtorEq, Nat.reduceLeDiff, Nat.reduceBEq, Nat.reduceMul, Int.reduceToNat, pV]; rfl) (by first | exact h1 | (repeat' first | exact trivial | exact h1 | constructor)) ?_
        exact Holds.condF rfl (Holds.skip ⟨⟨hb, hlt⟩, fun a w h => Rel.keep [2, 3, 4] [2, 3, 4] h⟩)
      · have hge : 0 ≤ cmpN (val pl) (val ql) := by rw [cmpN, if_neg hlt]; split <;> decide
        have hle : cmpN (val pl) (val ql) ≤ 1 := by rw [cmpN, if_neg hlt]; split <;> decide
        obtain ⟨c, hc⟩ : ∃ c, c = cmpN (val pl) (val ql) := ⟨_, rfl⟩
        rw [← hc] at h1 hge hle
        have h2 := rSub_ok pl ql (by omega) (by omega) op oq (by omega)
        have hl : (digs (val pl - val ql)).length ≤ pl.length := lle op (by omega)
        have h3 := Make_ok pb (digs (val pl - val ql)) (by omega) (digs_ok _).1
        rw [ival_mk, show (if pb = true then -((val pl - val ql : Nat) : Int) else ((val pl - val ql : Nat) : Int)) = ival (pb, pl) + ival (qb, ql) from by unfold ival; revert hb; cases pb <;> cases qb <;> simp <;> omega] at h3
        obtain ⟨Z, hZ⟩ : ∃ Z, Z = zp (ival (pb, pl) + ival (qb, ql)) := ⟨_, rfl⟩
        obtain ⟨D, hD⟩ : ∃ D, D = digs (val pl - val ql) := ⟨_, rfl⟩
        rw [← hZ, ← hD] at h3
        rw [← hD] at h2
        rw [← hZ]
        refine Holds.step (Px := px) (T := TT) (ρ := fun _ => [.v true (.int .i64 c)]) TTe (by simp (maxSteps := 100000) (disch := omega) only [go_sem, V.isAgg, V.flat, ↓reduceIte, Nat.reduceAdd, Nat.reduceSub, Nat.reduceLT, Nat.reduceEqDiff, reduceCtorEq, Nat.reduceLeDiff, Nat.reduceBEq, Nat.reduceMul, Int.reduceToNat, pV]; rfl) (by first | exact h1 | (repeat' first | exact trivial | exact h1 | constructor)) ?_
        refine Holds.condT rfl ?_
        refine Holds.dstep (Px := px) (T := TT) (ρ := fun d => if d = 32 then [.v true (words D)] else [.v true (pV Z)]) [] mixed (by kernel_rfl) TTe (by simp (maxSteps := 100000) (disch := omega) only [go_sem, V.isAgg, V.flat, ↓reduceIte, Nat.reduceAdd, Nat.reduceSub, Nat.reduceLT, Nat.reduceEqDiff, reduceCtorEq, Nat.reduceLeDiff, Nat.reduceBEq, Nat.reduceMul, Int.reduceToNat, pV]; rfl) (by first | exact ⟨h2, h3⟩ | (repeat' first | exact trivial | exact h2 | exact h3 | constructor)) (by rfl) (by rfl) (by rfl) ?_
        exact Holds.ret (RetOk.vs (show resAVs Tryz.prog _ _ [ResultVar.cell 4 26] = _ from by simp (maxSteps := 100000) (disch := omega) only [resAVs, AV.isPtr, go_sem, V.isAgg, V.flat, ↓reduceIte, Nat.reduceAdd, Nat.reduceSub, Nat.reduceLT, Nat.reduceEqDiff, reduceCtorEq, Nat.reduceLeDiff, Nat.reduceBEq, Nat.reduceMul, Int.reduceToNat, pV]; rfl) (by exact ⟨⟨rfl, fun h => h⟩, trivial⟩) rfl)
  · rintro σ ⟨⟨hb, hlt⟩, hσ⟩
    refine Holds.from hσ ?_
    have h2 := rSub_ok ql pl (by omega) (by omega) oq op (by omega)
    have hl : (digs (val ql - val pl)).length ≤ ql.length := lle oq (by omega)
    have h3 := Make_ok qb (digs (val ql - val pl)) (by omega) (digs_ok _).1
    rw [ival_mk, show (if qb = true then -((val ql - val pl : Nat) : Int) else ((val ql - val pl : Nat) : Int)) = ival (pb, pl) + ival (qb, ql) from by unfold ival; revert hb; cases pb <;> cases qb <;> simp <;> omega] at h3
    obtain ⟨Z, hZ⟩ : ∃ Z, Z = zp (ival (pb, pl) + ival (qb, ql)) := ⟨_, rfl⟩
    obtain ⟨D, hD⟩ : ∃ D, D = digs (val ql - val pl) := ⟨_, rfl⟩
    rw [← hZ, ← hD] at h3
    rw [← hD] at h2
    rw [← hZ]
    refine Holds.dstep (Px := px) (T := TT) (ρ := fun d => if d = 40 then [.v true (words D)] else [.v true (pV Z)]) [] mixed (by kernel_rfl) TTe (by simp (maxSteps := 100000) (disch := omega) only [go_sem, V.isAgg, V.flat, ↓reduceIte, Nat.reduceAdd, Nat.reduceSub, Nat.reduceLT, Nat.reduceEqDiff, reduceCtorEq, Nat.reduceLeDiff, Nat.reduceBEq, Nat.reduceMul, Int.reduceToNat, pV]; rfl) (by first | exact ⟨h2, h3⟩ | (repeat' first | exact trivial | exact h2 | exact h3 | constructor)) (by rfl) (by rfl) (by rfl) ?_
    exact Holds.ret (RetOk.vs (show resAVs Tryz.prog _ _ [ResultVar.cell 4 26] = _ from by simp (maxSteps := 100000) (disch := omega) only [resAVs, AV.isPtr, go_sem, V.isAgg, V.flat, ↓reduceIte, Nat.reduceAdd, Nat.reduceSub, Nat.reduceLT, Nat.reduceEqDiff, reduceCtorEq, Nat.reduceLeDiff, Nat.reduceBEq, Nat.reduceMul, Int.reduceToNat, pV]; rfl) (by exact ⟨⟨rfl, fun h => h⟩, trivial⟩) rfl)

/-- The value of a polynomial. -/
def hornZ (t : Int) : List Int → Int
  | [] => 0
  | z :: r => hornZ t r * t + z
theorem hornZ_drop {t : Int} {zs : List Int} {j : Nat} (h : j < zs.length) : hornZ t (zs.drop j) = hornZ t (zs.drop (j + 1)) * t + zs.getD j 0 := by
  rw [List.drop_eq_getElem_cons h, hornZ, List.getD_eq_getElem?_getD, List.getElem?_eq_getElem h]; rfl

def intsV (ps : List (Bool × List Int)) : V := .sl 2 (ps.map pV)
theorem get_mapP {ps : List (Bool × List Int)} {i : Nat} (h : i < ps.length) : ps[i]? = some (ps.getD i (false, [])) := by
  rw [List.getD_eq_getElem?_getD, List.getElem?_eq_getElem h]; rfl
theorem getD_ival {ps : List (Bool × List Int)} {j : Nat} : (ps.map ival).getD j 0 = ival (ps.getD j (false, [])) := by
  rw [List.getD_eq_getElem?_getD, List.getD_eq_getElem?_getD, List.getElem?_map]
  cases ps[j]? <;> rfl

theorem rValue_ok (ps : List (Bool × List Int)) (t : Int) (M : Nat) (hM : M < 10000) (ht : -9223372036854775808 ≤ t) (ht2 : t < 9223372036854775808) (hn : ps.length < 1000000) (hps : ∀ p ∈ ps, p.2.length < 20000 ∧ okW p.2)
    (hb : ∀ j, j ≤ ps.length → (hornZ t ((ps.map ival).drop j)).natAbs < 18446744073709551616 ^ M) :
    FnOk Tryz.prog 21 [.v (intsV ps), .v (.int .i64 t)] [.v true (pV (zp (hornZ t (ps.map ival))))] := by
  have hF := From_ok t ht ht2
  have lF : (zp t).2.length ≤ 1 := zp_len (by omega)
  refine FnOk.of Tryz.func21 rfl rfl fun cx w0 => ?_
  rw [show Tryz.f21.ntmps = 24 from rfl]
  refine Holds.step (Px := px) (T := TT) (ρ := fun _ => []) TTe (by simp (maxSteps := 100000) (disch := omega) only [go_sem, V.isAgg, V.flat, ↓reduceIte, Nat.reduceAdd, Nat.reduceSub, Nat.reduceLT, Nat.reduceEqDiff, reduceCtorEq, Nat.reduceLeDiff, Nat.reduceBEq, Nat.reduceMul, Int.reduceToNat, List.length_cons, List.length_nil]; rfl) (by repeat' first | exact trivial | constructor) ?_
  refine Holds.step (Px := px) (T := TT) (ρ := fun _ => []) TTe (by simp (maxSteps := 100000) (disch := omega) only [go_sem, V.isAgg, V.flat, ↓reduceIte, Nat.reduceAdd, Nat.reduceSub, Nat.reduceLT, Nat.reduceEqDiff, reduceCtorEq, Nat.reduceLeDiff, Nat.reduceBEq, Nat.reduceMul, Int.reduceToNat]; rfl) (by repeat' first | exact trivial | constructor) ?_
  refine Holds.next (fun σ => ∀ a w, Rel cx w0 σ a w → Rel cx w0 { nt := 24, env := [(5, .ptr 5 0 [] 0), (4, .ptr 4 0 [] 0)], mem := [(5, .box 26 (.v true (pV (zp (hornZ t (ps.map ival)))))), (4, .box 26 (.v true (.agg [.bool false, .sl 1 []])))] } a w) ?_ ?_
  · refine Holds.step (Px := px) (T := TT) (ρ := fun _ => []) TTe (by simp (maxSteps := 100000) (disch := omega) only [go_sem, V.isAgg, V.flat, ↓reduceIte, Nat.reduceAdd, Nat.reduceSub, Nat.reduceLT, Nat.reduceEqDiff, reduceCtorEq, Nat.reduceLeDiff, Nat.reduceBEq, Nat.reduceMul, Int.reduceToNat, intsV]; rfl) (by repeat' first | exact trivial | constructor) ?_
    refine Holds.loopB (fun j : Nat => { nt := 24, env := [(6, .v true (.int .i64 ((j : Int) - 1))), (5, .ptr 5 0 [] 0), (4, .ptr 4 0 [] 0), (0, .v false (intsV ps)), (1, .v true (.int .i64 t))], mem := [(5, .box 26 (.v true (pV (zp (hornZ t ((ps.map ival).drop j)))))), (4, .box 26 (.v true (.agg [.bool false, .sl 1 []])))] }) (fun j => j ≤ ps.length) id ps.length (Nat.le_refl _) (fun a w hr => by
      have := Rel.keep [6, 5, 4, 0, 1] [5, 4] hr
      rw [List.drop_of_length_le (by rw [List.length_map]; exact Nat.le_refl _)]
      exact this) ?_
    intro j hj
    rcases j with _ | j
    · refine Holds.seq ?_
      refine Holds.step (Px := px) (T := TT) (ρ := fun _ => []) TTe (by simp (maxSteps := 100000) (disch := omega) only [go_sem, V.isAgg, V.flat, ↓reduceIte, Nat.reduceAdd, Nat.reduceSub, Nat.reduceLT, Nat.reduceEqDiff, reduceCtorEq, Nat.reduceLeDiff, Nat.reduceBEq, Nat.reduceMul, Int.reduceToNat]; rfl) (by repeat' first | exact trivial | constructor) ?_
      exact Holds.condF rfl (Holds.exit ⟨rfl, fun a w hr => Rel.keep [5, 4] [5, 4] hr⟩)
    · have hjl : j < ps.length := by omega
      have gj := get_mapP hjl
      have hm : ps.getD j (false, []) ∈ ps := by rw [List.getD_eq_getElem?_getD, List.getElem?_eq_getElem hjl]; exact List.getElem_mem hjl
      obtain ⟨hlm, olm⟩ := hps _ hm
      have hs := hornZ_drop (t := t) (zs := ps.map ival) (j := j) (by rw [List.length_map]; exact hjl)
      rw [getD_ival] at hs
      have hb1 := hb (j + 1) hj
      obtain ⟨y, hy⟩ : ∃ y, y = ps.getD j (false, []) := ⟨_, rfl⟩
      rw [← hy] at gj hlm olm hs
      obtain ⟨h, hh⟩ : ∃ h, h = hornZ t ((ps.map ival).drop (j + 1)) := ⟨_, rfl⟩
      rw [← hh] at hs hb1 ⊢
      have lh := zp_len hb1
      have h1 := MulI_ok (zp h) (zp t) (by omega) (by omega) (zp_ok _) (zp_ok _)
      rw [ival_zp, ival_zp] at h1
      have lm : (zp (h * t)).2.length ≤ M + 1 := zp_len (by
        rw [Int.natAbs_mul, Nat.pow_succ]
        exact Nat.mul_lt_mul'' hb1 (by omega))
      have h2 := AddI_ok (zp (h * t)) y (by omega) hlm (zp_ok _) olm
      rw [ival_zp, ← hs] at h2
      refine Holds.seq ?_
      refine Holds.step (Px := px) (T := TT) (ρ := fun _ => []) TTe (by simp (maxSteps := 100000) (disch := omega) only [go_sem, V.isAgg, V.flat, ↓reduceIte, Nat.reduceAdd, Nat.reduceSub, Nat.reduceLT, Nat.reduceEqDiff, reduceCtorEq, Nat.reduceLeDiff, Nat.reduceBEq, Nat.reduceMul, Int.reduceToNat]; rfl) (by repeat' first | exact trivial | constructor) ?_
      refine Holds.condT rfl (Holds.skip ?_)
      refine Holds.next (fun σ => ∀ a w, Rel cx w0 σ a w → Rel cx w0 { nt := 24, env := [(6, .v true (.int .i64 (j : Int))), (5, .ptr 5 0 [] 0), (4, .ptr 4 0 [] 0), (0, .v false (intsV ps)), (1, .v true (.int .i64 t))], mem := [(5, .box 26 (.v true (pV (zp (hornZ t ((ps.map ival).drop j)))))), (4, .box 26 (.v true (.agg [.bool false, .sl 1 []])))] } a w) ?_ ?_
      · refine Holds.blockN ?_
        refine Holds.dregion (Px := px) (T := TT) (ρ := fun d => if d = 16 then [.v true (pV (zp t))] else if d = 17 then [.v true (pV (zp (h * t)))] else [.v true (pV (zp (hornZ t ((ps.map ival).drop j))))]) [] mixed (by kernel_rfl) TTe (by simp (maxSteps := 100000) (disch := omega) only [go_sem, V.isAgg, V.flat, ↓reduceIte, Nat.reduceAdd, Nat.reduceSub, Nat.reduceLT, Nat.reduceEqDiff, reduceCtorEq, Nat.reduceLeDiff, Nat.reduceBEq, Nat.reduceMul, Int.reduceToNat, intsV, pV, gj]; rfl) (by first | exact ⟨hF, h1, h2⟩ | (repeat' first | exact trivial | exact hF | exact h1 | exact h2 | constructor)) (by rfl) (by rfl) (by rfl) ?_
        exact fun a w hr => Rel.keep [6, 5, 4, 0, 1] [5, 4] hr
      · intro σ hσ
        refine Holds.from hσ ?_
        refine Holds.region (Px := px) (T := TT) (ρ := fun _ => []) TTe (by simp (maxSteps := 100000) (disch := omega) only [go_sem, V.isAgg, V.flat, ↓reduceIte, Nat.reduceAdd, Nat.reduceSub, Nat.reduceLT, Nat.reduceEqDiff, reduceCtorEq, Nat.reduceLeDiff, Nat.reduceBEq, Nat.reduceMul, Int.reduceToNat]; rfl) (by repeat' first | exact trivial | constructor) ?_
        exact ⟨j, (by show j ≤ ps.length; omega), (show j < j + 1 by omega), fun a w hr => Rel.keep [6, 5, 4, 0, 1] [5, 4] hr⟩
  · intro σ hσ
    refine Holds.from hσ ?_
    refine Holds.step (Px := px) (T := TT) (ρ := fun _ => []) TTe (by simp (maxSteps := 100000) (disch := omega) only [go_sem, V.isAgg, V.flat, ↓reduceIte, Nat.reduceAdd, Nat.reduceSub, Nat.reduceLT, Nat.reduceEqDiff, reduceCtorEq, Nat.reduceLeDiff, Nat.reduceBEq, Nat.reduceMul, Int.reduceToNat, pV]; rfl) (by repeat' first | exact trivial | constructor) ?_
    exact Holds.ret (RetOk.vs (show resAVs Tryz.prog _ _ [ResultVar.cell 4 26] = _ from by simp (maxSteps := 100000) (disch := omega) only [resAVs, AV.isPtr, go_sem, V.isAgg, V.flat, ↓reduceIte, Nat.reduceAdd, Nat.reduceSub, Nat.reduceLT, Nat.reduceEqDiff, reduceCtorEq, Nat.reduceLeDiff, Nat.reduceBEq, Nat.reduceMul, Int.reduceToNat, pV]; rfl) (by exact ⟨⟨rfl, fun h => h⟩, trivial⟩) rfl)
/-
  Whole numbers of the package: of, times.
-/

theorem of_ok (p : Bool × List Int) (hl : p.2.length < 1000000) (ol : okW p.2) : FnOk Tryz.prog 32 [.v (pV p)] [.v true (pV (zp (ival p)))] := by
  have h1 := Trim_ok p.2 (by omega)
  rw [trim_digs ol] at h1
  rw [zp_ival]
  obtain ⟨D, hD⟩ : ∃ D, D = digs (val p.2) := ⟨_, rfl⟩
  rw [← hD] at h1 ⊢
  obtain ⟨b, l⟩ := p
  simp only at h1 ⊢
  refine FnOk.of Tryz.func32 rfl rfl fun cx w0 => ?_
  rw [show Tryz.f32.ntmps = 16 from rfl]
  refine Holds.step (Px := px) (T := TT) (ρ := fun _ => []) TTe (by simp (maxSteps := 100000) (disch := omega) only [go_sem, V.isAgg, V.flat, ↓reduceIte, Nat.reduceAdd, Nat.reduceSub, Nat.reduceLT, Nat.reduceEqDiff, reduceCtorEq, Nat.reduceLeDiff, Nat.reduceBEq, Nat.reduceMul, Int.reduceToNat, pV]; rfl) (by repeat' first | exact trivial | constructor) ?_
  refine Holds.step (Px := px) (T := TT) (ρ := fun _ => [.v true (words D)]) TTe (by simp (maxSteps := 100000) (disch := omega) only [go_sem, V.isAgg, V.flat, ↓reduceIte, Nat.reduceAdd, Nat.reduceSub, Nat.reduceLT, Nat.reduceEqDiff, reduceCtorEq, Nat.reduceLeDiff, Nat.reduceBEq, Nat.reduceMul, Int.reduceToNat, pV]; rfl) (by first | exact h1 | (repeat' first | exact trivial | exact h1 | constructor)) ?_
  cases b
  · refine Holds.step (Px := px) (T := TT) (ρ := fun _ => []) TTe (by simp (maxSteps := 100000) (disch := omega) only [go_sem, V.isAgg, V.flat, ↓reduceIte, Nat.reduceAdd, Nat.reduceSub, Nat.reduceLT, Nat.reduceEqDiff, reduceCtorEq, Nat.reduceLeDiff, Nat.reduceBEq, Nat.reduceMul, Int.reduceToNat]; rfl) (by repeat' first | exact trivial | constructor) ?_
    exact Holds.ret (RetOk.vs (show resAVs Tryz.prog _ _ [ResultVar.cell 2 43] = _ from by simp (maxSteps := 100000) (disch := omega) only [resAVs, AV.isPtr, go_sem, V.isAgg, V.flat, ↓reduceIte, Nat.reduceAdd, Nat.reduceSub, Nat.reduceLT, Nat.reduceEqDiff, reduceCtorEq, Nat.reduceLeDiff, Nat.reduceBEq, Nat.reduceMul, Int.reduceToNat, pV]; rfl) (by exact ⟨⟨rfl, fun h => h⟩, trivial⟩) rfl)
  · by_cases h : 0 < D.length
    · refine Holds.step (Px := px) (T := TT) (ρ := fun _ => []) TTe (by simp (maxSteps := 100000) (disch := omega) only [go_sem, V.isAgg, V.flat, ↓reduceIte, Nat.reduceAdd, Nat.reduceSub, Nat.reduceLT, Nat.reduceEqDiff, reduceCtorEq, Nat.reduceLeDiff, Nat.reduceBEq, Nat.reduceMul, Int.reduceToNat, h]; rfl) (by repeat' first | exact trivial | constructor) ?_
      rw [decide_eq_true h]
      exact Holds.ret (RetOk.vs (show resAVs Tryz.prog _ _ [ResultVar.cell 2 43] = _ from by simp (maxSteps := 100000) (disch := omega) only [resAVs, AV.isPtr, go_sem, V.isAgg, V.flat, ↓reduceIte, Nat.reduceAdd, Nat.reduceSub, Nat.reduceLT, Nat.reduceEqDiff, reduceCtorEq, Nat.reduceLeDiff, Nat.reduceBEq, Nat.reduceMul, Int.reduceToNat, pV]; rfl) (by exact ⟨⟨rfl, fun h => h⟩, trivial⟩) rfl)
    · refine Holds.step (Px := px) (T := TT) (ρ := fun _ => []) TTe (by simp (maxSteps := 100000) (disch := omega) only [go_sem, V.isAgg, V.flat, ↓reduceIte, Nat.reduceAdd, Nat.reduceSub, Nat.reduceLT, Nat.reduceEqDiff, reduceCtorEq, Nat.reduceLeDiff, Nat.reduceBEq, Nat.reduceMul, Int.reduceToNat, h]; rfl) (by repeat' first | exact trivial | constructor) ?_
      rw [decide_eq_false h]
      exact Holds.ret (RetOk.vs (show resAVs Tryz.prog _ _ [ResultVar.cell 2 43] = _ from by simp (maxSteps := 100000) (disch := omega) only [resAVs, AV.isPtr, go_sem, V.isAgg, V.flat, ↓reduceIte, Nat.reduceAdd, Nat.reduceSub, Nat.reduceLT, Nat.reduceEqDiff, reduceCtorEq, Nat.reduceLeDiff, Nat.reduceBEq, Nat.reduceMul, Int.reduceToNat, pV]; rfl) (by exact ⟨⟨rfl, fun h => h⟩, trivial⟩) rfl)

/-- A number times a word. -/
def tiC (x : List Int) (w : Nat) : Nat → Nat
  | 0 => 0
  | k + 1 => ((x.getD k 0).toNat * w + tiC x w k) / 18446744073709551616
def tiW (x : List Int) (w : Nat) : Nat → List Int
  | 0 => []
  | k + 1 => tiW x w k ++ [((((x.getD k 0).toNat * w + tiC x w k) % 18446744073709551616 : Nat) : Int)]
theorem tiW_len (x : List Int) (w : Nat) : ∀ k, (tiW x w k).length = k
  | 0 => rfl
  | k + 1 => by rw [tiW, List.length_append, tiW_len x w k]; rfl
theorem tiW_ok (x : List Int) (w : Nat) : ∀ k, okW (tiW x w k)
  | 0 => fun n hn => by cases hn
  | k + 1 => fun n hn => by
    rw [tiW] at hn
    rcases List.mem_append.1 hn with hn | hn
    · exact tiW_ok x w k n hn
    · simp at hn; omega
theorem ti_val {x : List Int} (ox : okW x) (w : Nat) : ∀ k, tiC x w k ≤ w ∧ val (x.take k) * w = val (tiW x w k) + 18446744073709551616 ^ k * tiC x w k
  | 0 => ⟨Nat.zero_le _, by rw [List.take_zero, tiC, tiW]; simp [val]⟩
  | k + 1 => by
    obtain ⟨h1, h2⟩ := ti_val ox w k
    have hx := okW_getD ox k
    have hm : (x.getD k 0).toNat * w ≤ 18446744073709551615 * w := Nat.mul_le_mul_right _ (by omega)
    rw [val_takeS, tiW, tiC, val_append, tiW_len, Nat.add_mul, Nat.mul_assoc, h2]
    obtain ⟨P, hP⟩ : ∃ P, P = (x.getD k 0).toNat * w := ⟨_, rfl⟩
    rw [← hP] at hm ⊢
    obtain ⟨c, hc⟩ : ∃ c, c = tiC x w k := ⟨_, rfl⟩
    rw [← hc] at h1 ⊢
    refine ⟨by omega, ?_⟩
    have e : P + c = (P + c) % 18446744073709551616 + 18446744073709551616 * ((P + c) / 18446744073709551616) := (Nat.mod_add_div _ _).symm
    obtain ⟨r, hr⟩ : ∃ r, r = (P + c) % 18446744073709551616 := ⟨_, rfl⟩
    obtain ⟨q, hq⟩ : ∃ q, q = (P + c) / 18446744073709551616 := ⟨_, rfl⟩
    rw [← hr, ← hq] at e
    rw [← hr, ← hq]
    have e2 : 18446744073709551616 ^ k * P + 18446744073709551616 ^ k * c = 18446744073709551616 ^ k * r + 18446744073709551616 ^ (k + 1) * q := by
      rw [← Nat.mul_add, e, Nat.mul_add, Nat.pow_succ, Nat.mul_assoc]
    simp only [val, Int.toNat_natCast, Nat.mul_zero, Nat.add_zero]
    omega
theorem ti_all {x : List Int} (ox : okW x) (w : Nat) : val (tiW x w x.length ++ [(tiC x w x.length : Int)]) = val x * w := by
  have := (ti_val ox w x.length).2
  rw [List.take_length] at this
  rw [val_append, tiW_len, this]
  simp only [val, Int.toNat_natCast, Nat.mul_zero, Nat.add_zero]

theorem ival_times (b : Bool) (v : Nat) (t : Int) : (if b then -(v : Int) else v) * t = if (b != decide (t < 0)) = true then -((v * t.natAbs : Nat) : Int) else ((v * t.natAbs : Nat) : Int) := by
  by_cases h : t < 0
  · have e : ((t.natAbs : Nat) : Int) = -t := by omega
    rw [decide_eq_true h, Int.natCast_mul, e]
    cases b <;> simp [Int.neg_mul, Int.mul_neg]
  · have e : ((t.natAbs : Nat) : Int) = t := by omega
    rw [decide_eq_false h, Int.natCast_mul, e]
    cases b <;> simp [Int.neg_mul, Int.mul_neg]

theorem times_ok (p : Bool × List Int) (t : Int) (hl : p.2.length < 1000000) (ol : okW p.2) (ht : -9223372036854775808 < t) (ht2 : t < 9223372036854775808) :
    FnOk Tryz.prog 34 [.v (pV p), .v (.int .i64 t)] [.v true (pV (zp (ival p * t)))] := by
  obtain ⟨b, x⟩ := p
  simp only at hl ol
  have ikd3 : ikd Tryz.prog 3 = some .i64 := by kernel_rfl
  have und3 : (Tryz.prog.underlying 3).isSome = true := by kernel_rfl
  have ikd69 : ikd Tryz.prog 52 = some .u64 := by kernel_rfl
  have und69 : (Tryz.prog.underlying 52).isSome = true := by kernel_rfl
  obtain ⟨w, hw⟩ : ∃ w, w = t.natAbs := ⟨_, rfl⟩
  have hwl : w < 9223372036854775808 := by omega
  have en : IntKind.i64.wrap (0 - t) = 0 - t := wrap_i64 (by omega) (by omega)
  have em : (if t < 0 - t then 0 - t else t) = w := by split <;> omega
  have ew : IntKind.u64.wrap (w : Int) = w := by rw [wrap_u64]; omega
  have eI := ival_times b (val x) t
  rw [← hw] at eI
  have ez : zp (ival (b, x) * t) = ((b != decide (t < 0)) && decide (0 < (digs (val x * w)).length), digs (val x * w)) := by
    rw [show ival (b, x) = (if b = true then -(val x : Int) else val x) from rfl, eI]
    exact zp_of _ _
  rw [ez]
  obtain ⟨W, hW⟩ : ∃ W, W = tiW x w := ⟨_, rfl⟩
  obtain ⟨C, hC⟩ : ∃ C, C = tiC x w := ⟨_, rfl⟩
  have Cs : ∀ k, C (k + 1) = ((x.getD k 0).toNat * w + C k) / 18446744073709551616 := fun k => by rw [hC, tiC]
  have Ws : ∀ k, W (k + 1) = W k ++ [((((x.getD k 0).toNat * w + C k) % 18446744073709551616 : Nat) : Int)] := fun k => by rw [hW, hC, tiW]
  have Wl : ∀ k, (W k).length = k := fun k => by rw [hW, tiW_len]
  have C0 : C 0 = 0 := by rw [hC, tiC]
  have W0 : W 0 = [] := by rw [hW, tiW]
  have Cle : ∀ k, C k ≤ w := fun k => by rw [hC]; exact (ti_val ol w k).1
  have hall := ti_all ol w
  rw [← hW, ← hC] at hall
  have oall : okW (W x.length ++ [(C x.length : Int)]) := fun n hn => by
    rcases List.mem_append.1 hn with hn | hn
    · rw [hW] at hn; exact tiW_ok x w _ n hn
    · have := Cle x.length
      simp at hn; omega
  have hT := Trim_ok (W x.length ++ [(C x.length : Int)]) (by rw [List.length_append, Wl]; simp; omega)
  rw [trim_digs oall, hall] at hT
  obtain ⟨D, hD⟩ : ∃ D, D = digs (val x * w) := ⟨_, rfl⟩
  rw [← hD] at hT ⊢
  refine FnOk.of Tryz.func34 rfl rfl fun cx w0 => ?_
  rw [show Tryz.f34.ntmps = 62 from rfl]
  refine Holds.step (Px := px) (T := TT) (ρ := fun _ => []) TTe (by simp (maxSteps := 100000) (disch := omega) only [go_sem, V.isAgg, V.flat, ↓reduceIte, Nat.reduceAdd, Nat.reduceSub, Nat.reduceLT, Nat.reduceEqDiff, reduceCtorEq, Nat.reduceLeDiff, Nat.reduceBEq, Nat.reduceMul, Int.reduceToNat, pV]; rfl) (by repeat' first | exact trivial | constructor) ?_
  refine Holds.step (Px := px) (T := TT) (ρ := fun _ => []) TTe (by simp (maxSteps := 100000) (disch := omega) only [go_sem, V.isAgg, V.flat, ↓reduceIte, Nat.reduceAdd, Nat.reduceSub, Nat.reduceLT, Nat.reduceEqDiff, reduceCtorEq, Nat.reduceLeDiff, Nat.reduceBEq, Nat.reduceMul, Int.reduceToNat, unA, ikd3, und3, ikd69, und69, en, em, ew]; rfl) (by repeat' first | exact trivial | constructor) ?_
  refine Holds.step (Px := px) (T := TT) (ρ := fun _ => []) TTe (by simp (maxSteps := 100000) (disch := omega) only [go_sem, V.isAgg, V.flat, ↓reduceIte, Nat.reduceAdd, Nat.reduceSub, Nat.reduceLT, Nat.reduceEqDiff, reduceCtorEq, Nat.reduceLeDiff, Nat.reduceBEq, Nat.reduceMul, Int.reduceToNat]; rfl) (by repeat' first | exact trivial | constructor) ?_
  refine Holds.step (Px := px) (T := TT) (ρ := fun _ => []) TTe (by simp (maxSteps := 100000) (disch := omega) only [go_sem, V.isAgg, V.flat, ↓reduceIte, Nat.reduceAdd, Nat.reduceSub, Nat.reduceLT, Nat.reduceEqDiff, reduceCtorEq, Nat.reduceLeDiff, Nat.reduceBEq, Nat.reduceMul, Int.reduceToNat]; rfl) (by repeat' first | exact trivial | constructor) ?_
  refine Holds.next (fun σ => ∀ a w0', Rel cx w0 σ a w0' → Rel cx w0 { nt := 62, env := [(7, .v true (.int .u64 (C x.length))), (6, mnA x.length), (2, .ptr 2 0 [] 0), (4, .ptr 4 0 [] 0), (1, .v true (.int .i64 t))], mem := mnB W x.length ++ [(2, .box 43 (.v false (pV (b, x)))), (4, .box 43 (.v true (.agg [.bool false, .sl 1 []])))] } a w0') ?_ ?_
  · refine Holds.step (Px := px) (T := TT) (ρ := fun _ => []) TTe (by simp (maxSteps := 100000) (disch := omega) only [go_sem, V.isAgg, V.flat, ↓reduceIte, Nat.reduceAdd, Nat.reduceSub, Nat.reduceLT, Nat.reduceEqDiff, reduceCtorEq, Nat.reduceLeDiff, Nat.reduceBEq, Nat.reduceMul, Int.reduceToNat, pV]; rfl) (by repeat' first | exact trivial | constructor) ?_
    refine Holds.loopB (fun k : Nat => { nt := 62, env := [(21, .v true (.int .i64 k)), (20, .v true (.int .i64 x.length)), (19, .v false (words x)), (7, .v true (.int .u64 (C k))), (6, mnA k), (5, .v true (.int .u64 w)), (2, .ptr 2 0 [] 0), (4, .ptr 4 0 [] 0), (1, .v true (.int .i64 t))], mem := mnB W k ++ [(2, .box 43 (.v false (pV (b, x)))), (4, .box 43 (.v true (.agg [.bool false, .sl 1 []])))] }) (fun k => k ≤ x.length) (fun k => x.length - k) 0 (Nat.zero_le _) (fun a w0' hr => by
      rw [C0]
      exact Rel.keep [21, 20, 19, 7, 6, 5, 2, 4, 1] [2, 4] hr) ?_
    intro k hk
    by_cases hend : k = x.length
    · refine Holds.step (Px := px) (T := TT) (ρ := fun _ => []) TTe (by simp (maxSteps := 100000) (disch := omega) only [go_sem, V.isAgg, V.flat, ↓reduceIte, Nat.reduceAdd, Nat.reduceSub, Nat.reduceLT, Nat.reduceEqDiff, reduceCtorEq, Nat.reduceLeDiff, Nat.reduceBEq, Nat.reduceMul, Int.reduceToNat]; rfl) (by repeat' first | exact trivial | constructor) ?_
      refine Holds.seq ?_
      refine Holds.condF rfl (Holds.exit ⟨rfl, fun a w0' hr => ?_⟩)
      rw [← hend]
      exact Rel.less [7, 6, 2, 4, 1] (fun _ => rfl) hr
    · have hkx : k < x.length := by omega
      have gx := get_map hkx
      have hx0 := okW_getD ol k
      have hCs := Cs k
      have hWs := Ws k
      have hWl := Wl k
      have hCk := Cle k
      obtain ⟨d, hd⟩ : ∃ d : Nat, d = (x.getD k 0).toNat := ⟨_, rfl⟩
      rw [show x.getD k 0 = (d : Int) from by omega] at gx
      rw [← hd] at hCs hWs
      have hm := mul64_ok d w (by omega) (by omega)
      have hb : d * w ≤ 18446744073709551615 * w := Nat.mul_le_mul_right _ (by omega)
      obtain ⟨X, hX⟩ : ∃ X, X = d * w := ⟨_, rfl⟩
      rw [← hX] at hm hb hCs hWs
      obtain ⟨c, hc⟩ : ∃ c, c = C k := ⟨_, rfl⟩
      rw [← hc] at hCs hWs hCk ⊢
      obtain ⟨hi, h1⟩ : ∃ a, a = X / 18446744073709551616 := ⟨_, rfl⟩
      obtain ⟨lo, h2⟩ : ∃ a, a = X % 18446744073709551616 := ⟨_, rfl⟩
      rw [← h1, ← h2] at hm
      obtain ⟨s, h3⟩ : ∃ a, a = (lo + c + 0) % 18446744073709551616 := ⟨_, rfl⟩
      obtain ⟨u, h4⟩ : ∃ a, a = (lo + c + 0) / 18446744073709551616 := ⟨_, rfl⟩
      have hA := add64N lo c 0 (by omega) h3 h4
      rw [show (X + c) / 18446744073709551616 = hi + u from by omega] at hCs
      rw [show (X + c) % 18446744073709551616 = s from by omega] at hWs
      have f1 : IntKind.u64.wrap ((hi : Int) + u) = (C (k + 1) : Nat) := by rw [hCs, addN, wrapN _ (by omega)]
      refine Holds.step (Px := px) (T := TT) (ρ := fun _ => []) TTe (by simp (maxSteps := 100000) (disch := omega) only [go_sem, V.isAgg, V.flat, ↓reduceIte, Nat.reduceAdd, Nat.reduceSub, Nat.reduceLT, Nat.reduceEqDiff, reduceCtorEq, Nat.reduceLeDiff, Nat.reduceBEq, Nat.reduceMul, Int.reduceToNat]; rfl) (by repeat' first | exact trivial | constructor) ?_
      refine Holds.seq ?_
      refine Holds.condT rfl (Holds.skip ?_)
      refine Holds.next (fun σ => ∀ a w0', Rel cx w0 σ a w0' → Rel cx w0 { nt := 62, env := [(21, .v true (.int .i64 k)), (20, .v true (.int .i64 x.length)), (19, .v false (words x)), (7, .v true (.int .u64 (C (k + 1)))), (6, mnA (k + 1)), (5, .v true (.int .u64 w)), (2, .ptr 2 0 [] 0), (4, .ptr 4 0 [] 0), (1, .v true (.int .i64 t))], mem := mnB W (k + 1) ++ [(2, .box 43 (.v false (pV (b, x)))), (4, .box 43 (.v true (.agg [.bool false, .sl 1 []])))] } a w0') ?_ ?_
      · refine Holds.blockN ?_
        refine Holds.step (Px := px) (T := TT) (ρ := fun _ => []) TTe (by simp (maxSteps := 100000) (disch := omega) only [go_sem, V.isAgg, V.flat, ↓reduceIte, Nat.reduceAdd, Nat.reduceSub, Nat.reduceLT, Nat.reduceEqDiff, reduceCtorEq, Nat.reduceLeDiff, Nat.reduceBEq, Nat.reduceMul, Int.reduceToNat, gx]; rfl) (by repeat' first | exact trivial | constructor) ?_
        refine Holds.step (Px := px) (T := TT) (ρ := fun _ => [.v true (.int .u64 hi), .v true (.int .u64 lo)]) TTe (by simp (maxSteps := 100000) (disch := omega) only [go_sem, V.isAgg, V.flat, ↓reduceIte, Nat.reduceAdd, Nat.reduceSub, Nat.reduceLT, Nat.reduceEqDiff, reduceCtorEq, Nat.reduceLeDiff, Nat.reduceBEq, Nat.reduceMul, Int.reduceToNat]; rfl) (by first | exact hm | (repeat' first | exact trivial | exact hm | constructor)) ?_
        refine Holds.step (Px := px) (T := TT) (ρ := fun _ => []) TTe (by simp (maxSteps := 100000) (disch := omega) only [go_sem, V.isAgg, V.flat, ↓reduceIte, Nat.reduceAdd, Nat.reduceSub, Nat.reduceLT, Nat.reduceEqDiff, reduceCtorEq, Nat.reduceLeDiff, Nat.reduceBEq, Nat.reduceMul, Int.reduceToNat]; rfl) (by repeat' first | exact trivial | constructor) ?_
        refine Holds.step (Px := px) (T := TT) (ρ := fun _ => [.v true (.int .u64 s), .v true (.int .u64 u)]) TTe (by simp (maxSteps := 100000) (disch := omega) only [go_sem, V.isAgg, V.flat, ↓reduceIte, Nat.reduceAdd, Nat.reduceSub, Nat.reduceLT, Nat.reduceEqDiff, reduceCtorEq, Nat.reduceLeDiff, Nat.reduceBEq, Nat.reduceMul, Int.reduceToNat]; rfl) (by first | exact hA | (repeat' first | exact trivial | exact hA | constructor)) ?_
        refine Holds.step (Px := px) (T := TT) (ρ := fun _ => []) TTe (by simp (maxSteps := 100000) (disch := omega) only [go_sem, V.isAgg, V.flat, ↓reduceIte, Nat.reduceAdd, Nat.reduceSub, Nat.reduceLT, Nat.reduceEqDiff, reduceCtorEq, Nat.reduceLeDiff, Nat.reduceBEq, Nat.reduceMul, Int.reduceToNat, f1]; rfl) (by repeat' first | exact trivial | constructor) ?_
        rcases k with _ | k
        · rw [mnA, mnB, if_pos rfl, if_pos rfl]
          refine Holds.region (Px := px) (T := TT) (ρ := fun _ => []) TTe (by simp (maxSteps := 100000) (disch := omega) only [go_sem, V.isAgg, V.flat, ↓reduceIte, Nat.reduceAdd, Nat.reduceSub, Nat.reduceLT, Nat.reduceEqDiff, reduceCtorEq, Nat.reduceLeDiff, Nat.reduceBEq, Nat.reduceMul, Int.reduceToNat]; rfl) (by repeat' first | exact trivial | constructor) ?_
          intro a w0' h
          have := Rel.ren (s := 43) (s' := 300) (Rel.keep [21, 20, 19, 7, 6, 5, 2, 4, 1] [43, 2, 4] h) (by decide) rfl rfl
          rw [mnB, if_neg (by omega), hWs, W0, mnA, if_neg (by omega)]
          exact this
        · rw [mnA_s, mnB_s]
          refine Holds.region (Px := px) (T := TT) (ρ := fun _ => []) TTe (by simp (maxSteps := 100000) (disch := omega) only [go_sem, V.isAgg, V.flat, ↓reduceIte, Nat.reduceAdd, Nat.reduceSub, Nat.reduceLT, Nat.reduceEqDiff, reduceCtorEq, Nat.reduceLeDiff, Nat.reduceBEq, Nat.reduceMul, Int.reduceToNat, hWl]; rfl) (by repeat' first | exact trivial | constructor) ?_
          intro a w0' h
          have := Rel.ren (s := 43) (s' := 300) (Rel.keep [21, 20, 19, 7, 6, 5, 2, 4, 1] [43, 2, 4] h) (by decide) rfl rfl
          rw [mnB, if_neg (by omega), hWs, mnA, if_neg (by omega), List.map_append]
          exact this
      · intro σ hσ
        refine Holds.from hσ ?_
        refine Holds.region (Px := px) (T := TT) (ρ := fun _ => []) TTe (by simp (maxSteps := 100000) (disch := omega) only [go_sem, V.isAgg, V.flat, ↓reduceIte, Nat.reduceAdd, Nat.reduceSub, Nat.reduceLT, Nat.reduceEqDiff, reduceCtorEq, Nat.reduceLeDiff, Nat.reduceBEq, Nat.reduceMul, Int.reduceToNat]; rfl) (by repeat' first | exact trivial | constructor) ?_
        exact ⟨k + 1, (by show k + 1 ≤ x.length; omega), (show x.length - (k + 1) < x.length - k by omega), fun a w0' hr => Rel.less [21, 20, 19, 7, 6, 5, 2, 4, 1] (fun _ => rfl) hr⟩
  · intro σ hσ
    refine Holds.from hσ ?_
    have hWl := Wl x.length
    refine Holds.next (fun σ => ∀ a w0', Rel cx w0 σ a w0' → Rel cx w0 { nt := 62, env := [(6, .v true (words D)), (2, .ptr 2 0 [] 0), (4, .ptr 4 0 [] 0), (1, .v true (.int .i64 t))], mem := [(2, .box 43 (.v false (pV (b, x)))), (4, .box 43 (.v true (.agg [.bool false, .sl 1 []])))] } a w0') ?_ ?_
    · rw [mnA, mnB]
      by_cases h0 : x.length = 0
      · rw [if_pos h0, if_pos h0]
        rw [h0, W0] at hT
        rw [h0]
        refine Holds.region (Px := px) (T := TT) (ρ := fun _ => [.v true (words D)]) TTe (by simp (maxSteps := 100000) (disch := omega) only [go_sem, V.isAgg, V.flat, ↓reduceIte, Nat.reduceAdd, Nat.reduceSub, Nat.reduceLT, Nat.reduceEqDiff, reduceCtorEq, Nat.reduceLeDiff, Nat.reduceBEq, Nat.reduceMul, Int.reduceToNat]; rfl) (by first | exact hT | (repeat' first | exact trivial | exact hT | constructor)) ?_
        exact fun a w0' h => Rel.keep [6, 2, 4, 1] [2, 4] h
      · rw [if_neg h0, if_neg h0]
        have hl1 : (W x.length).length = x.length := hWl
        have htk : List.take (x.length + 1) (List.map (fun n => V.int .u64 n) (W x.length) ++ [V.int .u64 (C x.length)]) = List.map (fun n => V.int .u64 n) (W x.length ++ [(C x.length : Int)]) := by
          rw [List.take_of_length_le (by rw [List.length_append, List.length_map, hl1]; simp), List.map_append]; rfl
        refine Holds.region (Px := px) (T := TT) (ρ := fun _ => [.v true (words D)]) TTe (by simp (maxSteps := 100000) (disch := omega) only [go_sem, V.isAgg, V.flat, ↓reduceIte, Nat.reduceAdd, Nat.reduceSub, Nat.reduceLT, Nat.reduceEqDiff, reduceCtorEq, Nat.reduceLeDiff, Nat.reduceBEq, Nat.reduceMul, Int.reduceToNat, hl1, htk]; rfl) (by first | exact hT | (repeat' first | exact trivial | exact hT | constructor)) ?_
        exact fun a w0' h => Rel.keep [6, 2, 4, 1] [2, 4] h
    · intro σ hσ
      refine Holds.from hσ ?_
      by_cases ht0 : t < 0
      · rw [decide_eq_true ht0]
        cases b
        · by_cases h : 0 < D.length
          · refine Holds.step (Px := px) (T := TT) (ρ := fun _ => []) TTe (by simp (maxSteps := 100000) (disch := omega) only [go_sem, V.isAgg, V.flat, ↓reduceIte, Nat.reduceAdd, Nat.reduceSub, Nat.reduceLT, Nat.reduceEqDiff, reduceCtorEq, Nat.reduceLeDiff, Nat.reduceBEq, Nat.reduceMul, Int.reduceToNat, pV, ht0, h]; rfl) (by repeat' first | exact trivial | constructor) ?_
            rw [decide_eq_true h]
            exact Holds.ret (RetOk.vs (show resAVs Tryz.prog _ _ [ResultVar.cell 4 43] = _ from by simp (maxSteps := 100000) (disch := omega) only [resAVs, AV.isPtr, go_sem, V.isAgg, V.flat, ↓reduceIte, Nat.reduceAdd, Nat.reduceSub, Nat.reduceLT, Nat.reduceEqDiff, reduceCtorEq, Nat.reduceLeDiff, Nat.reduceBEq, Nat.reduceMul, Int.reduceToNat, pV]; rfl) (by exact ⟨⟨rfl, fun h => h⟩, trivial⟩) rfl)
          · refine Holds.step (Px := px) (T := TT) (ρ := fun _ => []) TTe (by simp (maxSteps := 100000) (disch := omega) only [go_sem, V.isAgg, V.flat, ↓reduceIte, Nat.reduceAdd, Nat.reduceSub, Nat.reduceLT, Nat.reduceEqDiff, reduceCtorEq, Nat.reduceLeDiff, Nat.reduceBEq, Nat.reduceMul, Int.reduceToNat, pV, ht0, h]; rfl) (by repeat' first | exact trivial | constructor) ?_
            rw [decide_eq_false h]
            exact Holds.ret (RetOk.vs (show resAVs Tryz.prog _ _ [ResultVar.cell 4 43] = _ from by simp (maxSteps := 100000) (disch := omega) only [resAVs, AV.isPtr, go_sem, V.isAgg, V.flat, ↓reduceIte, Nat.reduceAdd, Nat.reduceSub, Nat.reduceLT, Nat.reduceEqDiff, reduceCtorEq, Nat.reduceLeDiff, Nat.reduceBEq, Nat.reduceMul, Int.reduceToNat, pV]; rfl) (by exact ⟨⟨rfl, fun h => h⟩, trivial⟩) rfl)
        · refine Holds.step (Px := px) (T := TT) (ρ := fun _ => []) TTe (by simp (maxSteps := 100000) (disch := omega) only [go_sem, V.isAgg, V.flat, ↓reduceIte, Nat.reduceAdd, Nat.reduceSub, Nat.reduceLT, Nat.reduceEqDiff, reduceCtorEq, Nat.reduceLeDiff, Nat.reduceBEq, Nat.reduceMul, Int.reduceToNat, pV, ht0]; rfl) (by repeat' first | exact trivial | constructor) ?_
          exact Holds.ret (RetOk.vs (show resAVs Tryz.prog _ _ [ResultVar.cell 4 43] = _ from by simp (maxSteps := 100000) (disch := omega) only [resAVs, AV.isPtr, go_sem, V.isAgg, V.flat, ↓reduceIte, Nat.reduceAdd, Nat.reduceSub, Nat.reduceLT, Nat.reduceEqDiff, reduceCtorEq, Nat.reduceLeDiff, Nat.reduceBEq, Nat.reduceMul, Int.reduceToNat, pV]; rfl) (by exact ⟨⟨rfl, fun h => h⟩, trivial⟩) rfl)
      · rw [decide_eq_false ht0]
        cases b
        · refine Holds.step (Px := px) (T := TT) (ρ := fun _ => []) TTe (by simp (maxSteps := 100000) (disch := omega) only [go_sem, V.isAgg, V.flat, ↓reduceIte, Nat.reduceAdd, Nat.reduceSub, Nat.reduceLT, Nat.reduceEqDiff, reduceCtorEq, Nat.reduceLeDiff, Nat.reduceBEq, Nat.reduceMul, Int.reduceToNat, pV, ht0]; rfl) (by repeat' first | exact trivial | constructor) ?_
          exact Holds.ret (RetOk.vs (show resAVs Tryz.prog _ _ [ResultVar.cell 4 43] = _ from by simp (maxSteps := 100000) (disch := omega) only [resAVs, AV.isPtr, go_sem, V.isAgg, V.flat, ↓reduceIte, Nat.reduceAdd, Nat.reduceSub, Nat.reduceLT, Nat.reduceEqDiff, reduceCtorEq, Nat.reduceLeDiff, Nat.reduceBEq, Nat.reduceMul, Int.reduceToNat, pV]; rfl) (by exact ⟨⟨rfl, fun h => h⟩, trivial⟩) rfl)
        · by_cases h : 0 < D.length
          · refine Holds.step (Px := px) (T := TT) (ρ := fun _ => []) TTe (by simp (maxSteps := 100000) (disch := omega) only [go_sem, V.isAgg, V.flat, ↓reduceIte, Nat.reduceAdd, Nat.reduceSub, Nat.reduceLT, Nat.reduceEqDiff, reduceCtorEq, Nat.reduceLeDiff, Nat.reduceBEq, Nat.reduceMul, Int.reduceToNat, pV, ht0, h]; rfl) (by repeat' first | exact trivial | constructor) ?_
            rw [decide_eq_true h]
            exact Holds.ret (RetOk.vs (show resAVs Tryz.prog _ _ [ResultVar.cell 4 43] = _ from by simp (maxSteps := 100000) (disch := omega) only [resAVs, AV.isPtr, go_sem, V.isAgg, V.flat, ↓reduceIte, Nat.reduceAdd, Nat.reduceSub, Nat.reduceLT, Nat.reduceEqDiff, reduceCtorEq, Nat.reduceLeDiff, Nat.reduceBEq, Nat.reduceMul, Int.reduceToNat, pV]; rfl) (by exact ⟨⟨rfl, fun h => h⟩, trivial⟩) rfl)
          · refine Holds.step (Px := px) (T := TT) (ρ := fun _ => []) TTe (by simp (maxSteps := 100000) (disch := omega) only [go_sem, V.isAgg, V.flat, ↓reduceIte, Nat.reduceAdd, Nat.reduceSub, Nat.reduceLT, Nat.reduceEqDiff, reduceCtorEq, Nat.reduceLeDiff, Nat.reduceBEq, Nat.reduceMul, Int.reduceToNat, pV, ht0, h]; rfl) (by repeat' first | exact trivial | constructor) ?_
            rw [decide_eq_false h]
            exact Holds.ret (RetOk.vs (show resAVs Tryz.prog _ _ [ResultVar.cell 4 43] = _ from by simp (maxSteps := 100000) (disch := omega) only [resAVs, AV.isPtr, go_sem, V.isAgg, V.flat, ↓reduceIte, Nat.reduceAdd, Nat.reduceSub, Nat.reduceLT, Nat.reduceEqDiff, reduceCtorEq, Nat.reduceLeDiff, Nat.reduceBEq, Nat.reduceMul, Int.reduceToNat, pV]; rfl) (by exact ⟨⟨rfl, fun h => h⟩, trivial⟩) rfl)
end Go.Proofs.YtjmclobbfabnpaaGreat.L
