/-
  Uc Ud Ue
-/
import Derived.Test.YtjmclobbfabnpaaGreatQ1
import Derived.Test.YtjmclobbfabnpaaGreatP4
set_option linter.unusedSimpArgs false
set_option linter.unusedVariables false
/-
  Division by a word of the package's whole numbers; the coefficients of a polynomial with five values.
-/
namespace Go.Proofs.YtjmclobbfabnpaaGreat.L
open Go Go.RowKit Go.Proofs
attribute [local go_sem] evalOps_nil evalOps_cons runW_t runW_f runE_s runP_s wantA evalOp effOp letters okDst coreA St.opv St.get St.at look constA St.put St.upd St.set decide_true List.all_nil List.all_cons Bool.and_true Bool.true_and and_self and_true true_and if_true if_false true_or Int.sub_zero List.nil_append List.cons_append List.append_nil Option.isSome_some List.getElem?_toArray List.getElem?_cons_succ List.getElem?_cons_zero Option.bind_some Option.map_some Option.map_none beq_self_eq_true Bool.false_beq Bool.true_beq Bool.not_true Bool.not_false Bool.false_eq_true cond_true cond_false binA binI List.map_cons List.map_nil boundA List.length_nil List.length_cons Nat.zero_mul Nat.one_mul Nat.mul_one Nat.zero_add Nat.add_zero Nat.zero_le Option.toList St.freshB AV.ment AV.ments Blk.ment V.sizes Nat.lt_add_one Bool.or_true Bool.true_or Bool.or_false Bool.false_or Bool.or_self if_pos if_neg decide_false decide_eq_true decide_eq_false wrap_i64 Int.toNat_natCast minA maxA Int.natCast_add Int.cast_ofNat_Int Option.isSome_none false_implies true_implies forall_const List.drop_zero Int.toNat_zero Int.add_sub_cancel lenA sliceA loadA indexAddrA partA fitsT V.atP V.offP V.size List.length_map List.getElem?_map Int.toNat_natCast_add_one Int.ofNat_eq_natCast TY calleeA capArg knotA capArgs toArgs toArg callA R.res R.mems R.blks R.av R.names R.nw invokeA storeA storeV fieldAddrA liveB V.off V.offs V.setP List.set_cons_zero List.set_cons_succ buildA buildP partsA appendA srcA copyA boxOk makeA AV.pure List.take_succ_cons List.take_zero nilA words entry List.zipIdx_cons List.zipIdx_nil Arg.av Arg.avs

/-- The words of a quotient by a word, and the rest. -/
def dvW (k : Nat) : List Int → List Int × Nat
  | [] => ([], 0)
  | a :: r => ((((dvW k r).2 * 18446744073709551616 + a.toNat) / k : Nat) :: (dvW k r).1, ((dvW k r).2 * 18446744073709551616 + a.toNat) % k)
theorem dvW_ok {k : Nat} (hk : 0 < k) : ∀ {x : List Int}, okW x → (dvW k x).2 < k ∧ okW (dvW k x).1 ∧ (dvW k x).1.length = x.length ∧ val (dvW k x).1 * k + (dvW k x).2 = val x
  | [], _ => ⟨hk, (fun n hn => by cases hn), rfl, by simp [dvW, val]⟩
  | a :: r, o => by
    obtain ⟨h1, h2, h3, h4⟩ := dvW_ok hk (x := r) fun n hn => o n (by simp [hn])
    have ha := o a (by simp)
    obtain ⟨s, hs⟩ : ∃ s, s = (dvW k r).2 := ⟨_, rfl⟩
    obtain ⟨W, hW⟩ : ∃ W, W = (dvW k r).1 := ⟨_, rfl⟩
    have e : dvW k (a :: r) = ((((s * 18446744073709551616 + a.toNat) / k : Nat) : Int) :: W, (s * 18446744073709551616 + a.toNat) % k) := by rw [dvW, hs, hW]
    rw [← hs] at h1 h4
    rw [← hW] at h2 h3 h4
    rw [e]
    have hq : (s * 18446744073709551616 + a.toNat) / k < 18446744073709551616 := by
      refine (Nat.div_lt_iff_lt_mul hk).2 ?_
      have : (s + 1) * 18446744073709551616 ≤ k * 18446744073709551616 := Nat.mul_le_mul_right _ h1
      omega
    refine ⟨Nat.mod_lt _ hk, fun n hn => ?_, by simp [h3], ?_⟩
    · rcases List.mem_cons.1 hn with rfl | hn
      · obtain ⟨q, hq'⟩ : ∃ q, q = (s * 18446744073709551616 + a.toNat) / k := ⟨_, rfl⟩
        rw [← hq'] at hq ⊢
        omega
      · exact h2 n hn
    · have hd := Nat.div_add_mod (s * 18446744073709551616 + a.toNat) k
      simp only [val, Int.toNat_natCast]
      rw [← h4, Nat.add_mul, Nat.mul_comm _ k, Nat.mul_add, Nat.mul_assoc]
      omega
theorem dvW_drop {k j : Nat} {x : List Int} (h : j < x.length) : dvW k (x.drop j) = (((((dvW k (x.drop (j + 1))).2 * 18446744073709551616 + (x.getD j 0).toNat) / k : Nat) : Int) :: (dvW k (x.drop (j + 1))).1, ((dvW k (x.drop (j + 1))).2 * 18446744073709551616 + (x.getD j 0).toNat) % k) := by
  rw [List.drop_eq_getElem_cons h, dvW, List.getD_eq_getElem?_getD, List.getElem?_eq_getElem h]; rfl
theorem dvW_val {k : Nat} (hk : 0 < k) {x : List Int} (o : okW x) : val (dvW k x).1 = val x / k ∧ (dvW k x).2 = val x % k := by
  obtain ⟨h1, _, _, h4⟩ := dvW_ok hk o
  obtain ⟨v, hv⟩ : ∃ v, v = val (dvW k x).1 := ⟨_, rfl⟩
  obtain ⟨s, hs⟩ : ∃ s, s = (dvW k x).2 := ⟨_, rfl⟩
  rw [← hv, ← hs] at h4
  rw [← hs] at h1
  rw [← hv, ← hs, ← h4, Nat.mul_comm v k]
  exact ⟨by rw [Nat.mul_add_div hk, Nat.div_eq_of_lt h1, Nat.add_zero], by rw [Nat.mul_add_mod, Nat.mod_eq_of_lt h1]⟩

theorem by_ok (p : Bool × List Int) (k : Nat) (hk : 0 < k) (hk2 : k < 18446744073709551616) (hl : p.2.length < 1000000) (ol : okW p.2) :
    FnOk Tryz.prog 35 [.v (pV p), .v (.int .u64 k)] [.v true (pV (p.1, digs (val p.2 / k))), .v true (.bool (decide (val p.2 % k = 0)))] := by
  obtain ⟨b, x⟩ := p
  simp only at hl ol ⊢
  obtain ⟨v1, v2⟩ := dvW_val hk ol
  obtain ⟨_, ow, lw, _⟩ := dvW_ok hk ol
  have hT := Trim_ok (dvW k x).1 (by omega)
  rw [trim_digs ow, v1] at hT
  rw [← v2]
  obtain ⟨D, hD⟩ : ∃ D, D = digs (val x / k) := ⟨_, rfl⟩
  rw [← hD] at hT ⊢
  refine FnOk.of Tryz.func35 rfl rfl fun cx w0 => ?_
  rw [show Tryz.f35.ntmps = 42 from rfl]
  refine Holds.step (Px := px) (T := TT) (ρ := fun _ => []) TTe (by simp (maxSteps := 100000) (disch := omega) only [go_sem, V.isAgg, V.flat, ↓reduceIte, Nat.reduceAdd, Nat.reduceSub, Nat.reduceLT, Nat.reduceEqDiff, reduceCtorEq, Nat.reduceLeDiff, Nat.reduceBEq, Nat.reduceMul, Int.reduceToNat, pV]; rfl) (by repeat' first | exact trivial | constructor) ?_
  refine Holds.step (Px := px) (T := TT) (ρ := fun _ => []) TTe (by simp (maxSteps := 100000) (disch := omega) only [go_sem, V.isAgg, V.flat, ↓reduceIte, Nat.reduceAdd, Nat.reduceSub, Nat.reduceLT, Nat.reduceEqDiff, reduceCtorEq, Nat.reduceLeDiff, Nat.reduceBEq, Nat.reduceMul, Int.reduceToNat, pV]; rfl) (by repeat' first | exact trivial | constructor) ?_
  refine Holds.step (Px := px) (T := TT) (ρ := fun _ => []) TTe (by simp (maxSteps := 100000) (disch := omega) only [go_sem, V.isAgg, V.flat, ↓reduceIte, Nat.reduceAdd, Nat.reduceSub, Nat.reduceLT, Nat.reduceEqDiff, reduceCtorEq, Nat.reduceLeDiff, Nat.reduceBEq, Nat.reduceMul, Int.reduceToNat]; rfl) (by repeat' first | exact trivial | constructor) ?_
  refine Holds.next (fun σ => ∀ a w, Rel cx w0 σ a w → Rel cx w0 { nt := 42, env := [(7, .v true (.int .u64 (dvW k x).2)), (6, .own 12 0 x.length), (2, .ptr 2 0 [] 0), (4, .ptr 4 0 [] 0)], mem := [(12, .buf 52 1 true ((dvW k x).1.map fun n => .int .u64 n)), (2, .box 43 (.v false (pV (b, x)))), (4, .box 43 (.v true (.agg [.bool false, .sl 1 []])))] } a w) ?_ ?_
  · refine Holds.step (Px := px) (T := TT) (ρ := fun _ => []) TTe (by simp (maxSteps := 100000) (disch := omega) only [go_sem, V.isAgg, V.flat, ↓reduceIte, Nat.reduceAdd, Nat.reduceSub, Nat.reduceLT, Nat.reduceEqDiff, reduceCtorEq, Nat.reduceLeDiff, Nat.reduceBEq, Nat.reduceMul, Int.reduceToNat, pV]; rfl) (by repeat' first | exact trivial | constructor) ?_
    refine Holds.loopB (fun j : Nat => { nt := 42, env := [(8, .v true (.int .i64 ((j : Int) - 1))), (7, .v true (.int .u64 (dvW k (x.drop j)).2)), (6, .own 12 0 x.length), (2, .ptr 2 0 [] 0), (4, .ptr 4 0 [] 0), (1, .v true (.int .u64 k))], mem := [(12, .buf 52 1 true ((List.replicate j 0 ++ (dvW k (x.drop j)).1).map fun n => .int .u64 n)), (2, .box 43 (.v false (pV (b, x)))), (4, .box 43 (.v true (.agg [.bool false, .sl 1 []])))] }) (fun j => j ≤ x.length) id x.length (Nat.le_refl _) (fun a w h => by
      have := Rel.keep [8, 7, 6, 2, 4, 1] [12, 2, 4] h
      rw [List.drop_length]
      show Rel _ _ { nt := 42, env := _, mem := [(12, .buf 52 1 true ((List.replicate x.length (0 : Int) ++ []).map fun n => .int .u64 n)), _, _] } _ _
      rw [List.append_nil, List.map_replicate]
      exact this) ?_
    intro j hj
    rcases j with _ | j
    · refine Holds.seq ?_
      refine Holds.step (Px := px) (T := TT) (ρ := fun _ => []) TTe (by simp (maxSteps := 100000) (disch := omega) only [go_sem, V.isAgg, V.flat, ↓reduceIte, Nat.reduceAdd, Nat.reduceSub, Nat.reduceLT, Nat.reduceEqDiff, reduceCtorEq, Nat.reduceLeDiff, Nat.reduceBEq, Nat.reduceMul, Int.reduceToNat]; rfl) (by repeat' first | exact trivial | constructor) ?_
      refine Holds.condF rfl (Holds.exit ⟨rfl, fun a w h => ?_⟩)
      have := Rel.keep [7, 6, 2, 4] [12, 2, 4] h
      exact this
    · have hjx : j < x.length := by omega
      have gx := get_map hjx
      have hx := okW_getD ol j
      have ho : okW (x.drop (j + 1)) := fun n hn => ol n (List.mem_of_mem_drop hn)
      obtain ⟨r1, r2, r3, _⟩ := dvW_ok hk ho
      have hd := dvW_drop (k := k) hjx
      obtain ⟨s, hs⟩ : ∃ s, s = (dvW k (x.drop (j + 1))).2 := ⟨_, rfl⟩
      obtain ⟨W, hW⟩ : ∃ W, W = (dvW k (x.drop (j + 1))).1 := ⟨_, rfl⟩
      rw [← hs] at r1 hd
      rw [← hW] at r3 hd
      rw [← hs, ← hW]
      obtain ⟨d, hdd⟩ : ∃ d : Nat, d = (x.getD j 0).toNat := ⟨_, rfl⟩
      rw [← hdd] at hd
      rw [show x.getD j 0 = (d : Int) from by omega] at gx
      have h64 := div64_ok s d k (by omega) hk2 r1
      obtain ⟨q, hq⟩ : ∃ q, q = (s * 18446744073709551616 + d) / k := ⟨_, rfl⟩
      obtain ⟨r, hr⟩ : ∃ r, r = (s * 18446744073709551616 + d) % k := ⟨_, rfl⟩
      rw [← hq, ← hr] at h64 hd
      rw [List.length_drop] at r3
      have hLl : (List.replicate (j + 1) (0 : Int) ++ W).length = x.length := by rw [List.length_append, List.length_replicate, r3]; omega
      have eset : (List.replicate (j + 1) (0 : Int) ++ W).set j (q : Int) = List.replicate j 0 ++ (q : Int) :: W := by
        rw [show List.replicate (j + 1) (0 : Int) = List.replicate j 0 ++ [0] from by rw [List.replicate_succ'], List.append_assoc, List.set_append_right _ _ (by rw [List.length_replicate]; exact Nat.le_refl _), List.length_replicate, Nat.sub_self]
        rfl
      obtain ⟨Lw, hL⟩ : ∃ Lw, Lw = List.replicate (j + 1) (0 : Int) ++ W := ⟨_, rfl⟩
      rw [← hL] at hLl eset ⊢
      have gL := get_map (l := Lw) (i := j) (by omega)
      refine Holds.seq ?_
      refine Holds.step (Px := px) (T := TT) (ρ := fun _ => []) TTe (by simp (maxSteps := 100000) (disch := omega) only [go_sem, V.isAgg, V.flat, ↓reduceIte, Nat.reduceAdd, Nat.reduceSub, Nat.reduceLT, Nat.reduceEqDiff, reduceCtorEq, Nat.reduceLeDiff, Nat.reduceBEq, Nat.reduceMul, Int.reduceToNat]; rfl) (by repeat' first | exact trivial | constructor) ?_
      refine Holds.condT rfl (Holds.skip ?_)
      refine Holds.next (fun σ => ∀ a w, Rel cx w0 σ a w → Rel cx w0 { nt := 42, env := [(8, .v true (.int .i64 (j : Int))), (7, .v true (.int .u64 r)), (6, .own 12 0 x.length), (2, .ptr 2 0 [] 0), (4, .ptr 4 0 [] 0), (1, .v true (.int .u64 k))], mem := [(12, .buf 52 1 true ((Lw.set j (q : Int)).map fun n => .int .u64 n)), (2, .box 43 (.v false (pV (b, x)))), (4, .box 43 (.v true (.agg [.bool false, .sl 1 []])))] } a w) ?_ ?_
      · refine Holds.blockN ?_
        refine Holds.region (Px := px) (T := TT) (ρ := fun _ => [.v true (.int .u64 q), .v true (.int .u64 r)]) TTe (by simp (maxSteps := 100000) (disch := omega) only [go_sem, V.isAgg, V.flat, ↓reduceIte, Nat.reduceAdd, Nat.reduceSub, Nat.reduceLT, Nat.reduceEqDiff, reduceCtorEq, Nat.reduceLeDiff, Nat.reduceBEq, Nat.reduceMul, Int.reduceToNat, pV, gx, gL, hLl]; rfl) (by first | exact h64 | (repeat' first | exact trivial | exact h64 | constructor)) ?_
        intro a w h
        have := Rel.keep [8, 7, 6, 2, 4, 1] [12, 2, 4] h
        rw [List.map_set]
        exact this
      · intro σ hσ
        refine Holds.from hσ ?_
        refine Holds.region (Px := px) (T := TT) (ρ := fun _ => []) TTe (by simp (maxSteps := 100000) (disch := omega) only [go_sem, V.isAgg, V.flat, ↓reduceIte, Nat.reduceAdd, Nat.reduceSub, Nat.reduceLT, Nat.reduceEqDiff, reduceCtorEq, Nat.reduceLeDiff, Nat.reduceBEq, Nat.reduceMul, Int.reduceToNat]; rfl) (by repeat' first | exact trivial | constructor) ?_
        refine ⟨j, (by show j ≤ x.length; omega), (show j < j + 1 by omega), fun a w h => ?_⟩
        have := Rel.keep [8, 7, 6, 2, 4, 1] [12, 2, 4] h
        rw [eset] at this
        simp only [hd]
        exact this
  · intro σ hσ
    refine Holds.from hσ ?_
    have htk : List.take x.length (List.map (fun n => V.int .u64 n) (dvW k x).1) = List.map (fun n => V.int .u64 n) (dvW k x).1 := List.take_of_length_le (by rw [List.length_map]; omega)
    obtain ⟨s, hs⟩ : ∃ s, s = (dvW k x).2 := ⟨_, rfl⟩
    rw [← hs]
    have hb : decide ((s : Int) = 0) = decide (s = 0) := by simp
    refine Holds.dstep (Px := px) (T := TT) (ρ := fun _ => [.v true (words D)]) [] mixed (by kernel_rfl) TTe (by simp (maxSteps := 100000) (disch := omega) only [go_sem, V.isAgg, V.flat, ↓reduceIte, Nat.reduceAdd, Nat.reduceSub, Nat.reduceLT, Nat.reduceEqDiff, reduceCtorEq, Nat.reduceLeDiff, Nat.reduceBEq, Nat.reduceMul, Int.reduceToNat, pV, htk, hb]; rfl) (by first | exact hT | (repeat' first | exact trivial | exact hT | constructor)) (by rfl) (by rfl) (by rfl) ?_
    exact Holds.ret (RetOk.vs (show resAVs Tryz.prog _ _ [ResultVar.cell 4 43, ResultVar.tmp 5] = _ from by simp (maxSteps := 100000) (disch := omega) only [resAVs, AV.isPtr, go_sem, V.isAgg, V.flat, ↓reduceIte, Nat.reduceAdd, Nat.reduceSub, Nat.reduceLT, Nat.reduceEqDiff, reduceCtorEq, Nat.reduceLeDiff, Nat.reduceBEq, Nat.reduceMul, Int.reduceToNat, pV]; rfl) (by exact ⟨⟨rfl, fun h => h⟩, ⟨rfl, fun h => h⟩, trivial⟩) rfl)

theorem sum3_ok (x y z : Int) (M : Nat) (hM : M < 90000) (hx : x.natAbs < 18446744073709551616 ^ M) (hy : y.natAbs < 18446744073709551616 ^ M) (hz : z.natAbs < 18446744073709551616 ^ M) :
    FnOk Tryz.prog 33 [.v (.sl 2 [pV (zp x), pV (zp y), pV (zp z)])] [.v true (pV (zp (x + y + z)))] := by
  have h := sum_ok [x, y, z] (M + 1) (by omega) (by simp) (by
    show 0 + x.natAbs + y.natAbs + z.natAbs < _
    rw [Nat.pow_succ]
    omega)
  rw [show sumZ [x, y, z] [x, y, z].length = x + y + z from by show 0 + x + y + z = _; omega] at h
  exact h
theorem sum2_ok (x y : Int) (M : Nat) (hM : M < 90000) (hx : x.natAbs < 18446744073709551616 ^ M) (hy : y.natAbs < 18446744073709551616 ^ M) :
    FnOk Tryz.prog 33 [.v (.sl 2 [pV (zp x), pV (zp y)])] [.v true (pV (zp (x + y)))] := by
  have h := sum_ok [x, y] (M + 1) (by omega) (by simp) (by
    show 0 + x.natAbs + y.natAbs < _
    rw [Nat.pow_succ]
    omega)
  rw [show sumZ [x, y] [x, y].length = x + y from by show 0 + x + y = _; omega] at h
  exact h
/-
  The coefficients of a polynomial with five values: the package's.
-/

theorem bnd_mul {x t : Int} {K : Nat} (h : x.natAbs < 18446744073709551616 ^ K) (ht : t.natAbs ≤ 16) : (x * t).natAbs < 18446744073709551616 ^ (K + 1) := by
  rw [Int.natAbs_mul, Nat.pow_succ]
  exact Nat.mul_lt_mul'' h (by omega)
theorem bnd_two {x y : Int} {K : Nat} (hx : x.natAbs < 18446744073709551616 ^ K) (hy : y.natAbs < 18446744073709551616 ^ K) : (x + y).natAbs < 18446744073709551616 ^ (K + 1) := by
  rw [Nat.pow_succ]; omega
theorem bnd_three {x y z : Int} {K : Nat} (hx : x.natAbs < 18446744073709551616 ^ K) (hy : y.natAbs < 18446744073709551616 ^ K) (hz : z.natAbs < 18446744073709551616 ^ K) : (x + y + z).natAbs < 18446744073709551616 ^ (K + 1) := by
  rw [Nat.pow_succ]; omega
theorem bnd_to {x : Int} {K M : Nat} (h : x.natAbs < 18446744073709551616 ^ K) (hM : K ≤ M) : x.natAbs < 18446744073709551616 ^ M := Nat.lt_of_lt_of_le h (Nat.pow_le_pow_right (by decide) hM)

/-- A quotient towards 0, its sign as it was. -/
def byP (z : Int) (k : Nat) : Bool × List Int := (decide (z < 0), digs (z.natAbs / k))
theorem byP_ival (z : Int) (k : Nat) : ival (byP z k) = z.tdiv k := by
  unfold byP
  rw [ival_mk]
  by_cases h : z < 0
  · obtain ⟨n, hn⟩ : ∃ n : Nat, z = -(n : Int) := ⟨z.natAbs, by omega⟩
    subst hn
    rw [Int.neg_tdiv, quoN, decide_eq_true h]
    simp
  · obtain ⟨n, hn⟩ : ∃ n : Nat, z = (n : Int) := ⟨z.natAbs, by omega⟩
    subst hn
    rw [quoN, decide_eq_false h]
    simp
theorem byP_bnd {z : Int} {k K : Nat} (h : z.natAbs < 18446744073709551616 ^ K) : (ival (byP z k)).natAbs < 18446744073709551616 ^ K := by
  unfold byP
  rw [ival_mk]
  have := Nat.div_le_self z.natAbs k
  generalize z.natAbs / k = q at this ⊢
  by_cases hz : z < 0
  · rw [decide_eq_true hz]; simp only [if_true]; omega
  · rw [decide_eq_false hz]; simp only [Bool.false_eq_true, if_false]; omega
theorem byP_ok (z : Int) (k : Nat) : okW (byP z k).2 := (digs_ok _).1
theorem byP_len {z : Int} {k K : Nat} (h : z.natAbs < 18446744073709551616 ^ K) : (byP z k).2.length ≤ K := digs_len (Nat.lt_of_le_of_lt (Nat.div_le_self _ _) h)
theorem by_use (z : Int) (k K : Nat) (hk : 0 < k) (hk2 : k < 18446744073709551616) (hK : K < 1000000) (h : z.natAbs < 18446744073709551616 ^ K) :
    FnOk Tryz.prog 35 [.v (pV (zp z)), .v (.int .u64 k)] [.v true (pV (byP z k)), .v true (.bool (decide (z.natAbs % k = 0)))] := by
  have := by_ok (zp z) k hk hk2 (by have := zp_len h; omega) (zp_ok z)
  rw [zp_val] at this
  exact this
theorem times_use (z t : Int) (K : Nat) (hK : K < 1000000) (h : z.natAbs < 18446744073709551616 ^ K) (ht : t.natAbs ≤ 16) :
    FnOk Tryz.prog 34 [.v (pV (zp z)), .v (.int .i64 t)] [.v true (pV (zp (z * t)))] := by
  have := times_ok (zp z) t (by have := zp_len h; omega) (zp_ok z) (by omega) (by omega)
  rw [ival_zp] at this
  exact this
theorem times_by (z t : Int) (k K : Nat) (hK : K < 1000000) (h : z.natAbs < 18446744073709551616 ^ K) (ht : t.natAbs ≤ 16) :
    FnOk Tryz.prog 34 [.v (pV (byP z k)), .v (.int .i64 t)] [.v true (pV (zp (ival (byP z k) * t)))] :=
  times_ok (byP z k) t (by have := byP_len (k := k) h; omega) (byP_ok z k) (by omega) (by omega)

def bkA (x v0 v4 t : Int) : Int := x + v0 * -1 + v4 * t
def bkO (a b : Int) : Int := a + ival (byP (a + b) 2) * -1
def bkW (a b c : Int) : Int := c + ival (byP (a + b) 2) * -4 + bkO a b * -2
def bkL (v0 v4 a b c : Int) : List V := [pV (zp v0), pV (zp (bkO a b + ival (byP (bkW a b c) 6) * -1)), pV (byP (a + b) 2), pV (byP (bkW a b c) 6), pV (zp v4)]
def bkB (a b c : Int) : Bool := decide ((a + b).natAbs % 2 = 0) && decide ((bkW a b c).natAbs % 6 = 0)

set_option maxRecDepth 100000 in
set_option maxHeartbeats 1000000 in
theorem back_ok (v0 v1 v2 v3 v4 : Int) (K : Nat) (hK : K < 80000) (h0 : v0.natAbs < 18446744073709551616 ^ K) (h1 : v1.natAbs < 18446744073709551616 ^ K) (h2 : v2.natAbs < 18446744073709551616 ^ K) (h3 : v3.natAbs < 18446744073709551616 ^ K) (h4 : v4.natAbs < 18446744073709551616 ^ K) :
    FnOk Tryz.prog 12 [.v (arrV [v0, v1, v2, v3, v4])] [.v false (.agg (bkL v0 v4 (bkA v1 v0 v4 (-1)) (bkA v2 v0 v4 (-1)) (bkA v3 v0 v4 (-16)))), .v true (.bool (bkB (bkA v1 v0 v4 (-1)) (bkA v2 v0 v4 (-1)) (bkA v3 v0 v4 (-16))))] := by
  have t0 := times_use v0 (-1) K (by omega) h0 (by decide)
  have t4 := times_use v4 (-1) K (by omega) h4 (by decide)
  have t5 := times_use v4 (-16) K (by omega) h4 (by decide)
  have m0 := bnd_mul (t := -1) h0 (by decide)
  have m4 := bnd_mul (t := -1) h4 (by decide)
  have m5 := bnd_mul (t := -16) h4 (by decide)
  have sa := sum3_ok v1 (v0 * -1) (v4 * -1) (K + 1) (by omega) (lt_up h1) m0 m4
  have sb := sum3_ok v2 (v0 * -1) (v4 * -1) (K + 1) (by omega) (lt_up h2) m0 m4
  have sc := sum3_ok v3 (v0 * -1) (v4 * -16) (K + 1) (by omega) (lt_up h3) m0 m5
  have na := bnd_three (lt_up h1) m0 m4
  have nb := bnd_three (lt_up h2) m0 m4
  have nc := bnd_three (lt_up h3) m0 m5
  rw [show v1 + v0 * -1 + v4 * -1 = bkA v1 v0 v4 (-1) from rfl] at sa na
  rw [show v2 + v0 * -1 + v4 * -1 = bkA v2 v0 v4 (-1) from rfl] at sb nb
  rw [show v3 + v0 * -1 + v4 * -16 = bkA v3 v0 v4 (-16) from rfl] at sc nc
  obtain ⟨a, ha⟩ : ∃ a, a = bkA v1 v0 v4 (-1) := ⟨_, rfl⟩
  obtain ⟨b, hb⟩ : ∃ b, b = bkA v2 v0 v4 (-1) := ⟨_, rfl⟩
  obtain ⟨c, hc⟩ : ∃ c, c = bkA v3 v0 v4 (-16) := ⟨_, rfl⟩
  rw [← ha] at sa na ⊢
  rw [← hb] at sb nb ⊢
  rw [← hc] at sc nc ⊢
  clear ha hb hc
  have s2 := sum2_ok a b (K + 2) (by omega) na nb
  have n2 := bnd_two na nb
  have d2 := by_use (a + b) 2 (K + 3) (by decide) (by decide) (by omega) n2
  have i2 := byP_bnd (k := 2) n2
  have u1 := times_by (a + b) (-1) 2 (K + 3) (by omega) n2 (by decide)
  have u4 := times_by (a + b) (-4) 2 (K + 3) (by omega) n2 (by decide)
  have n4 := bnd_mul (t := -4) i2 (by decide)
  have n1 := bnd_mul (t := -1) i2 (by decide)
  have so := sum2_ok a (ival (byP (a + b) 2) * -1) (K + 4) (by omega) (bnd_to na (by omega)) n1
  have no := bnd_two (bnd_to na (show K + 1 + 1 ≤ K + 4 by omega)) n1
  rw [show a + ival (byP (a + b) 2) * -1 = bkO a b from rfl] at so no
  have uo := times_use (bkO a b) (-2) (K + 5) (by omega) no (by decide)
  have nu := bnd_mul (t := -2) no (by decide)
  have sw := sum3_ok c (ival (byP (a + b) 2) * -4) (bkO a b * -2) (K + 6) (by omega) (bnd_to nc (by omega)) (bnd_to n4 (by omega)) nu
  have nw := bnd_three (bnd_to nc (show K + 1 + 1 ≤ K + 6 by omega)) (bnd_to n4 (show K + 1 + 1 + 1 + 1 ≤ K + 6 by omega)) nu
  rw [show c + ival (byP (a + b) 2) * -4 + bkO a b * -2 = bkW a b c from rfl] at sw nw
  have d6 := by_use (bkW a b c) 6 (K + 7) (by decide) (by decide) (by omega) nw
  have i6 := byP_bnd (k := 6) nw
  have u6 := times_by (bkW a b c) (-1) 6 (K + 7) (by omega) nw (by decide)
  have n6 := bnd_mul (t := -1) i6 (by decide)
  have sl := sum2_ok (bkO a b) (ival (byP (bkW a b c) 6) * -1) (K + 8) (by omega) (bnd_to no (by omega)) n6
  clear m0 m4 m5 na nb nc n2 i2 n4 n1 no nu nw i6 n6
  unfold bkL bkB
  obtain ⟨b2, hb2⟩ : ∃ b2, b2 = decide ((a + b).natAbs % 2 = 0) := ⟨_, rfl⟩
  obtain ⟨b6, hb6⟩ : ∃ b6, b6 = decide ((bkW a b c).natAbs % 6 = 0) := ⟨_, rfl⟩
  rw [← hb2] at d2 ⊢
  rw [← hb6] at d6 ⊢
  clear hb2 hb6
  rw [show arrV [v0, v1, v2, v3, v4] = .agg [pV (zp v0), pV (zp v1), pV (zp v2), pV (zp v3), pV (zp v4)] from rfl]
  refine FnOk.of Tryz.func12 rfl rfl fun cx w0 => ?_
  rw [show Tryz.f12.ntmps = 80 from rfl]
  refine Holds.step (Px := px) (T := TT) (ρ := fun _ => []) TTe (by simp (maxSteps := 100000) (disch := omega) only [go_sem, V.isAgg, V.flat, ↓reduceIte, Nat.reduceAdd, Nat.reduceSub, Nat.reduceLT, Nat.reduceEqDiff, reduceCtorEq, Nat.reduceLeDiff, Nat.reduceBEq, Nat.reduceMul, Int.reduceToNat, List.length_cons, List.length_nil]; rfl) (by repeat' first | exact trivial | constructor) ?_
  refine Holds.dstepT (Px := px) (T := TT) (ρ := fun _ => []) [(2, 6), (3, 6)] mixed (by kernel_rfl) TTe (by simp (maxSteps := 100000) (disch := omega) only [go_sem, V.isAgg, V.flat, ↓reduceIte, Nat.reduceAdd, Nat.reduceSub, Nat.reduceLT, Nat.reduceEqDiff, reduceCtorEq, Nat.reduceLeDiff, Nat.reduceBEq, Nat.reduceMul, Int.reduceToNat, -V.isAgg, -V.flat, isAgg_agg, isAgg_int, isAgg_bool, isAgg_sl, flat_agg, flat_int, flat_bool, flat_sl, pV_size, pV_agg]; rfl) (by repeat' first | exact trivial | constructor) (by rfl) (by rfl) (by simp (maxSteps := 100000) (disch := omega) only [trc_nil, trc_cons, effW_t, effW_f, trcE_s, opSites_eq, sitesOf, AV.sites, AV.sitesL, Op.operands, Call.operands, List.append_toArray, List.toList_toArray, List.filter_nil, List.filter_cons, List.contains_cons, List.contains_nil, go_sem, V.isAgg, V.flat, ↓reduceIte, Nat.reduceAdd, Nat.reduceSub, Nat.reduceLT, Nat.reduceEqDiff, reduceCtorEq, Nat.reduceLeDiff, Nat.reduceBEq, Nat.reduceMul, Int.reduceToNat, -V.isAgg, -V.flat, isAgg_agg, isAgg_int, isAgg_bool, isAgg_sl, flat_agg, flat_int, flat_bool, flat_sl, pV_size, pV_agg]; rfl) (by rfl) ?_
  refine Holds.dstep (Px := px) (T := TT) (ρ := fun d => if d = 21 then [.v true (pV (zp (v0 * -1)))] else if d = 23 then [.v true (pV (zp (v4 * -1)))] else [.v true (pV (zp a))]) [] mixed (by kernel_rfl) TTe (by simp (maxSteps := 100000) (disch := omega) only [go_sem, V.isAgg, V.flat, ↓reduceIte, Nat.reduceAdd, Nat.reduceSub, Nat.reduceLT, Nat.reduceEqDiff, reduceCtorEq, Nat.reduceLeDiff, Nat.reduceBEq, Nat.reduceMul, Int.reduceToNat, -V.isAgg, -V.flat, isAgg_agg, isAgg_int, isAgg_bool, isAgg_sl, flat_agg, flat_int, flat_bool, flat_sl, pV_size, pV_agg]; rfl) (by first | exact ⟨t0, t4, sa⟩ | (repeat' first | exact trivial | exact t0 | exact t4 | exact sa | constructor)) (by rfl) (by rfl) (by rfl) ?_
  refine Holds.dstep (Px := px) (T := TT) (ρ := fun d => if d = 29 then [.v true (pV (zp (v0 * -1)))] else if d = 31 then [.v true (pV (zp (v4 * -1)))] else [.v true (pV (zp b))]) [] mixed (by kernel_rfl) TTe (by simp (maxSteps := 100000) (disch := omega) only [go_sem, V.isAgg, V.flat, ↓reduceIte, Nat.reduceAdd, Nat.reduceSub, Nat.reduceLT, Nat.reduceEqDiff, reduceCtorEq, Nat.reduceLeDiff, Nat.reduceBEq, Nat.reduceMul, Int.reduceToNat, -V.isAgg, -V.flat, isAgg_agg, isAgg_int, isAgg_bool, isAgg_sl, flat_agg, flat_int, flat_bool, flat_sl, pV_size, pV_agg]; rfl) (by first | exact ⟨t0, t4, sb⟩ | (repeat' first | exact trivial | exact t0 | exact t4 | exact sb | constructor)) (by rfl) (by rfl) (by rfl) ?_
  refine Holds.dstep (Px := px) (T := TT) (ρ := fun d => if d = 37 then [.v true (pV (zp (v0 * -1)))] else if d = 39 then [.v true (pV (zp (v4 * -16)))] else [.v true (pV (zp c))]) [] mixed (by kernel_rfl) TTe (by simp (maxSteps := 100000) (disch := omega) only [go_sem, V.isAgg, V.flat, ↓reduceIte, Nat.reduceAdd, Nat.reduceSub, Nat.reduceLT, Nat.reduceEqDiff, reduceCtorEq, Nat.reduceLeDiff, Nat.reduceBEq, Nat.reduceMul, Int.reduceToNat, -V.isAgg, -V.flat, isAgg_agg, isAgg_int, isAgg_bool, isAgg_sl, flat_agg, flat_int, flat_bool, flat_sl, pV_size, pV_agg]; rfl) (by first | exact ⟨t0, t5, sc⟩ | (repeat' first | exact trivial | exact t0 | exact t5 | exact sc | constructor)) (by rfl) (by rfl) (by rfl) ?_
  refine Holds.step (Px := px) (T := TT) (ρ := fun d => if d = 46 then [.v true (pV (zp (a + b)))] else [.v true (pV (byP (a + b) 2)), .v true (.bool b2)]) TTe (by simp (maxSteps := 100000) (disch := omega) only [go_sem, V.isAgg, V.flat, ↓reduceIte, Nat.reduceAdd, Nat.reduceSub, Nat.reduceLT, Nat.reduceEqDiff, reduceCtorEq, Nat.reduceLeDiff, Nat.reduceBEq, Nat.reduceMul, Int.reduceToNat, -V.isAgg, -V.flat, isAgg_agg, isAgg_int, isAgg_bool, isAgg_sl, flat_agg, flat_int, flat_bool, flat_sl, pV_size, pV_agg]; rfl) (by first | exact ⟨s2, d2⟩ | (repeat' first | exact trivial | exact s2 | exact d2 | constructor)) ?_
  refine Holds.dstep (Px := px) (T := TT) (ρ := fun d => if d = 52 then [.v true (pV (zp (ival (byP (a + b) 2) * -1)))] else [.v true (pV (zp (bkO a b)))]) [] mixed (by kernel_rfl) TTe (by simp (maxSteps := 100000) (disch := omega) only [go_sem, V.isAgg, V.flat, ↓reduceIte, Nat.reduceAdd, Nat.reduceSub, Nat.reduceLT, Nat.reduceEqDiff, reduceCtorEq, Nat.reduceLeDiff, Nat.reduceBEq, Nat.reduceMul, Int.reduceToNat, -V.isAgg, -V.flat, isAgg_agg, isAgg_int, isAgg_bool, isAgg_sl, flat_agg, flat_int, flat_bool, flat_sl, pV_size, pV_agg]; rfl) (by first | exact ⟨u1, so⟩ | (repeat' first | exact trivial | exact u1 | exact so | constructor)) (by rfl) (by rfl) (by rfl) ?_
  refine Holds.dstep (Px := px) (T := TT) (ρ := fun d => if d = 58 then [.v true (pV (zp (ival (byP (a + b) 2) * -4)))] else if d = 60 then [.v true (pV (zp (bkO a b * -2)))] else if d = 62 then [.v true (pV (zp (bkW a b c)))] else [.v true (pV (byP (bkW a b c) 6)), .v true (.bool b6)]) [] mixed (by kernel_rfl) TTe (by simp (maxSteps := 100000) (disch := omega) only [go_sem, V.isAgg, V.flat, ↓reduceIte, Nat.reduceAdd, Nat.reduceSub, Nat.reduceLT, Nat.reduceEqDiff, reduceCtorEq, Nat.reduceLeDiff, Nat.reduceBEq, Nat.reduceMul, Int.reduceToNat, -V.isAgg, -V.flat, isAgg_agg, isAgg_int, isAgg_bool, isAgg_sl, flat_agg, flat_int, flat_bool, flat_sl, pV_size, pV_agg]; rfl) (by first | exact ⟨u4, uo, sw, d6⟩ | (repeat' first | exact trivial | exact u4 | exact uo | exact sw | exact d6 | constructor)) (by rfl) (by rfl) (by rfl) ?_
  cases b2
  · refine Holds.dstep (Px := px) (T := TT) (ρ := fun d => if d = 69 then [.v true (pV (zp (ival (byP (bkW a b c) 6) * -1)))] else [.v true (pV (zp (bkO a b + ival (byP (bkW a b c) 6) * -1)))]) [] mixed (by kernel_rfl) TTe (by simp (maxSteps := 100000) (disch := omega) only [go_sem, V.isAgg, V.flat, ↓reduceIte, Nat.reduceAdd, Nat.reduceSub, Nat.reduceLT, Nat.reduceEqDiff, reduceCtorEq, Nat.reduceLeDiff, Nat.reduceBEq, Nat.reduceMul, Int.reduceToNat, -V.isAgg, -V.flat, isAgg_agg, isAgg_int, isAgg_bool, isAgg_sl, flat_agg, flat_int, flat_bool, flat_sl, pV_size, pV_agg]; rfl) (by first | exact ⟨u6, sl⟩ | (repeat' first | exact trivial | exact u6 | exact sl | constructor)) (by rfl) (by rfl) (by rfl) ?_
    exact Holds.ret (RetOk.vs (show resAVs Tryz.prog _ _ [ResultVar.cell 2 44, ResultVar.tmp 3] = _ from by simp (maxSteps := 100000) (disch := omega) only [resAVs, AV.isPtr, go_sem, V.isAgg, V.flat, ↓reduceIte, Nat.reduceAdd, Nat.reduceSub, Nat.reduceLT, Nat.reduceEqDiff, reduceCtorEq, Nat.reduceLeDiff, Nat.reduceBEq, Nat.reduceMul, Int.reduceToNat, -V.isAgg, -V.flat, isAgg_agg, isAgg_int, isAgg_bool, isAgg_sl, flat_agg, flat_int, flat_bool, flat_sl, pV_size, pV_agg]; rfl) (by exact ⟨⟨rfl, fun h => by cases h⟩, ⟨rfl, fun h => h⟩, trivial⟩) rfl)
  · refine Holds.dstep (Px := px) (T := TT) (ρ := fun d => if d = 69 then [.v true (pV (zp (ival (byP (bkW a b c) 6) * -1)))] else [.v true (pV (zp (bkO a b + ival (byP (bkW a b c) 6) * -1)))]) [] mixed (by kernel_rfl) TTe (by simp (maxSteps := 100000) (disch := omega) only [go_sem, V.isAgg, V.flat, ↓reduceIte, Nat.reduceAdd, Nat.reduceSub, Nat.reduceLT, Nat.reduceEqDiff, reduceCtorEq, Nat.reduceLeDiff, Nat.reduceBEq, Nat.reduceMul, Int.reduceToNat, -V.isAgg, -V.flat, isAgg_agg, isAgg_int, isAgg_bool, isAgg_sl, flat_agg, flat_int, flat_bool, flat_sl, pV_size, pV_agg]; rfl) (by first | exact ⟨u6, sl⟩ | (repeat' first | exact trivial | exact u6 | exact sl | constructor)) (by rfl) (by rfl) (by rfl) ?_
    exact Holds.ret (RetOk.vs (show resAVs Tryz.prog _ _ [ResultVar.cell 2 44, ResultVar.tmp 3] = _ from by simp (maxSteps := 100000) (disch := omega) only [resAVs, AV.isPtr, go_sem, V.isAgg, V.flat, ↓reduceIte, Nat.reduceAdd, Nat.reduceSub, Nat.reduceLT, Nat.reduceEqDiff, reduceCtorEq, Nat.reduceLeDiff, Nat.reduceBEq, Nat.reduceMul, Int.reduceToNat, -V.isAgg, -V.flat, isAgg_agg, isAgg_int, isAgg_bool, isAgg_sl, flat_agg, flat_int, flat_bool, flat_sl, pV_size, pV_agg]; rfl) (by exact ⟨⟨rfl, fun h => by cases h⟩, ⟨rfl, fun h => h⟩, trivial⟩) rfl)
/-
  The package's Back.
-/

theorem byP_mul {k : Nat} (hk : 0 < k) (y : Int) : byP (y * k) k = zp y := by
  unfold byP zp
  have h1 : (y * (k : Int)).natAbs / k = y.natAbs := by rw [Int.natAbs_mul, Int.natAbs_natCast, Nat.mul_div_cancel _ hk]
  have h2 : decide (y * (k : Int) < 0) = decide (y < 0) := by
    have hk' : (0 : Int) < k := by omega
    by_cases h : y < 0
    · rw [decide_eq_true h, decide_eq_true (Int.mul_neg_of_neg_of_pos h hk')]
    · rw [decide_eq_false h, decide_eq_false (by
        have : 0 ≤ y * (k : Int) := Int.mul_nonneg (by omega) (by omega)
        omega)]
  rw [h1, h2]
theorem natAbs_mul_mod {k : Nat} (y : Int) : (y * (k : Int)).natAbs % k = 0 := by rw [Int.natAbs_mul, Int.natAbs_natCast, Nat.mul_mod_left]

theorem bk_vals (c0 c1 c2 c3 c4 : Int) :
    let a := bkA (c0 + c1 + c2 + c3 + c4) c0 c4 (-1)
    let b := bkA (c0 - c1 + c2 - c3 + c4) c0 c4 (-1)
    let c := bkA (c0 + 2 * c1 + 4 * c2 + 8 * c3 + 16 * c4) c0 c4 (-16)
    V.agg (bkL c0 c4 a b c) = arrV [c0, c1, c2, c3, c4] ∧ bkB a b c = true := by
  intro a b c
  have ha : a = c1 + c2 + c3 := by show (c0 + c1 + c2 + c3 + c4) + c0 * -1 + c4 * -1 = _; omega
  have hb : b = -c1 + c2 - c3 := by show (c0 - c1 + c2 - c3 + c4) + c0 * -1 + c4 * -1 = _; omega
  have hc : c = 2 * c1 + 4 * c2 + 8 * c3 := by show (c0 + 2 * c1 + 4 * c2 + 8 * c3 + 16 * c4) + c0 * -1 + c4 * -16 = _; omega
  have h2 : a + b = c2 * ((2 : Nat) : Int) := by rw [ha, hb]; omega
  have e2 : byP (a + b) 2 = zp c2 := by rw [h2]; exact byP_mul (by decide) c2
  have hO : bkO a b = c1 + c3 := by
    unfold bkO
    rw [e2, ival_zp, ha]; omega
  have hW : bkW a b c = c3 * ((6 : Nat) : Int) := by
    unfold bkW
    rw [e2, ival_zp, hO, hc]; omega
  have e3 : byP (bkW a b c) 6 = zp c3 := by rw [hW]; exact byP_mul (by decide) c3
  refine ⟨?_, ?_⟩
  · unfold bkL
    rw [e2, e3, ival_zp, hO, show c1 + c3 + c3 * -1 = c1 from by omega]
    rfl
  · unfold bkB
    rw [h2, hW, natAbs_mul_mod, natAbs_mul_mod]
    rfl

theorem back_vals (c0 c1 c2 c3 c4 v0 v1 v2 v3 v4 : Int) (K : Nat) (hK : K < 80000) (h0 : v0.natAbs < 18446744073709551616 ^ K) (h1 : v1.natAbs < 18446744073709551616 ^ K) (h2 : v2.natAbs < 18446744073709551616 ^ K) (h3 : v3.natAbs < 18446744073709551616 ^ K) (h4 : v4.natAbs < 18446744073709551616 ^ K)
    (e0 : v0 = c0) (e1 : v1 = c0 + c1 + c2 + c3 + c4) (e2 : v2 = c0 - c1 + c2 - c3 + c4) (e3 : v3 = c0 + 2 * c1 + 4 * c2 + 8 * c3 + 16 * c4) (e4 : v4 = c4) :
    FnOk Tryz.prog 12 [.v (arrV [v0, v1, v2, v3, v4])] [.v false (arrV [c0, c1, c2, c3, c4]), .v true (.bool true)] := by
  have h := back_ok v0 v1 v2 v3 v4 K hK h0 h1 h2 h3 h4
  obtain ⟨k1, k2⟩ := bk_vals c0 c1 c2 c3 c4
  rw [← e0, ← e4] at k1 k2
  rw [← e0, ← e4] at e1 e2 e3
  rw [← e1, ← e2, ← e3] at k1 k2
  rw [k1, k2] at h
  rw [← e0, ← e4]
  exact h

/-- What Back does once the coefficients are known, L their list. -/
theorem Back_of (p0 p1 p2 p3 p4 : Bool × List Int) (L : List V) (b : Bool) (hp : ∀ p ∈ [p0, p1, p2, p3, p4], p.2.length ≤ 4096 ∧ okW p.2) (hL : L.length = 5) (hs : ∀ x ∈ L, x.size = 2 ∧ x.isAgg = true)
    (hb : FnOk Tryz.prog 12 [.v (arrV [ival p0, ival p1, ival p2, ival p3, ival p4])] [.v false (.agg L), .v true (.bool b)])
    (ht : b = true → ∀ x ∈ L, FnOk Tryz.prog 36 [.v x] [.v false x, .v true (.int .i64 0)]) :
    FnOk Tryz.prog 5 [.v (.agg [pV p0, pV p1, pV p2, pV p3, pV p4])] [.v false (if b = true then .agg L else arrV [0, 0, 0, 0, 0]), .v true (.int .i64 (if b = true then 0 else 4))] := by
  have hO := opened_ok [p0, p1, p2, p3, p4] (by simp) (fun p h => ⟨by have := (hp p h).1; omega, (hp p h).2⟩)
  rw [opR, if_neg (by rw [bigP_of fun p h => (hp p h).1]; simp)] at hO
  rw [show intsV [p0, p1, p2, p3, p4] = .sl 2 [pV p0, pV p1, pV p2, pV p3, pV p4] from rfl,
    show wholesV (List.map ival [p0, p1, p2, p3, p4], true).1 = .sl 2 [pV (zp (ival p0)), pV (zp (ival p1)), pV (zp (ival p2)), pV (zp (ival p3)), pV (zp (ival p4))] from rfl] at hO
  simp only at hO
  rw [show arrV [ival p0, ival p1, ival p2, ival p3, ival p4] = .agg [pV (zp (ival p0)), pV (zp (ival p1)), pV (zp (ival p2)), pV (zp (ival p3)), pV (zp (ival p4))] from rfl] at hb
  obtain ⟨W, hW⟩ : ∃ W, W = V.agg [pV (zp (ival p0)), pV (zp (ival p1)), pV (zp (ival p2)), pV (zp (ival p3)), pV (zp (ival p4))] := ⟨_, rfl⟩
  obtain ⟨z0, hz0⟩ : ∃ z, z = pV (zp (ival p0)) := ⟨_, rfl⟩
  obtain ⟨z1, hz1⟩ : ∃ z, z = pV (zp (ival p1)) := ⟨_, rfl⟩
  obtain ⟨z2, hz2⟩ : ∃ z, z = pV (zp (ival p2)) := ⟨_, rfl⟩
  obtain ⟨z3, hz3⟩ : ∃ z, z = pV (zp (ival p3)) := ⟨_, rfl⟩
  obtain ⟨z4, hz4⟩ : ∃ z, z = pV (zp (ival p4)) := ⟨_, rfl⟩
  have s0 : z0.size = 2 := by rw [hz0]; rfl
  have s1 : z1.size = 2 := by rw [hz1]; rfl
  have s2 : z2.size = 2 := by rw [hz2]; rfl
  have s3 : z3.size = 2 := by rw [hz3]; rfl
  have s4 : z4.size = 2 := by rw [hz4]; rfl
  rw [← hz0, ← hz1, ← hz2, ← hz3, ← hz4] at hO hb
  clear hW hz0 hz1 hz2 hz3 hz4
  have sL : V.sizes L = 10 := by
    obtain ⟨a, b, c, d, f, rfl⟩ : ∃ a b c d f, L = [a, b, c, d, f] := by
      match L, hL with
      | [a, b, c, d, f], _ => exact ⟨a, b, c, d, f, rfl⟩
    simp only [V.sizes, (hs a (by simp)).1, (hs b (by simp)).1, (hs c (by simp)).1, (hs d (by simp)).1, (hs f (by simp)).1]
  refine FnOk.of Tryz.func5 rfl rfl fun cx w0 => ?_
  rw [show Tryz.f5.ntmps = 29 from rfl]
  refine Holds.step (Px := px) (T := TT) (ρ := fun _ => []) TTe (by simp (maxSteps := 100000) (disch := omega) only [go_sem, V.isAgg, V.flat, ↓reduceIte, Nat.reduceAdd, Nat.reduceSub, Nat.reduceLT, Nat.reduceEqDiff, reduceCtorEq, Nat.reduceLeDiff, Nat.reduceBEq, Nat.reduceMul, Int.reduceToNat, List.length_cons, List.length_nil]; rfl) (by repeat' first | exact trivial | constructor) ?_
  refine Holds.step (Px := px) (T := TT) (ρ := fun _ => [.v true (.sl 2 [z0, z1, z2, z3, z4]), .v true (.bool true)]) TTe (by simp (maxSteps := 100000) (disch := omega) only [go_sem, V.isAgg, V.flat, ↓reduceIte, Nat.reduceAdd, Nat.reduceSub, Nat.reduceLT, Nat.reduceEqDiff, reduceCtorEq, Nat.reduceLeDiff, Nat.reduceBEq, Nat.reduceMul, Int.reduceToNat, -V.isAgg, -V.flat, isAgg_agg, isAgg_int, isAgg_bool, isAgg_sl, flat_agg, flat_int, flat_bool, flat_sl, pV_size, pV_agg]; rfl) (by first | exact hO | (repeat' first | exact trivial | exact hO | constructor)) ?_
  refine Holds.next (fun σ => ∀ a w, Rel cx w0 σ a w → Rel cx w0 { nt := 29, env := [(4, .v true (.sl 2 [z0, z1, z2, z3, z4])), (2, .ptr 2 0 [] 0)], mem := [(2, .box 27 (.v true (.agg [.agg [.bool false, .sl 1 []], .agg [.bool false, .sl 1 []], .agg [.bool false, .sl 1 []], .agg [.bool false, .sl 1 []], .agg [.bool false, .sl 1 []]])))] } a w) ?_ ?_
  · refine Holds.step (Px := px) (T := TT) (ρ := fun _ => []) TTe (by simp (maxSteps := 100000) (disch := omega) only [go_sem, V.isAgg, V.flat, ↓reduceIte, Nat.reduceAdd, Nat.reduceSub, Nat.reduceLT, Nat.reduceEqDiff, reduceCtorEq, Nat.reduceLeDiff, Nat.reduceBEq, Nat.reduceMul, Int.reduceToNat, unA]; rfl) (by repeat' first | exact trivial | constructor) ?_
    exact Holds.condF rfl (Holds.skip fun a w h => Rel.keep [4, 2] [2] h)
  · intro σ hσ
    refine Holds.from hσ ?_
    refine Holds.step (Px := px) (T := TT) (ρ := fun _ => [.v false (.agg L), .v true (.bool b)]) TTe (by simp (maxSteps := 100000) (disch := omega) only [go_sem, V.isAgg, V.flat, ↓reduceIte, Nat.reduceAdd, Nat.reduceSub, Nat.reduceLT, Nat.reduceEqDiff, reduceCtorEq, Nat.reduceLeDiff, Nat.reduceBEq, Nat.reduceMul, Int.reduceToNat, -V.isAgg, -V.flat, isAgg_agg, isAgg_int, isAgg_bool, isAgg_sl, flat_agg, flat_int, flat_bool, flat_sl, arrA, s0, s1, s2, s3, s4, sL]; rfl) (by first | exact hb | (repeat' first | exact trivial | exact hb | constructor)) ?_
    cases b
    · refine Holds.seq ?_
      refine Holds.step (Px := px) (T := TT) (ρ := fun _ => []) TTe (by simp (maxSteps := 100000) (disch := omega) only [go_sem, V.isAgg, V.flat, ↓reduceIte, Nat.reduceAdd, Nat.reduceSub, Nat.reduceLT, Nat.reduceEqDiff, reduceCtorEq, Nat.reduceLeDiff, Nat.reduceBEq, Nat.reduceMul, Int.reduceToNat, unA]; rfl) (by repeat' first | exact trivial | constructor) ?_
      refine Holds.condT rfl ?_
      refine Holds.step (Px := px) (T := TT) (ρ := fun _ => []) TTe (by simp (maxSteps := 100000) (disch := omega) only [go_sem, V.isAgg, V.flat, ↓reduceIte, Nat.reduceAdd, Nat.reduceSub, Nat.reduceLT, Nat.reduceEqDiff, reduceCtorEq, Nat.reduceLeDiff, Nat.reduceBEq, Nat.reduceMul, Int.reduceToNat]; rfl) (by repeat' first | exact trivial | constructor) ?_
      exact Holds.ret (RetOk.vs (show resAVs Tryz.prog _ _ [ResultVar.cell 2 27, ResultVar.tmp 3] = _ from by simp (maxSteps := 100000) (disch := omega) only [resAVs, AV.isPtr, go_sem, V.isAgg, V.flat, ↓reduceIte, Nat.reduceAdd, Nat.reduceSub, Nat.reduceLT, Nat.reduceEqDiff, reduceCtorEq, Nat.reduceLeDiff, Nat.reduceBEq, Nat.reduceMul, Int.reduceToNat]; rfl) (by exact ⟨⟨rfl, fun h => by cases h⟩, ⟨rfl, fun h => h⟩, trivial⟩) rfl)
    · have hA := all_ok L hL fun x hx => ⟨(hs x hx).1, (hs x hx).2, ht rfl x hx⟩
      refine Holds.seq ?_
      refine Holds.step (Px := px) (T := TT) (ρ := fun _ => []) TTe (by simp (maxSteps := 100000) (disch := omega) only [go_sem, V.isAgg, V.flat, ↓reduceIte, Nat.reduceAdd, Nat.reduceSub, Nat.reduceLT, Nat.reduceEqDiff, reduceCtorEq, Nat.reduceLeDiff, Nat.reduceBEq, Nat.reduceMul, Int.reduceToNat, unA]; rfl) (by repeat' first | exact trivial | constructor) ?_
      refine Holds.condF rfl (Holds.skip ?_)
      show Holds _ _ _ _ _ _ _
      refine Holds.step (Px := px) (T := TT) (ρ := fun _ => [.v false (.agg L), .v true (.int .i64 0)]) TTe (by simp (maxSteps := 100000) (disch := omega) only [go_sem, V.isAgg, V.flat, ↓reduceIte, Nat.reduceAdd, Nat.reduceSub, Nat.reduceLT, Nat.reduceEqDiff, reduceCtorEq, Nat.reduceLeDiff, Nat.reduceBEq, Nat.reduceMul, Int.reduceToNat, -V.isAgg, -V.flat, isAgg_agg, isAgg_int, isAgg_bool, isAgg_sl, flat_agg, flat_int, flat_bool, flat_sl, sL]; rfl) (by first | exact hA | (repeat' first | exact trivial | exact hA | constructor)) ?_
      exact Holds.ret (RetOk.vs (show resAVs Tryz.prog _ _ [ResultVar.cell 2 27, ResultVar.tmp 3] = _ from by simp (maxSteps := 100000) (disch := omega) only [resAVs, AV.isPtr, go_sem, V.isAgg, V.flat, ↓reduceIte, Nat.reduceAdd, Nat.reduceSub, Nat.reduceLT, Nat.reduceEqDiff, reduceCtorEq, Nat.reduceLeDiff, Nat.reduceBEq, Nat.reduceMul, Int.reduceToNat, -V.isAgg, -V.flat, isAgg_agg, isAgg_int, isAgg_bool, isAgg_sl, flat_agg, flat_int, flat_bool, flat_sl, sL]; rfl) (by exact ⟨⟨rfl, fun h => by cases h⟩, ⟨rfl, fun h => h⟩, trivial⟩) rfl)

theorem Back_vals (M : Nat) (hM : M ≤ 4096) (p0 p1 p2 p3 p4 : Bool × List Int) (c0 c1 c2 c3 c4 : Int) (hp : ∀ p ∈ [p0, p1, p2, p3, p4], p.2.length ≤ 4000 ∧ okW p.2) (hc : ∀ c ∈ [c0, c1, c2, c3, c4], c.natAbs < 18446744073709551616 ^ M)
    (e0 : ival p0 = c0) (e1 : ival p1 = c0 + c1 + c2 + c3 + c4) (e2 : ival p2 = c0 - c1 + c2 - c3 + c4) (e3 : ival p3 = c0 + 2 * c1 + 4 * c2 + 8 * c3 + 16 * c4) (e4 : ival p4 = c4) :
    FnOk Tryz.prog 5 [.v (.agg [pV p0, pV p1, pV p2, pV p3, pV p4])] [.v false (arrV [c0, c1, c2, c3, c4]), .v true (.int .i64 0)] := by
  obtain ⟨K, hK⟩ : ∃ K, K = 4000 := ⟨_, rfl⟩
  have hlen : ∀ p ∈ [p0, p1, p2, p3, p4], p.2.length ≤ 4096 ∧ okW p.2 := fun p h => ⟨by have := (hp p h).1; omega, (hp p h).2⟩
  rw [← hK] at hp
  have hlt : ∀ p ∈ [p0, p1, p2, p3, p4], (ival p).natAbs < 18446744073709551616 ^ K := fun p h => ival_lt (hp p h).1 (hp p h).2
  have h := Back_of p0 p1 p2 p3 p4 ([c0, c1, c2, c3, c4].map fun z => pV (zp z)) true hlen rfl (fun x hx => by
    obtain ⟨z, _, rfl⟩ := List.mem_map.1 hx
    exact ⟨rfl, rfl⟩) (back_vals c0 c1 c2 c3 c4 _ _ _ _ _ K (by omega) (hlt p0 (by simp)) (hlt p1 (by simp)) (hlt p2 (by simp)) (hlt p3 (by simp)) (hlt p4 (by simp)) e0 e1 e2 e3 e4) (fun _ x hx => by
    obtain ⟨z, hz, rfl⟩ := List.mem_map.1 hx
    exact told_ok z M hM (hc z hz))
  exact h
end Go.Proofs.YtjmclobbfabnpaaGreat.L
