/-
  Va Vb
-/
import Derived.Test.YtjmclobbfabnpaaGreatQ2
set_option linter.unusedSimpArgs false
set_option linter.unusedVariables false
/-
  The reference's divisions by a small number.
-/
namespace Go.Proofs.YtjmclobbfabnpaaGreat.L
open Go Go.RowKit Go.Proofs
attribute [local go_sem] evalOps_nil evalOps_cons runW_t runW_f runE_s runP_s wantA evalOp effOp letters okDst coreA St.opv St.get St.at look constA St.put St.upd St.set decide_true List.all_nil List.all_cons Bool.and_true Bool.true_and and_self and_true true_and if_true if_false true_or Int.sub_zero List.nil_append List.cons_append List.append_nil Option.isSome_some List.getElem?_toArray List.getElem?_cons_succ List.getElem?_cons_zero Option.bind_some Option.map_some Option.map_none beq_self_eq_true Bool.false_beq Bool.true_beq Bool.not_true Bool.not_false Bool.false_eq_true cond_true cond_false binA binI List.map_cons List.map_nil boundA List.length_nil List.length_cons Nat.zero_mul Nat.one_mul Nat.mul_one Nat.zero_add Nat.add_zero Nat.zero_le Option.toList St.freshB AV.ment AV.ments Blk.ment V.sizes Nat.lt_add_one Bool.or_true Bool.true_or Bool.or_false Bool.false_or Bool.or_self if_pos if_neg decide_false decide_eq_true decide_eq_false wrap_i64 Int.toNat_natCast minA maxA Int.natCast_add Int.cast_ofNat_Int Option.isSome_none false_implies true_implies forall_const List.drop_zero Int.toNat_zero Int.add_sub_cancel lenA sliceA loadA indexAddrA partA fitsT V.atP V.offP V.size List.length_map List.getElem?_map Int.toNat_natCast_add_one Int.ofNat_eq_natCast TY calleeA capArg knotA capArgs toArgs toArg callA R.res R.mems R.blks R.av R.names R.nw invokeA storeA storeV fieldAddrA liveB V.off V.offs V.setP List.set_cons_zero List.set_cons_succ buildA buildP partsA appendA srcA copyA boxOk makeA AV.pure List.take_succ_cons List.take_zero nilA words entry List.zipIdx_cons List.zipIdx_nil Arg.av Arg.avs

/-- The digits of a quotient by a digit, and the rest. -/
def dvH (k : Nat) : List Int → List Int × Nat
  | [] => ([], 0)
  | a :: r => ((((dvH k r).2 * 4294967296 + a.toNat) / k : Nat) :: (dvH k r).1, ((dvH k r).2 * 4294967296 + a.toNat) % k)
theorem dvH_ok {k : Nat} (hk : 0 < k) : ∀ {x : List Int}, okH x → (dvH k x).2 < k ∧ okH (dvH k x).1 ∧ (dvH k x).1.length = x.length ∧ valH (dvH k x).1 * k + (dvH k x).2 = valH x
  | [], _ => ⟨hk, (fun n hn => by cases hn), rfl, by simp [dvH, valH]⟩
  | a :: r, o => by
    obtain ⟨h1, h2, h3, h4⟩ := dvH_ok hk (x := r) fun n hn => o n (by simp [hn])
    have ha := o a (by simp)
    obtain ⟨s, hs⟩ : ∃ s, s = (dvH k r).2 := ⟨_, rfl⟩
    obtain ⟨W, hW⟩ : ∃ W, W = (dvH k r).1 := ⟨_, rfl⟩
    have e : dvH k (a :: r) = ((((s * 4294967296 + a.toNat) / k : Nat) : Int) :: W, (s * 4294967296 + a.toNat) % k) := by rw [dvH, hs, hW]
    rw [← hs] at h1 h4
    rw [← hW] at h2 h3 h4
    rw [e]
    have hq : (s * 4294967296 + a.toNat) / k < 4294967296 := by
      refine (Nat.div_lt_iff_lt_mul hk).2 ?_
      have : (s + 1) * 4294967296 ≤ k * 4294967296 := Nat.mul_le_mul_right _ h1
      omega
    refine ⟨Nat.mod_lt _ hk, fun n hn => ?_, by simp [h3], ?_⟩
    · rcases List.mem_cons.1 hn with rfl | hn
      · obtain ⟨q, hq'⟩ : ∃ q, q = (s * 4294967296 + a.toNat) / k := ⟨_, rfl⟩
        rw [← hq'] at hq ⊢
        omega
      · exact h2 n hn
    · have hd := Nat.div_add_mod (s * 4294967296 + a.toNat) k
      simp only [valH, Int.toNat_natCast]
      rw [← h4, Nat.add_mul, Nat.mul_comm _ k, Nat.mul_add, Nat.mul_assoc]
      omega
theorem dvH_drop {k j : Nat} {x : List Int} (h : j < x.length) : dvH k (x.drop j) = (((((dvH k (x.drop (j + 1))).2 * 4294967296 + (x.getD j 0).toNat) / k : Nat) : Int) :: (dvH k (x.drop (j + 1))).1, ((dvH k (x.drop (j + 1))).2 * 4294967296 + (x.getD j 0).toNat) % k) := by
  rw [List.drop_eq_getElem_cons h, dvH, List.getD_eq_getElem?_getD, List.getElem?_eq_getElem h]; rfl
theorem dvH_val {k : Nat} (hk : 0 < k) {x : List Int} (o : okH x) : valH (dvH k x).1 = valH x / k ∧ (dvH k x).2 = valH x % k := by
  obtain ⟨h1, _, _, h4⟩ := dvH_ok hk o
  obtain ⟨v, hv⟩ : ∃ v, v = valH (dvH k x).1 := ⟨_, rfl⟩
  obtain ⟨s, hs⟩ : ∃ s, s = (dvH k x).2 := ⟨_, rfl⟩
  rw [← hv, ← hs] at h4
  rw [← hs] at h1
  rw [← hv, ← hs, ← h4, Nat.mul_comm v k]
  exact ⟨by rw [Nat.mul_add_div hk, Nat.div_eq_of_lt h1, Nat.add_zero], by rw [Nat.mul_add_mod, Nat.mod_eq_of_lt h1]⟩

theorem one_ok (x : List Int) (k : Nat) (hx : x.length < 1000000) (ox : okH x) (hk : 0 < k) (hk2 : k < 4294967296) : FnOk Tryz.prog 84 [.v (words x), .v (.int .u64 k)] [.v true (words (dvH k x).1), .v true (words [((dvH k x).2 : Int)])] := by
  obtain ⟨_, ow, lw, _⟩ := dvH_ok hk ox
  have hk0 : ¬ (k : Int) = 0 := by omega
  refine FnOk.of Tryz.func84 rfl rfl fun cx w0 => ?_
  rw [show Tryz.f84.ntmps = 38 from rfl]
  refine Holds.step (Px := px) (T := TT) (ρ := fun _ => []) TTe (by simp (maxSteps := 100000) (disch := omega) only [go_sem, V.isAgg, V.flat, ↓reduceIte, Nat.reduceAdd, Nat.reduceSub, Nat.reduceLT, Nat.reduceEqDiff, reduceCtorEq, Nat.reduceLeDiff, Nat.reduceBEq, Nat.reduceMul, Int.reduceToNat, List.length_cons, List.length_nil]; rfl) (by repeat' first | exact trivial | constructor) ?_
  refine Holds.step (Px := px) (T := TT) (ρ := fun _ => []) TTe (by simp (maxSteps := 100000) (disch := omega) only [go_sem, V.isAgg, V.flat, ↓reduceIte, Nat.reduceAdd, Nat.reduceSub, Nat.reduceLT, Nat.reduceEqDiff, reduceCtorEq, Nat.reduceLeDiff, Nat.reduceBEq, Nat.reduceMul, Int.reduceToNat]; rfl) (by repeat' first | exact trivial | constructor) ?_
  refine Holds.step (Px := px) (T := TT) (ρ := fun _ => []) TTe (by simp (maxSteps := 100000) (disch := omega) only [go_sem, V.isAgg, V.flat, ↓reduceIte, Nat.reduceAdd, Nat.reduceSub, Nat.reduceLT, Nat.reduceEqDiff, reduceCtorEq, Nat.reduceLeDiff, Nat.reduceBEq, Nat.reduceMul, Int.reduceToNat]; rfl) (by repeat' first | exact trivial | constructor) ?_
  refine Holds.next (fun σ => ∀ a w, Rel cx w0 σ a w → Rel cx w0 { nt := 38, env := [(7, .v true (.int .u64 (dvH k x).2)), (6, .own 11 0 x.length)], mem := [(11, .buf 52 1 true ((dvH k x).1.map fun n => .int .u64 n))] } a w) ?_ ?_
  · refine Holds.step (Px := px) (T := TT) (ρ := fun _ => []) TTe (by simp (maxSteps := 100000) (disch := omega) only [go_sem, V.isAgg, V.flat, ↓reduceIte, Nat.reduceAdd, Nat.reduceSub, Nat.reduceLT, Nat.reduceEqDiff, reduceCtorEq, Nat.reduceLeDiff, Nat.reduceBEq, Nat.reduceMul, Int.reduceToNat]; rfl) (by repeat' first | exact trivial | constructor) ?_
    refine Holds.loopB (fun j : Nat => { nt := 38, env := [(8, .v true (.int .i64 ((j : Int) - 1))), (7, .v true (.int .u64 (dvH k (x.drop j)).2)), (6, .own 11 0 x.length), (0, .v false (words x)), (1, .v true (.int .u64 k))], mem := [(11, .buf 52 1 true ((List.replicate j 0 ++ (dvH k (x.drop j)).1).map fun n => .int .u64 n))] }) (fun j => j ≤ x.length) id x.length (Nat.le_refl _) (fun a w h => by
      have := Rel.keep [8, 7, 6, 0, 1] [11] h
      rw [List.drop_length]
      show Rel _ _ { nt := 38, env := _, mem := [(11, .buf 52 1 true ((List.replicate x.length (0 : Int) ++ []).map fun n => .int .u64 n))] } _ _
      rw [List.append_nil, List.map_replicate]
      exact this) ?_
    intro j hj
    rcases j with _ | j
    · refine Holds.seq ?_
      refine Holds.step (Px := px) (T := TT) (ρ := fun _ => []) TTe (by simp (maxSteps := 100000) (disch := omega) only [go_sem, V.isAgg, V.flat, ↓reduceIte, Nat.reduceAdd, Nat.reduceSub, Nat.reduceLT, Nat.reduceEqDiff, reduceCtorEq, Nat.reduceLeDiff, Nat.reduceBEq, Nat.reduceMul, Int.reduceToNat]; rfl) (by repeat' first | exact trivial | constructor) ?_
      refine Holds.condF rfl (Holds.exit ⟨rfl, fun a w h => ?_⟩)
      exact Rel.keep [7, 6] [11] h
    · have hjx : j < x.length := by omega
      have gx := get_map hjx
      have hx0 := okH_getD ox j
      have ho : okH (x.drop (j + 1)) := fun n hn => ox n (List.mem_of_mem_drop hn)
      obtain ⟨r1, r2, r3, _⟩ := dvH_ok hk ho
      have hd := dvH_drop (k := k) hjx
      obtain ⟨s, hs⟩ : ∃ s, s = (dvH k (x.drop (j + 1))).2 := ⟨_, rfl⟩
      obtain ⟨W, hW⟩ : ∃ W, W = (dvH k (x.drop (j + 1))).1 := ⟨_, rfl⟩
      rw [← hs] at r1 hd
      rw [← hW] at r3 hd
      rw [← hs, ← hW]
      obtain ⟨d, hdd⟩ : ∃ d : Nat, d = (x.getD j 0).toNat := ⟨_, rfl⟩
      rw [← hdd] at hd
      rw [show x.getD j 0 = (d : Int) from by omega] at gx
      obtain ⟨t, ht⟩ : ∃ t, t = s * 4294967296 + d := ⟨_, rfl⟩
      rw [← ht] at hd
      have ht64 : t < 18446744073709551616 := by omega
      have w1 : IntKind.u64.wrap ((s : Int) * 4294967296) = ((s * 4294967296 : Nat) : Int) := by rw [wrap_u64]; omega
      have w2 : IntKind.u64.wrap (((s * 4294967296 : Nat) : Int) + (d : Int)) = (t : Int) := by rw [wrap_u64]; omega
      have w3 := quoN t k
      have w4 : IntKind.u64.wrap ((t / k : Nat) : Int) = ((t / k : Nat) : Int) := wrapN _ (Nat.lt_of_le_of_lt (Nat.div_le_self _ _) ht64)
      have w5 := remN t k
      obtain ⟨q, hq⟩ : ∃ q, q = t / k := ⟨_, rfl⟩
      obtain ⟨r, hr⟩ : ∃ r, r = t % k := ⟨_, rfl⟩
      rw [← hq, ← hr] at hd
      rw [← hq] at w3 w4
      rw [← hr] at w5
      rw [List.length_drop] at r3
      have hLl : (List.replicate (j + 1) (0 : Int) ++ W).length = x.length := by rw [List.length_append, List.length_replicate, r3]; omega
      have eset : (List.replicate (j + 1) (0 : Int) ++ W).set j (q : Int) = List.replicate j 0 ++ (q : Int) :: W := by
        rw [show List.replicate (j + 1) (0 : Int) = List.replicate j 0 ++ [0] from by rw [List.replicate_succ'], List.append_assoc, List.set_append_right _ _ (by rw [List.length_replicate]; exact Nat.le_refl _), List.length_replicate, Nat.sub_self]
        rfl
      obtain ⟨Lw, hL⟩ : ∃ Lw, Lw = List.replicate (j + 1) (0 : Int) ++ W := ⟨_, rfl⟩
      rw [← hL] at hLl eset ⊢
      have gL := get_map (l := Lw) (i := j) (by omega)
      refine Holds.seq ?_
      refine Holds.step (Px := px) (T := TT) (ρ := fun _ => []) TTe (by simp (maxSteps := 100000) (disch := omega) only [go_sem, V.isAgg, V.flat, ↓reduceIte, Nat.reduceAdd, Nat.reduceSub, Nat.reduceLT, Nat.reduceEqDiff, reduceCtorEq, Nat.reduceLeDiff, Nat.reduceBEq, Nat.reduceMul, Int.reduceToNat]; rfl) (by repeat' first | exact trivial | constructor) ?_
      refine Holds.condT rfl (Holds.skip ?_)
      refine Holds.next (fun σ => ∀ a w, Rel cx w0 σ a w → Rel cx w0 { nt := 38, env := [(8, .v true (.int .i64 (j : Int))), (7, .v true (.int .u64 r)), (6, .own 11 0 x.length), (0, .v false (words x)), (1, .v true (.int .u64 k))], mem := [(11, .buf 52 1 true ((Lw.set j (q : Int)).map fun n => .int .u64 n))] } a w) ?_ ?_
      · refine Holds.blockN ?_
        refine Holds.step (Px := px) (T := TT) (ρ := fun _ => []) TTe (by simp (maxSteps := 100000) (disch := omega) only [go_sem, V.isAgg, V.flat, ↓reduceIte, Nat.reduceAdd, Nat.reduceSub, Nat.reduceLT, Nat.reduceEqDiff, reduceCtorEq, Nat.reduceLeDiff, Nat.reduceBEq, Nat.reduceMul, Int.reduceToNat, gx, w1, w2]; rfl) (by repeat' first | exact trivial | constructor) ?_
        refine Holds.step (Px := px) (T := TT) (ρ := fun _ => []) TTe (by simp (maxSteps := 100000) (disch := omega) only [go_sem, V.isAgg, V.flat, ↓reduceIte, Nat.reduceAdd, Nat.reduceSub, Nat.reduceLT, Nat.reduceEqDiff, reduceCtorEq, Nat.reduceLeDiff, Nat.reduceBEq, Nat.reduceMul, Int.reduceToNat, hk0, w3, w4, gL, hLl]; rfl) (by repeat' first | exact trivial | constructor) ?_
        refine Holds.region (Px := px) (T := TT) (ρ := fun _ => []) TTe (by simp (maxSteps := 100000) (disch := omega) only [go_sem, V.isAgg, V.flat, ↓reduceIte, Nat.reduceAdd, Nat.reduceSub, Nat.reduceLT, Nat.reduceEqDiff, reduceCtorEq, Nat.reduceLeDiff, Nat.reduceBEq, Nat.reduceMul, Int.reduceToNat, hk0, w5]; rfl) (by repeat' first | exact trivial | constructor) ?_
        intro a w h
        have := Rel.keep [8, 7, 6, 0, 1] [11] h
        rw [List.map_set]
        exact this
      · intro σ hσ
        refine Holds.from hσ ?_
        refine Holds.region (Px := px) (T := TT) (ρ := fun _ => []) TTe (by simp (maxSteps := 100000) (disch := omega) only [go_sem, V.isAgg, V.flat, ↓reduceIte, Nat.reduceAdd, Nat.reduceSub, Nat.reduceLT, Nat.reduceEqDiff, reduceCtorEq, Nat.reduceLeDiff, Nat.reduceBEq, Nat.reduceMul, Int.reduceToNat]; rfl) (by repeat' first | exact trivial | constructor) ?_
        refine ⟨j, (by show j ≤ x.length; omega), (show j < j + 1 by omega), fun a w h => ?_⟩
        have := Rel.keep [8, 7, 6, 0, 1] [11] h
        rw [eset] at this
        simp only [hd]
        exact this
  · intro σ hσ
    refine Holds.from hσ ?_
    have htk : List.take x.length (List.map (fun n => V.int .u64 n) (dvH k x).1) = List.map (fun n => V.int .u64 n) (dvH k x).1 := List.take_of_length_le (by rw [List.length_map]; omega)
    refine Holds.step (Px := px) (T := TT) (ρ := fun _ => []) TTe (by simp (maxSteps := 100000) (disch := omega) only [go_sem, V.isAgg, V.flat, ↓reduceIte, Nat.reduceAdd, Nat.reduceSub, Nat.reduceLT, Nat.reduceEqDiff, reduceCtorEq, Nat.reduceLeDiff, Nat.reduceBEq, Nat.reduceMul, Int.reduceToNat]; rfl) (by repeat' first | exact trivial | constructor) ?_
    exact Holds.ret ⟨_, [], rfl, ⟨⟨rfl, by rw [List.drop_zero, htk], fun h => h, rfl⟩, ⟨rfl, rfl, fun h => h, rfl⟩, trivial⟩, by simp [R.names, R.mems, R.blks], by simp, rfl⟩

theorem Divide1_ok (x y : List Int) (k : Nat) (hx : x.length < 1000000) (ox : okH x) (hk : 0 < k) (hk2 : k < 4294967296) (hy : y.length < 1000) (ht : trimL y = [(k : Int)]) :
    FnOk Tryz.prog 79 [.v (words x), .v (words y)] [.v true (words (dvH k x).1), .v true (words [((dvH k x).2 : Int)])] := by
  have h1 := Short_ok y (by omega)
  rw [ht] at h1
  have h2 := one_ok x k hx ox hk hk2
  rw [show words [(k : Int)] = .sl 1 [.int .u64 k] from rfl] at h1
  obtain ⟨Q, hQ⟩ : ∃ Q, Q = (dvH k x).1 := ⟨_, rfl⟩
  obtain ⟨r, hr⟩ : ∃ r, r = [((dvH k x).2 : Int)] := ⟨_, rfl⟩
  rw [← hQ, ← hr] at h2 ⊢
  refine FnOk.of Tryz.func79 rfl rfl fun cx w0 => ?_
  rw [show Tryz.f79.ntmps = 163 from rfl]
  refine Holds.step (Px := px) (T := TT) (ρ := fun _ => []) TTe (by simp (maxSteps := 100000) (disch := omega) only [go_sem, V.isAgg, V.flat, ↓reduceIte, Nat.reduceAdd, Nat.reduceSub, Nat.reduceLT, Nat.reduceEqDiff, reduceCtorEq, Nat.reduceLeDiff, Nat.reduceBEq, Nat.reduceMul, Int.reduceToNat, List.length_cons, List.length_nil]; rfl) (by repeat' first | exact trivial | constructor) ?_
  refine Holds.step (Px := px) (T := TT) (ρ := fun _ => [.v false (.sl 1 [.int .u64 k])]) TTe (by simp (maxSteps := 100000) (disch := omega) only [go_sem, V.isAgg, V.flat, ↓reduceIte, Nat.reduceAdd, Nat.reduceSub, Nat.reduceLT, Nat.reduceEqDiff, reduceCtorEq, Nat.reduceLeDiff, Nat.reduceBEq, Nat.reduceMul, Int.reduceToNat]; rfl) (by first | exact h1 | (repeat' first | exact trivial | exact h1 | constructor)) ?_
  refine Holds.seq ?_
  refine Holds.step (Px := px) (T := TT) (ρ := fun _ => []) TTe (by simp (maxSteps := 100000) (disch := omega) only [go_sem, V.isAgg, V.flat, ↓reduceIte, Nat.reduceAdd, Nat.reduceSub, Nat.reduceLT, Nat.reduceEqDiff, reduceCtorEq, Nat.reduceLeDiff, Nat.reduceBEq, Nat.reduceMul, Int.reduceToNat]; rfl) (by repeat' first | exact trivial | constructor) ?_
  refine Holds.condT rfl ?_
  refine Holds.step (Px := px) (T := TT) (ρ := fun _ => [.v true (words Q), .v true (words r)]) TTe (by simp (maxSteps := 100000) (disch := omega) only [go_sem, V.isAgg, V.flat, ↓reduceIte, Nat.reduceAdd, Nat.reduceSub, Nat.reduceLT, Nat.reduceEqDiff, reduceCtorEq, Nat.reduceLeDiff, Nat.reduceBEq, Nat.reduceMul, Int.reduceToNat]; rfl) (by first | exact h2 | (repeat' first | exact trivial | exact h2 | constructor)) ?_
  exact Holds.ret (RetOk.vs rfl (by exact ⟨⟨rfl, fun h => h⟩, ⟨rfl, fun h => h⟩, trivial⟩) rfl)

theorem DivMod1_ok (x : List Int) (k : Nat) (hx : x.length < 100000) (ox : okW x) (hk : 0 < k) (hk2 : k < 4294967296) :
    FnOk Tryz.prog 65 [.v (words x), .v (words (digs k))] [.v true (words (digs (val x / k))), .v true (words (digs (val x % k)))] := by
  have h1 := Digits_ok x (by omega) ox
  have ed : digs k = [(k : Int)] := by
    have o : okW [(k : Int)] := fun n hn => by rw [List.mem_singleton] at hn; rw [hn]; omega
    have z : noZ [(k : Int)] := by show (k : Int) ≠ 0; omega
    have := digs_of o z
    rw [this]
    simp [val]
  have eg : digL [(k : Int)] = [(k : Int), 0] := by
    show [(k : Int) % 4294967296, (k : Int) / 4294967296] = _
    rw [show (k : Int) % 4294967296 = k from by omega, show (k : Int) / 4294967296 = 0 from by omega]
  have et : trimL [(k : Int), 0] = [(k : Int)] := by
    have o : okW [(k : Int), 0] := fun n hn => by
      simp only [List.mem_cons, List.not_mem_nil, or_false] at hn
      rcases hn with rfl | rfl <;> omega
    rw [trim_digs o, ← ed]
    simp [val]
  have h2 := Digits_ok (digs k) (by rw [ed]; simp) (digs_ok k).1
  rw [ed, eg] at h2
  have lx := digL_len x
  have h3 := Divide1_ok (digL x) [(k : Int), 0] k (by omega) (digL_ok ox) hk hk2 (by simp) et
  obtain ⟨d1, d2, d3, _⟩ := dvH_ok hk (digL_ok ox)
  obtain ⟨v1, v2⟩ := dvH_val hk (digL_ok ox)
  rw [val_dig ox] at v1 v2
  have h4 := nat_ok (dvH k (digL x)).1 (by omega) d2
  rw [v1] at h4
  have or : okH [((dvH k (digL x)).2 : Int)] := fun n hn => by rw [List.mem_singleton] at hn; rw [hn]; omega
  have h5 := nat_ok [((dvH k (digL x)).2 : Int)] (by simp) or
  rw [show valH [((dvH k (digL x)).2 : Int)] = val x % k from by rw [← v2]; simp only [valH, Int.toNat_natCast]; omega] at h5
  rw [ed]
  obtain ⟨Q, hQ⟩ : ∃ Q, Q = (dvH k (digL x)).1 := ⟨_, rfl⟩
  obtain ⟨r, hr⟩ : ∃ r, r = [((dvH k (digL x)).2 : Int)] := ⟨_, rfl⟩
  rw [← hQ] at h3 h4
  rw [← hr] at h3 h5
  obtain ⟨D, hD⟩ : ∃ D, D = digL x := ⟨_, rfl⟩
  rw [← hD] at h1 h3
  obtain ⟨U, hU⟩ : ∃ U, U = [(k : Int), 0] := ⟨_, rfl⟩
  rw [← hU] at h2 h3
  obtain ⟨Y, hY⟩ : ∃ Y, Y = [(k : Int)] := ⟨_, rfl⟩
  rw [← hY] at h2 ⊢
  refine FnOk.of Tryz.func65 rfl rfl fun cx w0 => ?_
  rw [show Tryz.f65.ntmps = 20 from rfl]
  refine Holds.step (Px := px) (T := TT) (ρ := fun _ => []) TTe (by simp (maxSteps := 100000) (disch := omega) only [go_sem, V.isAgg, V.flat, ↓reduceIte, Nat.reduceAdd, Nat.reduceSub, Nat.reduceLT, Nat.reduceEqDiff, reduceCtorEq, Nat.reduceLeDiff, Nat.reduceBEq, Nat.reduceMul, Int.reduceToNat, List.length_cons, List.length_nil]; rfl) (by repeat' first | exact trivial | constructor) ?_
  refine Holds.step (Px := px) (T := TT) (ρ := fun t => if t = 10 then [.v true (words D)] else if t = 12 then [.v true (words U)] else [.v true (words Q), .v true (words r)]) TTe (by simp (maxSteps := 100000) (disch := omega) only [go_sem, V.isAgg, V.flat, ↓reduceIte, Nat.reduceAdd, Nat.reduceSub, Nat.reduceLT, Nat.reduceEqDiff, reduceCtorEq, Nat.reduceLeDiff, Nat.reduceBEq, Nat.reduceMul, Int.reduceToNat]; rfl) (by first | exact ⟨h1, h2, h3⟩ | (repeat' first | exact trivial | exact h1 | exact h2 | exact h3 | constructor)) ?_
  refine Holds.step (Px := px) (T := TT) (ρ := fun t => if t = 17 then [.v true (words (digs (val x / k)))] else [.v true (words (digs (val x % k)))]) TTe (by simp (maxSteps := 100000) (disch := omega) only [go_sem, V.isAgg, V.flat, ↓reduceIte, Nat.reduceAdd, Nat.reduceSub, Nat.reduceLT, Nat.reduceEqDiff, reduceCtorEq, Nat.reduceLeDiff, Nat.reduceBEq, Nat.reduceMul, Int.reduceToNat]; rfl) (by first | exact ⟨h4, h5⟩ | (repeat' first | exact trivial | exact h4 | exact h5 | constructor)) ?_
  exact Holds.ret (RetOk.vs rfl (by exact ⟨⟨rfl, fun h => h⟩, ⟨rfl, fun h => h⟩, trivial⟩) rfl)

theorem Neg_ok (p : Bool × List Int) (hl : p.2.length < 100000) (ol : okW p.2) : FnOk Tryz.prog 37 [.v (pV p)] [.v true (pV (zp (-(ival p))))] := by
  obtain ⟨b, l⟩ := p
  have hM := Make_ok (!b) l hl ol
  rw [show ival (!b, l) = -(ival (b, l)) from by unfold ival; cases b <;> simp] at hM
  obtain ⟨Z, hZ⟩ : ∃ Z, Z = zp (-(ival (b, l))) := ⟨_, rfl⟩
  rw [← hZ] at hM ⊢
  refine FnOk.of Tryz.func37 rfl rfl fun cx w0 => ?_
  rw [show Tryz.f37.ntmps = 9 from rfl]
  refine Holds.step (Px := px) (T := TT) (ρ := fun _ => []) TTe (by simp (maxSteps := 100000) (disch := omega) only [go_sem, V.isAgg, V.flat, ↓reduceIte, Nat.reduceAdd, Nat.reduceSub, Nat.reduceLT, Nat.reduceEqDiff, reduceCtorEq, Nat.reduceLeDiff, Nat.reduceBEq, Nat.reduceMul, Int.reduceToNat, pV, List.length_cons, List.length_nil]; rfl) (by repeat' first | exact trivial | constructor) ?_
  refine Holds.step (Px := px) (T := TT) (ρ := fun _ => [.v true (pV Z)]) TTe (by simp (maxSteps := 100000) (disch := omega) only [go_sem, V.isAgg, V.flat, ↓reduceIte, Nat.reduceAdd, Nat.reduceSub, Nat.reduceLT, Nat.reduceEqDiff, reduceCtorEq, Nat.reduceLeDiff, Nat.reduceBEq, Nat.reduceMul, Int.reduceToNat, pV, unA]; rfl) (by first | exact hM | (repeat' first | exact trivial | exact hM | constructor)) ?_
  exact Holds.ret (RetOk.vs (show resAVs Tryz.prog _ _ [ResultVar.cell 2 26] = _ from by simp (maxSteps := 100000) (disch := omega) only [resAVs, AV.isPtr, go_sem, V.isAgg, V.flat, ↓reduceIte, Nat.reduceAdd, Nat.reduceSub, Nat.reduceLT, Nat.reduceEqDiff, reduceCtorEq, Nat.reduceLeDiff, Nat.reduceBEq, Nat.reduceMul, Int.reduceToNat, pV]; rfl) (by exact ⟨⟨rfl, fun h => h⟩, trivial⟩) rfl)

theorem SubI_ok (p q : Bool × List Int) (hp : p.2.length < 20000) (hq : q.2.length < 20000) (op : okW p.2) (oq : okW q.2) : FnOk Tryz.prog 14 [.v (pV p), .v (pV q)] [.v true (pV (zp (ival p - ival q)))] := by
  have h1 := Neg_ok q (by omega) oq
  have hl : (zp (-(ival q))).2.length ≤ q.2.length := zp_len (by
    rw [Int.natAbs_neg]
    exact ival_lt (Nat.le_refl _) oq)
  have h2 := AddI_ok p (zp (-(ival q))) hp (by omega) op (zp_ok _)
  rw [ival_zp, ← Int.sub_eq_add_neg] at h2
  obtain ⟨N, hN⟩ : ∃ N, N = zp (-(ival q)) := ⟨_, rfl⟩
  obtain ⟨Z, hZ⟩ : ∃ Z, Z = zp (ival p - ival q) := ⟨_, rfl⟩
  rw [← hN] at h1 h2
  rw [← hZ] at h2 ⊢
  refine FnOk.of Tryz.func14 rfl rfl fun cx w0 => ?_
  rw [show Tryz.f14.ntmps = 9 from rfl]
  refine Holds.step (Px := px) (T := TT) (ρ := fun _ => []) TTe (by simp (maxSteps := 100000) (disch := omega) only [go_sem, V.isAgg, V.flat, ↓reduceIte, Nat.reduceAdd, Nat.reduceSub, Nat.reduceLT, Nat.reduceEqDiff, reduceCtorEq, Nat.reduceLeDiff, Nat.reduceBEq, Nat.reduceMul, Int.reduceToNat, -V.isAgg, -V.flat, isAgg_agg, isAgg_int, isAgg_bool, isAgg_sl, flat_agg, flat_int, flat_bool, flat_sl, pV_size, pV_agg, List.length_cons, List.length_nil]; rfl) (by repeat' first | exact trivial | constructor) ?_
  refine Holds.dstep (Px := px) (T := TT) (ρ := fun t => if t = 7 then [.v true (pV N)] else [.v true (pV Z)]) [] mixed (by kernel_rfl) TTe (by simp (maxSteps := 100000) (disch := omega) only [go_sem, V.isAgg, V.flat, ↓reduceIte, Nat.reduceAdd, Nat.reduceSub, Nat.reduceLT, Nat.reduceEqDiff, reduceCtorEq, Nat.reduceLeDiff, Nat.reduceBEq, Nat.reduceMul, Int.reduceToNat, -V.isAgg, -V.flat, isAgg_agg, isAgg_int, isAgg_bool, isAgg_sl, flat_agg, flat_int, flat_bool, flat_sl, pV_size, pV_agg]; rfl) (by first | exact ⟨h1, h2⟩ | (repeat' first | exact trivial | exact h1 | exact h2 | constructor)) (by rfl) (by rfl) (by rfl) ?_
  exact Holds.ret (RetOk.vs (show resAVs Tryz.prog _ _ [ResultVar.cell 4 26] = _ from by simp (maxSteps := 100000) (disch := omega) only [resAVs, AV.isPtr, go_sem, V.isAgg, V.flat, ↓reduceIte, Nat.reduceAdd, Nat.reduceSub, Nat.reduceLT, Nat.reduceEqDiff, reduceCtorEq, Nat.reduceLeDiff, Nat.reduceBEq, Nat.reduceMul, Int.reduceToNat, -V.isAgg, -V.flat, isAgg_agg, isAgg_int, isAgg_bool, isAgg_sl, flat_agg, flat_int, flat_bool, flat_sl, pV_size, pV_agg]; rfl) (by exact ⟨⟨rfl, fun h => h⟩, trivial⟩) rfl)
/-
  The reference's coefficients of a polynomial with five values.
-/

theorem digs_mono {u v : Nat} (h : u ≤ v) : (digs u).length ≤ (digs v).length := digs_len (Nat.lt_of_le_of_lt h (by
  have := val_lt (digs_ok v).1
  rw [(digs_ok v).2.2] at this
  exact this))
theorem lt_len (v : Nat) : v < 18446744073709551616 ^ (digs v).length := by
  have := val_lt (digs_ok v).1
  rw [(digs_ok v).2.2] at this
  exact this
theorem sum_len {u v k : Nat} (hu : u < 18446744073709551616 ^ k) (hv : v < 18446744073709551616 ^ k) : (digs (u + v)).length ≤ k + 1 := digs_len (by rw [Nat.pow_succ]; omega)
theorem lt_pow {v k l : Nat} (h : v < 18446744073709551616 ^ k) (hl : k ≤ l) : v < 18446744073709551616 ^ l := Nat.lt_of_lt_of_le h (Nat.pow_le_pow_right (by decide) hl)

theorem sum_lenD {u v k : Nat} (hu : (digs u).length ≤ k) (hv : (digs v).length ≤ k) : (digs (u + v)).length ≤ k + 1 := sum_len (lt_pow (lt_len _) hu) (lt_pow (lt_len _) hv)


theorem Floor_ok (p : Bool × List Int) (k : Nat) (hl : p.2.length < 20000) (ol : okW p.2) (hk : 0 < k) (hk2 : k < 4294967296) :
    FnOk Tryz.prog 40 [.v (pV p), .v (words (digs k))] [.v true (pV (zp (ival p / (k : Int)))), .v true (words (digs (ival p % (k : Int)).toNat))] := by
  obtain ⟨b, l⟩ := p
  simp only at hl ol
  have h1 := DivMod1_ok l k (by omega) ol hk hk2
  have h2 := TrimI_ok (b, l) (by show l.length < _; omega) ol
  have lq : (digs (val l / k)).length ≤ l.length := digs_len (Nat.lt_of_le_of_lt (Nat.div_le_self _ _) (val_lt ol))
  obtain ⟨v, hv⟩ : ∃ v, v = val l := ⟨_, rfl⟩
  have hz : (b = true → ival (b, l) = -(v : Int)) ∧ (b = false → ival (b, l) = v) := by
    constructor <;> intro h <;> subst h <;> simp [ival, hv]
  rw [← hv] at h1 lq
  obtain ⟨z, hzz⟩ : ∃ z, z = ival (b, l) := ⟨_, rfl⟩
  rw [← hzz] at h2 hz ⊢
  have hqr := Nat.div_add_mod v k
  have hrk : v % k < k := Nat.mod_lt _ hk
  obtain ⟨q, hq⟩ : ∃ q, q = v / k := ⟨_, rfl⟩
  obtain ⟨r, hr⟩ : ∃ r, r = v % k := ⟨_, rfl⟩
  rw [← hq, ← hr] at h1 hqr
  rw [← hq] at lq
  rw [← hr] at hrk
  obtain ⟨⟨zb, zl⟩, hzp⟩ : ∃ y, y = zp z := ⟨_, rfl⟩
  have hzb : zb = decide (z < 0) := by have := congrArg Prod.fst hzp; exact this
  rw [← hzp] at h2
  have hvz : z < 0 → z = -(v : Int) := fun h => by
    cases b
    · have := hz.2 rfl; omega
    · exact hz.1 rfl
  have hvz2 : ¬ z < 0 → z = (v : Int) := fun h => by
    cases b
    · exact hz.2 rfl
    · have := hz.1 rfl; omega
  have hkq : ((k : Nat) : Int) * (q : Int) + (r : Int) = (v : Int) := by
    have := congrArg (fun n : Nat => (n : Int)) hqr
    simpa using this
  clear hzp hv hzz hz
  have hkp : (0 : Int) < k := by omega
  refine FnOk.of Tryz.func40 rfl rfl fun cx w0 => ?_
  rw [show Tryz.f40.ntmps = 34 from rfl]
  refine Holds.step (Px := px) (T := TT) (ρ := fun _ => []) TTe (by simp (maxSteps := 100000) (disch := omega) only [go_sem, V.isAgg, V.flat, ↓reduceIte, Nat.reduceAdd, Nat.reduceSub, Nat.reduceLT, Nat.reduceEqDiff, reduceCtorEq, Nat.reduceLeDiff, Nat.reduceBEq, Nat.reduceMul, Int.reduceToNat, pV, List.length_cons, List.length_nil]; rfl) (by repeat' first | exact trivial | constructor) ?_
  refine Holds.step (Px := px) (T := TT) (ρ := fun _ => [.v true (words (digs q)), .v true (words (digs r))]) TTe (by simp (maxSteps := 100000) (disch := omega) only [go_sem, V.isAgg, V.flat, ↓reduceIte, Nat.reduceAdd, Nat.reduceSub, Nat.reduceLT, Nat.reduceEqDiff, reduceCtorEq, Nat.reduceLeDiff, Nat.reduceBEq, Nat.reduceMul, Int.reduceToNat, pV]; rfl) (by first | exact h1 | (repeat' first | exact trivial | exact h1 | constructor)) ?_
  by_cases hn : z < 0
  · rw [decide_eq_true hn] at hzb
    subst hzb
    have hze := hvz hn
    refine Holds.next (fun σ => ∀ a w, Rel cx w0 σ a w → Rel cx w0 { nt := 34, env := [(6, .v true (words (digs q))), (7, .v true (words (digs r))), (1, .v false (words (digs k))), (4, .ptr 4 0 [] 0)], mem := [(4, .box 26 (.v true (.agg [.bool false, .sl 1 []])))] } a w) ?_ ?_
    · refine Holds.step (Px := px) (T := TT) (ρ := fun _ => [.v true (.agg [.bool true, words zl])]) TTe (by simp (maxSteps := 100000) (disch := omega) only [go_sem, V.isAgg, V.flat, ↓reduceIte, Nat.reduceAdd, Nat.reduceSub, Nat.reduceLT, Nat.reduceEqDiff, reduceCtorEq, Nat.reduceLeDiff, Nat.reduceBEq, Nat.reduceMul, Int.reduceToNat, pV, fieldA, unA]; rfl) (by first | exact h2 | (repeat' first | exact trivial | exact h2 | constructor)) ?_
      exact Holds.condF rfl (Holds.skip fun a w h => Rel.keep [6, 7, 1, 4] [4] h)
    · intro σ hσ
      refine Holds.from hσ ?_
      have hz0 := IsZero_ok (digs r) (by have := digs_mono (show r ≤ k by omega); have := digs_len (v := k) (m := 1) (by omega); omega) (digs_ok r).1
      rw [(digs_ok r).2.2] at hz0
      by_cases hr0 : r = 0
      · have hM := Make_ok true (digs q) (by omega) (digs_ok q).1
        have e1 : z / (k : Int) = -(q : Int) := by
          rw [hze, ← hkq, hr0]
          rw [show -((k : Int) * (q : Int) + ((0 : Nat) : Int)) = (k : Int) * (-(q : Int)) from by rw [Int.mul_neg]; simp, Int.mul_ediv_cancel_left _ (by omega)]
        have e2 : z % (k : Int) = 0 := by
          rw [hze, ← hkq, hr0]
          rw [show -((k : Int) * (q : Int) + ((0 : Nat) : Int)) = (k : Int) * (-(q : Int)) from by rw [Int.mul_neg]; simp, Int.mul_emod_right]
        rw [ival_mk, if_pos rfl, ← e1] at hM
        rw [e2, show (0 : Int).toNat = r from by rw [hr0]; rfl]
        rw [decide_eq_true hr0] at hz0
        obtain ⟨Z, hZ⟩ : ∃ Z, Z = zp (z / (k : Int)) := ⟨_, rfl⟩
        rw [← hZ] at hM ⊢
        refine Holds.seq ?_
        refine Holds.step (Px := px) (T := TT) (ρ := fun _ => [.v true (.bool true)]) TTe (by simp (maxSteps := 100000) (disch := omega) only [go_sem, V.isAgg, V.flat, ↓reduceIte, Nat.reduceAdd, Nat.reduceSub, Nat.reduceLT, Nat.reduceEqDiff, reduceCtorEq, Nat.reduceLeDiff, Nat.reduceBEq, Nat.reduceMul, Int.reduceToNat]; rfl) (by first | exact hz0 | (repeat' first | exact trivial | exact hz0 | constructor)) ?_
        refine Holds.condT rfl ?_
        refine Holds.step (Px := px) (T := TT) (ρ := fun _ => [.v true (pV Z)]) TTe (by simp (maxSteps := 100000) (disch := omega) only [go_sem, V.isAgg, V.flat, ↓reduceIte, Nat.reduceAdd, Nat.reduceSub, Nat.reduceLT, Nat.reduceEqDiff, reduceCtorEq, Nat.reduceLeDiff, Nat.reduceBEq, Nat.reduceMul, Int.reduceToNat, -V.isAgg, -V.flat, isAgg_agg, isAgg_int, isAgg_bool, isAgg_sl, flat_agg, flat_int, flat_bool, flat_sl, pV_size, pV_agg]; rfl) (by first | exact hM | (repeat' first | exact trivial | exact hM | constructor)) ?_
        exact Holds.ret (RetOk.vs (show resAVs Tryz.prog _ _ [ResultVar.cell 4 26, ResultVar.tmp 5] = _ from by simp (maxSteps := 100000) (disch := omega) only [resAVs, AV.isPtr, go_sem, V.isAgg, V.flat, ↓reduceIte, Nat.reduceAdd, Nat.reduceSub, Nat.reduceLT, Nat.reduceEqDiff, reduceCtorEq, Nat.reduceLeDiff, Nat.reduceBEq, Nat.reduceMul, Int.reduceToNat, -V.isAgg, -V.flat, isAgg_agg, isAgg_int, isAgg_bool, isAgg_sl, flat_agg, flat_int, flat_bool, flat_sl, pV_size, pV_agg]; rfl) (by exact ⟨⟨rfl, fun h => h⟩, ⟨rfl, fun h => h⟩, trivial⟩) rfl)
      · have hF := FromWord_ok 1 (by decide)
        have hA := rAdd_ok (digs q) (digs 1) (by omega) (by have := digs_len (v := 1) (m := 1) (by decide); omega) (digs_ok q).1 (digs_ok 1).1
        rw [(digs_ok q).2.2, (digs_ok 1).2.2] at hA
        have hM := Make_ok true (digs (q + 1)) (by
          have := sum_lenD (k := 20000) (u := q) (v := 1) (by omega) (by have := digs_len (v := 1) (m := 1) (by decide); omega)
          omega) (digs_ok _).1
        have hS := rSub_ok (digs k) (digs r) (by have := digs_len (v := k) (m := 1) (by omega); omega) (by have := digs_mono (show r ≤ k by omega); have := digs_len (v := k) (m := 1) (by omega); omega) (digs_ok k).1 (digs_ok r).1 (by rw [(digs_ok k).2.2, (digs_ok r).2.2]; omega)
        rw [(digs_ok k).2.2, (digs_ok r).2.2] at hS
        have ez : z = (k : Int) * (-((q + 1 : Nat) : Int)) + ((k - r : Nat) : Int) := by
          rw [hze, ← hkq, Int.mul_neg, Int.natCast_add, Int.mul_add]
          have : ((k - r : Nat) : Int) = (k : Int) - (r : Int) := by omega
          rw [this]
          simp
          omega
        have e1 : z / (k : Int) = -((q + 1 : Nat) : Int) := by
          rw [ez, Int.add_comm, Int.add_mul_ediv_left _ _ (by omega), Int.ediv_eq_zero_of_lt (by omega) (by omega), Int.zero_add]
        have e2 : z % (k : Int) = ((k - r : Nat) : Int) := by
          rw [ez, Int.add_comm, Int.add_mul_emod_self_left, Int.emod_eq_of_lt (by omega) (by omega)]
        rw [ival_mk, if_pos rfl, ← e1] at hM
        rw [e2, Int.toNat_natCast]
        rw [decide_eq_false hr0] at hz0
        obtain ⟨Z, hZ⟩ : ∃ Z, Z = zp (z / (k : Int)) := ⟨_, rfl⟩
        rw [← hZ] at hM ⊢
        obtain ⟨D1, hD1⟩ : ∃ D, D = digs 1 := ⟨_, rfl⟩
        rw [← hD1] at hA
        rw [show FnOk Tryz.prog 39 [.v (.int .u64 ((1 : Nat) : Int))] [.v true (words (digs 1))] = FnOk Tryz.prog 39 [.v (.int .u64 1)] [.v true (words (digs 1))] from rfl, ← hD1] at hF
        refine Holds.next (fun σ => ∀ a w, Rel cx w0 σ a w → Rel cx w0 { nt := 34, env := [(6, .v true (words (digs q))), (7, .v true (words (digs r))), (1, .v false (words (digs k))), (4, .ptr 4 0 [] 0)], mem := [(4, .box 26 (.v true (.agg [.bool false, .sl 1 []])))] } a w) ?_ ?_
        · refine Holds.step (Px := px) (T := TT) (ρ := fun _ => [.v true (.bool false)]) TTe (by simp (maxSteps := 100000) (disch := omega) only [go_sem, V.isAgg, V.flat, ↓reduceIte, Nat.reduceAdd, Nat.reduceSub, Nat.reduceLT, Nat.reduceEqDiff, reduceCtorEq, Nat.reduceLeDiff, Nat.reduceBEq, Nat.reduceMul, Int.reduceToNat]; rfl) (by first | exact hz0 | (repeat' first | exact trivial | exact hz0 | constructor)) ?_
          exact Holds.condF rfl (Holds.skip fun a w h => Rel.keep [6, 7, 1, 4] [4] h)
        · intro σ hσ
          refine Holds.from hσ ?_
          refine Holds.step (Px := px) (T := TT) (ρ := fun t => if t = 28 then [.v true (words D1)] else if t = 29 then [.v true (words (digs (q + 1)))] else if t = 30 then [.v true (pV Z)] else [.v true (words (digs (k - r)))]) TTe (by simp (maxSteps := 100000) (disch := omega) only [go_sem, V.isAgg, V.flat, ↓reduceIte, Nat.reduceAdd, Nat.reduceSub, Nat.reduceLT, Nat.reduceEqDiff, reduceCtorEq, Nat.reduceLeDiff, Nat.reduceBEq, Nat.reduceMul, Int.reduceToNat, -V.isAgg, -V.flat, isAgg_agg, isAgg_int, isAgg_bool, isAgg_sl, flat_agg, flat_int, flat_bool, flat_sl, pV_size, pV_agg]; rfl) (by first | exact ⟨hF, hA, hM, hS⟩ | (repeat' first | exact trivial | exact hF | exact hA | exact hM | exact hS | constructor)) ?_
          exact Holds.ret (RetOk.vs (show resAVs Tryz.prog _ _ [ResultVar.cell 4 26, ResultVar.tmp 5] = _ from by simp (maxSteps := 100000) (disch := omega) only [resAVs, AV.isPtr, go_sem, V.isAgg, V.flat, ↓reduceIte, Nat.reduceAdd, Nat.reduceSub, Nat.reduceLT, Nat.reduceEqDiff, reduceCtorEq, Nat.reduceLeDiff, Nat.reduceBEq, Nat.reduceMul, Int.reduceToNat, -V.isAgg, -V.flat, isAgg_agg, isAgg_int, isAgg_bool, isAgg_sl, flat_agg, flat_int, flat_bool, flat_sl, pV_size, pV_agg]; rfl) (by exact ⟨⟨rfl, fun h => h⟩, ⟨rfl, fun h => h⟩, trivial⟩) rfl)
  · rw [decide_eq_false hn] at hzb
    subst hzb
    have hze := hvz2 hn
    have hM := Make_ok false (digs q) (by omega) (digs_ok q).1
    have e1 : z / (k : Int) = (q : Int) := by
      rw [hze, ← hkq, Int.add_comm, Int.add_mul_ediv_left _ _ (by omega), Int.ediv_eq_zero_of_lt (by omega) (by omega), Int.zero_add]
    have e2 : z % (k : Int) = (r : Int) := by
      rw [hze, ← hkq, Int.add_comm, Int.add_mul_emod_self_left, Int.emod_eq_of_lt (by omega) (by omega)]
    rw [ival_mk] at hM
    simp only [Bool.false_eq_true, if_false] at hM
    rw [← e1] at hM
    rw [e2, Int.toNat_natCast]
    obtain ⟨Z, hZ⟩ : ∃ Z, Z = zp (z / (k : Int)) := ⟨_, rfl⟩
    rw [← hZ] at hM ⊢
    refine Holds.seq ?_
    refine Holds.step (Px := px) (T := TT) (ρ := fun _ => [.v true (.agg [.bool false, words zl])]) TTe (by simp (maxSteps := 100000) (disch := omega) only [go_sem, V.isAgg, V.flat, ↓reduceIte, Nat.reduceAdd, Nat.reduceSub, Nat.reduceLT, Nat.reduceEqDiff, reduceCtorEq, Nat.reduceLeDiff, Nat.reduceBEq, Nat.reduceMul, Int.reduceToNat, pV, fieldA, unA]; rfl) (by first | exact h2 | (repeat' first | exact trivial | exact h2 | constructor)) ?_
    refine Holds.condT rfl ?_
    refine Holds.step (Px := px) (T := TT) (ρ := fun _ => [.v true (pV Z)]) TTe (by simp (maxSteps := 100000) (disch := omega) only [go_sem, V.isAgg, V.flat, ↓reduceIte, Nat.reduceAdd, Nat.reduceSub, Nat.reduceLT, Nat.reduceEqDiff, reduceCtorEq, Nat.reduceLeDiff, Nat.reduceBEq, Nat.reduceMul, Int.reduceToNat, -V.isAgg, -V.flat, isAgg_agg, isAgg_int, isAgg_bool, isAgg_sl, flat_agg, flat_int, flat_bool, flat_sl, pV_size, pV_agg]; rfl) (by first | exact hM | (repeat' first | exact trivial | exact hM | constructor)) ?_
    exact Holds.ret (RetOk.vs (show resAVs Tryz.prog _ _ [ResultVar.cell 4 26, ResultVar.tmp 5] = _ from by simp (maxSteps := 100000) (disch := omega) only [resAVs, AV.isPtr, go_sem, V.isAgg, V.flat, ↓reduceIte, Nat.reduceAdd, Nat.reduceSub, Nat.reduceLT, Nat.reduceEqDiff, reduceCtorEq, Nat.reduceLeDiff, Nat.reduceBEq, Nat.reduceMul, Int.reduceToNat, -V.isAgg, -V.flat, isAgg_agg, isAgg_int, isAgg_bool, isAgg_sl, flat_agg, flat_int, flat_bool, flat_sl, pV_size, pV_agg]; rfl) (by exact ⟨⟨rfl, fun h => h⟩, ⟨rfl, fun h => h⟩, trivial⟩) rfl)

theorem half_ok (z : Int) (k K : Nat) (hK : K < 10000) (hz : z.natAbs < 18446744073709551616 ^ K) (hk : 0 < k) (hk2 : k < 4294967296) :
    FnOk Tryz.prog 17 [.v (pV (zp z)), .v (.int .u64 k)] [.v true (pV (zp (z / (k : Int)))), .v true (.bool (decide (z % (k : Int) = 0)))] := by
  have h1 := FromWord_ok k (by omega)
  have h2 := Floor_ok (zp z) k (by have := zp_len hz; omega) (zp_ok z) hk hk2
  rw [ival_zp] at h2
  have hm0 : 0 ≤ z % (k : Int) := Int.emod_nonneg _ (by omega)
  have hm1 : z % (k : Int) < k := Int.emod_lt_of_pos _ (by omega)
  obtain ⟨r, hr⟩ : ∃ r, r = (z % (k : Int)).toNat := ⟨_, rfl⟩
  have h3 := IsZero_ok (digs r) (by have := digs_len (v := r) (m := 1) (by omega); omega) (digs_ok r).1
  rw [(digs_ok r).2.2] at h3
  have e : decide (z % (k : Int) = 0) = decide (r = 0) := by
    by_cases h : r = 0
    · rw [decide_eq_true h, decide_eq_true (by omega)]
    · rw [decide_eq_false h, decide_eq_false (by omega)]
  rw [← hr] at h2
  rw [e]
  obtain ⟨b, hb⟩ : ∃ b, b = decide (r = 0) := ⟨_, rfl⟩
  rw [← hb] at h3 ⊢
  obtain ⟨Z, hZ⟩ : ∃ Z, Z = zp (z / (k : Int)) := ⟨_, rfl⟩
  rw [← hZ] at h2 ⊢
  refine FnOk.of Tryz.func17 rfl rfl fun cx w0 => ?_
  rw [show Tryz.f17.ntmps = 18 from rfl]
  refine Holds.step (Px := px) (T := TT) (ρ := fun _ => []) TTe (by simp (maxSteps := 100000) (disch := omega) only [go_sem, V.isAgg, V.flat, ↓reduceIte, Nat.reduceAdd, Nat.reduceSub, Nat.reduceLT, Nat.reduceEqDiff, reduceCtorEq, Nat.reduceLeDiff, Nat.reduceBEq, Nat.reduceMul, Int.reduceToNat, List.length_cons, List.length_nil]; rfl) (by repeat' first | exact trivial | constructor) ?_
  refine Holds.dstep (Px := px) (T := TT) (ρ := fun t => if t = 11 then [.v true (words (digs k))] else [.v true (pV Z), .v true (words (digs r))]) [] mixed (by kernel_rfl) TTe (by simp (maxSteps := 100000) (disch := omega) only [go_sem, V.isAgg, V.flat, ↓reduceIte, Nat.reduceAdd, Nat.reduceSub, Nat.reduceLT, Nat.reduceEqDiff, reduceCtorEq, Nat.reduceLeDiff, Nat.reduceBEq, Nat.reduceMul, Int.reduceToNat, -V.isAgg, -V.flat, isAgg_agg, isAgg_int, isAgg_bool, isAgg_sl, flat_agg, flat_int, flat_bool, flat_sl, pV_size, pV_agg]; rfl) (by first | exact ⟨h1, h2⟩ | (repeat' first | exact trivial | exact h1 | exact h2 | constructor)) (by rfl) (by rfl) (by rfl) ?_
  refine Holds.dstep (Px := px) (T := TT) (ρ := fun _ => [.v true (.bool b)]) [] mixed (by kernel_rfl) TTe (by simp (maxSteps := 100000) (disch := omega) only [go_sem, V.isAgg, V.flat, ↓reduceIte, Nat.reduceAdd, Nat.reduceSub, Nat.reduceLT, Nat.reduceEqDiff, reduceCtorEq, Nat.reduceLeDiff, Nat.reduceBEq, Nat.reduceMul, Int.reduceToNat, -V.isAgg, -V.flat, isAgg_agg, isAgg_int, isAgg_bool, isAgg_sl, flat_agg, flat_int, flat_bool, flat_sl, pV_size, pV_agg]; rfl) (by first | exact h3 | (repeat' first | exact trivial | exact h3 | constructor)) (by rfl) (by rfl) (by rfl) ?_
  exact Holds.ret (RetOk.vs (show resAVs Tryz.prog _ _ [ResultVar.cell 4 26, ResultVar.tmp 5] = _ from by simp (maxSteps := 100000) (disch := omega) only [resAVs, AV.isPtr, go_sem, V.isAgg, V.flat, ↓reduceIte, Nat.reduceAdd, Nat.reduceSub, Nat.reduceLT, Nat.reduceEqDiff, reduceCtorEq, Nat.reduceLeDiff, Nat.reduceBEq, Nat.reduceMul, Int.reduceToNat, -V.isAgg, -V.flat, isAgg_agg, isAgg_int, isAgg_bool, isAgg_sl, flat_agg, flat_int, flat_bool, flat_sl, pV_size, pV_agg]; rfl) (by exact ⟨⟨rfl, fun h => h⟩, ⟨rfl, fun h => h⟩, trivial⟩) rfl)
end Go.Proofs.YtjmclobbfabnpaaGreat.L
