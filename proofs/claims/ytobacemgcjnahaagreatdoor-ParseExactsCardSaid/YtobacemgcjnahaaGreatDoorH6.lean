/-
  Ca Cb Cc Cd
-/
import Derived.Test.YtobacemgcjnahaaGreatDoorH5
import Derived.Test.YtobacemgcjnahaaGreatDoorH2
import Derived.Test.YtobacemgcjnahaaGreatDoorG5
import Derived.Test.YtobacemgcjnahaaGreatDoorH3
set_option linter.unusedSimpArgs false
set_option linter.unusedVariables false
/-
  wide: view, Trim, Word, Zero.
-/
namespace Go.Proofs.YtobacemgcjnahaaGreatDoor.L
open Go Go.RowKit Go.Proofs
attribute [local go_sem] evalOps_nil evalOps_cons runW_t runW_f runE_s runP_s wantA evalOp effOp letters okDst coreA St.opv St.get St.at look constA St.put St.upd St.set decide_true List.all_nil List.all_cons Bool.and_true Bool.true_and and_self and_true true_and if_true if_false true_or Int.sub_zero List.nil_append List.cons_append List.append_nil Option.isSome_some List.getElem?_toArray List.getElem?_cons_succ List.getElem?_cons_zero Option.bind_some Option.map_some Option.map_none beq_self_eq_true Bool.false_beq Bool.true_beq Bool.not_true Bool.not_false Bool.false_eq_true cond_true cond_false binA binI List.map_cons List.map_nil boundA List.length_nil List.length_cons Nat.zero_mul Nat.one_mul Nat.mul_one Nat.zero_add Nat.add_zero Nat.zero_le Option.toList St.freshB AV.ment AV.ments Blk.ment V.sizes Nat.lt_add_one Bool.or_true Bool.true_or Bool.or_false Bool.false_or Bool.or_self if_pos if_neg decide_false decide_eq_true decide_eq_false wrap_i64 Int.toNat_natCast minA maxA Int.natCast_add Int.cast_ofNat_Int Option.isSome_none false_implies true_implies forall_const List.drop_zero Int.toNat_zero Int.add_sub_cancel lenA sliceA loadA indexAddrA partA fitsT V.atP V.offP V.size List.length_map List.getElem?_map Int.toNat_natCast_add_one Int.ofNat_eq_natCast TY calleeA capArg knotA capArgs toArgs toArg callA R.res R.mems R.blks R.av R.names R.nw invokeA storeA storeV fieldAddrA liveB V.off V.offs V.setP List.set_cons_zero List.set_cons_succ buildA buildP partsA appendA srcA copyA boxOk makeA AV.pure List.take_succ_cons List.take_zero nilA words entry List.zipIdx_cons List.zipIdx_nil Arg.av Arg.avs

theorem view_ok (l : List Int) (hl : l.length < 1000000000) : FnOk Tryz.prog 78 [.v (words l)] [.v false (words (trimL l))] := by
  refine FnOk.of Tryz.func78 rfl rfl fun cx w0 => ?_
  rw [show Tryz.f78.ntmps = 22 from rfl]
  refine Holds.step (Px := px) (T := TT) (ρ := fun _ => []) TTe (by simp (maxSteps := 100000) (disch := omega) only [go_sem, V.isAgg, V.flat, ↓reduceIte, Nat.reduceAdd, Nat.reduceSub, Nat.reduceLT, Nat.reduceEqDiff, reduceCtorEq, Nat.reduceLeDiff, Nat.reduceBEq, Nat.reduceMul, Int.reduceToNat, List.length_cons, List.length_nil]; rfl) (by repeat' first | exact trivial | constructor) ?_
  refine Holds.step (Px := px) (T := TT) (ρ := fun _ => []) TTe (by simp (maxSteps := 100000) (disch := omega) only [go_sem, V.isAgg, V.flat, ↓reduceIte, Nat.reduceAdd, Nat.reduceSub, Nat.reduceLT, Nat.reduceEqDiff, reduceCtorEq, Nat.reduceLeDiff, Nat.reduceBEq, Nat.reduceMul, Int.reduceToNat]; rfl) (by repeat' first | exact trivial | constructor) ?_
  refine Holds.next (fun σ => ∃ env, σ = { nt := 22, env, mem := [] } ∧ look env 3 = .v true (.int .i64 (trimW l l.length : Nat)) ∧ look env 0 = .v false (.sl 1 (l.map fun n => .int .u64 n)))
    (Holds.loopB (fun n : Nat => { nt := 22, env := [(3, .v true (.int .i64 (n : Int))), (0, .v false (.sl 1 (l.map fun n => .int .u64 n)))], mem := [] }) (fun n => n ≤ l.length ∧ trimW l n = trimW l l.length) id l.length ⟨Nat.le_refl _, rfl⟩ (fun a w h => Rel.keep [3, 0] [] h) ?_) ?_
  · rintro n ⟨hn, ht⟩
    rcases n with _ | n
    · refine Holds.seq ?_
      refine Holds.step (Px := px) (T := TT) (ρ := fun _ => []) TTe (by simp (maxSteps := 100000) (disch := omega) only [go_sem, V.isAgg, V.flat, ↓reduceIte, Nat.reduceAdd, Nat.reduceSub, Nat.reduceLT, Nat.reduceEqDiff, reduceCtorEq, Nat.reduceLeDiff, Nat.reduceBEq, Nat.reduceMul, Int.reduceToNat]; rfl) (by repeat' first | exact trivial | constructor) ?_
      refine Holds.condF rfl (Holds.exit ⟨rfl, _, rfl, ?_, rfl⟩)
      rw [← ht]; rfl
    · have hlt : n < l.length := by omega
      have e1 : l[n]? = some (l.getD n 0) := by rw [List.getD_eq_getElem?_getD, List.getElem?_eq_getElem hlt]; rfl
      refine Holds.seq ?_
      refine Holds.step (Px := px) (T := TT) (ρ := fun _ => []) TTe (by simp (maxSteps := 100000) (disch := omega) only [go_sem, V.isAgg, V.flat, ↓reduceIte, Nat.reduceAdd, Nat.reduceSub, Nat.reduceLT, Nat.reduceEqDiff, reduceCtorEq, Nat.reduceLeDiff, Nat.reduceBEq, Nat.reduceMul, Int.reduceToNat, e1]; rfl) (by repeat' first | exact trivial | constructor) ?_
      by_cases h0 : l.getD n 0 = 0
      · refine Holds.condT (nw := true) (by rw [h0]; rfl) (Holds.skip ?_)
        refine Holds.block ?_
        refine Holds.region (Px := px) (T := TT) (ρ := fun _ => []) TTe (by simp (maxSteps := 100000) (disch := omega) only [go_sem, V.isAgg, V.flat, ↓reduceIte, Nat.reduceAdd, Nat.reduceSub, Nat.reduceLT, Nat.reduceEqDiff, reduceCtorEq, Nat.reduceLeDiff, Nat.reduceBEq, Nat.reduceMul, Int.reduceToNat]; rfl) (by repeat' first | exact trivial | constructor) ?_
        refine ⟨n, ⟨by omega, ?_⟩, by simp, fun a w h => Rel.keep [3, 0] [] h⟩
        rw [← ht, trimW, if_pos h0]
      · refine Holds.condF (nw := true) (by rw [decide_eq_false h0]; rfl) (Holds.exit ⟨rfl, _, rfl, ?_, rfl⟩)
        rw [← ht, trimW, if_neg h0]
        rfl
  · rintro σ ⟨env, rfl, e3, e0⟩
    have hle := trimW_le l l.length
    refine Holds.step (Px := px) (T := TT) (ρ := fun _ => []) TTe (by simp (maxSteps := 100000) (disch := omega) only [go_sem, V.isAgg, V.flat, ↓reduceIte, Nat.reduceAdd, Nat.reduceSub, Nat.reduceLT, Nat.reduceEqDiff, reduceCtorEq, Nat.reduceLeDiff, Nat.reduceBEq, Nat.reduceMul, Int.reduceToNat, e3, e0]; rfl) (by repeat' first | exact trivial | constructor) ?_
    refine Holds.ret ⟨_, [], rfl, ⟨⟨?_, by simp⟩, trivial⟩, by simp [R.names, R.mems, R.blks], by simp, rfl⟩
    rw [words, trimL, List.map_take]

theorem wTrim_ok (l : List Int) (hl : l.length < 1000000) (ol : okW l) : FnOk Tryz.prog 92 [.v (words l)] [.v true (words (digs (val l)))] := by
  have h1 := view_ok l (by omega)
  have hlen := trimL_len l
  rw [← trim_digs ol]
  obtain ⟨m, hm⟩ : ∃ m, m = trimL l := ⟨_, rfl⟩
  rw [← hm] at h1 hlen ⊢
  refine FnOk.of Tryz.func92 rfl rfl fun cx w0 => ?_
  rw [show Tryz.f92.ntmps = 12 from rfl]
  refine Holds.step (Px := px) (T := TT) (ρ := fun _ => []) TTe (by simp (maxSteps := 100000) (disch := omega) only [go_sem, V.isAgg, V.flat, ↓reduceIte, Nat.reduceAdd, Nat.reduceSub, Nat.reduceLT, Nat.reduceEqDiff, reduceCtorEq, Nat.reduceLeDiff, Nat.reduceBEq, Nat.reduceMul, Int.reduceToNat, List.length_cons, List.length_nil]; rfl) (by repeat' first | exact trivial | constructor) ?_
  refine Holds.seq ?_
  refine Holds.step (Px := px) (T := TT) (ρ := fun _ => [.v false (words m)]) TTe (by simp (maxSteps := 100000) (disch := omega) only [go_sem, V.isAgg, V.flat, ↓reduceIte, Nat.reduceAdd, Nat.reduceSub, Nat.reduceLT, Nat.reduceEqDiff, reduceCtorEq, Nat.reduceLeDiff, Nat.reduceBEq, Nat.reduceMul, Int.reduceToNat]; rfl) (by first | exact h1 | (repeat' first | exact trivial | exact h1 | constructor)) ?_
  by_cases h0 : m = []
  · subst h0
    refine Holds.step (Px := px) (T := TT) (ρ := fun _ => []) TTe (by simp (maxSteps := 100000) (disch := omega) only [go_sem, V.isAgg, V.flat, ↓reduceIte, Nat.reduceAdd, Nat.reduceSub, Nat.reduceLT, Nat.reduceEqDiff, reduceCtorEq, Nat.reduceLeDiff, Nat.reduceBEq, Nat.reduceMul, Int.reduceToNat, words]; rfl) (by repeat' first | exact trivial | constructor) ?_
    refine Holds.condF rfl (Holds.skip ?_)
    refine Holds.step (Px := px) (T := TT) (ρ := fun _ => []) TTe (by simp (maxSteps := 100000) (disch := omega) only [go_sem, V.isAgg, V.flat, ↓reduceIte, Nat.reduceAdd, Nat.reduceSub, Nat.reduceLT, Nat.reduceEqDiff, reduceCtorEq, Nat.reduceLeDiff, Nat.reduceBEq, Nat.reduceMul, Int.reduceToNat]; rfl) (by repeat' first | exact trivial | constructor) ?_
    exact Holds.ret ⟨_, [], rfl, ⟨rfl, trivial⟩, by simp [R.names, R.mems, R.blks], by simp, rfl⟩
  · have hpos : 0 < m.length := List.length_pos_iff.2 h0
    have g : (0 : Int) < m.length := by omega
    have hall := flatW m
    refine Holds.step (Px := px) (T := TT) (ρ := fun _ => []) TTe (by simp (maxSteps := 100000) (disch := omega) only [go_sem, V.isAgg, V.flat, ↓reduceIte, Nat.reduceAdd, Nat.reduceSub, Nat.reduceLT, Nat.reduceEqDiff, reduceCtorEq, Nat.reduceLeDiff, Nat.reduceBEq, Nat.reduceMul, Int.reduceToNat, words, g]; rfl) (by repeat' first | exact trivial | constructor) ?_
    refine Holds.condT rfl ?_
    refine Holds.step (Px := px) (T := TT) (ρ := fun _ => []) TTe (by simp (maxSteps := 100000) (disch := omega) only [go_sem, V.isAgg, V.flat, ↓reduceIte, Nat.reduceAdd, Nat.reduceSub, Nat.reduceLT, Nat.reduceEqDiff, reduceCtorEq, Nat.reduceLeDiff, Nat.reduceBEq, Nat.reduceMul, Int.reduceToNat, words, tby76, hall]; rfl) (by repeat' first | exact trivial | constructor) ?_
    exact Holds.ret ⟨_, [], rfl, ⟨⟨rfl, by rw [List.drop_zero, List.take_of_length_le (by simp)], fun h => h, rfl⟩, trivial⟩, by simp [R.names, R.mems, R.blks], by simp, rfl⟩

theorem wWord_ok (u : Nat) (hu : u < 18446744073709551616) : FnOk Tryz.prog 138 [.v (.int .u64 u)] [.v true (words (digs u))] := by
  have h1 := wTrim_ok [(u : Int)] (by simp) (by intro n hn; simp at hn; omega)
  rw [show val [(u : Int)] = u from by simp [val]] at h1
  refine FnOk.of Tryz.func138 rfl rfl fun cx w0 => ?_
  rw [show Tryz.f138.ntmps = 6 from rfl]
  refine Holds.step (Px := px) (T := TT) (ρ := fun _ => []) TTe (by simp (maxSteps := 100000) (disch := omega) only [go_sem, V.isAgg, V.flat, ↓reduceIte, Nat.reduceAdd, Nat.reduceSub, Nat.reduceLT, Nat.reduceEqDiff, reduceCtorEq, Nat.reduceLeDiff, Nat.reduceBEq, Nat.reduceMul, Int.reduceToNat, List.length_cons, List.length_nil]; rfl) (by repeat' first | exact trivial | constructor) ?_
  refine Holds.step (Px := px) (T := TT) (ρ := fun _ => [.v true (words (digs u))]) TTe (by simp (maxSteps := 100000) (disch := omega) only [go_sem, V.isAgg, V.flat, ↓reduceIte, Nat.reduceAdd, Nat.reduceSub, Nat.reduceLT, Nat.reduceEqDiff, reduceCtorEq, Nat.reduceLeDiff, Nat.reduceBEq, Nat.reduceMul, Int.reduceToNat]; rfl) (by first | exact h1 | (repeat' first | exact trivial | exact h1 | constructor)) ?_
  exact Holds.ret (RetOk.vs rfl (by exact ⟨⟨rfl, fun h => h⟩, trivial⟩) rfl)

theorem val_zero {l : List Int} (ol : okW l) : trimL l = [] ↔ val l = 0 := by
  rw [trim_digs ol]
  constructor
  · intro h
    have := (digs_ok (val l)).2.2
    rw [h] at this
    simpa [val] using this.symm
  · intro h
    rw [h]; rfl

theorem wZero_ok (l : List Int) (hl : l.length < 1000000) (ol : okW l) : FnOk Tryz.prog 36 [.v (words l)] [.v true (.bool (decide (val l = 0)))] := by
  have h1 := view_ok l (by omega)
  have hz := val_zero ol
  obtain ⟨m, hm⟩ : ∃ m, m = trimL l := ⟨_, rfl⟩
  rw [← hm] at h1 hz
  refine FnOk.of Tryz.func36 rfl rfl fun cx w0 => ?_
  rw [show Tryz.f36.ntmps = 7 from rfl]
  refine Holds.step (Px := px) (T := TT) (ρ := fun _ => []) TTe (by simp (maxSteps := 100000) (disch := omega) only [go_sem, V.isAgg, V.flat, ↓reduceIte, Nat.reduceAdd, Nat.reduceSub, Nat.reduceLT, Nat.reduceEqDiff, reduceCtorEq, Nat.reduceLeDiff, Nat.reduceBEq, Nat.reduceMul, Int.reduceToNat, List.length_cons, List.length_nil]; rfl) (by repeat' first | exact trivial | constructor) ?_
  by_cases h0 : m = []
  · rw [decide_eq_true (hz.1 h0)]
    subst h0
    refine Holds.step (Px := px) (T := TT) (ρ := fun _ => [.v false (words [])]) TTe (by simp (maxSteps := 100000) (disch := omega) only [go_sem, V.isAgg, V.flat, ↓reduceIte, Nat.reduceAdd, Nat.reduceSub, Nat.reduceLT, Nat.reduceEqDiff, reduceCtorEq, Nat.reduceLeDiff, Nat.reduceBEq, Nat.reduceMul, Int.reduceToNat, words]; rfl) (by first | exact h1 | (repeat' first | exact trivial | exact h1 | constructor)) ?_
    exact Holds.ret (RetOk.vs rfl (by exact ⟨⟨rfl, fun h => h⟩, trivial⟩) rfl)
  · rw [decide_eq_false (fun h => h0 (hz.2 h))]
    have hpos : 0 < m.length := List.length_pos_iff.2 h0
    have g : ¬ (m.length : Int) = 0 := by omega
    refine Holds.step (Px := px) (T := TT) (ρ := fun _ => [.v false (words m)]) TTe (by simp (maxSteps := 100000) (disch := omega) only [go_sem, V.isAgg, V.flat, ↓reduceIte, Nat.reduceAdd, Nat.reduceSub, Nat.reduceLT, Nat.reduceEqDiff, reduceCtorEq, Nat.reduceLeDiff, Nat.reduceBEq, Nat.reduceMul, Int.reduceToNat, words, g]; rfl) (by first | exact h1 | (repeat' first | exact trivial | exact h1 | constructor)) ?_
    exact Holds.ret (RetOk.vs rfl (by exact ⟨⟨rfl, fun h => h⟩, trivial⟩) rfl)
/-
  wide.Add.
-/

def zeros (n : Nat) : List Int := List.replicate n 0
theorem okW_zeros (n : Nat) : okW (zeros n) := fun m hm => by rw [zeros, List.mem_replicate] at hm; omega
theorem val_zeros0 : ∀ n, val (zeros n) = 0
  | 0 => rfl
  | n + 1 => by rw [zeros, List.replicate_succ, val]; have := val_zeros0 n; rw [zeros] at this; rw [this]; rfl
theorem zeros_getD (n i : Nat) : (zeros n).getD i 0 = 0 := by
  rw [zeros, List.getD_eq_getElem?_getD, List.getElem?_replicate]
  split <;> rfl
theorem getD_far {l : List Int} {i : Nat} (h : l.length ≤ i) : l.getD i 0 = 0 := by
  rw [List.getD_eq_getElem?_getD, List.getElem?_eq_none h]; rfl
theorem val_take_all {l : List Int} {n : Nat} (h : l.length ≤ n) : l.take n = l := List.take_of_length_le h

/-- Words of a sum. -/
def adI (x y : List Int) (n : Nat) : Nat → List Int × Int
  | 0 => (zeros n, 0)
  | k + 1 => ((adI x y n k).1.set k ((x.getD k 0 + y.getD k 0 + (adI x y n k).2) % 18446744073709551616), (x.getD k 0 + y.getD k 0 + (adI x y n k).2) / 18446744073709551616)
theorem adI_ok {x y : List Int} {n : Nat} (ox : okW x) (oy : okW y) : ∀ k, okW (adI x y n k).1 ∧ (0 ≤ (adI x y n k).2 ∧ (adI x y n k).2 ≤ 1) ∧ (adI x y n k).1.length = n ∧ ∀ j, k ≤ j → (adI x y n k).1.getD j 0 = 0
  | 0 => ⟨okW_zeros n, ⟨by show (0:Int) ≤ 0; omega, by show (0:Int) ≤ 1; omega⟩, by simp [adI, zeros], fun j _ => zeros_getD n j⟩
  | k + 1 => by
    obtain ⟨h1, h2, h3, h4⟩ := adI_ok (n := n) ox oy k
    have hx := okW_getD ox k
    have hy := okW_getD oy k
    rw [adI]
    refine ⟨okW_set h1 (by omega), by simp only; omega, by simp only; rw [List.length_set, h3], fun j hj => ?_⟩
    simp only
    rw [List.getD_eq_getElem?_getD, List.getElem?_set_ne (by omega), ← List.getD_eq_getElem?_getD]
    exact h4 j (by omega)
theorem adI_val {x y : List Int} {n : Nat} (ox : okW x) (oy : okW y) : ∀ k, k ≤ n → val (adI x y n k).1 + 18446744073709551616 ^ k * (adI x y n k).2.toNat = val (x.take k) + val (y.take k)
  | 0, _ => by simp [adI, val_zeros0, val]
  | k + 1, hk => by
    obtain ⟨h1, h2, h3, h4⟩ := adI_ok (n := n) ox oy k
    have ih := adI_val (n := n) ox oy k (by omega)
    have hx := okW_getD ox k
    have hy := okW_getD oy k
    rw [val_take_succ, val_take_succ, adI]
    have hs := val_set (l := (adI x y n k).1) (i := k) (n := (x.getD k 0 + y.getD k 0 + (adI x y n k).2) % 18446744073709551616) (by omega)
    rw [h4 k (Nat.le_refl _)] at hs
    simp only
    generalize (adI x y n k).1 = L at *
    generalize (adI x y n k).2 = c at *
    generalize x.getD k 0 = a at *
    generalize y.getD k 0 = b at *
    generalize val (L.set k ((a + b + c) % 18446744073709551616)) = W at *
    rw [Nat.pow_succ]
    generalize 18446744073709551616 ^ k = P at *
    have e0 : P * (0 : Int).toNat = 0 := by simp
    have e1 : P * 18446744073709551616 * ((a + b + c) / 18446744073709551616).toNat + P * ((a + b + c) % 18446744073709551616).toNat = P * a.toNat + P * b.toNat + P * c.toNat := by
      rw [Nat.mul_assoc, ← Nat.mul_add, ← Nat.mul_add, ← Nat.mul_add]
      congr 1
      omega
    omega

theorem add_shape {x y : List Int} (h : y.length ≤ x.length) (ox : okW x) (oy : okW y) : val ((adI x y (x.length + 1) x.length).1.set x.length (adI x y (x.length + 1) x.length).2) = val x + val y ∧ okW ((adI x y (x.length + 1) x.length).1.set x.length (adI x y (x.length + 1) x.length).2) := by
  obtain ⟨h1, h2, h3, h4⟩ := adI_ok (n := x.length + 1) ox oy x.length
  have hv := adI_val (n := x.length + 1) ox oy x.length (by omega)
  rw [val_take_all (Nat.le_refl _), val_take_all h] at hv
  have hs := val_set (l := (adI x y (x.length + 1) x.length).1) (i := x.length) (n := (adI x y (x.length + 1) x.length).2) (by omega)
  rw [h4 _ (Nat.le_refl _)] at hs
  refine ⟨?_, okW_set h1 (by omega)⟩
  have e0 : 18446744073709551616 ^ x.length * (0 : Int).toNat = 0 := by simp
  omega

set_option maxRecDepth 100000 in
set_option maxHeartbeats 1000000 in
theorem wAdd_ok (x y : List Int) (hx : x.length < 500000) (hy : y.length < 500000) (ox : okW x) (oy : okW y) : FnOk Tryz.prog 137 [.v (words x), .v (words y)] [.v true (words (digs (val x + val y)))] := by
  refine FnOk.of Tryz.func137 rfl rfl fun cx w0 => ?_
  rw [show Tryz.f137.ntmps = 54 from rfl]
  refine Holds.step (Px := px) (T := TT) (ρ := fun _ => []) TTe (by simp (maxSteps := 100000) (disch := omega) only [go_sem, V.isAgg, V.flat, ↓reduceIte, Nat.reduceAdd, Nat.reduceSub, Nat.reduceLT, Nat.reduceEqDiff, reduceCtorEq, Nat.reduceLeDiff, Nat.reduceBEq, Nat.reduceMul, Int.reduceToNat, List.length_cons, List.length_nil]; rfl) (by repeat' first | exact trivial | constructor) ?_
  obtain ⟨Z, hV⟩ : ∃ Z, Z = val x + val y := ⟨_, rfl⟩
  rw [← hV]
  refine Holds.next (fun σ => ∃ a b : List Int, a.length < 500000 ∧ b.length ≤ a.length ∧ okW a ∧ okW b ∧ Z = val a + val b ∧ ∀ v w, Rel cx w0 σ v w → Rel cx w0 { nt := 54, env := [(1, .v false (words b)), (0, .v false (words a))], mem := [] } v w) ?_ ?_
  · by_cases h : x.length < y.length
    · have g : (x.length : Int) < y.length := by omega
      refine Holds.step (Px := px) (T := TT) (ρ := fun _ => []) TTe (by simp (maxSteps := 100000) (disch := omega) only [go_sem, V.isAgg, V.flat, ↓reduceIte, Nat.reduceAdd, Nat.reduceSub, Nat.reduceLT, Nat.reduceEqDiff, reduceCtorEq, Nat.reduceLeDiff, Nat.reduceBEq, Nat.reduceMul, Int.reduceToNat, words, g]; rfl) (by repeat' first | exact trivial | constructor) ?_
      refine Holds.condT rfl ?_
      refine Holds.region (Px := px) (T := TT) (ρ := fun _ => []) TTe (by simp (maxSteps := 100000) (disch := omega) only [go_sem, V.isAgg, V.flat, ↓reduceIte, Nat.reduceAdd, Nat.reduceSub, Nat.reduceLT, Nat.reduceEqDiff, reduceCtorEq, Nat.reduceLeDiff, Nat.reduceBEq, Nat.reduceMul, Int.reduceToNat, words]; rfl) (by repeat' first | exact trivial | constructor) ?_
      exact ⟨y, x, hy, by omega, oy, ox, by omega, fun a w h => Rel.keep [1, 0] [] h⟩
    · have g : ¬ (x.length : Int) < y.length := by omega
      refine Holds.step (Px := px) (T := TT) (ρ := fun _ => []) TTe (by simp (maxSteps := 100000) (disch := omega) only [go_sem, V.isAgg, V.flat, ↓reduceIte, Nat.reduceAdd, Nat.reduceSub, Nat.reduceLT, Nat.reduceEqDiff, reduceCtorEq, Nat.reduceLeDiff, Nat.reduceBEq, Nat.reduceMul, Int.reduceToNat, words, g]; rfl) (by repeat' first | exact trivial | constructor) ?_
      exact Holds.condF rfl (Holds.skip ⟨x, y, hx, by omega, ox, oy, hV, fun a w h => Rel.keep [1, 0] [] h⟩)
  clear hx hy ox oy hV
  rintro σ ⟨x, y, hx, hle, ox, oy, hV, hσ⟩
  refine Holds.from hσ ?_
  clear hσ
  obtain ⟨hfin, hfo⟩ := add_shape hle ox oy
  rw [← hV] at hfin
  obtain ⟨N, hN⟩ : ∃ N, N = x.length + 1 := ⟨_, rfl⟩
  have e1 : IntKind.i64.wrap ((x.length : Int) + 1) = (N : Int) := by rw [wrap_i64 (by omega) (by omega)]; omega
  rw [← hN] at hfin hfo
  refine Holds.step (Px := px) (T := TT) (ρ := fun _ => []) TTe (by simp (maxSteps := 100000) (disch := omega) only [go_sem, V.isAgg, V.flat, ↓reduceIte, Nat.reduceAdd, Nat.reduceSub, Nat.reduceLT, Nat.reduceEqDiff, reduceCtorEq, Nat.reduceLeDiff, Nat.reduceBEq, Nat.reduceMul, Int.reduceToNat, words, e1, tby76]; rfl) (by repeat' first | exact trivial | constructor) ?_
  refine Holds.step (Px := px) (T := TT) (ρ := fun _ => []) TTe (by simp (maxSteps := 100000) (disch := omega) only [go_sem, V.isAgg, V.flat, ↓reduceIte, Nat.reduceAdd, Nat.reduceSub, Nat.reduceLT, Nat.reduceEqDiff, reduceCtorEq, Nat.reduceLeDiff, Nat.reduceBEq, Nat.reduceMul, Int.reduceToNat]; rfl) (by repeat' first | exact trivial | constructor) ?_
  have hrep : List.replicate N (V.int IntKind.u64 0) = (zeros N).map fun n => V.int .u64 n := by rw [zeros, List.map_replicate]
  rw [hrep]
  have hI := adI_ok (n := N) ox oy
  refine Holds.next (fun σ => ∀ a w, Rel cx w0 σ a w → Rel cx w0 { nt := 54, env := [(6, .v true (.int .u64 (adI x y N x.length).2)), (5, .own 19 0 N), (0, .v false (words x))], mem := [(19, .buf 76 1 true ((adI x y N x.length).1.map fun n => .int .u64 n))] } a w) ?_ ?_
  · refine Holds.step (Px := px) (T := TT) (ρ := fun _ => []) TTe (by simp (maxSteps := 100000) (disch := omega) only [go_sem, V.isAgg, V.flat, ↓reduceIte, Nat.reduceAdd, Nat.reduceSub, Nat.reduceLT, Nat.reduceEqDiff, reduceCtorEq, Nat.reduceLeDiff, Nat.reduceBEq, Nat.reduceMul, Int.reduceToNat, words]; rfl) (by repeat' first | exact trivial | constructor) ?_
    refine Holds.loopB (fun k : Nat => { nt := 54, env := [(22, .v true (.int .i64 (k : Nat))), (21, .v true (.int .i64 (x.length : Nat))), (6, .v true (.int .u64 (adI x y N k).2)), (5, .own 19 0 N), (1, .v false (words y)), (0, .v false (words x))], mem := [(19, .buf 76 1 true ((adI x y N k).1.map fun n => .int .u64 n))] })
      (fun k => k ≤ x.length) (fun k => x.length - k) 0 (Nat.zero_le _) (fun a w h => Rel.keep [22, 21, 6, 5, 1, 0] [19] h) ?_
    intro k hk
    obtain ⟨h1, h2, h3, h4⟩ := hI k
    by_cases hend : k = x.length
    · subst hend
      refine Holds.step (Px := px) (T := TT) (ρ := fun _ => []) TTe (by simp (maxSteps := 100000) (disch := omega) only [go_sem, V.isAgg, V.flat, ↓reduceIte, Nat.reduceAdd, Nat.reduceSub, Nat.reduceLT, Nat.reduceEqDiff, reduceCtorEq, Nat.reduceLeDiff, Nat.reduceBEq, Nat.reduceMul, Int.reduceToNat]; rfl) (by repeat' first | exact trivial | constructor) ?_
      exact Holds.seq (Holds.condF rfl (Holds.exit ⟨rfl, fun a w h => Rel.keep [6, 5, 0] [19] h⟩))
    · have hkl : k < x.length := by omega
      have g : (k : Int) < x.length := by omega
      have e2 : IntKind.i64.wrap ((k : Int) + 1) = ((k + 1 : Nat) : Int) := by rw [wrap_i64 (by omega) (by omega)]; omega
      have hx1 := okW_getD ox k
      have hy1 := okW_getD oy k
      refine Holds.step (Px := px) (T := TT) (ρ := fun _ => []) TTe (by simp (maxSteps := 100000) (disch := omega) only [go_sem, V.isAgg, V.flat, ↓reduceIte, Nat.reduceAdd, Nat.reduceSub, Nat.reduceLT, Nat.reduceEqDiff, reduceCtorEq, Nat.reduceLeDiff, Nat.reduceBEq, Nat.reduceMul, Int.reduceToNat, g]; rfl) (by repeat' first | exact trivial | constructor) ?_
      refine Holds.seq (Holds.condT rfl (Holds.skip ?_))
      refine Holds.seq (Holds.block ?_)
      refine Holds.step (Px := px) (T := TT) (ρ := fun _ => []) TTe (by simp (maxSteps := 100000) (disch := omega) only [go_sem, V.isAgg, V.flat, ↓reduceIte, Nat.reduceAdd, Nat.reduceSub, Nat.reduceLT, Nat.reduceEqDiff, reduceCtorEq, Nat.reduceLeDiff, Nat.reduceBEq, Nat.reduceMul, Int.reduceToNat]; rfl) (by repeat' first | exact trivial | constructor) ?_
      refine Holds.step (Px := px) (T := TT) (ρ := fun _ => []) TTe (by simp (maxSteps := 100000) (disch := omega) only [go_sem, V.isAgg, V.flat, ↓reduceIte, Nat.reduceAdd, Nat.reduceSub, Nat.reduceLT, Nat.reduceEqDiff, reduceCtorEq, Nat.reduceLeDiff, Nat.reduceBEq, Nat.reduceMul, Int.reduceToNat]; rfl) (by repeat' first | exact trivial | constructor) ?_
      refine Holds.next (fun σ => ∀ a w, Rel cx w0 σ a w → Rel cx w0 { nt := 54, env := [(7, .v true (.int .i64 (k : Nat))), (8, .v true (.int .u64 (y.getD k 0))), (22, .v true (.int .i64 (k : Nat))), (21, .v true (.int .i64 (x.length : Nat))), (6, .v true (.int .u64 (adI x y N k).2)), (5, .own 19 0 N), (1, .v false (words y)), (0, .v false (words x))], mem := [(19, .buf 76 1 true ((adI x y N k).1.map fun n => .int .u64 n))] } a w) ?_ ?_
      · by_cases hky : k < y.length
        · have g1 : (k : Int) < y.length := by omega
          refine Holds.step (Px := px) (T := TT) (ρ := fun _ => []) TTe (by simp (maxSteps := 100000) (disch := omega) only [go_sem, V.isAgg, V.flat, ↓reduceIte, Nat.reduceAdd, Nat.reduceSub, Nat.reduceLT, Nat.reduceEqDiff, reduceCtorEq, Nat.reduceLeDiff, Nat.reduceBEq, Nat.reduceMul, Int.reduceToNat, words, g1]; rfl) (by repeat' first | exact trivial | constructor) ?_
          refine Holds.condT rfl ?_
          refine Holds.region (Px := px) (T := TT) (ρ := fun _ => []) TTe (by simp (maxSteps := 100000) (disch := omega) only [go_sem, V.isAgg, V.flat, ↓reduceIte, Nat.reduceAdd, Nat.reduceSub, Nat.reduceLT, Nat.reduceEqDiff, reduceCtorEq, Nat.reduceLeDiff, Nat.reduceBEq, Nat.reduceMul, Int.reduceToNat, words, get_map hky]; rfl) (by repeat' first | exact trivial | constructor) ?_
          exact fun a w h => Rel.keep [7, 8, 22, 21, 6, 5, 1, 0] [19] h
        · have g1 : ¬ (k : Int) < y.length := by omega
          refine Holds.step (Px := px) (T := TT) (ρ := fun _ => []) TTe (by simp (maxSteps := 100000) (disch := omega) only [go_sem, V.isAgg, V.flat, ↓reduceIte, Nat.reduceAdd, Nat.reduceSub, Nat.reduceLT, Nat.reduceEqDiff, reduceCtorEq, Nat.reduceLeDiff, Nat.reduceBEq, Nat.reduceMul, Int.reduceToNat, words, g1]; rfl) (by repeat' first | exact trivial | constructor) ?_
          refine Holds.condF rfl (Holds.skip fun a w h => ?_)
          rw [getD_far (l := y) (by omega)]
          exact Rel.keep [7, 8, 22, 21, 6, 5, 1, 0] [19] h
      · intro σ hσ
        refine Holds.from hσ ?_
        have hik : k < (adI x y N k).1.length := by omega
        have e : adI x y N (k + 1) = ((adI x y N k).1.set k ((x.getD k 0 + y.getD k 0 + (adI x y N k).2) % 18446744073709551616), (x.getD k 0 + y.getD k 0 + (adI x y N k).2) / 18446744073709551616) := rfl
        have hA := add64_ok _ _ _ hx1.1 hy1.1 h2.1 h2.2
        obtain ⟨k1, hk1⟩ : ∃ k1, k1 = k + 1 := ⟨_, rfl⟩
        rw [← hk1] at e2 e
        refine Holds.region (Px := px) (T := TT) (ρ := fun _ => [.v true (.int .u64 ((x.getD k 0 + y.getD k 0 + (adI x y N k).2) % 18446744073709551616)), .v true (.int .u64 ((x.getD k 0 + y.getD k 0 + (adI x y N k).2) / 18446744073709551616))]) TTe (by simp (maxSteps := 100000) (disch := omega) only [go_sem, V.isAgg, V.flat, ↓reduceIte, Nat.reduceAdd, Nat.reduceSub, Nat.reduceLT, Nat.reduceEqDiff, reduceCtorEq, Nat.reduceLeDiff, Nat.reduceBEq, Nat.reduceMul, Int.reduceToNat, words, get_map hkl, get_map hik, hik]; rfl) (by first | exact hA | (repeat' first | exact trivial | exact hA | constructor)) ?_
        show Holds _ _ _ _ _ _ _
        refine Holds.region (Px := px) (T := TT) (ρ := fun _ => []) TTe (by simp (maxSteps := 100000) (disch := omega) only [go_sem, V.isAgg, V.flat, ↓reduceIte, Nat.reduceAdd, Nat.reduceSub, Nat.reduceLT, Nat.reduceEqDiff, reduceCtorEq, Nat.reduceLeDiff, Nat.reduceBEq, Nat.reduceMul, Int.reduceToNat, e2]; rfl) (by repeat' first | exact trivial | constructor) ?_
        refine ⟨k1, by omega, (show x.length - k1 < x.length - k by omega), fun a w h => ?_⟩
        simp only [e, List.map_set]
        exact Rel.keep [22, 21, 6, 5, 1, 0] [19] h
  · intro σ hσ
    refine Holds.from hσ ?_
    obtain ⟨h1, h2, h3, h4⟩ := hI x.length
    have hT := wTrim_ok _ (by rw [List.length_set, h3]; omega) hfo
    rw [hfin] at hT
    have hik : x.length < (adI x y N x.length).1.length := by omega
    obtain ⟨L, hL⟩ : ∃ L, L = (adI x y N x.length).1 := ⟨_, rfl⟩
    rw [← hL] at hT hik h3 ⊢
    have g : (x.length : Int) < N := by omega
    have hxN : x.length < N := by omega
    refine Holds.step (Px := px) (T := TT) (ρ := fun _ => []) TTe (by simp (maxSteps := 100000) (disch := omega) only [go_sem, V.isAgg, V.flat, ↓reduceIte, Nat.reduceAdd, Nat.reduceSub, Nat.reduceLT, Nat.reduceEqDiff, reduceCtorEq, Nat.reduceLeDiff, Nat.reduceBEq, Nat.reduceMul, Int.reduceToNat, words, get_map hik, g, hxN]; rfl) (by repeat' first | exact trivial | constructor) ?_
    have hms : (L.map fun n => V.int .u64 n).set x.length (V.int .u64 (adI x y N x.length).2) = (L.set x.length (adI x y N x.length).2).map fun n => V.int .u64 n := by rw [List.map_set]
    rw [hms]
    have htk : List.take N (List.map (fun n => V.int .u64 n) (L.set x.length (adI x y N x.length).2)) = List.map (fun n => V.int .u64 n) (L.set x.length (adI x y N x.length).2) := List.take_of_length_le (by rw [List.length_map, List.length_set]; omega)
    refine Holds.step (Px := px) (T := TT) (ρ := fun _ => [.v true (words (digs Z))]) TTe (by simp (maxSteps := 100000) (disch := omega) only [go_sem, V.isAgg, V.flat, ↓reduceIte, Nat.reduceAdd, Nat.reduceSub, Nat.reduceLT, Nat.reduceEqDiff, reduceCtorEq, Nat.reduceLeDiff, Nat.reduceBEq, Nat.reduceMul, Int.reduceToNat, htk]; rfl) (by first | exact hT | (repeat' first | exact trivial | exact hT | constructor)) ?_
    exact Holds.ret (RetOk.vs rfl (by exact ⟨⟨rfl, fun h => h⟩, trivial⟩) rfl)
/-
  wide.Mul: the words of a product; the walk.
-/

def wmI (ai : Int) (b : List Int) (i : Nat) (s : List Int × Int) : Nat → List Int × Int
  | 0 => s
  | k + 1 => ((wmI ai b i s k).1.set (i + k) (((wmI ai b i s k).2 + (wmI ai b i s k).1.getD (i + k) 0 + ai * b.getD k 0) % 18446744073709551616), ((wmI ai b i s k).2 + (wmI ai b i s k).1.getD (i + k) 0 + ai * b.getD k 0) / 18446744073709551616)
def wmO (a b : List Int) : Nat → List Int
  | 0 => List.replicate (a.length + b.length) 0
  | i + 1 => (wmI (a.getD i 0) b i (wmO a b i, 0) b.length).1.set (i + b.length) (wmI (a.getD i 0) b i (wmO a b i, 0) b.length).2

theorem wm_bound {ai u : Int} (ha : 0 ≤ ai ∧ ai < 18446744073709551616) (hu : 0 ≤ u ∧ u < 18446744073709551616) : 0 ≤ ai * u ∧ ai * u ≤ 340282366920938463426481119284349108225 := by
  refine ⟨Int.mul_nonneg ha.1 hu.1, ?_⟩
  have : ai * u ≤ 18446744073709551615 * 18446744073709551615 := Int.mul_le_mul (by omega) (by omega) hu.1 (by omega)
  omega

theorem wmI_ok {ai : Int} {b : List Int} {i : Nat} {s : List Int × Int} (ha : 0 ≤ ai ∧ ai < 18446744073709551616) (ob : okW b) (hs : okW s.1) (hc : 0 ≤ s.2 ∧ s.2 < 18446744073709551616) : ∀ k, okW (wmI ai b i s k).1 ∧ (0 ≤ (wmI ai b i s k).2 ∧ (wmI ai b i s k).2 < 18446744073709551616) ∧ (wmI ai b i s k).1.length = s.1.length
  | 0 => ⟨hs, hc, rfl⟩
  | k + 1 => by
    obtain ⟨h1, h2, h3⟩ := wmI_ok (i := i) ha ob hs hc k
    have h4 := okW_getD h1 (i + k)
    have h5 := wm_bound ha (okW_getD ob k)
    rw [wmI]
    refine ⟨okW_set h1 (by omega), by simp only; omega, by simp only; rw [List.length_set, h3]⟩

theorem wmI_far {ai : Int} {b : List Int} {i : Nat} {s : List Int × Int} : ∀ k j, i + k ≤ j → (wmI ai b i s k).1.getD j 0 = s.1.getD j 0
  | 0, _, _ => rfl
  | k + 1, j, h => by
    rw [wmI]
    simp only
    rw [List.getD_eq_getElem?_getD, List.getElem?_set_ne (by omega), ← List.getD_eq_getElem?_getD]
    exact wmI_far k j (by omega)

theorem wmI_val {ai : Int} {b : List Int} {i : Nat} {s : List Int × Int} (ha : 0 ≤ ai ∧ ai < 18446744073709551616) (ob : okW b) (hs : okW s.1) (hc : 0 ≤ s.2 ∧ s.2 < 18446744073709551616) : ∀ k, i + k ≤ s.1.length →
    val (wmI ai b i s k).1 + 18446744073709551616 ^ (i + k) * (wmI ai b i s k).2.toNat = val s.1 + 18446744073709551616 ^ i * (ai.toNat * val (b.take k) + s.2.toNat)
  | 0, _ => by rw [wmI, List.take_zero, val]; simp
  | k + 1, hk => by
    have ih := wmI_val (i := i) ha ob hs hc k (by omega)
    obtain ⟨h1, h2, h3⟩ := wmI_ok (i := i) ha ob hs hc k
    have hi : i + k < (wmI ai b i s k).1.length := by omega
    have hz := okW_getD h1 (i + k)
    have hu := okW_getD ob k
    have hp := wm_bound ha hu
    rw [wmI, val_take_succ]
    simp only
    have hset := val_set (n := ((wmI ai b i s k).2 + (wmI ai b i s k).1.getD (i + k) 0 + ai * b.getD k 0) % 18446744073709551616) hi
    generalize (wmI ai b i s k).1.getD (i + k) 0 = z at *
    generalize b.getD k 0 = u at *
    generalize (wmI ai b i s k).2 = c at *
    have em0 : (ai * u).toNat = ai.toNat * u.toNat := by
      obtain ⟨A, rfl⟩ : ∃ n : Nat, ai = n := ⟨ai.toNat, by omega⟩
      obtain ⟨U, rfl⟩ : ∃ n : Nat, u = n := ⟨u.toNat, by omega⟩
      rw [← Int.natCast_mul, Int.toNat_natCast, Int.toNat_natCast, Int.toNat_natCast]
    have eD : 18446744073709551616 ^ (i + (k + 1)) = 18446744073709551616 ^ (i + k) * 18446744073709551616 := by rw [← Nat.add_assoc, Nat.pow_succ]
    have eA : 18446744073709551616 ^ i * (ai.toNat * (val (b.take k) + 18446744073709551616 ^ k * u.toNat) + s.2.toNat) = 18446744073709551616 ^ i * (ai.toNat * val (b.take k) + s.2.toNat) + 18446744073709551616 ^ (i + k) * (ai * u).toNat := by
      rw [em0, Nat.pow_add, Nat.mul_assoc, ← Nat.mul_add]
      congr 1
      rw [Nat.mul_add, Nat.mul_left_comm]
      omega
    generalize ai * u = m at *
    have er : ((c + z + m) % 18446744073709551616).toNat + 18446744073709551616 * ((c + z + m) / 18446744073709551616).toNat = z.toNat + m.toNat + c.toNat := by omega
    have em : 18446744073709551616 ^ (i + k) * ((c + z + m) % 18446744073709551616).toNat + 18446744073709551616 ^ (i + k) * (18446744073709551616 * ((c + z + m) / 18446744073709551616).toNat) = 18446744073709551616 ^ (i + k) * z.toNat + 18446744073709551616 ^ (i + k) * m.toNat + 18446744073709551616 ^ (i + k) * c.toNat := by
      rw [← Nat.mul_add, er, Nat.mul_add, Nat.mul_add]
    rw [eD, eA, Nat.mul_assoc]
    generalize 18446744073709551616 ^ (i + k) * ((c + z + m) % 18446744073709551616).toNat = a1 at *
    generalize 18446744073709551616 ^ (i + k) * (18446744073709551616 * ((c + z + m) / 18446744073709551616).toNat) = a2 at *
    generalize 18446744073709551616 ^ (i + k) * z.toNat = a3 at *
    generalize 18446744073709551616 ^ (i + k) * m.toNat = a4 at *
    generalize 18446744073709551616 ^ (i + k) * c.toNat = a5 at *
    generalize 18446744073709551616 ^ i * (ai.toNat * val (b.take k) + s.2.toNat) = a6 at *
    omega

theorem wmO_ok {a b : List Int} (oa : okW a) (ob : okW b) : ∀ i, i ≤ a.length → okW (wmO a b i) ∧ (wmO a b i).length = a.length + b.length ∧ val (wmO a b i) = val (a.take i) * val b ∧ ∀ j, i + b.length ≤ j → (wmO a b i).getD j 0 = 0
  | 0, _ => by
    refine ⟨fun n hn => by rw [wmO, List.mem_replicate] at hn; omega, by rw [wmO, List.length_replicate], ?_, fun j hj => ?_⟩
    · rw [wmO, List.take_zero, val, Nat.zero_mul]
      have := val_zeros [] (a.length + b.length)
      rw [List.nil_append] at this
      exact this
    · rw [wmO, List.getD_eq_getElem?_getD]
      cases h : (List.replicate (a.length + b.length) (0 : Int))[j]? with
      | none => rfl
      | some x => have := List.mem_of_getElem? h; rw [List.mem_replicate] at this; exact this.2
  | i + 1, hi => by
    obtain ⟨h1, h2, h3, h4⟩ := wmO_ok oa ob i (by omega)
    have ha := okW_getD oa i
    obtain ⟨k1, k2, k3⟩ := wmI_ok (i := i) (s := (wmO a b i, 0)) ha ob h1 (by simp) b.length
    have kv := wmI_val (i := i) (s := (wmO a b i, 0)) ha ob h1 (by simp) b.length (by simp only; omega)
    have kf := wmI_far (ai := a.getD i 0) (b := b) (i := i) (s := (wmO a b i, 0)) b.length
    have hlt : i + b.length < (wmI (a.getD i 0) b i (wmO a b i, 0) b.length).1.length := by rw [k3]; simp only; omega
    rw [wmO]
    refine ⟨okW_set k1 k2, by rw [List.length_set, k3]; exact h2, ?_, fun j hj => ?_⟩
    · have hs := val_set (n := (wmI (a.getD i 0) b i (wmO a b i, 0) b.length).2) hlt
      have h0 : (wmI (a.getD i 0) b i (wmO a b i, 0) b.length).1.getD (i + b.length) 0 = 0 := by
        rw [kf _ (Nat.le_refl _)]
        exact h4 _ (Nat.le_refl _)
      rw [h0, Int.toNat_zero, Nat.mul_zero, Nat.add_zero] at hs
      rw [List.take_length] at kv
      simp only [Int.toNat_zero, Nat.add_zero] at kv
      rw [hs, kv, h3, val_take_succ, Nat.add_mul, Nat.mul_assoc]
    · rw [List.getD_eq_getElem?_getD, List.getElem?_set_ne (by omega), ← List.getD_eq_getElem?_getD, kf _ (by omega)]
      exact h4 _ (by omega)

theorem mul_step {A U z c : Nat} (hA : A < 18446744073709551616) (hU : U < 18446744073709551616) (hz : z < 18446744073709551616) (hc : c < 18446744073709551616) :
    ((A * U % 18446744073709551616 + z) % 18446744073709551616 + c) % 18446744073709551616 = (c + z + A * U) % 18446744073709551616 ∧
    A * U / 18446744073709551616 + (A * U % 18446744073709551616 + z) / 18446744073709551616 + ((A * U % 18446744073709551616 + z) % 18446744073709551616 + c) / 18446744073709551616 = (c + z + A * U) / 18446744073709551616 ∧
    (c + z + A * U) / 18446744073709551616 < 18446744073709551616 := by
  have hp : A * U ≤ 18446744073709551615 * 18446744073709551615 := Nat.mul_le_mul (by omega) (by omega)
  generalize A * U = p at *
  omega

set_option maxRecDepth 100000 in
set_option maxHeartbeats 2000000 in
theorem wMul_ok (x y : List Int) (hx : x.length < 400000) (hy : y.length < 400000) (ox : okW x) (oy : okW y) : FnOk Tryz.prog 40 [.v (words x), .v (words y)] [.v true (words (digs (val x * val y)))] := by
  have v1 := view_ok x (by omega)
  have v2 := view_ok y (by omega)
  have t1 := trimL_len x
  have t2 := trimL_len y
  have o1 := trimL_ok ox
  have o2 := trimL_ok oy
  rw [← val_trim x, ← val_trim y]
  generalize trimL x = a at *
  generalize trimL y = b at *
  refine FnOk.of Tryz.func40 rfl rfl fun cx w0 => ?_
  rw [show Tryz.f40.ntmps = 93 from rfl]
  refine Holds.step (Px := px) (T := TT) (ρ := fun _ => []) TTe (by simp (maxSteps := 100000) (disch := omega) only [go_sem, V.isAgg, V.flat, ↓reduceIte, Nat.reduceAdd, Nat.reduceSub, Nat.reduceLT, Nat.reduceEqDiff, reduceCtorEq, Nat.reduceLeDiff, Nat.reduceBEq, Nat.reduceMul, Int.reduceToNat, List.length_cons, List.length_nil]; rfl) (by repeat' first | exact trivial | constructor) ?_
  refine Holds.step (Px := px) (T := TT) (ρ := fun d => if d = 15 then [.v false (words a)] else [.v false (words b)]) TTe (by simp (maxSteps := 100000) (disch := omega) only [go_sem, V.isAgg, V.flat, ↓reduceIte, Nat.reduceAdd, Nat.reduceSub, Nat.reduceLT, Nat.reduceEqDiff, reduceCtorEq, Nat.reduceLeDiff, Nat.reduceBEq, Nat.reduceMul, Int.reduceToNat]; rfl) (by first | exact ⟨v1, v2⟩ | (repeat' first | exact trivial | exact v1 | exact v2 | constructor)) ?_
  refine Holds.from (σ' := { nt := 93, env := [(1, .v false (words b)), (0, .v false (words a))], mem := [] }) (fun a w h => Rel.keep [1, 0] [] h) ?_
  by_cases ha0 : a = []
  · subst ha0
    rw [show val ([] : List Int) * val b = 0 from by simp [val]]
    refine Holds.seq ?_
    refine Holds.step (Px := px) (T := TT) (ρ := fun _ => []) TTe (by simp (maxSteps := 100000) (disch := omega) only [go_sem, V.isAgg, V.flat, ↓reduceIte, Nat.reduceAdd, Nat.reduceSub, Nat.reduceLT, Nat.reduceEqDiff, reduceCtorEq, Nat.reduceLeDiff, Nat.reduceBEq, Nat.reduceMul, Int.reduceToNat, words]; rfl) (by repeat' first | exact trivial | constructor) ?_
    refine Holds.condT rfl ?_
    refine Holds.step (Px := px) (T := TT) (ρ := fun _ => []) TTe (by simp (maxSteps := 100000) (disch := omega) only [go_sem, V.isAgg, V.flat, ↓reduceIte, Nat.reduceAdd, Nat.reduceSub, Nat.reduceLT, Nat.reduceEqDiff, reduceCtorEq, Nat.reduceLeDiff, Nat.reduceBEq, Nat.reduceMul, Int.reduceToNat]; rfl) (by repeat' first | exact trivial | constructor) ?_
    rw [show words (digs 0) = .sl 1 [] from rfl]
    exact Holds.ret ⟨_, [], rfl, ⟨rfl, trivial⟩, by simp [R.names, R.mems, R.blks], by simp, rfl⟩
  by_cases hb0 : b = []
  · subst hb0
    rw [show val a * val ([] : List Int) = 0 from by simp [val]]
    have hpos : 0 < a.length := List.length_pos_iff.2 ha0
    have g : ¬ (a.length : Int) = 0 := by omega
    refine Holds.seq ?_
    refine Holds.step (Px := px) (T := TT) (ρ := fun _ => []) TTe (by simp (maxSteps := 100000) (disch := omega) only [go_sem, V.isAgg, V.flat, ↓reduceIte, Nat.reduceAdd, Nat.reduceSub, Nat.reduceLT, Nat.reduceEqDiff, reduceCtorEq, Nat.reduceLeDiff, Nat.reduceBEq, Nat.reduceMul, Int.reduceToNat, words, g]; rfl) (by repeat' first | exact trivial | constructor) ?_
    refine Holds.condT rfl ?_
    refine Holds.step (Px := px) (T := TT) (ρ := fun _ => []) TTe (by simp (maxSteps := 100000) (disch := omega) only [go_sem, V.isAgg, V.flat, ↓reduceIte, Nat.reduceAdd, Nat.reduceSub, Nat.reduceLT, Nat.reduceEqDiff, reduceCtorEq, Nat.reduceLeDiff, Nat.reduceBEq, Nat.reduceMul, Int.reduceToNat]; rfl) (by repeat' first | exact trivial | constructor) ?_
    rw [show words (digs 0) = .sl 1 [] from rfl]
    exact Holds.ret ⟨_, [], rfl, ⟨rfl, trivial⟩, by simp [R.names, R.mems, R.blks], by simp, rfl⟩
  have hap : 0 < a.length := List.length_pos_iff.2 ha0
  have hbp : 0 < b.length := List.length_pos_iff.2 hb0
  have ga : ¬ (a.length : Int) = 0 := by omega
  have gb : ¬ (b.length : Int) = 0 := by omega
  refine Holds.next (fun σ => ∀ x w, Rel cx w0 σ x w → Rel cx w0 { nt := 93, env := [(1, .v false (words b)), (0, .v false (words a))], mem := [] } x w) ?_ ?_
  · refine Holds.step (Px := px) (T := TT) (ρ := fun _ => []) TTe (by simp (maxSteps := 100000) (disch := omega) only [go_sem, V.isAgg, V.flat, ↓reduceIte, Nat.reduceAdd, Nat.reduceSub, Nat.reduceLT, Nat.reduceEqDiff, reduceCtorEq, Nat.reduceLeDiff, Nat.reduceBEq, Nat.reduceMul, Int.reduceToNat, words, ga, gb]; rfl) (by repeat' first | exact trivial | constructor) ?_
    exact Holds.condF rfl (Holds.skip fun x w h => Rel.keep [1, 0] [] h)
  intro σ hσ
  refine Holds.from hσ ?_
  clear hσ ga gb
  obtain ⟨N, hN⟩ : ∃ N, N = a.length + b.length := ⟨_, rfl⟩
  have eN : IntKind.i64.wrap ((a.length : Int) + (b.length : Int)) = (N : Int) := by rw [wrap_i64 (by omega) (by omega)]; omega
  refine Holds.step (Px := px) (T := TT) (ρ := fun _ => []) TTe (by simp (maxSteps := 100000) (disch := omega) only [go_sem, V.isAgg, V.flat, ↓reduceIte, Nat.reduceAdd, Nat.reduceSub, Nat.reduceLT, Nat.reduceEqDiff, reduceCtorEq, Nat.reduceLeDiff, Nat.reduceBEq, Nat.reduceMul, Int.reduceToNat, words, eN, tby76]; rfl) (by repeat' first | exact trivial | constructor) ?_
  obtain ⟨f1, f2, f3, f4⟩ := wmO_ok o1 o2 a.length (Nat.le_refl _)
  rw [val_take_all (Nat.le_refl _)] at f3
  refine Holds.next (fun σ => ∀ x w, Rel cx w0 σ x w → Rel cx w0 { nt := 93, env := [(5, .own 31 0 N)], mem := [(31, .buf 76 1 true ((wmO a b a.length).map fun n => .int .u64 n))] } x w) ?_ ?_
  · refine Holds.step (Px := px) (T := TT) (ρ := fun _ => []) TTe (by simp (maxSteps := 100000) (disch := omega) only [go_sem, V.isAgg, V.flat, ↓reduceIte, Nat.reduceAdd, Nat.reduceSub, Nat.reduceLT, Nat.reduceEqDiff, reduceCtorEq, Nat.reduceLeDiff, Nat.reduceBEq, Nat.reduceMul, Int.reduceToNat, words]; rfl) (by repeat' first | exact trivial | constructor) ?_
    refine Holds.loopB (fun i : Nat => { nt := 93, env := [(34, .v true (.int .i64 (i : Nat))), (33, .v true (.int .i64 (a.length : Nat))), (32, .v false (words a)), (5, .own 31 0 N), (1, .v false (words b))], mem := [(31, .buf 76 1 true ((wmO a b i).map fun n => .int .u64 n))] }) (fun i => i ≤ a.length) (fun i => a.length - i) 0 (Nat.zero_le _) (fun x w h => by
      have := Rel.keep [34, 33, 32, 5, 1] [31] h
      rw [wmO, List.map_replicate, ← hN]
      exact this) ?_
    intro i hi
    obtain ⟨h1, h2, h3, h4⟩ := wmO_ok o1 o2 i hi
    by_cases hend : i = a.length
    · have g : ¬ (i : Int) < a.length := by omega
      refine Holds.step (Px := px) (T := TT) (ρ := fun _ => []) TTe (by simp (maxSteps := 100000) (disch := omega) only [go_sem, V.isAgg, V.flat, ↓reduceIte, Nat.reduceAdd, Nat.reduceSub, Nat.reduceLT, Nat.reduceEqDiff, reduceCtorEq, Nat.reduceLeDiff, Nat.reduceBEq, Nat.reduceMul, Int.reduceToNat, g]; rfl) (by repeat' first | exact trivial | constructor) ?_
      refine Holds.seq (Holds.condF rfl (Holds.exit ⟨rfl, fun x w h => ?_⟩))
      rw [← hend]
      exact Rel.keep [5] [31] h
    have hia : i < a.length := by omega
    have g : (i : Int) < a.length := by omega
    have hA := okW_getD o1 i
    have gA := get_map hia
    obtain ⟨A, hAe⟩ : ∃ A : Nat, a.getD i 0 = A := ⟨(a.getD i 0).toNat, by omega⟩
    rw [hAe] at hA gA
    obtain ⟨s, hs⟩ : ∃ s : List Int × Int, s = (wmO a b i, 0) := ⟨_, rfl⟩
    have hs1 : s.1 = wmO a b i := by rw [hs]
    have hs2 : s.2 = 0 := by rw [hs]
    have os : okW s.1 := by rw [hs1]; exact h1
    have hsl : s.1.length = N := by rw [hs1, h2, hN]
    have hI := wmI_ok (i := i) hA o2 os (by rw [hs2]; omega)
    have ei1 : IntKind.i64.wrap ((i : Int) + 1) = ((i + 1 : Nat) : Int) := by rw [wrap_i64 (by omega) (by omega)]; omega
    refine Holds.step (Px := px) (T := TT) (ρ := fun _ => []) TTe (by simp (maxSteps := 100000) (disch := omega) only [go_sem, V.isAgg, V.flat, ↓reduceIte, Nat.reduceAdd, Nat.reduceSub, Nat.reduceLT, Nat.reduceEqDiff, reduceCtorEq, Nat.reduceLeDiff, Nat.reduceBEq, Nat.reduceMul, Int.reduceToNat, g]; rfl) (by repeat' first | exact trivial | constructor) ?_
    refine Holds.seq (Holds.condT rfl (Holds.skip ?_))
    show Holds _ _ _ _ _ _ _
    refine Holds.next (fun σ => ∀ x w, Rel cx w0 σ x w → Rel cx w0 { nt := 93, env := [(34, .v true (.int .i64 (i : Nat))), (33, .v true (.int .i64 (a.length : Nat))), (32, .v false (words a)), (5, .own 31 0 N), (1, .v false (words b))], mem := [(31, .buf 76 1 true ((wmO a b (i + 1)).map fun n => .int .u64 n))] } x w) ?_ ?_
    · refine Holds.blockN ?_
      refine Holds.step (Px := px) (T := TT) (ρ := fun _ => []) TTe (by simp (maxSteps := 100000) (disch := omega) only [go_sem, V.isAgg, V.flat, ↓reduceIte, Nat.reduceAdd, Nat.reduceSub, Nat.reduceLT, Nat.reduceEqDiff, reduceCtorEq, Nat.reduceLeDiff, Nat.reduceBEq, Nat.reduceMul, Int.reduceToNat, words, gA]; rfl) (by repeat' first | exact trivial | constructor) ?_
      refine Holds.step (Px := px) (T := TT) (ρ := fun _ => []) TTe (by simp (maxSteps := 100000) (disch := omega) only [go_sem, V.isAgg, V.flat, ↓reduceIte, Nat.reduceAdd, Nat.reduceSub, Nat.reduceLT, Nat.reduceEqDiff, reduceCtorEq, Nat.reduceLeDiff, Nat.reduceBEq, Nat.reduceMul, Int.reduceToNat]; rfl) (by repeat' first | exact trivial | constructor) ?_
      refine Holds.next (fun σ => ∀ x w, Rel cx w0 σ x w → Rel cx w0 { nt := 93, env := [(6, .v true (.int .i64 (i : Nat))), (8, .v true (.int .u64 (wmI A b i s b.length).2)), (34, .v true (.int .i64 (i : Nat))), (33, .v true (.int .i64 (a.length : Nat))), (32, .v false (words a)), (5, .own 31 0 N), (1, .v false (words b))], mem := [(31, .buf 76 1 true ((wmI A b i s b.length).1.map fun n => .int .u64 n))] } x w) ?_ ?_
      · refine Holds.step (Px := px) (T := TT) (ρ := fun _ => []) TTe (by simp (maxSteps := 100000) (disch := omega) only [go_sem, V.isAgg, V.flat, ↓reduceIte, Nat.reduceAdd, Nat.reduceSub, Nat.reduceLT, Nat.reduceEqDiff, reduceCtorEq, Nat.reduceLeDiff, Nat.reduceBEq, Nat.reduceMul, Int.reduceToNat, words]; rfl) (by repeat' first | exact trivial | constructor) ?_
        refine Holds.loopB (fun k : Nat => { nt := 93, env := [(41, .v true (.int .i64 (k : Nat))), (40, .v true (.int .i64 (b.length : Nat))), (39, .v false (words b)), (6, .v true (.int .i64 (i : Nat))), (7, .v true (.int .u64 (A : Nat))), (8, .v true (.int .u64 (wmI A b i s k).2)), (34, .v true (.int .i64 (i : Nat))), (33, .v true (.int .i64 (a.length : Nat))), (32, .v false (words a)), (5, .own 31 0 N), (1, .v false (words b))], mem := [(31, .buf 76 1 true ((wmI A b i s k).1.map fun n => .int .u64 n))] }) (fun k => k ≤ b.length) (fun k => b.length - k) 0 (Nat.zero_le _) (fun x w h => by
          have := Rel.keep [41, 40, 39, 6, 7, 8, 34, 33, 32, 5, 1] [31] h
          rw [wmI, hs]
          exact this) ?_
        intro k hk
        obtain ⟨k1, k2, k3⟩ := hI k
        by_cases hend2 : k = b.length
        · have g2 : ¬ (k : Int) < b.length := by omega
          refine Holds.step (Px := px) (T := TT) (ρ := fun _ => []) TTe (by simp (maxSteps := 100000) (disch := omega) only [go_sem, V.isAgg, V.flat, ↓reduceIte, Nat.reduceAdd, Nat.reduceSub, Nat.reduceLT, Nat.reduceEqDiff, reduceCtorEq, Nat.reduceLeDiff, Nat.reduceBEq, Nat.reduceMul, Int.reduceToNat, g2]; rfl) (by repeat' first | exact trivial | constructor) ?_
          refine Holds.seq (Holds.condF rfl (Holds.exit ⟨rfl, fun x w h => ?_⟩))
          rw [← hend2]
          exact Rel.keep [6, 8, 34, 33, 32, 5, 1] [31] h
        have hkb : k < b.length := by omega
        have g2 : (k : Int) < b.length := by omega
        have gB := get_map hkb
        have hU := okW_getD o2 k
        have hik : i + k < (wmI A b i s k).1.length := by omega
        have gZ := get_map hik
        have hZ := okW_getD k1 (i + k)
        have esucc : wmI A b i s (k + 1) = ((wmI A b i s k).1.set (i + k) (((wmI A b i s k).2 + (wmI A b i s k).1.getD (i + k) 0 + A * b.getD k 0) % 18446744073709551616), ((wmI A b i s k).2 + (wmI A b i s k).1.getD (i + k) 0 + A * b.getD k 0) / 18446744073709551616) := rfl
        obtain ⟨U, hUe⟩ : ∃ U : Nat, b.getD k 0 = U := ⟨(b.getD k 0).toNat, by omega⟩
        rw [hUe] at gB hU esucc
        obtain ⟨T, hT⟩ : ∃ T, T = wmI A b i s k := ⟨_, rfl⟩
        rw [← hT] at k1 k2 k3 hik gZ hZ esucc ⊢
        obtain ⟨z, hz⟩ : ∃ z : Nat, T.1.getD (i + k) 0 = z := ⟨(T.1.getD (i + k) 0).toNat, by omega⟩
        rw [hz] at gZ hZ esucc
        obtain ⟨c, hc⟩ : ∃ c : Nat, T.2 = c := ⟨T.2.toNat, by omega⟩
        rw [hc] at k2 esucc ⊢
        have hst := mul_step (A := A) (U := U) (z := z) (c := c) (by omega) (by omega) (by omega) (by omega)
        have hM := mul64_ok A U (by omega) (by omega)
        obtain ⟨hi_, hhi⟩ : ∃ h, h = A * U / 18446744073709551616 := ⟨_, rfl⟩
        obtain ⟨lo, hlo⟩ : ∃ l, l = A * U % 18446744073709551616 := ⟨_, rfl⟩
        have hlo8 : lo < 18446744073709551616 := by rw [hlo]; exact Nat.mod_lt _ (by decide)
        rw [← hhi, ← hlo] at hM hst
        have ecast : ((c : Int) + (z : Int) + (A : Int) * (U : Int)) = ((c + z + A * U : Nat) : Int) := by rw [Int.natCast_add, Int.natCast_add, Int.natCast_mul]
        rw [ecast] at esucc
        obtain ⟨q, hq⟩ : ∃ q, q = c + z + A * U := ⟨_, rfl⟩
        rw [← hq] at esucc hst
        obtain ⟨s1, hs1'⟩ : ∃ s1, s1 = (lo + z + 0) % 18446744073709551616 := ⟨_, rfl⟩
        obtain ⟨c1, hc1'⟩ : ∃ c1, c1 = (lo + z + 0) / 18446744073709551616 := ⟨_, rfl⟩
        have hA1 := add64N lo z 0 (by omega) hs1' hc1'
        obtain ⟨s2, hs2'⟩ : ∃ s2, s2 = (s1 + c + 0) % 18446744073709551616 := ⟨_, rfl⟩
        obtain ⟨c2, hc2'⟩ : ∃ c2, c2 = (s1 + c + 0) / 18446744073709551616 := ⟨_, rfl⟩
        have hA2 := add64N s1 c 0 (by omega) hs2' hc2'
        rw [Nat.add_zero] at hs1' hc1' hs2' hc2'
        rw [← hs1', ← hc1', ← hs2', ← hc2'] at hst
        obtain ⟨st1, st2, st3⟩ := hst
        obtain ⟨h1', hh1'⟩ : ∃ h, h = hi_ + c1 := ⟨_, rfl⟩
        have w1 : IntKind.u64.wrap ((hi_ : Int) + (c1 : Int)) = (h1' : Int) := by rw [wrap_u64]; omega
        obtain ⟨h2', hh2'⟩ : ∃ h, h = h1' + c2 := ⟨_, rfl⟩
        have w2 : IntKind.u64.wrap ((h1' : Int) + (c2 : Int)) = (h2' : Int) := by rw [wrap_u64]; omega
        have eik : IntKind.i64.wrap ((i : Int) + (k : Int)) = ((i + k : Nat) : Int) := by rw [wrap_i64 (by omega) (by omega)]; omega
        obtain ⟨ik, hike⟩ : ∃ ik, ik = i + k := ⟨_, rfl⟩
        rw [← hike] at eik hik gZ esucc
        have gik : (ik : Int) < N := by omega
        have ek1 : IntKind.i64.wrap ((k : Int) + 1) = ((k + 1 : Nat) : Int) := by rw [wrap_i64 (by omega) (by omega)]; omega
        obtain ⟨k', hk'⟩ : ∃ k', k' = k + 1 := ⟨_, rfl⟩
        rw [← hk'] at ek1 esucc
        have es2 : (q : Int) % 18446744073709551616 = (s2 : Int) := by omega
        have eh2 : (q : Int) / 18446744073709551616 = (h2' : Int) := by omega
        rw [es2, eh2] at esucc
        clear hhi hlo hq hs1' hc1' hs2' hc2' st1 st2 st3 es2 eh2 ecast hT hs hs1 hs2 os hsl hI h1 h2 h3 h4 f1 f2 f3 f4 v1 v2
        refine Holds.step (Px := px) (T := TT) (ρ := fun _ => []) TTe (by simp (maxSteps := 100000) (disch := omega) only [go_sem, V.isAgg, V.flat, ↓reduceIte, Nat.reduceAdd, Nat.reduceSub, Nat.reduceLT, Nat.reduceEqDiff, reduceCtorEq, Nat.reduceLeDiff, Nat.reduceBEq, Nat.reduceMul, Int.reduceToNat, g2]; rfl) (by repeat' first | exact trivial | constructor) ?_
        refine Holds.seq (Holds.condT rfl (Holds.skip ?_))
        show Holds _ _ _ _ _ _ _
        refine Holds.next (fun σ => ∀ x w, Rel cx w0 σ x w → Rel cx w0 { nt := 93, env := [(41, .v true (.int .i64 (k : Nat))), (40, .v true (.int .i64 (b.length : Nat))), (39, .v false (words b)), (6, .v true (.int .i64 (i : Nat))), (7, .v true (.int .u64 (A : Nat))), (8, .v true (.int .u64 (h2' : Nat))), (34, .v true (.int .i64 (i : Nat))), (33, .v true (.int .i64 (a.length : Nat))), (32, .v false (words a)), (5, .own 31 0 N), (1, .v false (words b))], mem := [(31, .buf 76 1 true ((T.1.set ik s2).map fun n => .int .u64 n))] } x w) ?_ ?_
        · refine Holds.blockN ?_
          refine Holds.step (Px := px) (T := TT) (ρ := fun _ => []) TTe (by simp (maxSteps := 100000) (disch := omega) only [go_sem, V.isAgg, V.flat, ↓reduceIte, Nat.reduceAdd, Nat.reduceSub, Nat.reduceLT, Nat.reduceEqDiff, reduceCtorEq, Nat.reduceLeDiff, Nat.reduceBEq, Nat.reduceMul, Int.reduceToNat, words, gB]; rfl) (by repeat' first | exact trivial | constructor) ?_
          refine Holds.step (Px := px) (T := TT) (ρ := fun _ => [.v true (.int .u64 (hi_ : Nat)), .v true (.int .u64 (lo : Nat))]) TTe (by simp (maxSteps := 100000) (disch := omega) only [go_sem, V.isAgg, V.flat, ↓reduceIte, Nat.reduceAdd, Nat.reduceSub, Nat.reduceLT, Nat.reduceEqDiff, reduceCtorEq, Nat.reduceLeDiff, Nat.reduceBEq, Nat.reduceMul, Int.reduceToNat]; rfl) (by first | exact hM | (repeat' first | exact trivial | exact hM | constructor)) ?_
          refine Holds.step (Px := px) (T := TT) (ρ := fun _ => []) TTe (by simp (maxSteps := 100000) (disch := omega) only [go_sem, V.isAgg, V.flat, ↓reduceIte, Nat.reduceAdd, Nat.reduceSub, Nat.reduceLT, Nat.reduceEqDiff, reduceCtorEq, Nat.reduceLeDiff, Nat.reduceBEq, Nat.reduceMul, Int.reduceToNat]; rfl) (by repeat' first | exact trivial | constructor) ?_
          refine Holds.step (Px := px) (T := TT) (ρ := fun _ => [.v true (.int .u64 (s1 : Nat)), .v true (.int .u64 (c1 : Nat))]) TTe (by simp (maxSteps := 100000) (disch := omega) only [go_sem, V.isAgg, V.flat, ↓reduceIte, Nat.reduceAdd, Nat.reduceSub, Nat.reduceLT, Nat.reduceEqDiff, reduceCtorEq, Nat.reduceLeDiff, Nat.reduceBEq, Nat.reduceMul, Int.reduceToNat, eik, gZ, gik, hik]; rfl) (by first | exact hA1 | (repeat' first | exact trivial | exact hA1 | constructor)) ?_
          refine Holds.from (σ' := { nt := 93, env := [(9, .v true (.int .i64 (k : Nat))), (11, .v true (.int .u64 (hi_ : Nat))), (12, .v true (.int .u64 (s1 : Nat))), (13, .v true (.int .u64 (c1 : Nat))), (41, .v true (.int .i64 (k : Nat))), (40, .v true (.int .i64 (b.length : Nat))), (39, .v false (words b)), (6, .v true (.int .i64 (i : Nat))), (7, .v true (.int .u64 (A : Nat))), (8, .v true (.int .u64 (c : Nat))), (34, .v true (.int .i64 (i : Nat))), (33, .v true (.int .i64 (a.length : Nat))), (32, .v false (words a)), (5, .own 31 0 N), (1, .v false (words b))], mem := [(31, .buf 76 1 true (T.1.map fun n => .int .u64 n))] }) (fun x w h => Rel.keep [9, 11, 12, 13, 41, 40, 39, 6, 7, 8, 34, 33, 32, 5, 1] [31] h) ?_
          refine Holds.step (Px := px) (T := TT) (ρ := fun _ => []) TTe (by simp (maxSteps := 100000) (disch := omega) only [go_sem, V.isAgg, V.flat, ↓reduceIte, Nat.reduceAdd, Nat.reduceSub, Nat.reduceLT, Nat.reduceEqDiff, reduceCtorEq, Nat.reduceLeDiff, Nat.reduceBEq, Nat.reduceMul, Int.reduceToNat, w1]; rfl) (by repeat' first | exact trivial | constructor) ?_
          refine Holds.step (Px := px) (T := TT) (ρ := fun _ => [.v true (.int .u64 (s2 : Nat)), .v true (.int .u64 (c2 : Nat))]) TTe (by simp (maxSteps := 100000) (disch := omega) only [go_sem, V.isAgg, V.flat, ↓reduceIte, Nat.reduceAdd, Nat.reduceSub, Nat.reduceLT, Nat.reduceEqDiff, reduceCtorEq, Nat.reduceLeDiff, Nat.reduceBEq, Nat.reduceMul, Int.reduceToNat]; rfl) (by first | exact hA2 | (repeat' first | exact trivial | exact hA2 | constructor)) ?_
          refine Holds.step (Px := px) (T := TT) (ρ := fun _ => []) TTe (by simp (maxSteps := 100000) (disch := omega) only [go_sem, V.isAgg, V.flat, ↓reduceIte, Nat.reduceAdd, Nat.reduceSub, Nat.reduceLT, Nat.reduceEqDiff, reduceCtorEq, Nat.reduceLeDiff, Nat.reduceBEq, Nat.reduceMul, Int.reduceToNat, w2]; rfl) (by repeat' first | exact trivial | constructor) ?_
          refine Holds.region (Px := px) (T := TT) (ρ := fun _ => []) TTe (by simp (maxSteps := 100000) (disch := omega) only [go_sem, V.isAgg, V.flat, ↓reduceIte, Nat.reduceAdd, Nat.reduceSub, Nat.reduceLT, Nat.reduceEqDiff, reduceCtorEq, Nat.reduceLeDiff, Nat.reduceBEq, Nat.reduceMul, Int.reduceToNat, eik, gZ, gik, hik]; rfl) (by repeat' first | exact trivial | constructor) ?_
          intro x w h
          rw [List.map_set]
          exact Rel.keep [41, 40, 39, 6, 7, 8, 34, 33, 32, 5, 1] [31] h
        · intro σ hσ
          refine Holds.from hσ ?_
          refine Holds.region (Px := px) (T := TT) (ρ := fun _ => []) TTe (by simp (maxSteps := 100000) (disch := omega) only [go_sem, V.isAgg, V.flat, ↓reduceIte, Nat.reduceAdd, Nat.reduceSub, Nat.reduceLT, Nat.reduceEqDiff, reduceCtorEq, Nat.reduceLeDiff, Nat.reduceBEq, Nat.reduceMul, Int.reduceToNat, ek1]; rfl) (by repeat' first | exact trivial | constructor) ?_
          refine ⟨k', (by show k' ≤ b.length; omega), (show b.length - k' < b.length - k by omega), fun x w h => ?_⟩
          simp only [esucc]
          exact Rel.keep [41, 40, 39, 6, 7, 8, 34, 33, 32, 5, 1] [31] h
      · intro σ hσ
        refine Holds.from hσ ?_
        obtain ⟨k1, k2, k3⟩ := hI b.length
        have hib : i + b.length < (wmI A b i s b.length).1.length := by omega
        have e : wmO a b (i + 1) = (wmI A b i s b.length).1.set (i + b.length) (wmI A b i s b.length).2 := by rw [wmO, hAe, hs]
        have eib : IntKind.i64.wrap ((i : Int) + (b.length : Int)) = ((i + b.length : Nat) : Int) := by rw [wrap_i64 (by omega) (by omega)]; omega
        obtain ⟨ib, hibe⟩ : ∃ ib, ib = i + b.length := ⟨_, rfl⟩
        rw [← hibe] at eib hib e
        have gZ := get_map hib
        have gib : (ib : Int) < N := by omega
        refine Holds.region (Px := px) (T := TT) (ρ := fun _ => []) TTe (by simp (maxSteps := 100000) (disch := omega) only [go_sem, V.isAgg, V.flat, ↓reduceIte, Nat.reduceAdd, Nat.reduceSub, Nat.reduceLT, Nat.reduceEqDiff, reduceCtorEq, Nat.reduceLeDiff, Nat.reduceBEq, Nat.reduceMul, Int.reduceToNat, words, eib, gZ, gib, hib]; rfl) (by repeat' first | exact trivial | constructor) ?_
        intro x w h
        rw [e, List.map_set]
        exact Rel.keep [34, 33, 32, 5, 1] [31] h
    · intro σ hσ
      refine Holds.from hσ ?_
      obtain ⟨i1, hi1⟩ : ∃ i1, i1 = i + 1 := ⟨_, rfl⟩
      rw [← hi1] at ei1 ⊢
      refine Holds.region (Px := px) (T := TT) (ρ := fun _ => []) TTe (by simp (maxSteps := 100000) (disch := omega) only [go_sem, V.isAgg, V.flat, ↓reduceIte, Nat.reduceAdd, Nat.reduceSub, Nat.reduceLT, Nat.reduceEqDiff, reduceCtorEq, Nat.reduceLeDiff, Nat.reduceBEq, Nat.reduceMul, Int.reduceToNat, ei1]; rfl) (by repeat' first | exact trivial | constructor) ?_
      exact ⟨i1, (by show i1 ≤ a.length; omega), (show a.length - i1 < a.length - i by omega), fun x w h => Rel.keep [34, 33, 32, 5, 1] [31] h⟩
  · intro σ hσ
    refine Holds.from hσ ?_
    have hTr := wTrim_ok _ (by rw [f2]; omega) f1
    rw [f3] at hTr
    have htk : List.take N (List.map (fun n => V.int .u64 n) (wmO a b a.length)) = List.map (fun n => V.int .u64 n) (wmO a b a.length) := List.take_of_length_le (by rw [List.length_map, f2]; omega)
    refine Holds.step (Px := px) (T := TT) (ρ := fun _ => [.v true (words (digs (val a * val b)))]) TTe (by simp (maxSteps := 100000) (disch := omega) only [go_sem, V.isAgg, V.flat, ↓reduceIte, Nat.reduceAdd, Nat.reduceSub, Nat.reduceLT, Nat.reduceEqDiff, reduceCtorEq, Nat.reduceLeDiff, Nat.reduceBEq, Nat.reduceMul, Int.reduceToNat, htk]; rfl) (by first | exact hTr | (repeat' first | exact trivial | exact hTr | constructor)) ?_
    exact Holds.ret (RetOk.vs rfl (by exact ⟨⟨rfl, fun h => h⟩, trivial⟩) rfl)
/-
  wide.FromBase.
-/

set_option maxRecDepth 100000 in
theorem flush_ok (n t u : Nat) (hn : (digs n).length < 40000) (hnt : (digs (n * t)).length < 40000) (ht : t < 18446744073709551616) (hu : u < 18446744073709551616) :
    ClosOk Tryz.prog 136 [(5, .box 30 (.v true (words (digs n)))), (6, .box 76 (.v true (.int .u64 t))), (7, .box 76 (.v true (.int .u64 u)))] [(5, .box 30 (.v true (words (digs (n * t + u))))), (6, .box 76 (.v true (.int .u64 1))), (7, .box 76 (.v true (.int .u64 0)))] := by
  have c1 := wWord_ok t ht
  have c2 := wWord_ok u hu
  have lt : (digs t).length < 40000 := by have := digs_len (v := t) (m := 1) (by omega); omega
  have lu : (digs u).length < 40000 := by have := digs_len (v := u) (m := 1) (by omega); omega
  have c3 := wMul_ok (digs n) (digs t) (by omega) (by omega) (digs_ok n).1 (digs_ok t).1
  rw [(digs_ok n).2.2, (digs_ok t).2.2] at c3
  have c4 := wAdd_ok (digs (n * t)) (digs u) (by omega) (by omega) (digs_ok _).1 (digs_ok _).1
  rw [(digs_ok (n * t)).2.2, (digs_ok u).2.2] at c4
  refine ClosOk.of Tryz.func136 rfl rfl fun cx w0 M Rt F => ?_
  show Holds Tryz.prog none cx w0 _ { nt := 10, env := [(0, .ptr 5 0 [] 0), (1, .ptr 6 0 [] 0), (2, .ptr 7 0 [] 0)], mem := (5, .box 30 (.v true (words (digs n)))) :: (6, .box 76 (.v true (.int .u64 t))) :: (7, .box 76 (.v true (.int .u64 u))) :: M, root := Rt, fix := F } _
  unfold words
  obtain ⟨nt, hnte⟩ : ∃ nt, nt = n * t := ⟨_, rfl⟩
  rw [← hnte] at c3 c4 ⊢
  obtain ⟨z, hz⟩ : ∃ z, z = nt + u := ⟨_, rfl⟩
  rw [← hz] at c4 ⊢
  unfold words at c1 c2 c3 c4
  refine Holds.dstep (Px := px) (T := TT) (ρ := fun d => if d = 5 then [.v true (.sl 1 ((digs t).map fun n => .int .u64 n))] else if d = 6 then [.v true (.sl 1 ((digs nt).map fun n => .int .u64 n))] else if d = 8 then [.v true (.sl 1 ((digs u).map fun n => .int .u64 n))] else [.v true (.sl 1 ((digs z).map fun n => .int .u64 n))]) [] mixed (by kernel_rfl) TTe (by simp (maxSteps := 100000) (disch := omega) only [go_sem, V.isAgg, V.flat, ↓reduceIte, Nat.reduceAdd, Nat.reduceSub, Nat.reduceLT, Nat.reduceEqDiff, reduceCtorEq, Nat.reduceLeDiff, Nat.reduceBEq, Nat.reduceMul, Int.reduceToNat]; rfl) (by first | exact ⟨c1, c3, c2, c4⟩ | (repeat' first | exact trivial | exact c1 | exact c3 | exact c2 | exact c4 | constructor)) (by rfl) (by rfl) (by rfl) ?_
  refine Holds.region (Px := px) (T := TT) (ρ := fun _ => []) TTe (by simp (maxSteps := 100000) (disch := omega) only [go_sem, V.isAgg, V.flat, ↓reduceIte, Nat.reduceAdd, Nat.reduceSub, Nat.reduceLT, Nat.reduceEqDiff, reduceCtorEq, Nat.reduceLeDiff, Nat.reduceBEq, Nat.reduceMul, Int.reduceToNat]; rfl) (by repeat' first | exact trivial | constructor) ?_
  refine ⟨.inr rfl, rfl, rfl, rfl, fun q => ?_, rfl⟩
  simp only [look, List.cons_append, List.nil_append]
  (repeat' split) <;> first | rfl | omega

/-- A variable that holds nil holds an empty row. -/
theorem Rel.boxNil {cx : Cx} {w0 w : World} {σ : St} {a : Act} {s z : Nat} {e : TypeId} (hat : σ.at s = .box e .nil) (h : Rel cx w0 σ a w) : Rel cx w0 (σ.upd [(s, .box e (.v true (.sl z [])))]) a w := by
  obtain ⟨hd, μ, hr⟩ := h
  have at_eq : ∀ t, (σ.upd [(s, Blk.box e (.v true (.sl z [])))]).at t = if s = t then .box e (.v true (.sl z [])) else σ.at t := fun _ => rfl
  have hm := hr.mem s
  rw [hat] at hm
  obtain ⟨b, cap, cur, val, m1, m2, m3, m4, m5⟩ := hm
  rw [repA_nil] at m3
  refine ⟨hd, μ, hr.next ⟨Nat.le_refl _, fun _ _ _ _ h => h, fun s b c h => .inl ⟨s, c, h⟩, fun _ _ h _ => h⟩ hr.below hr.sites (fun q => ?_) (fun q => ?_)⟩
  · rw [at_eq]
    split
    · next he =>
      subst he
      right
      exact ⟨b, cap, cur, val, m1, m2, by rw [RepA]; exact ⟨[.slice none 0 0], by rw [Rep]; exact .inl ⟨rfl, _, _, rfl⟩, m3⟩, m4, fun h => by cases h⟩
    · exact .inl ⟨rfl, rfl, fun _ _ _ => rfl⟩
  · rw [at_eq]
    split
    · next he => subst he; rw [hat]; exact .inr (.inl ⟨rfl, trivial⟩)
    · exact .inr (.inl ⟨rfl, Blk.fits_refl _⟩)

/-- A digit's value. -/
def dvN (c : Nat) : Nat := if 97 ≤ c then c - 87 else if 65 ≤ c then c - 55 else c - 48
/-- The number of the first digits. -/
def fbN (s : ByteArray) (base : Nat) : Nat → Nat
  | 0 => 0
  | k + 1 => fbN s base k * base + dvN (bAt s k)
def okDig (s : ByteArray) (base : Nat) : Prop := ∀ i, i < s.size → 48 ≤ bAt s i ∧ dvN (bAt s i) < base

theorem fbN_lt {s : ByteArray} {base : Nat} (hb : base ≤ 16) (hd : okDig s base) : ∀ k, k ≤ s.size → fbN s base k < 16 ^ k
  | 0, _ => by simp [fbN]
  | k + 1, hk => by
    have ih := fbN_lt hb hd k (by omega)
    have h1 := (hd k (by omega)).2
    rw [fbN, Nat.pow_succ]
    have h2 : fbN s base k * base ≤ (16 ^ k - 1) * 16 := Nat.mul_le_mul (by omega) hb
    rw [Nat.sub_mul] at h2
    omega

set_option maxRecDepth 100000 in
set_option maxHeartbeats 2000000 in
theorem fromBase_ok (s : ByteArray) (base : Nat) (hs : s.size ≤ 1000) (hb : base ≤ 16) (hb2 : 2 ≤ base) (hd : okDig s base) :
    FnOk Tryz.prog 77 [.v (.str s), .v (.int .u64 base)] [.v true (words (digs (fbN s base s.size)))] := by
  refine FnOk.of Tryz.func77 rfl rfl fun cx w0 => ?_
  rw [show Tryz.f77.ntmps = 49 from rfl]
  refine Holds.step (Px := px) (T := TT) (ρ := fun _ => []) TTe (by simp (maxSteps := 100000) (disch := omega) only [go_sem, V.isAgg, V.flat, ↓reduceIte, Nat.reduceAdd, Nat.reduceSub, Nat.reduceLT, Nat.reduceEqDiff, reduceCtorEq, Nat.reduceLeDiff, Nat.reduceBEq, Nat.reduceMul, Int.reduceToNat, List.length_cons, List.length_nil]; rfl) (by repeat' first | exact trivial | constructor) ?_
  refine Holds.step (Px := px) (T := TT) (ρ := fun _ => []) TTe (by simp (maxSteps := 100000) (disch := omega) only [go_sem, V.isAgg, V.flat, ↓reduceIte, Nat.reduceAdd, Nat.reduceSub, Nat.reduceLT, Nat.reduceEqDiff, reduceCtorEq, Nat.reduceLeDiff, Nat.reduceBEq, Nat.reduceMul, Int.reduceToNat]; rfl) (by repeat' first | exact trivial | constructor) ?_
  refine Holds.step (Px := px) (T := TT) (ρ := fun _ => []) TTe (by simp (maxSteps := 100000) (disch := omega) only [go_sem, V.isAgg, V.flat, ↓reduceIte, Nat.reduceAdd, Nat.reduceSub, Nat.reduceLT, Nat.reduceEqDiff, reduceCtorEq, Nat.reduceLeDiff, Nat.reduceBEq, Nat.reduceMul, Int.reduceToNat]; rfl) (by repeat' first | exact trivial | constructor) ?_
  refine Holds.step (Px := px) (T := TT) (ρ := fun _ => []) TTe (by simp (maxSteps := 100000) (disch := omega) only [go_sem, V.isAgg, V.flat, ↓reduceIte, Nat.reduceAdd, Nat.reduceSub, Nat.reduceLT, Nat.reduceEqDiff, reduceCtorEq, Nat.reduceLeDiff, Nat.reduceBEq, Nat.reduceMul, Int.reduceToNat]; rfl) (by repeat' first | exact trivial | constructor) ?_
  refine Holds.from (fun a w h => Rel.boxNil (s := 5) (z := 1) rfl h) ?_
  refine Holds.from (σ' := { nt := 49, env := [(8, .fn 136 [.ptr 5 0 [] 0, .ptr 6 0 [] 0, .ptr 7 0 [] 0]), (5, .ptr 5 0 [] 0), (6, .ptr 6 0 [] 0), (7, .ptr 7 0 [] 0), (0, .v true (.str s)), (1, .v true (.int .u64 base))], mem := [(5, .box 30 (.v true (words (digs 0)))), (6, .box 76 (.v true (.int .u64 (1 : Nat)))), (7, .box 76 (.v true (.int .u64 (0 : Nat))))] }) (fun a w h => Rel.keep [8, 5, 6, 7, 0, 1] [5, 6, 7] h) ?_
  -- what the variables stand for
  have hlt := fbN_lt hb hd
  refine Holds.next (fun σ => ∃ n t u : Nat, n * t + u = fbN s base s.size ∧ n ≤ fbN s base s.size ∧ n * t ≤ fbN s base s.size ∧ t < 18446744073709551616 ∧ u < 18446744073709551616 ∧ ∀ a w, Rel cx w0 σ a w → Rel cx w0 { nt := 49, env := [(8, .fn 136 [.ptr 5 0 [] 0, .ptr 6 0 [] 0, .ptr 7 0 [] 0]), (5, .ptr 5 0 [] 0), (6, .ptr 6 0 [] 0), (7, .ptr 7 0 [] 0), (0, .v true (.str s)), (1, .v true (.int .u64 base))], mem := [(5, .box 30 (.v true (words (digs n)))), (6, .box 76 (.v true (.int .u64 (t : Nat)))), (7, .box 76 (.v true (.int .u64 (u : Nat))))] } a w) ?_ ?_
  · refine Holds.step (Px := px) (T := TT) (ρ := fun _ => []) TTe (by simp (maxSteps := 100000) (disch := omega) only [go_sem, V.isAgg, V.flat, ↓reduceIte, Nat.reduceAdd, Nat.reduceSub, Nat.reduceLT, Nat.reduceEqDiff, reduceCtorEq, Nat.reduceLeDiff, Nat.reduceBEq, Nat.reduceMul, Int.reduceToNat]; rfl) (by repeat' first | exact trivial | constructor) ?_
    refine Holds.loopB (fun q : Nat × Nat × Nat × Nat => { nt := 49, env := [(14, .v true (.int .i64 (q.1 : Nat))), (13, .v true (.int .i64 (s.size : Nat))), (8, .fn 136 [.ptr 5 0 [] 0, .ptr 6 0 [] 0, .ptr 7 0 [] 0]), (5, .ptr 5 0 [] 0), (6, .ptr 6 0 [] 0), (7, .ptr 7 0 [] 0), (0, .v true (.str s)), (1, .v true (.int .u64 base))], mem := [(5, .box 30 (.v true (words (digs q.2.1)))), (6, .box 76 (.v true (.int .u64 (q.2.2.1 : Nat)))), (7, .box 76 (.v true (.int .u64 (q.2.2.2 : Nat))))] })
      (fun q => q.1 ≤ s.size ∧ q.2.1 * q.2.2.1 + q.2.2.2 = fbN s base q.1 ∧ q.2.2.2 < q.2.2.1 ∧ q.2.2.1 < 72057594037927936) (fun q => s.size - q.1) (0, 0, 1, 0) ⟨Nat.zero_le _, rfl, by show 0 < 1; omega, by show 1 < _; omega⟩ (fun a w h => Rel.keep [14, 13, 8, 5, 6, 7, 0, 1] [5, 6, 7] h) ?_
    rintro ⟨i, n, t, u⟩ ⟨hi, hv, hut, ht⟩
    simp only at hi hv hut ht
    by_cases hend : i = s.size
    · have g : ¬ (i : Int) < s.size := by omega
      refine Holds.step (Px := px) (T := TT) (ρ := fun _ => []) TTe (by simp (maxSteps := 100000) (disch := omega) only [go_sem, V.isAgg, V.flat, ↓reduceIte, Nat.reduceAdd, Nat.reduceSub, Nat.reduceLT, Nat.reduceEqDiff, reduceCtorEq, Nat.reduceLeDiff, Nat.reduceBEq, Nat.reduceMul, Int.reduceToNat, g]; rfl) (by repeat' first | exact trivial | constructor) ?_
      refine Holds.seq (Holds.condF rfl (Holds.exit ⟨rfl, n, t, u, by rw [hv, hend], ?_, ?_, by omega, by omega, fun a w h => Rel.keep [8, 5, 6, 7, 0, 1] [5, 6, 7] h⟩))
      · rw [← hend, ← hv]
        have : n * 1 ≤ n * t := Nat.mul_le_mul_left _ (by omega)
        omega
      · rw [← hend, ← hv]; omega
    have hil : i < s.size := by omega
    have g : (i : Int) < s.size := by omega
    obtain ⟨x, hx, ex⟩ := bAt_some hil
    obtain ⟨hd1, hd2⟩ := hd i hil
    have hv1 : fbN s base (i + 1) = fbN s base i * base + dvN (bAt s i) := rfl
    have hlt1 := hlt (i + 1) (by omega)
    rw [ex] at hd1 hd2 hv1
    have hx8 := x.toNat_lt
    obtain ⟨c, hc⟩ : ∃ c, c = x.toNat := ⟨_, rfl⟩
    rw [← hc] at hd1 hd2 hv1 hx8
    obtain ⟨d, hde⟩ : ∃ d, d = dvN c := ⟨_, rfl⟩
    have w0' : IntKind.u64.wrap (c : Int) = c := by rw [wrap_u64]; omega
    have ei1 : IntKind.i64.wrap ((i : Int) + 1) = ((i + 1 : Nat) : Int) := by rw [wrap_i64 (by omega) (by omega)]; omega
    obtain ⟨i1, hi1⟩ : ∃ i1, i1 = i + 1 := ⟨_, rfl⟩
    rw [← hi1] at ei1 hv1 hlt1
    have htb : t * base ≤ 72057594037927936 * 16 := Nat.mul_le_mul (by omega) hb
    have hub : u * base + base ≤ t * base := by
      have : (u + 1) * base ≤ t * base := Nat.mul_le_mul_right _ (by omega)
      rw [Nat.add_mul, Nat.one_mul] at this
      exact this
    have hnew : n * (t * base) + (u * base + d) = fbN s base i1 := by
      rw [hv1, ← hv, hde, Nat.add_mul, Nat.mul_assoc, Nat.add_assoc]
    have w1 : IntKind.u64.wrap ((t : Int) * (base : Int)) = ((t * base : Nat) : Int) := by rw [← Int.natCast_mul, wrap_u64]; omega
    have w2 : IntKind.u64.wrap ((u : Int) * (base : Int)) = ((u * base : Nat) : Int) := by rw [← Int.natCast_mul, wrap_u64]; omega
    rw [← hde] at hd2
    have w3 : IntKind.u64.wrap (((u * base : Nat) : Int) + (d : Int)) = ((u * base + d : Nat) : Int) := by rw [wrap_u64]; omega
    obtain ⟨tb, htbe⟩ : ∃ tb, tb = t * base := ⟨_, rfl⟩
    obtain ⟨ub, hube⟩ : ∃ ub, ub = u * base := ⟨_, rfl⟩
    rw [← htbe] at w1 htb hub hnew
    rw [← hube] at w2 w3 hub hnew
    obtain ⟨ud, hude⟩ : ∃ ud, ud = ub + d := ⟨_, rfl⟩
    rw [← hude] at w3 hnew
    have hutb : ud < tb := by omega
    refine Holds.step (Px := px) (T := TT) (ρ := fun _ => []) TTe (by simp (maxSteps := 100000) (disch := omega) only [go_sem, V.isAgg, V.flat, ↓reduceIte, Nat.reduceAdd, Nat.reduceSub, Nat.reduceLT, Nat.reduceEqDiff, reduceCtorEq, Nat.reduceLeDiff, Nat.reduceBEq, Nat.reduceMul, Int.reduceToNat, g]; rfl) (by repeat' first | exact trivial | constructor) ?_
    refine Holds.seq (Holds.condT rfl (Holds.skip ?_))
    show Holds _ _ _ _ _ _ _
    refine Holds.next (fun σ => ∃ n t u : Nat, n * t + u = fbN s base i1 ∧ u < t ∧ t < 72057594037927936 ∧ ∀ a w, Rel cx w0 σ a w → Rel cx w0 { nt := 49, env := [(14, .v true (.int .i64 (i : Nat))), (13, .v true (.int .i64 (s.size : Nat))), (8, .fn 136 [.ptr 5 0 [] 0, .ptr 6 0 [] 0, .ptr 7 0 [] 0]), (5, .ptr 5 0 [] 0), (6, .ptr 6 0 [] 0), (7, .ptr 7 0 [] 0), (0, .v true (.str s)), (1, .v true (.int .u64 base))], mem := [(5, .box 30 (.v true (words (digs n)))), (6, .box 76 (.v true (.int .u64 (t : Nat)))), (7, .box 76 (.v true (.int .u64 (u : Nat))))] } a w) ?_ ?_
    · refine Holds.blockN ?_
      refine Holds.step (Px := px) (T := TT) (ρ := fun _ => []) TTe (by simp (maxSteps := 100000) (disch := omega) only [go_sem, V.isAgg, V.flat, ↓reduceIte, Nat.reduceAdd, Nat.reduceSub, Nat.reduceLT, Nat.reduceEqDiff, reduceCtorEq, Nat.reduceLeDiff, Nat.reduceBEq, Nat.reduceMul, Int.reduceToNat]; rfl) (by repeat' first | exact trivial | constructor) ?_
      refine Holds.step (Px := px) (T := TT) (ρ := fun _ => []) TTe (by simp (maxSteps := 100000) (disch := omega) only [go_sem, V.isAgg, V.flat, ↓reduceIte, Nat.reduceAdd, Nat.reduceSub, Nat.reduceLT, Nat.reduceEqDiff, reduceCtorEq, Nat.reduceLeDiff, Nat.reduceBEq, Nat.reduceMul, Int.reduceToNat, indexA, hx, g]; rfl) (by repeat' first | exact trivial | constructor) ?_
      rw [← hc]
      refine Holds.next (fun σ => ∀ a w, Rel cx w0 σ a w → Rel cx w0 { nt := 49, env := [(10, .v true (.int .u64 (d : Nat))), (14, .v true (.int .i64 (i : Nat))), (13, .v true (.int .i64 (s.size : Nat))), (8, .fn 136 [.ptr 5 0 [] 0, .ptr 6 0 [] 0, .ptr 7 0 [] 0]), (5, .ptr 5 0 [] 0), (6, .ptr 6 0 [] 0), (7, .ptr 7 0 [] 0), (0, .v true (.str s)), (1, .v true (.int .u64 base))], mem := [(5, .box 30 (.v true (words (digs n)))), (6, .box 76 (.v true (.int .u64 (t : Nat)))), (7, .box 76 (.v true (.int .u64 (u : Nat))))] } a w) ?_ ?_
      · refine Holds.blockN ?_
        by_cases h97 : 97 ≤ c
        · have e : d = c - 87 := by rw [hde, dvN, if_pos h97]
          have g1 : (97 : Int) ≤ c := by omega
          have w : IntKind.u64.wrap ((c : Int) - 87) = (d : Int) := by rw [wrap_u64]; omega
          refine Holds.step (Px := px) (T := TT) (ρ := fun _ => []) TTe (by simp (maxSteps := 100000) (disch := omega) only [go_sem, V.isAgg, V.flat, ↓reduceIte, Nat.reduceAdd, Nat.reduceSub, Nat.reduceLT, Nat.reduceEqDiff, reduceCtorEq, Nat.reduceLeDiff, Nat.reduceBEq, Nat.reduceMul, Int.reduceToNat, w0', g1]; rfl) (by repeat' first | exact trivial | constructor) ?_
          refine Holds.condT rfl ?_
          refine Holds.region (Px := px) (T := TT) (ρ := fun _ => []) TTe (by simp (maxSteps := 100000) (disch := omega) only [go_sem, V.isAgg, V.flat, ↓reduceIte, Nat.reduceAdd, Nat.reduceSub, Nat.reduceLT, Nat.reduceEqDiff, reduceCtorEq, Nat.reduceLeDiff, Nat.reduceBEq, Nat.reduceMul, Int.reduceToNat, w0', w]; rfl) (by repeat' first | exact trivial | constructor) ?_
          exact fun a w h => Rel.keep [10, 14, 13, 8, 5, 6, 7, 0, 1] [5, 6, 7] h
        · have g1 : ¬ (97 : Int) ≤ c := by omega
          by_cases h65 : 65 ≤ c
          · have e : d = c - 55 := by rw [hde, dvN, if_neg h97, if_pos h65]
            have g2 : (65 : Int) ≤ c := by omega
            have w : IntKind.u64.wrap ((c : Int) - 55) = (d : Int) := by rw [wrap_u64]; omega
            refine Holds.step (Px := px) (T := TT) (ρ := fun _ => []) TTe (by simp (maxSteps := 100000) (disch := omega) only [go_sem, V.isAgg, V.flat, ↓reduceIte, Nat.reduceAdd, Nat.reduceSub, Nat.reduceLT, Nat.reduceEqDiff, reduceCtorEq, Nat.reduceLeDiff, Nat.reduceBEq, Nat.reduceMul, Int.reduceToNat, w0', g1]; rfl) (by repeat' first | exact trivial | constructor) ?_
            refine Holds.condF rfl ?_
            refine Holds.step (Px := px) (T := TT) (ρ := fun _ => []) TTe (by simp (maxSteps := 100000) (disch := omega) only [go_sem, V.isAgg, V.flat, ↓reduceIte, Nat.reduceAdd, Nat.reduceSub, Nat.reduceLT, Nat.reduceEqDiff, reduceCtorEq, Nat.reduceLeDiff, Nat.reduceBEq, Nat.reduceMul, Int.reduceToNat, w0', g2]; rfl) (by repeat' first | exact trivial | constructor) ?_
            refine Holds.condT rfl ?_
            refine Holds.region (Px := px) (T := TT) (ρ := fun _ => []) TTe (by simp (maxSteps := 100000) (disch := omega) only [go_sem, V.isAgg, V.flat, ↓reduceIte, Nat.reduceAdd, Nat.reduceSub, Nat.reduceLT, Nat.reduceEqDiff, reduceCtorEq, Nat.reduceLeDiff, Nat.reduceBEq, Nat.reduceMul, Int.reduceToNat, w0', w]; rfl) (by repeat' first | exact trivial | constructor) ?_
            exact fun a w h => Rel.keep [10, 14, 13, 8, 5, 6, 7, 0, 1] [5, 6, 7] h
          · have e : d = c - 48 := by rw [hde, dvN, if_neg h97, if_neg h65]
            have g2 : ¬ (65 : Int) ≤ c := by omega
            have w : IntKind.u64.wrap ((c : Int) - 48) = (d : Int) := by rw [wrap_u64]; omega
            refine Holds.step (Px := px) (T := TT) (ρ := fun _ => []) TTe (by simp (maxSteps := 100000) (disch := omega) only [go_sem, V.isAgg, V.flat, ↓reduceIte, Nat.reduceAdd, Nat.reduceSub, Nat.reduceLT, Nat.reduceEqDiff, reduceCtorEq, Nat.reduceLeDiff, Nat.reduceBEq, Nat.reduceMul, Int.reduceToNat, w0', g1]; rfl) (by repeat' first | exact trivial | constructor) ?_
            refine Holds.condF rfl ?_
            refine Holds.step (Px := px) (T := TT) (ρ := fun _ => []) TTe (by simp (maxSteps := 100000) (disch := omega) only [go_sem, V.isAgg, V.flat, ↓reduceIte, Nat.reduceAdd, Nat.reduceSub, Nat.reduceLT, Nat.reduceEqDiff, reduceCtorEq, Nat.reduceLeDiff, Nat.reduceBEq, Nat.reduceMul, Int.reduceToNat, w0', g2]; rfl) (by repeat' first | exact trivial | constructor) ?_
            refine Holds.condF rfl ?_
            refine Holds.region (Px := px) (T := TT) (ρ := fun _ => []) TTe (by simp (maxSteps := 100000) (disch := omega) only [go_sem, V.isAgg, V.flat, ↓reduceIte, Nat.reduceAdd, Nat.reduceSub, Nat.reduceLT, Nat.reduceEqDiff, reduceCtorEq, Nat.reduceLeDiff, Nat.reduceBEq, Nat.reduceMul, Int.reduceToNat, w0', w]; rfl) (by repeat' first | exact trivial | constructor) ?_
            exact fun a w h => Rel.keep [10, 14, 13, 8, 5, 6, 7, 0, 1] [5, 6, 7] h
      intro σ hσ
      refine Holds.from hσ ?_
      clear hσ
      refine Holds.dstep (Px := px) (T := TT) (ρ := fun _ => []) [(3, 8)] mixed (by kernel_rfl) TTe (by simp (maxSteps := 100000) (disch := omega) only [go_sem, V.isAgg, V.flat, ↓reduceIte, Nat.reduceAdd, Nat.reduceSub, Nat.reduceLT, Nat.reduceEqDiff, reduceCtorEq, Nat.reduceLeDiff, Nat.reduceBEq, Nat.reduceMul, Int.reduceToNat, w1, w2, w3]; rfl) (by repeat' first | exact trivial | constructor) (by rfl) (by rfl) (by rfl) ?_
      refine Holds.from (σ' := { nt := 49, env := [(14, .v true (.int .i64 (i : Nat))), (13, .v true (.int .i64 (s.size : Nat))), (8, .fn 136 [.ptr 5 0 [] 0, .ptr 6 0 [] 0, .ptr 7 0 [] 0]), (5, .ptr 5 0 [] 0), (6, .ptr 6 0 [] 0), (7, .ptr 7 0 [] 0), (0, .v true (.str s)), (1, .v true (.int .u64 base))], mem := [(5, .box 30 (.v true (words (digs n)))), (6, .box 76 (.v true (.int .u64 (tb : Nat)))), (7, .box 76 (.v true (.int .u64 (ud : Nat))))] }) (fun a w h => Rel.keep [14, 13, 8, 5, 6, 7, 0, 1] [5, 6, 7] h) ?_
      by_cases hbig : 72057594037927936 ≤ tb
      · have g1 : (72057594037927936 : Int) ≤ tb := by omega
        have hle : n * tb ≤ fbN s base i1 := by omega
        have hle2 : n ≤ n * tb := by
          have : n * 1 ≤ n * tb := Nat.mul_le_mul_left _ (by omega)
          omega
        have hF := flush_ok n tb ud (digs_short (i := i1) (by omega) (by omega)) (digs_short (i := i1) (by omega) (by omega)) (by omega) (by omega)
        rw [hnew] at hF
        refine Holds.step (Px := px) (T := TT) (ρ := fun _ => []) TTe (by simp (maxSteps := 100000) (disch := omega) only [go_sem, V.isAgg, V.flat, ↓reduceIte, Nat.reduceAdd, Nat.reduceSub, Nat.reduceLT, Nat.reduceEqDiff, reduceCtorEq, Nat.reduceLeDiff, Nat.reduceBEq, Nat.reduceMul, Int.reduceToNat, g1]; rfl) (by repeat' first | exact trivial | constructor) ?_
        refine Holds.condT rfl ?_
        refine Holds.regionF (Px := px) (T := TT) (ρ := fun _ => []) (k := 1) TTe (by simp (maxSteps := 100000) (disch := omega) only [List.take_succ_cons, List.take_zero, go_sem, V.isAgg, V.flat, ↓reduceIte, Nat.reduceAdd, Nat.reduceSub, Nat.reduceLT, Nat.reduceEqDiff, reduceCtorEq, Nat.reduceLeDiff, Nat.reduceBEq, Nat.reduceMul, Int.reduceToNat]; rfl) (by repeat' first | exact trivial | constructor) rfl (by rfl) rfl rfl (Nat.le_of_ble_eq_true rfl) (by rfl) (by rfl) (by repeat' first | exact trivial | exact rfl | constructor) (hF) ⟨_, _, by simp (maxSteps := 100000) (disch := omega) only [List.drop_succ_cons, List.drop_zero, mres, go_sem, V.isAgg, V.flat, ↓reduceIte, Nat.reduceAdd, Nat.reduceSub, Nat.reduceLT, Nat.reduceEqDiff, reduceCtorEq, Nat.reduceLeDiff, Nat.reduceBEq, Nat.reduceMul, Int.reduceToNat]; rfl, by repeat' first | exact trivial | constructor, ?_⟩
        exact ⟨fbN s base i1, 1, 0, by omega, by omega, by omega, fun a w h => Rel.keep [14, 13, 8, 5, 6, 7, 0, 1] [5, 6, 7] h⟩
      · have g1 : ¬ (72057594037927936 : Int) ≤ tb := by omega
        refine Holds.step (Px := px) (T := TT) (ρ := fun _ => []) TTe (by simp (maxSteps := 100000) (disch := omega) only [go_sem, V.isAgg, V.flat, ↓reduceIte, Nat.reduceAdd, Nat.reduceSub, Nat.reduceLT, Nat.reduceEqDiff, reduceCtorEq, Nat.reduceLeDiff, Nat.reduceBEq, Nat.reduceMul, Int.reduceToNat, g1]; rfl) (by repeat' first | exact trivial | constructor) ?_
        exact Holds.condF rfl (Holds.skip ⟨n, tb, ud, hnew, hutb, by omega, fun a w h => Rel.keep [14, 13, 8, 5, 6, 7, 0, 1] [5, 6, 7] h⟩)
    · rintro σ ⟨n, t, u, hv, hut, ht, hσ⟩
      refine Holds.from hσ ?_
      refine Holds.region (Px := px) (T := TT) (ρ := fun _ => []) TTe (by simp (maxSteps := 100000) (disch := omega) only [go_sem, V.isAgg, V.flat, ↓reduceIte, Nat.reduceAdd, Nat.reduceSub, Nat.reduceLT, Nat.reduceEqDiff, reduceCtorEq, Nat.reduceLeDiff, Nat.reduceBEq, Nat.reduceMul, Int.reduceToNat, ei1]; rfl) (by repeat' first | exact trivial | constructor) ?_
      exact ⟨(i1, n, t, u), ⟨by show i1 ≤ _; omega, hv, hut, ht⟩, (show s.size - i1 < s.size - i by omega), fun a w h => Rel.keep [14, 13, 8, 5, 6, 7, 0, 1] [5, 6, 7] h⟩
  · rintro σ ⟨n, t, u, hv, hn, hnt, ht, hu, hσ⟩
    refine Holds.from hσ ?_
    clear hσ
    have hl := hlt s.size (Nat.le_refl _)
    have hF := flush_ok n t u (digs_short (i := s.size) (by omega) (by omega)) (digs_short (i := s.size) (by omega) (by omega)) ht hu
    rw [hv] at hF
    refine Holds.seq (Holds.regionF (Px := px) (T := TT) (ρ := fun _ => []) (k := 1) TTe (by simp (maxSteps := 100000) (disch := omega) only [List.take_succ_cons, List.take_zero, go_sem, V.isAgg, V.flat, ↓reduceIte, Nat.reduceAdd, Nat.reduceSub, Nat.reduceLT, Nat.reduceEqDiff, reduceCtorEq, Nat.reduceLeDiff, Nat.reduceBEq, Nat.reduceMul, Int.reduceToNat]; rfl) (by repeat' first | exact trivial | constructor) rfl (by rfl) rfl rfl (Nat.le_of_ble_eq_true rfl) (by rfl) (by rfl) (by repeat' first | exact trivial | exact rfl | constructor) (hF) ⟨_, _, by simp (maxSteps := 100000) (disch := omega) only [List.drop_succ_cons, List.drop_zero, mres, go_sem, V.isAgg, V.flat, ↓reduceIte, Nat.reduceAdd, Nat.reduceSub, Nat.reduceLT, Nat.reduceEqDiff, reduceCtorEq, Nat.reduceLeDiff, Nat.reduceBEq, Nat.reduceMul, Int.reduceToNat]; rfl, by repeat' first | exact trivial | constructor, ?_⟩); show Holds _ _ _ _ _ _ _
    unfold words
    refine Holds.step (Px := px) (T := TT) (ρ := fun _ => []) TTe (by simp (maxSteps := 100000) (disch := omega) only [go_sem, V.isAgg, V.flat, ↓reduceIte, Nat.reduceAdd, Nat.reduceSub, Nat.reduceLT, Nat.reduceEqDiff, reduceCtorEq, Nat.reduceLeDiff, Nat.reduceBEq, Nat.reduceMul, Int.reduceToNat]; rfl) (by repeat' first | exact trivial | constructor) ?_
    exact Holds.ret (RetOk.vs rfl (by exact ⟨⟨rfl, fun h => h⟩, trivial⟩) rfl)
end Go.Proofs.YtobacemgcjnahaaGreatDoor.L
