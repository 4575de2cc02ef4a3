/-
  Sa Sb
-/
import Derived.Test.YtjmclobbfabnpaaJ9
set_option linter.unusedSimpArgs false
set_option linter.unusedVariables false
/-
  Count, Len, IsZero, Large, Left by whole words of the references.
-/
namespace Go.Proofs.Ytjmclobbfabnpaa.L
open Go Go.RowKit Go.Proofs
attribute [local go_sem] evalOps_nil evalOps_cons runW_t runW_f runE_s runP_s wantA evalOp effOp letters okDst coreA St.opv St.get St.at look constA St.put St.upd St.set decide_true List.all_nil List.all_cons Bool.and_true Bool.true_and and_self and_true true_and if_true if_false true_or Int.sub_zero List.nil_append List.cons_append List.append_nil Option.isSome_some List.getElem?_toArray List.getElem?_cons_succ List.getElem?_cons_zero Option.bind_some Option.map_some Option.map_none beq_self_eq_true Bool.false_beq Bool.true_beq Bool.not_true Bool.not_false Bool.false_eq_true cond_true cond_false binA binI List.map_cons List.map_nil boundA List.length_nil List.length_cons Nat.zero_mul Nat.one_mul Nat.mul_one Nat.zero_add Nat.add_zero Nat.zero_le Option.toList St.freshB AV.ment AV.ments Blk.ment V.sizes Nat.lt_add_one Bool.or_true Bool.true_or Bool.or_false Bool.false_or Bool.or_self if_pos if_neg decide_false decide_eq_true decide_eq_false wrap_i64 Int.toNat_natCast minA maxA Int.natCast_add Int.cast_ofNat_Int Option.isSome_none false_implies true_implies forall_const List.drop_zero Int.toNat_zero Int.add_sub_cancel lenA sliceA loadA indexAddrA partA fitsT V.atP V.offP V.size List.length_map List.getElem?_map Int.toNat_natCast_add_one Int.ofNat_eq_natCast TY calleeA capArg knotA capArgs toArgs toArg callA R.res R.mems R.blks R.av R.names R.nw invokeA storeA storeV fieldAddrA liveB V.off V.offs V.setP List.set_cons_zero List.set_cons_succ buildA buildP partsA appendA srcA copyA boxOk makeA AV.pure List.take_succ_cons List.take_zero nilA words entry List.zipIdx_cons List.zipIdx_nil Arg.av Arg.avs

/-- The state of Count after j bits. -/
def cntS (u : Nat) : Nat → Int × Int × Int
  | 0 => (64, 64, 0)
  | j + 1 => if u / 2 ^ j % 2 = 1 then (63 - (j : Int), (if (j : Int) < (cntS u j).2.1 then (j : Int) else (cntS u j).2.1), (cntS u j).2.2 + 1) else cntS u j
theorem cntS_b (u : Nat) : ∀ j, j ≤ 64 → (0 ≤ (cntS u j).1 ∧ (cntS u j).1 ≤ 64) ∧ (0 ≤ (cntS u j).2.1 ∧ (cntS u j).2.1 ≤ 64) ∧ (0 ≤ (cntS u j).2.2 ∧ (cntS u j).2.2 ≤ j)
  | 0, _ => ⟨⟨by show (0 : Int) ≤ 64; decide, by show (64 : Int) ≤ 64; decide⟩, ⟨by show (0 : Int) ≤ 64; decide, by show (64 : Int) ≤ 64; decide⟩, ⟨by show (0 : Int) ≤ 0; decide, by show (0 : Int) ≤ 0; decide⟩⟩
  | j + 1, h => by
    obtain ⟨h1, h2, h3⟩ := cntS_b u j (by omega)
    rw [cntS]
    split
    · refine ⟨⟨by show 0 ≤ 63 - (j : Int); omega, by show 63 - (j : Int) ≤ 64; omega⟩, ?_, ⟨by show 0 ≤ (cntS u j).2.2 + 1; omega, by show (cntS u j).2.2 + 1 ≤ _; omega⟩⟩
      show (0 : Int) ≤ (if (j : Int) < (cntS u j).2.1 then (j : Int) else (cntS u j).2.1) ∧ (if (j : Int) < (cntS u j).2.1 then (j : Int) else (cntS u j).2.1) ≤ 64
      split <;> omega
    · exact ⟨h1, h2, ⟨h3.1, by omega⟩⟩
theorem cntS_one (u : Nat) : ∀ j, j ≤ 64 → u % 2 ^ j ≠ 0 → (cntS u j).1 ≤ 63
  | 0, _, h => absurd (Nat.mod_one u) h
  | j + 1, hj, h => by
    rw [cntS]
    by_cases hb : u / 2 ^ j % 2 = 1
    · rw [if_pos hb]
      show 63 - (j : Int) ≤ 63
      omega
    · rw [if_neg hb]
      refine cntS_one u j (by omega) fun h0 => h ?_
      rw [Nat.pow_succ, Nat.mod_mul, h0, show u / 2 ^ j % 2 = 0 from by omega, Nat.mul_zero]

def cntV (u : Nat) : List R := [.v true (.int .i64 (cntS u 64).1), .v true (.int .i64 (cntS u 64).2.1), .v true (.int .i64 (cntS u 64).2.2)]
theorem Count_ok (x : Nat) (hx : x < 18446744073709551616) : FnOk Try.prog 105 [.v (.int .u64 x)] (cntV x) := by
  refine FnOk.of Try.func105 rfl rfl fun cx w0 => ?_
  rw [show Try.f105.ntmps = 28 from rfl]
  refine Holds.step (Px := px) (T := TT) (ρ := fun _ => []) TTe (by simp (maxSteps := 100000) (disch := omega) only [go_sem, V.isAgg, V.flat, ↓reduceIte, Nat.reduceAdd, Nat.reduceSub, Nat.reduceLT, Nat.reduceEqDiff, reduceCtorEq, Nat.reduceLeDiff, Nat.reduceBEq, Nat.reduceMul, Int.reduceToNat, List.length_cons, List.length_nil]; rfl) (by repeat' first | exact trivial | constructor) ?_
  refine Holds.step (Px := px) (T := TT) (ρ := fun _ => []) TTe (by simp (maxSteps := 100000) (disch := omega) only [go_sem, V.isAgg, V.flat, ↓reduceIte, Nat.reduceAdd, Nat.reduceSub, Nat.reduceLT, Nat.reduceEqDiff, reduceCtorEq, Nat.reduceLeDiff, Nat.reduceBEq, Nat.reduceMul, Int.reduceToNat]; rfl) (by repeat' first | exact trivial | constructor) ?_
  refine Holds.next (fun σ => ∀ a w, Rel cx w0 σ a w → Rel cx w0 { nt := 28, env := [(5, .v true (.int .i64 (cntS x 64).1)), (6, .v true (.int .i64 (cntS x 64).2.1)), (7, .v true (.int .i64 (cntS x 64).2.2))], mem := [] } a w) ?_ ?_
  · refine Holds.step (Px := px) (T := TT) (ρ := fun _ => []) TTe (by simp (maxSteps := 100000) (disch := omega) only [go_sem, V.isAgg, V.flat, ↓reduceIte, Nat.reduceAdd, Nat.reduceSub, Nat.reduceLT, Nat.reduceEqDiff, reduceCtorEq, Nat.reduceLeDiff, Nat.reduceBEq, Nat.reduceMul, Int.reduceToNat]; rfl) (by repeat' first | exact trivial | constructor) ?_
    refine Holds.loopB (fun j : Nat => { nt := 28, env := [(8, .v true (.int .i64 (j : Int))), (5, .v true (.int .i64 (cntS x j).1)), (6, .v true (.int .i64 (cntS x j).2.1)), (7, .v true (.int .i64 (cntS x j).2.2)), (0, .v true (.int .u64 x))], mem := [] }) (fun j => j ≤ 64) (fun j => 64 - j) 0 (Nat.zero_le _) (fun a w h => Rel.keep [8, 5, 6, 7, 0] [] h) ?_
    intro j hj
    by_cases hend : j = 64
    · refine Holds.seq ?_
      refine Holds.step (Px := px) (T := TT) (ρ := fun _ => []) TTe (by simp (maxSteps := 100000) (disch := omega) only [go_sem, V.isAgg, V.flat, ↓reduceIte, Nat.reduceAdd, Nat.reduceSub, Nat.reduceLT, Nat.reduceEqDiff, reduceCtorEq, Nat.reduceLeDiff, Nat.reduceBEq, Nat.reduceMul, Int.reduceToNat]; rfl) (by repeat' first | exact trivial | constructor) ?_
      refine Holds.condF rfl (Holds.exit ⟨rfl, fun a w h => ?_⟩)
      rw [← hend]
      exact Rel.keep [5, 6, 7] [] h
    · refine Holds.seq ?_
      obtain ⟨h1, h2, h3⟩ := cntS_b x j hj
      refine Holds.step (Px := px) (T := TT) (ρ := fun _ => []) TTe (by simp (maxSteps := 100000) (disch := omega) only [go_sem, V.isAgg, V.flat, ↓reduceIte, Nat.reduceAdd, Nat.reduceSub, Nat.reduceLT, Nat.reduceEqDiff, reduceCtorEq, Nat.reduceLeDiff, Nat.reduceBEq, Nat.reduceMul, Int.reduceToNat]; rfl) (by repeat' first | exact trivial | constructor) ?_
      refine Holds.condT rfl (Holds.skip ?_)
      have es : cntS x (j + 1) = if x / 2 ^ j % 2 = 1 then (63 - (j : Int), (if (j : Int) < (cntS x j).2.1 then (j : Int) else (cntS x j).2.1), (cntS x j).2.2 + 1) else cntS x j := rfl
      refine Holds.next (fun σ => ∀ a w, Rel cx w0 σ a w → Rel cx w0 { nt := 28, env := [(8, .v true (.int .i64 (j : Int))), (5, .v true (.int .i64 (cntS x (j + 1)).1)), (6, .v true (.int .i64 (cntS x (j + 1)).2.1)), (7, .v true (.int .i64 (cntS x (j + 1)).2.2)), (0, .v true (.int .u64 x))], mem := [] } a w) ?_ ?_
      · refine Holds.blockN ?_
        rw [es]
        obtain ⟨s, hs⟩ : ∃ s, s = cntS x j := ⟨_, rfl⟩
        rw [← hs] at h1 h2 h3 ⊢
        have hsh := shrB x j (by omega)
        have hq : x / 2 ^ j ≤ x := Nat.div_le_self _ _
        obtain ⟨q, hqe⟩ : ∃ q, q = x / 2 ^ j := ⟨_, rfl⟩
        rw [← hqe] at hsh hq ⊢
        have hmod : ((q : Int)).tmod 2 = ((q % 2 : Nat) : Int) := by rw [Int.tmod_eq_emod_of_nonneg (by omega)]; omega
        have hb2 : q % 2 < 2 := Nat.mod_lt _ (by decide)
        obtain ⟨b, hb⟩ : ∃ b, b = q % 2 := ⟨_, rfl⟩
        rw [← hb] at hmod hb2 ⊢
        have hwm : IntKind.u64.wrap (b : Int) = b := by rw [wrap_u64]; omega
        have hwq : IntKind.u64.wrap (q : Int) = q := by rw [wrap_u64]; omega
        by_cases h : b = 1
        · have h' : (b : Int) = 1 := by omega
          rw [if_pos h]
          refine Holds.step (Px := px) (T := TT) (ρ := fun _ => []) TTe (by simp (maxSteps := 100000) (disch := omega) only [go_sem, V.isAgg, V.flat, ↓reduceIte, Nat.reduceAdd, Nat.reduceSub, Nat.reduceLT, Nat.reduceEqDiff, reduceCtorEq, Nat.reduceLeDiff, Nat.reduceBEq, Nat.reduceMul, Int.reduceToNat, hsh, hmod, hwm, hwq, h']; rfl) (by repeat' first | exact trivial | constructor) ?_
          refine Holds.condT rfl ?_
          refine Holds.step (Px := px) (T := TT) (ρ := fun _ => []) TTe (by simp (maxSteps := 100000) (disch := omega) only [go_sem, V.isAgg, V.flat, ↓reduceIte, Nat.reduceAdd, Nat.reduceSub, Nat.reduceLT, Nat.reduceEqDiff, reduceCtorEq, Nat.reduceLeDiff, Nat.reduceBEq, Nat.reduceMul, Int.reduceToNat]; rfl) (by repeat' first | exact trivial | constructor) ?_
          refine Holds.step (Px := px) (T := TT) (ρ := fun _ => []) TTe (by simp (maxSteps := 100000) (disch := omega) only [go_sem, V.isAgg, V.flat, ↓reduceIte, Nat.reduceAdd, Nat.reduceSub, Nat.reduceLT, Nat.reduceEqDiff, reduceCtorEq, Nat.reduceLeDiff, Nat.reduceBEq, Nat.reduceMul, Int.reduceToNat]; rfl) (by repeat' first | exact trivial | constructor) ?_
          refine Holds.region (Px := px) (T := TT) (ρ := fun _ => []) TTe (by simp (maxSteps := 100000) (disch := omega) only [go_sem, V.isAgg, V.flat, ↓reduceIte, Nat.reduceAdd, Nat.reduceSub, Nat.reduceLT, Nat.reduceEqDiff, reduceCtorEq, Nat.reduceLeDiff, Nat.reduceBEq, Nat.reduceMul, Int.reduceToNat]; rfl) (by repeat' first | exact trivial | constructor) ?_
          exact fun a w h => Rel.keep [8, 5, 6, 7, 0] [] h
        · have h' : ¬ (b : Int) = 1 := by omega
          rw [if_neg h]
          refine Holds.step (Px := px) (T := TT) (ρ := fun _ => []) TTe (by simp (maxSteps := 100000) (disch := omega) only [go_sem, V.isAgg, V.flat, ↓reduceIte, Nat.reduceAdd, Nat.reduceSub, Nat.reduceLT, Nat.reduceEqDiff, reduceCtorEq, Nat.reduceLeDiff, Nat.reduceBEq, Nat.reduceMul, Int.reduceToNat, hsh, hmod, hwm, hwq, h']; rfl) (by repeat' first | exact trivial | constructor) ?_
          exact Holds.condF rfl (Holds.skip fun a w h => Rel.keep [8, 5, 6, 7, 0] [] h)
      · intro σ hσ
        refine Holds.from hσ ?_
        refine Holds.region (Px := px) (T := TT) (ρ := fun _ => []) TTe (by simp (maxSteps := 100000) (disch := omega) only [go_sem, V.isAgg, V.flat, ↓reduceIte, Nat.reduceAdd, Nat.reduceSub, Nat.reduceLT, Nat.reduceEqDiff, reduceCtorEq, Nat.reduceLeDiff, Nat.reduceBEq, Nat.reduceMul, Int.reduceToNat]; rfl) (by repeat' first | exact trivial | constructor) ?_
        exact ⟨j + 1, (by show j + 1 ≤ 64; omega), (show 64 - (j + 1) < 64 - j by omega), fun a w h => Rel.keep [8, 5, 6, 7, 0] [] h⟩
  · intro σ hσ
    refine Holds.from hσ ?_
    refine Holds.step (Px := px) (T := TT) (ρ := fun _ => []) TTe (by simp (maxSteps := 100000) (disch := omega) only [go_sem, V.isAgg, V.flat, ↓reduceIte, Nat.reduceAdd, Nat.reduceSub, Nat.reduceLT, Nat.reduceEqDiff, reduceCtorEq, Nat.reduceLeDiff, Nat.reduceBEq, Nat.reduceMul, Int.reduceToNat]; rfl) (by repeat' first | exact trivial | constructor) ?_
    exact Holds.ret (RetOk.vs rfl (by exact ⟨⟨rfl, fun h => h⟩, ⟨rfl, fun h => h⟩, ⟨rfl, fun h => h⟩, trivial⟩) rfl)

/-- The length in bits. -/
def lenR (x : List Int) : Int := match trimW x x.length with
  | 0 => 0
  | m + 1 => 64 * (m : Int) + 64 - (cntS (x.getD m 0).toNat 64).1
theorem lenR_zero {x : List Int} (ox : okW x) : lenR x = 0 ↔ val x = 0 := by
  rw [lenR]
  rw [← val_trim x, trimL]
  cases h : trimW x x.length with
  | zero => simp [val]
  | succ m =>
    obtain ⟨h1, h2⟩ := trimW_last x _ _ h
    have hw := okW_getD ox m
    have hc := cntS_one (x.getD m 0).toNat 64 (by omega) (by
      rw [Nat.mod_eq_of_lt (by omega)]
      omega)
    have hc2 := cntS_b (x.getD m 0).toNat 64 (by omega)
    constructor
    · intro h
      simp only at h
      omega
    · intro h
      exfalso
      have ht : x.take (m + 1) = x.take m ++ [x.getD m 0] := take_succ (by omega)
      rw [ht, val_append] at h
      have h3 : 18446744073709551616 ^ (x.take m).length * val [x.getD m 0] = 0 := by omega
      rcases Nat.mul_eq_zero.1 h3 with h4 | h4
      · have := Nat.pow_pos (a := 18446744073709551616) (n := (x.take m).length) (by decide)
        omega
      · simp only [val] at h4
        omega

theorem rLen_ok (x : List Int) (hx : x.length < 100000000) (ox : okW x) : FnOk Try.prog 96 [.v (words x)] [.v true (.int .i64 (lenR x))] := by
  refine FnOk.of Try.func96 rfl rfl fun cx w0 => ?_
  rw [show Try.f96.ntmps = 33 from rfl]
  refine Holds.step (Px := px) (T := TT) (ρ := fun _ => []) TTe (by simp (maxSteps := 100000) (disch := omega) only [go_sem, V.isAgg, V.flat, ↓reduceIte, Nat.reduceAdd, Nat.reduceSub, Nat.reduceLT, Nat.reduceEqDiff, reduceCtorEq, Nat.reduceLeDiff, Nat.reduceBEq, Nat.reduceMul, Int.reduceToNat, List.length_cons, List.length_nil]; rfl) (by repeat' first | exact trivial | constructor) ?_
  refine Holds.next (fun σ => lenR x = 0 ∧ ∀ a w, Rel cx w0 σ a w → Rel cx w0 { nt := 33, env := [], mem := [] } a w) ?_ ?_
  · refine Holds.step (Px := px) (T := TT) (ρ := fun _ => []) TTe (by simp (maxSteps := 100000) (disch := omega) only [go_sem, V.isAgg, V.flat, ↓reduceIte, Nat.reduceAdd, Nat.reduceSub, Nat.reduceLT, Nat.reduceEqDiff, reduceCtorEq, Nat.reduceLeDiff, Nat.reduceBEq, Nat.reduceMul, Int.reduceToNat]; rfl) (by repeat' first | exact trivial | constructor) ?_
    refine Holds.loopB (fun j : Nat => { nt := 33, env := [(3, .v true (.int .i64 ((j : Int) - 1))), (0, .v false (words x))], mem := [] }) (fun j => j ≤ x.length ∧ trimW x x.length = trimW x j) id x.length ⟨Nat.le_refl _, rfl⟩ (fun a w hr => Rel.keep [3, 0] [] hr) ?_
    rintro j ⟨hj, ht⟩
    rcases j with _ | j
    · refine Holds.seq ?_
      refine Holds.step (Px := px) (T := TT) (ρ := fun _ => []) TTe (by simp (maxSteps := 100000) (disch := omega) only [go_sem, V.isAgg, V.flat, ↓reduceIte, Nat.reduceAdd, Nat.reduceSub, Nat.reduceLT, Nat.reduceEqDiff, reduceCtorEq, Nat.reduceLeDiff, Nat.reduceBEq, Nat.reduceMul, Int.reduceToNat]; rfl) (by repeat' first | exact trivial | constructor) ?_
      refine Holds.condF rfl (Holds.exit ⟨rfl, ?_, fun a w hr => Rel.keep [] [] hr⟩)
      rw [lenR, ht, trimW]
    · have hjx : j < x.length := by omega
      have hw := okW_getD ox j
      have g := get_map hjx
      have hcnt := Count_ok (x.getD j 0).toNat (by omega)
      have e1 : (((x.getD j 0).toNat : Nat) : Int) = x.getD j 0 := by omega
      rw [e1] at hcnt
      have hc2 := cntS_b (x.getD j 0).toNat 64 (by omega)
      have ej : ((j : Int) + 1 - 1) = j := by omega
      rw [show (((j + 1 : Nat) : Int) - 1) = (j : Int) from by omega]
      refine Holds.seq ?_
      refine Holds.step (Px := px) (T := TT) (ρ := fun _ => []) TTe (by simp (maxSteps := 100000) (disch := omega) only [go_sem, V.isAgg, V.flat, ↓reduceIte, Nat.reduceAdd, Nat.reduceSub, Nat.reduceLT, Nat.reduceEqDiff, reduceCtorEq, Nat.reduceLeDiff, Nat.reduceBEq, Nat.reduceMul, Int.reduceToNat]; rfl) (by repeat' first | exact trivial | constructor) ?_
      refine Holds.condT rfl (Holds.skip ?_)
      refine Holds.next (fun σ => x.getD j 0 = 0 ∧ ∀ a w, Rel cx w0 σ a w → Rel cx w0 { nt := 33, env := [(3, .v true (.int .i64 (j : Int))), (0, .v false (words x))], mem := [] } a w) ?_ ?_
      · refine Holds.blockN ?_
        by_cases h0 : x.getD j 0 = 0
        · refine Holds.step (Px := px) (T := TT) (ρ := fun _ => []) TTe (by simp (maxSteps := 100000) (disch := omega) only [go_sem, V.isAgg, V.flat, ↓reduceIte, Nat.reduceAdd, Nat.reduceSub, Nat.reduceLT, Nat.reduceEqDiff, reduceCtorEq, Nat.reduceLeDiff, Nat.reduceBEq, Nat.reduceMul, Int.reduceToNat, g, h0]; rfl) (by repeat' first | exact trivial | constructor) ?_
          exact Holds.condF rfl (Holds.skip ⟨h0, fun a w hr => Rel.keep [3, 0] [] hr⟩)
        · have el : lenR x = 64 * (j : Int) + 64 - (cntS (x.getD j 0).toNat 64).1 := by rw [lenR, ht, trimW, if_neg h0]
          rw [el]
          obtain ⟨u, hu⟩ : ∃ u, u = x.getD j 0 := ⟨_, rfl⟩
          rw [← hu] at g hw hcnt hc2 h0 ⊢
          refine Holds.step (Px := px) (T := TT) (ρ := fun _ => []) TTe (by simp (maxSteps := 100000) (disch := omega) only [go_sem, V.isAgg, V.flat, ↓reduceIte, Nat.reduceAdd, Nat.reduceSub, Nat.reduceLT, Nat.reduceEqDiff, reduceCtorEq, Nat.reduceLeDiff, Nat.reduceBEq, Nat.reduceMul, Int.reduceToNat, g, h0]; rfl) (by repeat' first | exact trivial | constructor) ?_
          refine Holds.condT rfl ?_
          refine Holds.step (Px := px) (T := TT) (ρ := fun _ => cntV u.toNat) TTe (by simp (maxSteps := 100000) (disch := omega) only [go_sem, V.isAgg, V.flat, ↓reduceIte, Nat.reduceAdd, Nat.reduceSub, Nat.reduceLT, Nat.reduceEqDiff, reduceCtorEq, Nat.reduceLeDiff, Nat.reduceBEq, Nat.reduceMul, Int.reduceToNat, g]; rfl) (by first | exact hcnt | (repeat' first | exact trivial | exact hcnt | constructor)) ?_
          refine Holds.step (Px := px) (T := TT) (ρ := fun _ => []) TTe (by simp (maxSteps := 100000) (disch := omega) only [go_sem, V.isAgg, V.flat, ↓reduceIte, Nat.reduceAdd, Nat.reduceSub, Nat.reduceLT, Nat.reduceEqDiff, reduceCtorEq, Nat.reduceLeDiff, Nat.reduceBEq, Nat.reduceMul, Int.reduceToNat]; rfl) (by repeat' first | exact trivial | constructor) ?_
          exact Holds.ret (RetOk.vs rfl (by exact ⟨⟨rfl, fun h => h⟩, trivial⟩) rfl)
      · rintro σ ⟨h0, hσ⟩
        refine Holds.from hσ ?_
        refine Holds.region (Px := px) (T := TT) (ρ := fun _ => []) TTe (by simp (maxSteps := 100000) (disch := omega) only [go_sem, V.isAgg, V.flat, ↓reduceIte, Nat.reduceAdd, Nat.reduceSub, Nat.reduceLT, Nat.reduceEqDiff, reduceCtorEq, Nat.reduceLeDiff, Nat.reduceBEq, Nat.reduceMul, Int.reduceToNat]; rfl) (by repeat' first | exact trivial | constructor) ?_
        exact ⟨j, ⟨by omega, by rw [ht, trimW, if_pos h0]⟩, (show j < j + 1 by omega), fun a w hr => Rel.keep [3, 0] [] hr⟩
  · rintro σ ⟨h0, hσ⟩
    rw [h0]
    refine Holds.from hσ ?_
    refine Holds.step (Px := px) (T := TT) (ρ := fun _ => []) TTe (by simp (maxSteps := 100000) (disch := omega) only [go_sem, V.isAgg, V.flat, ↓reduceIte, Nat.reduceAdd, Nat.reduceSub, Nat.reduceLT, Nat.reduceEqDiff, reduceCtorEq, Nat.reduceLeDiff, Nat.reduceBEq, Nat.reduceMul, Int.reduceToNat]; rfl) (by repeat' first | exact trivial | constructor) ?_
    exact Holds.ret (RetOk.vs rfl (by exact ⟨⟨rfl, fun h => h⟩, trivial⟩) rfl)

theorem IsZero_ok (x : List Int) (hx : x.length < 100000000) (ox : okW x) : FnOk Try.prog 74 [.v (words x)] [.v true (.bool (decide (val x = 0)))] := by
  have h1 := rLen_ok x hx ox
  have hz : decide (val x = 0) = decide (lenR x = 0) := by rw [decide_eq_decide]; exact (lenR_zero ox).symm
  rw [hz]
  refine FnOk.of Try.func74 rfl rfl fun cx w0 => ?_
  rw [show Try.f74.ntmps = 6 from rfl]
  refine Holds.step (Px := px) (T := TT) (ρ := fun _ => []) TTe (by simp (maxSteps := 100000) (disch := omega) only [go_sem, V.isAgg, V.flat, ↓reduceIte, Nat.reduceAdd, Nat.reduceSub, Nat.reduceLT, Nat.reduceEqDiff, reduceCtorEq, Nat.reduceLeDiff, Nat.reduceBEq, Nat.reduceMul, Int.reduceToNat, List.length_cons, List.length_nil]; rfl) (by repeat' first | exact trivial | constructor) ?_
  by_cases h : lenR x = 0
  · rw [h] at h1
    refine Holds.step (Px := px) (T := TT) (ρ := fun _ => [.v true (.int .i64 0)]) TTe (by simp (maxSteps := 100000) (disch := omega) only [go_sem, V.isAgg, V.flat, ↓reduceIte, Nat.reduceAdd, Nat.reduceSub, Nat.reduceLT, Nat.reduceEqDiff, reduceCtorEq, Nat.reduceLeDiff, Nat.reduceBEq, Nat.reduceMul, Int.reduceToNat, h]; rfl) (by first | exact h1 | (repeat' first | exact trivial | exact h1 | constructor)) ?_
    rw [decide_eq_true h]
    exact Holds.ret (RetOk.vs rfl (by exact ⟨⟨rfl, fun h => h⟩, trivial⟩) rfl)
  · refine Holds.step (Px := px) (T := TT) (ρ := fun _ => [.v true (.int .i64 (lenR x))]) TTe (by simp (maxSteps := 100000) (disch := omega) only [go_sem, V.isAgg, V.flat, ↓reduceIte, Nat.reduceAdd, Nat.reduceSub, Nat.reduceLT, Nat.reduceEqDiff, reduceCtorEq, Nat.reduceLeDiff, Nat.reduceBEq, Nat.reduceMul, Int.reduceToNat, h]; rfl) (by first | exact h1 | (repeat' first | exact trivial | exact h1 | constructor)) ?_
    rw [decide_eq_false h]
    exact Holds.ret (RetOk.vs rfl (by exact ⟨⟨rfl, fun h => h⟩, trivial⟩) rfl)

theorem rLarge_ok (x : List Int) (hx : x.length < 100000000) : FnOk Try.prog 41 [.v (words x)] [.v true (.bool (decide (4096 < x.length)))] := by
  refine FnOk.of Try.func41 rfl rfl fun cx w0 => ?_
  rw [show Try.f41.ntmps = 6 from rfl]
  refine Holds.step (Px := px) (T := TT) (ρ := fun _ => []) TTe (by simp (maxSteps := 100000) (disch := omega) only [go_sem, V.isAgg, V.flat, ↓reduceIte, Nat.reduceAdd, Nat.reduceSub, Nat.reduceLT, Nat.reduceEqDiff, reduceCtorEq, Nat.reduceLeDiff, Nat.reduceBEq, Nat.reduceMul, Int.reduceToNat, List.length_cons, List.length_nil]; rfl) (by repeat' first | exact trivial | constructor) ?_
  by_cases h : 4096 < x.length
  · refine Holds.step (Px := px) (T := TT) (ρ := fun _ => []) TTe (by simp (maxSteps := 100000) (disch := omega) only [go_sem, V.isAgg, V.flat, ↓reduceIte, Nat.reduceAdd, Nat.reduceSub, Nat.reduceLT, Nat.reduceEqDiff, reduceCtorEq, Nat.reduceLeDiff, Nat.reduceBEq, Nat.reduceMul, Int.reduceToNat]; rfl) (by repeat' first | exact trivial | constructor) ?_
    rw [decide_eq_true h]
    exact Holds.ret (RetOk.vs rfl (by exact ⟨⟨rfl, fun h => h⟩, trivial⟩) rfl)
  · refine Holds.step (Px := px) (T := TT) (ρ := fun _ => []) TTe (by simp (maxSteps := 100000) (disch := omega) only [go_sem, V.isAgg, V.flat, ↓reduceIte, Nat.reduceAdd, Nat.reduceSub, Nat.reduceLT, Nat.reduceEqDiff, reduceCtorEq, Nat.reduceLeDiff, Nat.reduceBEq, Nat.reduceMul, Int.reduceToNat]; rfl) (by repeat' first | exact trivial | constructor) ?_
    rw [decide_eq_false h]
    exact Holds.ret (RetOk.vs rfl (by exact ⟨⟨rfl, fun h => h⟩, trivial⟩) rfl)
/-
  Left by whole words, reckonerref03.Join.
-/

theorem val_inj2 : ∀ {l m : List Int}, okW l → okW m → l.length = m.length → val l = val m → l = m
  | [], [], _, _, _, _ => rfl
  | x :: r, y :: s, ol, om, hl, hv => by
    simp only [val] at hv
    have h1 := ol x (by simp)
    have h2 := om y (by simp)
    have hx : x = y := by omega
    have hr : val r = val s := by omega
    rw [hx, val_inj2 (fun n hn => ol n (List.mem_cons_of_mem _ hn)) (fun n hn => om n (List.mem_cons_of_mem _ hn)) (by simpa using hl) hr]

theorem Word_ok (u : Nat) (hu : u < 18446744073709551616) : FnOk Try.prog 87 [.v (.int .u64 u)] [.v true (words [(u : Int) % 4294967296, (u : Int) / 4294967296])] := by
  have e1 : (u : Int).tmod 4294967296 = (u : Int) % 4294967296 := Int.tmod_eq_emod_of_nonneg (by omega)
  have e2 : (u : Int).tdiv 4294967296 = (u : Int) / 4294967296 := Int.tdiv_eq_ediv_of_nonneg (by omega)
  have e3 : IntKind.u64.wrap ((u : Int) % 4294967296) = (u : Int) % 4294967296 := by rw [wrap_u64]; omega
  have e4 : IntKind.u64.wrap ((u : Int) / 4294967296) = (u : Int) / 4294967296 := by rw [wrap_u64]; omega
  refine FnOk.of Try.func87 rfl rfl fun cx w0 => ?_
  rw [show Try.f87.ntmps = 8 from rfl]
  refine Holds.step (Px := px) (T := TT) (ρ := fun _ => []) TTe (by simp (maxSteps := 100000) (disch := omega) only [go_sem, V.isAgg, V.flat, ↓reduceIte, Nat.reduceAdd, Nat.reduceSub, Nat.reduceLT, Nat.reduceEqDiff, reduceCtorEq, Nat.reduceLeDiff, Nat.reduceBEq, Nat.reduceMul, Int.reduceToNat, List.length_cons, List.length_nil]; rfl) (by repeat' first | exact trivial | constructor) ?_
  refine Holds.step (Px := px) (T := TT) (ρ := fun _ => []) TTe (by simp (maxSteps := 100000) (disch := omega) only [go_sem, V.isAgg, V.flat, ↓reduceIte, Nat.reduceAdd, Nat.reduceSub, Nat.reduceLT, Nat.reduceEqDiff, reduceCtorEq, Nat.reduceLeDiff, Nat.reduceBEq, Nat.reduceMul, Int.reduceToNat, e1, e2, e3, e4]; rfl) (by repeat' first | exact trivial | constructor) ?_
  exact Holds.ret ⟨_, [], rfl, ⟨⟨rfl, rfl, fun h => h, rfl⟩, trivial⟩, by simp [R.names, R.mems, R.blks], by simp, rfl⟩

theorem val_rep0 : ∀ n, val (List.replicate n 0) = 0
  | 0 => rfl
  | n + 1 => by rw [List.replicate_succ, val, val_rep0 n]; rfl

theorem Left77_ok (x : List Int) (hx : x.length < 40000) (ox : okW x) : FnOk Try.prog 77 [.v (words x), .v (.int .i64 0)] [.v true (words x), .v true (.int .u64 0)] := by
  have h1 := Digits_ok x (by omega) ox
  have h2 := Word_ok 1 (by decide)
  have lx := digL_len x
  have o1 : okH [((1 : Nat) : Int) % 4294967296, ((1 : Nat) : Int) / 4294967296] := by intro n hn; simp at hn; omega
  have h3 := Times_ok (digL x) [((1 : Nat) : Int) % 4294967296, ((1 : Nat) : Int) / 4294967296] (by omega) (by simp) (digL_ok ox) o1
  obtain ⟨t1, t2, t3⟩ := timesL_ok (digL_ok ox) o1
  obtain ⟨t, ht⟩ : ∃ t, t = timesL (digL x) [((1 : Nat) : Int) % 4294967296, ((1 : Nat) : Int) / 4294967296] := ⟨_, rfl⟩
  rw [← ht] at h3 t1 t2 t3
  have ht2 : t.length = 2 * x.length + 2 := by rw [t2, lx]; rfl
  have h4 := Cut_ok t x.length (by omega) (by omega) t1
  have epad : padH t x.length = t := by rw [padH, ht2, Nat.sub_self]; exact List.append_nil t
  rw [epad] at h4
  -- the digits
  have hro : rowOf t = x ++ [0] := by
    refine val_inj2 (rowOf_ok t1) (fun n hn => ?_) (by rw [rowOf_len, ht2, List.length_append, List.length_cons, List.length_nil]; omega) ?_
    · rcases List.mem_append.1 hn with hn | hn
      · exact ox n hn
      · simp at hn; omega
    · rw [val_row t1 (by omega), t3, val_dig ox, val_append]
      show val x * 1 = _
      simp [val]
  obtain ⟨u, p, q, hu, hul⟩ : ∃ u p q, t = u ++ [p, q] ∧ u.length = 2 * x.length := by
    refine ⟨t.take (2 * x.length), t.getD (2 * x.length) 0, t.getD (2 * x.length + 1) 0, ?_, by rw [List.length_take]; omega⟩
    have a1 : t.take (2 * x.length + 1) = _ := take_succ (x := t) (k := 2 * x.length) (by omega)
    have a2 : t.take (2 * x.length + 1 + 1) = _ := take_succ (x := t) (k := 2 * x.length + 1) (by omega)
    rw [a1, List.take_of_length_le (by omega)] at a2
    rw [List.append_assoc] at a2
    exact a2
  have hro2 : rowOf u ++ [p + q * 4294967296] = x ++ [0] := by rw [← rowOf_append u p q (by omega), ← hu, hro]
  obtain ⟨e1, e2⟩ := List.append_inj hro2 (by rw [rowOf_len, hul]; omega)
  have e2' : p + q * 4294967296 = 0 := by simpa using e2
  have g1 : t.take (2 * x.length) = u := by rw [hu, ← hul, List.take_left']; rfl
  have g2 : t.getD (2 * x.length) 0 = p := by rw [hu, ← hul]; simp [List.getD_eq_getElem?_getD]
  have g3 : t.getD (2 * x.length + 1) 0 = q := by rw [hu, ← hul]; simp [List.getD_eq_getElem?_getD]
  rw [g1, g2, g3, e1, e2'] at h4
  refine FnOk.of Try.func77 rfl rfl fun cx w0 => ?_
  rw [show Try.f77.ntmps = 17 from rfl]
  have hshl : IntKind.u64.wrap (1 * 2 ^ (min 0 64)) = 1 := by decide
  refine Holds.step (Px := px) (T := TT) (ρ := fun _ => []) TTe (by simp (maxSteps := 100000) (disch := omega) only [go_sem, V.isAgg, V.flat, ↓reduceIte, Nat.reduceAdd, Nat.reduceSub, Nat.reduceLT, Nat.reduceEqDiff, reduceCtorEq, Nat.reduceLeDiff, Nat.reduceBEq, Nat.reduceMul, Int.reduceToNat, List.length_cons, List.length_nil]; rfl) (by repeat' first | exact trivial | constructor) ?_
  refine Holds.dstep (Px := px) (T := TT) (ρ := fun d => if d = 7 then [.v true (words (digL x))] else if d = 10 then [.v true (words [((1 : Nat) : Int) % 4294967296, ((1 : Nat) : Int) / 4294967296])] else if d = 11 then [.v true (words t)] else [.v true (words x), .v true (.int .u64 0)]) [] mixed (by kernel_rfl) TTe (by simp (maxSteps := 100000) (disch := omega) only [go_sem, V.isAgg, V.flat, ↓reduceIte, Nat.reduceAdd, Nat.reduceSub, Nat.reduceLT, Nat.reduceEqDiff, reduceCtorEq, Nat.reduceLeDiff, Nat.reduceBEq, Nat.reduceMul, Int.reduceToNat, hshl]; rfl) (by first | exact ⟨h1, h2, h3, h4⟩ | (repeat' first | exact trivial | exact h1 | exact h2 | exact h3 | exact h4 | constructor)) (by rfl) (by rfl) (by rfl) ?_
  exact Holds.ret (RetOk.vs rfl (by exact ⟨⟨rfl, fun h => h⟩, ⟨rfl, fun h => h⟩, trivial⟩) rfl)

theorem Left_ok (x : List Int) (m : Nat) (hx : x.length < 40000) (hm : m < 40000) (ox : okW x) : FnOk Try.prog 44 [.v (words x), .v (.int .i64 (64 * (m : Int)))] [.v true (words (digs (18446744073709551616 ^ m * val x)))] := by
  have hq : (64 * (m : Int)).tdiv 64 = m := by rw [Int.mul_comm, Int.mul_tdiv_cancel _ (by decide)]
  have hr : (64 * (m : Int)).tmod 64 = 0 := by rw [Int.tmod_eq_emod_of_nonneg (by omega)]; omega
  have h1 := Left77_ok x hx ox
  have oz : okW (List.replicate m 0 ++ x ++ [0]) := fun n hn => by
    simp only [List.mem_append, List.mem_replicate, List.mem_cons, List.not_mem_nil, or_false] at hn
    rcases hn with (⟨_, hn⟩ | hn) | hn
    · omega
    · exact ox n hn
    · omega
  have hT := rTrim_ok (List.replicate m 0 ++ x ++ [0]) (by simp; omega) oz
  have hv : val (List.replicate m 0 ++ x ++ [0]) = 18446744073709551616 ^ m * val x := by
    rw [val_append, val_append, val_rep0, List.length_replicate]
    simp [val]
  rw [hv] at hT
  refine FnOk.of Try.func44 rfl rfl fun cx w0 => ?_
  rw [show Try.f44.ntmps = 26 from rfl]
  refine Holds.step (Px := px) (T := TT) (ρ := fun _ => []) TTe (by simp (maxSteps := 100000) (disch := omega) only [go_sem, V.isAgg, V.flat, ↓reduceIte, Nat.reduceAdd, Nat.reduceSub, Nat.reduceLT, Nat.reduceEqDiff, reduceCtorEq, Nat.reduceLeDiff, Nat.reduceBEq, Nat.reduceMul, Int.reduceToNat, List.length_cons, List.length_nil]; rfl) (by repeat' first | exact trivial | constructor) ?_
  refine Holds.step (Px := px) (T := TT) (ρ := fun _ => [.v true (words x), .v true (.int .u64 0)]) TTe (by simp (maxSteps := 100000) (disch := omega) only [go_sem, V.isAgg, V.flat, ↓reduceIte, Nat.reduceAdd, Nat.reduceSub, Nat.reduceLT, Nat.reduceEqDiff, reduceCtorEq, Nat.reduceLeDiff, Nat.reduceBEq, Nat.reduceMul, Int.reduceToNat, hr]; rfl) (by first | exact h1 | (repeat' first | exact trivial | exact h1 | constructor)) ?_
  refine Holds.step (Px := px) (T := TT) (ρ := fun _ => []) TTe (by simp (maxSteps := 100000) (disch := omega) only [go_sem, V.isAgg, V.flat, ↓reduceIte, Nat.reduceAdd, Nat.reduceSub, Nat.reduceLT, Nat.reduceEqDiff, reduceCtorEq, Nat.reduceLeDiff, Nat.reduceBEq, Nat.reduceMul, Int.reduceToNat, hq]; rfl) (by repeat' first | exact trivial | constructor) ?_
  refine Holds.step (Px := px) (T := TT) (ρ := fun _ => []) TTe (by simp (maxSteps := 100000) (disch := omega) only [go_sem, V.isAgg, V.flat, ↓reduceIte, Nat.reduceAdd, Nat.reduceSub, Nat.reduceLT, Nat.reduceEqDiff, reduceCtorEq, Nat.reduceLeDiff, Nat.reduceBEq, Nat.reduceMul, Int.reduceToNat, flatW, List.length_replicate]; rfl) (by repeat' first | exact trivial | constructor) ?_
  have hl : (List.replicate m (V.int .u64 0) ++ List.map (fun n => V.int .u64 n) x).length = m + x.length := by simp
  have htk : List.take (m + x.length + 1) (List.replicate m (V.int .u64 0) ++ (List.map (fun n => V.int .u64 n) x ++ [V.int .u64 0])) = List.map (fun n => V.int .u64 n) (List.replicate m 0 ++ x ++ [0]) := by
    rw [List.take_of_length_le (by simp; omega), List.map_append, List.map_append, List.map_replicate, List.append_assoc]; rfl
  rw [List.append_assoc] at hT htk
  refine Holds.step (Px := px) (T := TT) (ρ := fun _ => [.v true (words (digs (18446744073709551616 ^ m * val x)))]) TTe (by simp (maxSteps := 100000) (disch := omega) only [go_sem, V.isAgg, V.flat, ↓reduceIte, Nat.reduceAdd, Nat.reduceSub, Nat.reduceLT, Nat.reduceEqDiff, reduceCtorEq, Nat.reduceLeDiff, Nat.reduceBEq, Nat.reduceMul, Int.reduceToNat, hl, htk, List.append_assoc]; rfl) (by first | exact hT | (repeat' first | exact trivial | exact hT | constructor)) ?_
  exact Holds.ret (RetOk.vs rfl (by exact ⟨⟨rfl, fun h => h⟩, trivial⟩) rfl)

theorem jv_lt {ls : List (List Int)} {n L : Nat} (hn : 1 ≤ n) (hls : ∀ l ∈ ls, l.length ≤ L ∧ okW l) : ∀ k, k ≤ ls.length → jv ls n k < 18446744073709551616 ^ (k * n + L)
  | 0, _ => Nat.pow_pos (by decide)
  | k + 1, hk => by
    have hkl : k < ls.length := by omega
    have hm : ls.getD k [] ∈ ls := by rw [List.getD_eq_getElem?_getD, List.getElem?_eq_getElem hkl]; exact List.getElem_mem hkl
    obtain ⟨hlm, olm⟩ := hls _ hm
    have h1 := jv_lt hn hls k (by omega)
    have h2 : val (ls.getD k []) < 18446744073709551616 ^ L := Nat.lt_of_lt_of_le (val_lt olm) (Nat.pow_le_pow_right (by decide) hlm)
    have h3 : 18446744073709551616 ^ (k * n) * val (ls.getD k []) < 18446744073709551616 ^ (k * n) * 18446744073709551616 ^ L := (Nat.mul_lt_mul_left (Nat.pow_pos (by decide))).2 h2
    rw [← Nat.pow_add] at h3
    have h4 : 18446744073709551616 ^ (k * n + L + 1) ≤ 18446744073709551616 ^ ((k + 1) * n + L) := Nat.pow_le_pow_right (by decide) (by rw [Nat.succ_mul]; omega)
    rw [Nat.pow_succ] at h4
    rw [jv]
    omega

theorem pow_mul_lt {a L v : Nat} (h : v < 18446744073709551616 ^ L) : 18446744073709551616 ^ a * v < 18446744073709551616 ^ (a + L) := by
  rw [Nat.pow_add]
  exact (Nat.mul_lt_mul_left (Nat.pow_pos (by decide))).2 h

theorem rJoin_ok (ls : List (List Int)) (n : Nat) (hl : ls.length ≤ 20) (hn : 1 ≤ n) (hn2 : n ≤ 1000) (hls : ∀ l ∈ ls, l.length ≤ 4096 ∧ okW l) :
    FnOk Try.prog 40 [.v (natsV ls), .v (.int .i64 n)] [.v true (words (digs (jv ls n ls.length)))] := by
  have hsz : ∀ k, k ≤ ls.length → (digs (jv ls n k)).length ≤ k * n + 4096 := fun k hk => digs_len (jv_lt hn hls k hk)
  refine FnOk.of Try.func40 rfl rfl fun cx w0 => ?_
  rw [show Try.f40.ntmps = 31 from rfl]
  refine Holds.step (Px := px) (T := TT) (ρ := fun _ => []) TTe (by simp (maxSteps := 100000) (disch := omega) only [go_sem, V.isAgg, V.flat, ↓reduceIte, Nat.reduceAdd, Nat.reduceSub, Nat.reduceLT, Nat.reduceEqDiff, reduceCtorEq, Nat.reduceLeDiff, Nat.reduceBEq, Nat.reduceMul, Int.reduceToNat, List.length_cons, List.length_nil]; rfl) (by repeat' first | exact trivial | constructor) ?_
  refine Holds.step (Px := px) (T := TT) (ρ := fun _ => []) TTe (by simp (maxSteps := 100000) (disch := omega) only [go_sem, V.isAgg, V.flat, ↓reduceIte, Nat.reduceAdd, Nat.reduceSub, Nat.reduceLT, Nat.reduceEqDiff, reduceCtorEq, Nat.reduceLeDiff, Nat.reduceBEq, Nat.reduceMul, Int.reduceToNat]; rfl) (by repeat' first | exact trivial | constructor) ?_
  refine Holds.from (σ' := { nt := 31, env := [(5, .v true (words (digs 0))), (0, .v false (natsV ls)), (1, .v true (.int .i64 n))], mem := [] }) (fun a w h => by
    have := Rel.keep [5, 0, 1] [] (Rel.nilV (t := 5) (z := 1) rfl h)
    exact this) ?_
  refine Holds.next (fun σ => ∀ a w, Rel cx w0 σ a w → Rel cx w0 { nt := 31, env := [(5, .v true (words (digs (jv ls n ls.length))))], mem := [] } a w) ?_ ?_
  · refine Holds.step (Px := px) (T := TT) (ρ := fun _ => []) TTe (by simp (maxSteps := 100000) (disch := omega) only [go_sem, V.isAgg, V.flat, ↓reduceIte, Nat.reduceAdd, Nat.reduceSub, Nat.reduceLT, Nat.reduceEqDiff, reduceCtorEq, Nat.reduceLeDiff, Nat.reduceBEq, Nat.reduceMul, Int.reduceToNat]; rfl) (by repeat' first | exact trivial | constructor) ?_
    refine Holds.loopB (fun k : Nat => { nt := 31, env := [(6, .v true (.int .i64 k)), (5, .v true (words (digs (jv ls n k)))), (0, .v false (natsV ls)), (1, .v true (.int .i64 n))], mem := [] }) (fun k => k ≤ ls.length) (fun k => ls.length - k) 0 (Nat.zero_le _) (fun a w hr => Rel.keep [6, 5, 0, 1] [] hr) ?_
    intro k hk
    by_cases hend : k = ls.length
    · refine Holds.seq ?_
      refine Holds.step (Px := px) (T := TT) (ρ := fun _ => []) TTe (by simp (maxSteps := 100000) (disch := omega) only [go_sem, V.isAgg, V.flat, ↓reduceIte, Nat.reduceAdd, Nat.reduceSub, Nat.reduceLT, Nat.reduceEqDiff, reduceCtorEq, Nat.reduceLeDiff, Nat.reduceBEq, Nat.reduceMul, Int.reduceToNat, natsV]; rfl) (by repeat' first | exact trivial | constructor) ?_
      refine Holds.condF rfl (Holds.exit ⟨rfl, fun a w hr => ?_⟩)
      rw [← hend]
      exact Rel.keep [5] [] hr
    · have hkl : k < ls.length := by omega
      have hm : ls.getD k [] ∈ ls := by rw [List.getD_eq_getElem?_getD, List.getElem?_eq_getElem hkl]; exact List.getElem_mem hkl
      obtain ⟨hlm, olm⟩ := hls _ hm
      have hz := IsZero_ok (ls.getD k []) (by omega) olm
      have hjs : jv ls n (k + 1) = jv ls n k + 18446744073709551616 ^ (k * n) * val (ls.getD k []) := by rw [jv]
      have hkn1 : k * n ≤ 20 * 1000 := Nat.mul_le_mul (by omega) hn2
      have hL := Left_ok (ls.getD k []) (k * n) (by omega) (by omega) olm
      have hs1 := hsz k hk
      have hs2 := hsz (k + 1) hkl
      rw [Nat.succ_mul] at hs2
      have hA := rAdd_ok (digs (jv ls n k)) (digs (18446744073709551616 ^ (k * n) * val (ls.getD k []))) (by omega) (by
        have := digs_len (pow_mul_lt (a := k * n) (Nat.lt_of_lt_of_le (val_lt olm) (Nat.pow_le_pow_right (by decide) hlm)))
        omega) (digs_ok _).1 (digs_ok _).1
      rw [(digs_ok _).2.2, (digs_ok _).2.2, ← hjs] at hA
      have gk := get_mapL hkl
      obtain ⟨y, hy⟩ : ∃ y, y = ls.getD k [] := ⟨_, rfl⟩
      rw [← hy] at hz hjs hL hA gk hlm
      obtain ⟨D, hD⟩ : ∃ D, D = 18446744073709551616 ^ (k * n) * val y := ⟨_, rfl⟩
      rw [← hD] at hL hA hjs
      have e1 : (64 : Int) * n * k = 64 * ((k * n : Nat) : Int) := by rw [Int.natCast_mul, Int.mul_assoc, Int.mul_comm (n : Int)]
      obtain ⟨p, hp⟩ : ∃ p, p = k * n := ⟨_, rfl⟩
      rw [← hp] at e1 hL hkn1
      refine Holds.seq ?_
      refine Holds.step (Px := px) (T := TT) (ρ := fun _ => []) TTe (by simp (maxSteps := 100000) (disch := omega) only [go_sem, V.isAgg, V.flat, ↓reduceIte, Nat.reduceAdd, Nat.reduceSub, Nat.reduceLT, Nat.reduceEqDiff, reduceCtorEq, Nat.reduceLeDiff, Nat.reduceBEq, Nat.reduceMul, Int.reduceToNat, natsV]; rfl) (by repeat' first | exact trivial | constructor) ?_
      refine Holds.condT rfl (Holds.skip ?_)
      refine Holds.next (fun σ => ∀ a w, Rel cx w0 σ a w → Rel cx w0 { nt := 31, env := [(6, .v true (.int .i64 k)), (5, .v true (words (digs (jv ls n (k + 1))))), (0, .v false (natsV ls)), (1, .v true (.int .i64 n))], mem := [] } a w) ?_ ?_
      · refine Holds.blockN ?_
        by_cases h0 : val y = 0
        · rw [decide_eq_true h0] at hz
          refine Holds.step (Px := px) (T := TT) (ρ := fun _ => [.v true (.bool true)]) TTe (by simp (maxSteps := 100000) (disch := omega) only [go_sem, V.isAgg, V.flat, ↓reduceIte, Nat.reduceAdd, Nat.reduceSub, Nat.reduceLT, Nat.reduceEqDiff, reduceCtorEq, Nat.reduceLeDiff, Nat.reduceBEq, Nat.reduceMul, Int.reduceToNat, natsV, esz25, tsz23, agg23, gk]; rfl) (by first | exact hz | (repeat' first | exact trivial | exact hz | constructor)) ?_
          have e : jv ls n (k + 1) = jv ls n k := by rw [hjs, hD, h0]; rfl
          rw [e]
          exact Holds.condF rfl (Holds.skip fun a w h => Rel.keep [6, 5, 0, 1] [] h)
        · rw [decide_eq_false h0] at hz
          refine Holds.step (Px := px) (T := TT) (ρ := fun _ => [.v true (.bool false)]) TTe (by simp (maxSteps := 100000) (disch := omega) only [go_sem, V.isAgg, V.flat, ↓reduceIte, Nat.reduceAdd, Nat.reduceSub, Nat.reduceLT, Nat.reduceEqDiff, reduceCtorEq, Nat.reduceLeDiff, Nat.reduceBEq, Nat.reduceMul, Int.reduceToNat, natsV, esz25, tsz23, agg23, gk]; rfl) (by first | exact hz | (repeat' first | exact trivial | exact hz | constructor)) ?_
          refine Holds.condT rfl ?_
          refine Holds.region (Px := px) (T := TT) (ρ := fun d => if d = 28 then [.v true (words (digs D))] else [.v true (words (digs (jv ls n (k + 1))))]) TTe (by simp (maxSteps := 100000) (disch := omega) only [go_sem, V.isAgg, V.flat, ↓reduceIte, Nat.reduceAdd, Nat.reduceSub, Nat.reduceLT, Nat.reduceEqDiff, reduceCtorEq, Nat.reduceLeDiff, Nat.reduceBEq, Nat.reduceMul, Int.reduceToNat, natsV, esz25, tsz23, agg23, gk, e1]; rfl) (by first | exact ⟨hL, hA⟩ | (repeat' first | exact trivial | exact hL | exact hA | constructor)) ?_
          exact fun a w h => Rel.keep [6, 5, 0, 1] [] h
      · intro σ hσ
        refine Holds.from hσ ?_
        refine Holds.region (Px := px) (T := TT) (ρ := fun _ => []) TTe (by simp (maxSteps := 100000) (disch := omega) only [go_sem, V.isAgg, V.flat, ↓reduceIte, Nat.reduceAdd, Nat.reduceSub, Nat.reduceLT, Nat.reduceEqDiff, reduceCtorEq, Nat.reduceLeDiff, Nat.reduceBEq, Nat.reduceMul, Int.reduceToNat]; rfl) (by repeat' first | exact trivial | constructor) ?_
        exact ⟨k + 1, (by show k + 1 ≤ ls.length; omega), (show ls.length - (k + 1) < ls.length - k by omega), fun a w h => Rel.keep [6, 5, 0, 1] [] h⟩
  · intro σ hσ
    refine Holds.from hσ ?_
    refine Holds.step (Px := px) (T := TT) (ρ := fun _ => []) TTe (by simp (maxSteps := 100000) (disch := omega) only [go_sem, V.isAgg, V.flat, ↓reduceIte, Nat.reduceAdd, Nat.reduceSub, Nat.reduceLT, Nat.reduceEqDiff, reduceCtorEq, Nat.reduceLeDiff, Nat.reduceBEq, Nat.reduceMul, Int.reduceToNat]; rfl) (by repeat' first | exact trivial | constructor) ?_
    exact Holds.ret (RetOk.vs rfl (by exact ⟨⟨rfl, fun h => h⟩, trivial⟩) rfl)
end Go.Proofs.Ytjmclobbfabnpaa.L
