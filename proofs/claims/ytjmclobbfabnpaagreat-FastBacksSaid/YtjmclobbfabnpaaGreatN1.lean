/-
  Sa Sb
-/
import Derived.Test.YtjmclobbfabnpaaGreatJ9
set_option linter.unusedSimpArgs false
set_option linter.unusedVariables false
/-
  Count, Len, IsZero, Large, Left by whole words of the references.
-/
namespace Go.Proofs.YtjmclobbfabnpaaGreat.L
open Go Go.RowKit Go.Proofs
attribute [local go_sem] evalOps_nil evalOps_cons runW_t runW_f runE_s runP_s wantA evalOp effOp letters okDst coreA St.opv St.get St.at look constA St.put St.upd St.set decide_true List.all_nil List.all_cons Bool.and_true Bool.true_and and_self and_true true_and if_true if_false true_or Int.sub_zero List.nil_append List.cons_append List.append_nil Option.isSome_some List.getElem?_toArray List.getElem?_cons_succ List.getElem?_cons_zero Option.bind_some Option.map_some Option.map_none beq_self_eq_true Bool.false_beq Bool.true_beq Bool.not_true Bool.not_false Bool.false_eq_true cond_true cond_false binA binI List.map_cons List.map_nil boundA List.length_nil List.length_cons Nat.zero_mul Nat.one_mul Nat.mul_one Nat.zero_add Nat.add_zero Nat.zero_le Option.toList St.freshB AV.ment AV.ments Blk.ment V.sizes Nat.lt_add_one Bool.or_true Bool.true_or Bool.or_false Bool.false_or Bool.or_self if_pos if_neg decide_false decide_eq_true decide_eq_false wrap_i64 Int.toNat_natCast minA maxA Int.natCast_add Int.cast_ofNat_Int Option.isSome_none false_implies true_implies forall_const List.drop_zero Int.toNat_zero Int.add_sub_cancel lenA sliceA loadA indexAddrA partA fitsT V.atP V.offP V.size List.length_map List.getElem?_map Int.toNat_natCast_add_one Int.ofNat_eq_natCast TY calleeA capArg knotA capArgs toArgs toArg callA R.res R.mems R.blks R.av R.names R.nw invokeA storeA storeV fieldAddrA liveB V.off V.offs V.setP List.set_cons_zero List.set_cons_succ buildA buildP partsA appendA srcA copyA boxOk makeA AV.pure List.take_succ_cons List.take_zero nilA words entry List.zipIdx_cons List.zipIdx_nil Arg.av Arg.avs

/-- The state of Count after j bits. -/
def cntS (u : Nat) : Nat → Int × Int × Int
  | 0 => (64, 64, 0)
  | j + 1 => if u / 2 ^ j % 2 = 1 then (63 - (j : Int), (if (j : Int) < (cntS u j).2.1 then (j : Int) else (cntS u j).2.1), (cntS u j).2.2 + 1) else cntS u j
theorem cntS_b (u : Nat) : ∀ j, j ≤ 64 → (0 ≤ (cntS u j).1 ∧ (cntS u j).1 ≤ 64) ∧ (0 ≤ (cntS u j).2.1 ∧ (cntS u j).2.1 ≤ 64) ∧ (0 ≤ (cntS u j).2.2 ∧ (cntS u j).2.2 ≤ j)
  | 0, _ => ⟨⟨by show (0 : Int) ≤ 64; decide, by show (64 : Int) ≤ 64; decide⟩, ⟨by show (0 : Int) ≤ 64; decide, by show (64 : Int) ≤ 64; decide⟩, ⟨by show (0 : Int) ≤ 0; decide, by show (0 : Int) ≤ 0; decide⟩⟩
  | j + 1, h => by
    obtain ⟨h1, h2, h3⟩ := cntS_b u j (by omega)
    rw [cntS]
    split
    · refine ⟨⟨by show 0 ≤ 63 - (j : Int); omega, by show 63 - (j : Int) ≤ 64; omega⟩, ?_, ⟨by show 0 ≤ (cntS u j).2.2 + 1; omega, by show (cntS u j).2.2 + 1 ≤ _; omega⟩⟩
      show (0 : Int) ≤ (if (j : Int) < (cntS u j).2.1 then (j : Int) else (cntS u j).2.1) ∧ (if (j : Int) < (cntS u j).2.1 then (j : Int) else (cntS u j).2.1) ≤ 64
      split <;> omega
    · exact ⟨h1, h2, ⟨h3.1, by omega⟩⟩
theorem cntS_one (u : Nat) : ∀ j, j ≤ 64 → u % 2 ^ j ≠ 0 → (cntS u j).1 ≤ 63
  | 0, _, h => absurd (Nat.mod_one u) h
  | j + 1, hj, h => by
    rw [cntS]
    by_cases hb : u / 2 ^ j % 2 = 1
    · rw [if_pos hb]
      show 63 - (j : Int) ≤ 63
      omega
    · rw [if_neg hb]
      refine cntS_one u j (by omega) fun h0 => h ?_
      rw [Nat.pow_succ, Nat.mod_mul, h0, show u / 2 ^ j % 2 = 0 from by omega, Nat.mul_zero]

def cntV (u : Nat) : List R := [.v true (.int .i64 (cntS u 64).1), .v true (.int .i64 (cntS u 64).2.1), .v true (.int .i64 (cntS u 64).2.2)]
theorem Count_ok (x : Nat) (hx : x < 18446744073709551616) : FnOk Tryz.prog 80 [.v (.int .u64 x)] (cntV x) := by
  refine FnOk.of Tryz.func80 rfl rfl fun cx w0 => ?_
  rw [show Tryz.f80.ntmps = 28 from rfl]
  refine Holds.step (Px := px) (T := TT) (ρ := fun _ => []) TTe (by simp (maxSteps := 100000) (disch := omega) only [go_sem, V.isAgg, V.flat, ↓reduceIte, Nat.reduceAdd, Nat.reduceSub, Nat.reduceLT, Nat.reduceEqDiff, reduceCtorEq, Nat.reduceLeDiff, Nat.reduceBEq, Nat.reduceMul, Int.reduceToNat, List.length_cons, List.length_nil]; rfl) (by repeat' first | exact trivial | constructor) ?_
  refine Holds.step (Px := px) (T := TT) (ρ := fun _ => []) TTe (by simp (maxSteps := 100000) (disch := omega) only [go_sem, V.isAgg, V.flat, ↓reduceIte, Nat.reduceAdd, Nat.reduceSub, Nat.reduceLT, Nat.reduceEqDiff, reduceCtorEq, Nat.reduceLeDiff, Nat.reduceBEq, Nat.reduceMul, Int.reduceToNat]; rfl) (by repeat' first | exact trivial | constructor) ?_
  refine Holds.next (fun σ => ∀ a w, Rel cx w0 σ a w → Rel cx w0 { nt := 28, env := [(5, .v true (.int .i64 (cntS x 64).1)), (6, .v true (.int .i64 (cntS x 64).2.1)), (7, .v true (.int .i64 (cntS x 64).2.2))], mem := [] } a w) ?_ ?_
  · refine Holds.step (Px := px) (T := TT) (ρ := fun _ => []) TTe (by simp (maxSteps := 100000) (disch := omega) only [go_sem, V.isAgg, V.flat, ↓reduceIte, Nat.reduceAdd, Nat.reduceSub, Nat.reduceLT, Nat.reduceEqDiff, reduceCtorEq, Nat.reduceLeDiff, Nat.reduceBEq, Nat.reduceMul, Int.reduceToNat]; rfl) (by repeat' first | exact trivial | constructor) ?_
    refine Holds.loopB (fun j : Nat => { nt := 28, env := [(8, .v true (.int .i64 (j : Int))), (5, .v true (.int .i64 (cntS x j).1)), (6, .v true (.int .i64 (cntS x j).2.1)), (7, .v true (.int .i64 (cntS x j).2.2)), (0, .v true (.int .u64 x))], mem := [] }) (fun j => j ≤ 64) (fun j => 64 - j) 0 (Nat.zero_le _) (fun a w h => Rel.keep [8, 5, 6, 7, 0] [] h) ?_
    intro j hj
    by_cases hend : j = 64
    · refine Holds.seq ?_
      refine Holds.step (Px := px) (T := TT) (ρ := fun _ => []) TTe (by simp (maxSteps := 100000) (disch := omega) only [go_sem, V.isAgg, V.flat, ↓reduceIte, Nat.reduceAdd, Nat.reduceSub, Nat.reduceLT, Nat.reduceEqDiff, reduceCtorEq, Nat.reduceLeDiff, Nat.reduceBEq, Nat.reduceMul, Int.reduceToNat]; rfl) (by repeat' first | exact trivial | constructor) ?_
      refine Holds.condF rfl (Holds.exit ⟨rfl, fun a w h => ?_⟩)
      rw [← hend]
      exact Rel.keep [5, 6, 7] [] h
    · refine Holds.seq ?_
      obtain ⟨h1, h2, h3⟩ := cntS_b x j hj
      refine Holds.step (Px := px) (T := TT) (ρ := fun _ => []) TTe (by simp (maxSteps := 100000) (disch := omega) only [go_sem, V.isAgg, V.flat, ↓reduceIte, Nat.reduceAdd, Nat.reduceSub, Nat.reduceLT, Nat.reduceEqDiff, reduceCtorEq, Nat.reduceLeDiff, Nat.reduceBEq, Nat.reduceMul, Int.reduceToNat]; rfl) (by repeat' first | exact trivial | constructor) ?_
      refine Holds.condT rfl (Holds.skip ?_)
      have es : cntS x (j + 1) = if x / 2 ^ j % 2 = 1 then (63 - (j : Int), (if (j : Int) < (cntS x j).2.1 then (j : Int) else (cntS x j).2.1), (cntS x j).2.2 + 1) else cntS x j := rfl
      refine Holds.next (fun σ => ∀ a w, Rel cx w0 σ a w → Rel cx w0 { nt := 28, env := [(8, .v true (.int .i64 (j : Int))), (5, .v true (.int .i64 (cntS x (j + 1)).1)), (6, .v true (.int .i64 (cntS x (j + 1)).2.1)), (7, .v true (.int .i64 (cntS x (j + 1)).2.2)), (0, .v true (.int .u64 x))], mem := [] } a w) ?_ ?_
      · refine Holds.blockN ?_
        rw [es]
        obtain ⟨s, hs⟩ : ∃ s, s = cntS x j := ⟨_, rfl⟩
        rw [← hs] at h1 h2 h3 ⊢
        have hsh := shrB x j (by omega)
        have hq : x / 2 ^ j ≤ x := Nat.div_le_self _ _
        obtain ⟨q, hqe⟩ : ∃ q, q = x / 2 ^ j := ⟨_, rfl⟩
        rw [← hqe] at hsh hq ⊢
        have hmod : ((q : Int)).tmod 2 = ((q % 2 : Nat) : Int) := by rw [Int.tmod_eq_emod_of_nonneg (by omega)]; omega
        have hb2 : q % 2 < 2 := Nat.mod_lt _ (by decide)
        obtain ⟨b, hb⟩ : ∃ b, b = q % 2 := ⟨_, rfl⟩
        rw [← hb] at hmod hb2 ⊢
        have hwm : IntKind.u64.wrap (b : Int) = b := by rw [wrap_u64]; omega
        have hwq : IntKind.u64.wrap (q : Int) = q := by rw [wrap_u64]; omega
        by_cases h : b = 1
        · have h' : (b : Int) = 1 := by omega
          rw [if_pos h]
          refine Holds.step (Px := px) (T := TT) (ρ := fun _ => []) TTe (by simp (maxSteps := 100000) (disch := omega) only [go_sem, V.isAgg, V.flat, ↓reduceIte, Nat.reduceAdd, Nat.reduceSub, Nat.reduceLT, Nat.reduceEqDiff, reduceCtorEq, Nat.reduceLeDiff, Nat.reduceBEq, Nat.reduceMul, Int.reduceToNat, hsh, hmod, hwm, hwq, h']; rfl) (by repeat' first | exact trivial | constructor) ?_
          refine Holds.condT rfl ?_
          refine Holds.step (Px := px) (T := TT) (ρ := fun _ => []) TTe (by simp (maxSteps := 100000) (disch := omega) only [go_sem, V.isAgg, V.flat, ↓reduceIte, Nat.reduceAdd, Nat.reduceSub, Nat.reduceLT, Nat.reduceEqDiff, reduceCtorEq, Nat.reduceLeDiff, Nat.reduceBEq, Nat.reduceMul, Int.reduceToNat]; rfl) (by repeat' first | exact trivial | constructor) ?_
          refine Holds.step (Px := px) (T := TT) (ρ := fun _ => []) TTe (by simp (maxSteps := 100000) (disch := omega) only [go_sem, V.isAgg, V.flat, ↓reduceIte, Nat.reduceAdd, Nat.reduceSub, Nat.reduceLT, Nat.reduceEqDiff, reduceCtorEq, Nat.reduceLeDiff, Nat.reduceBEq, Nat.reduceMul, Int.reduceToNat]; rfl) (by repeat' first | exact trivial | constructor) ?_
          refine Holds.region (Px := px) (T := TT) (ρ := fun _ => []) TTe (by simp (maxSteps := 100000) (disch := omega) only [go_sem, V.isAgg, V.flat, ↓reduceIte, Nat.reduceAdd, Nat.reduceSub, Nat.reduceLT, Nat.reduceEqDiff, reduceCtorEq, Nat.reduceLeDiff, Nat.reduceBEq, Nat.reduceMul, Int.reduceToNat]; rfl) (by repeat' first | exact trivial | constructor) ?_
          exact fun a w h => Rel.keep [8, 5, 6, 7, 0] [] h
        · have h' : ¬ (b : Int) = 1 := by omega
          rw [if_neg h]
          refine Holds.step (Px := px) (T := TT) (ρ := fun _ => []) TTe (by simp (maxSteps := 100000) (disch := omega) only [go_sem, V.isAgg, V.flat, ↓reduceIte, Nat.reduceAdd, Nat.reduceSub, Nat.reduceLT, Nat.reduceEqDiff, reduceCtorEq, Nat.reduceLeDiff, Nat.reduceBEq, Nat.reduceMul, Int.reduceToNat, hsh, hmod, hwm, hwq, h']; rfl) (by repeat' first | exact trivial | constructor) ?_
          exact Holds.condF rfl (Holds.skip fun a w h => Rel.keep [8, 5, 6, 7, 0] [] h)
      · intro σ hσ
        refine Holds.from hσ ?_
        refine Holds.region (Px := px) (T := TT) (ρ := fun _ => []) TTe (by simp (maxSteps := 100000) (disch := omega) only [go_sem, V.isAgg, V.flat, ↓reduceIte, Nat.reduceAdd, Nat.reduceSub, Nat.reduceLT, Nat.reduceEqDiff, reduceCtorEq, Nat.reduceLeDiff, Nat.reduceBEq, Nat.reduceMul, Int.reduceToNat]; rfl) (by repeat' first | exact trivial | constructor) ?_
        exact ⟨j + 1, (by show j + 1 ≤ 64; omega), (show 64 - (j + 1) < 64 - j by omega), fun a w h => Rel.keep [8, 5, 6, 7, 0] [] h⟩
  · intro σ hσ
    refine Holds.from hσ ?_
    refine Holds.step (Px := px) (T := TT) (ρ := fun _ => []) TTe (by simp (maxSteps := 100000) (disch := omega) only [go_sem, V.isAgg, V.flat, ↓reduceIte, Nat.reduceAdd, Nat.reduceSub, Nat.reduceLT, Nat.reduceEqDiff, reduceCtorEq, Nat.reduceLeDiff, Nat.reduceBEq, Nat.reduceMul, Int.reduceToNat]; rfl) (by repeat' first | exact trivial | constructor) ?_
    exact Holds.ret (RetOk.vs rfl (by exact ⟨⟨rfl, fun h => h⟩, ⟨rfl, fun h => h⟩, ⟨rfl, fun h => h⟩, trivial⟩) rfl)

/-- The length in bits. -/
def lenR (x : List Int) : Int := match trimW x x.length with
  | 0 => 0
  | m + 1 => 64 * (m : Int) + 64 - (cntS (x.getD m 0).toNat 64).1
theorem lenR_zero {x : List Int} (ox : okW x) : lenR x = 0 ↔ val x = 0 := by
  rw [lenR]
  rw [← val_trim x, trimL]
  cases h : trimW x x.length with
  | zero => simp [val]
  | succ m =>
    obtain ⟨h1, h2⟩ := trimW_last x _ _ h
    have hw := okW_getD ox m
    have hc := cntS_one (x.getD m 0).toNat 64 (by omega) (by
      rw [Nat.mod_eq_of_lt (by omega)]
      omega)
    have hc2 := cntS_b (x.getD m 0).toNat 64 (by omega)
    constructor
    · intro h
      simp only at h
      omega
    · intro h
      exfalso
      have ht : x.take (m + 1) = x.take m ++ [x.getD m 0] := take_succ (by omega)
      rw [ht, val_append] at h
      have h3 : 18446744073709551616 ^ (x.take m).length * val [x.getD m 0] = 0 := by omega
      rcases Nat.mul_eq_zero.1 h3 with h4 | h4
      · have := Nat.pow_pos (a := 18446744073709551616) (n := (x.take m).length) (by decide)
        omega
      · simp only [val] at h4
        omega

theorem rLen_ok (x : List Int) (hx : x.length < 100000000) (ox : okW x) : FnOk Tryz.prog 66 [.v (words x)] [.v true (.int .i64 (lenR x))] := by
  refine FnOk.of Tryz.func66 rfl rfl fun cx w0 => ?_
  rw [show Tryz.f66.ntmps = 33 from rfl]
  refine Holds.step (Px := px) (T := TT) (ρ := fun _ => []) TTe (by simp (maxSteps := 100000) (disch := omega) only [go_sem, V.isAgg, V.flat, ↓reduceIte, Nat.reduceAdd, Nat.reduceSub, Nat.reduceLT, Nat.reduceEqDiff, reduceCtorEq, Nat.reduceLeDiff, Nat.reduceBEq, Nat.reduceMul, Int.reduceToNat, List.length_cons, List.length_nil]; rfl) (by repeat' first | exact trivial | constructor) ?_
  refine Holds.next (fun σ => lenR x = 0 ∧ ∀ a w, Rel cx w0 σ a w → Rel cx w0 { nt := 33, env := [], mem := [] } a w) ?_ ?_
  · refine Holds.step (Px := px) (T := TT) (ρ := fun _ => []) TTe (by simp (maxSteps := 100000) (disch := omega) only [go_sem, V.isAgg, V.flat, ↓reduceIte, Nat.reduceAdd, Nat.reduceSub, Nat.reduceLT, Nat.reduceEqDiff, reduceCtorEq, Nat.reduceLeDiff, Nat.reduceBEq, Nat.reduceMul, Int.reduceToNat]; rfl) (by repeat' first | exact trivial | constructor) ?_
    refine Holds.loopB (fun j : Nat => { nt := 33, env := [(3, .v true (.int .i64 ((j : Int) - 1))), (0, .v false (words x))], mem := [] }) (fun j => j ≤ x.length ∧ trimW x x.length = trimW x j) id x.length ⟨Nat.le_refl _, rfl⟩ (fun a w hr => Rel.keep [3, 0] [] hr) ?_
    rintro j ⟨hj, ht⟩
    rcases j with _ | j
    · refine Holds.seq ?_
      refine Holds.step (Px := px) (T := TT) (ρ := fun _ => []) TTe (by simp (maxSteps := 100000) (disch := omega) only [go_sem, V.isAgg, V.flat, ↓reduceIte, Nat.reduceAdd, Nat.reduceSub, Nat.reduceLT, Nat.reduceEqDiff, reduceCtorEq, Nat.reduceLeDiff, Nat.reduceBEq, Nat.reduceMul, Int.reduceToNat]; rfl) (by repeat' first | exact trivial | constructor) ?_
      refine Holds.condF rfl (Holds.exit ⟨rfl, ?_, fun a w hr => Rel.keep [] [] hr⟩)
      rw [lenR, ht, trimW]
    · have hjx : j < x.length := by omega
      have hw := okW_getD ox j
      have g := get_map hjx
      have hcnt := Count_ok (x.getD j 0).toNat (by omega)
      have e1 : (((x.getD j 0).toNat : Nat) : Int) = x.getD j 0 := by omega
      rw [e1] at hcnt
      have hc2 := cntS_b (x.getD j 0).toNat 64 (by omega)
      have ej : ((j : Int) + 1 - 1) = j := by omega
      rw [show (((j + 1 : Nat) : Int) - 1) = (j : Int) from by omega]
      refine Holds.seq ?_
      refine Holds.step (Px := px) (T := TT) (ρ := fun _ => []) TTe (by simp (maxSteps := 100000) (disch := omega) only [go_sem, V.isAgg, V.flat, ↓reduceIte, Nat.reduceAdd, Nat.reduceSub, Nat.reduceLT, Nat.reduceEqDiff, reduceCtorEq, Nat.reduceLeDiff, Nat.reduceBEq, Nat.reduceMul, Int.reduceToNat]; rfl) (by repeat' first | exact trivial | constructor) ?_
      refine Holds.condT rfl (Holds.skip ?_)
      refine Holds.next (fun σ => x.getD j 0 = 0 ∧ ∀ a w, Rel cx w0 σ a w → Rel cx w0 { nt := 33, env := [(3, .v true (.int .i64 (j : Int))), (0, .v false (words x))], mem := [] } a w) ?_ ?_
      · refine Holds.blockN ?_
        by_cases h0 : x.getD j 0 = 0
        · refine Holds.step (Px := px) (T := TT) (ρ := fun _ => []) TTe (by simp (maxSteps := 100000) (disch := omega) only [go_sem, V.isAgg, V.flat, ↓reduceIte, Nat.reduceAdd, Nat.reduceSub, Nat.reduceLT, Nat.reduceEqDiff, reduceCtorEq, Nat.reduceLeDiff, Nat.reduceBEq, Nat.reduceMul, Int.reduceToNat, g, h0]; rfl) (by repeat' first | exact trivial | constructor) ?_
          exact Holds.condF rfl (Holds.skip ⟨h0, fun a w hr => Rel.keep [3, 0] [] hr⟩)
        · have el : lenR x = 64 * (j : Int) + 64 - (cntS (x.getD j 0).toNat 64).1 := by rw [lenR, ht, trimW, if_neg h0]
          rw [el]
          obtain ⟨u, hu⟩ : ∃ u, u = x.getD j 0 := ⟨_, rfl⟩
          rw [← hu] at g hw hcnt hc2 h0 ⊢
          refine Holds.step (Px := px) (T := TT) (ρ := fun _ => []) TTe (by simp (maxSteps := 100000) (disch := omega) only [go_sem, V.isAgg, V.flat, ↓reduceIte, Nat.reduceAdd, Nat.reduceSub, Nat.reduceLT, Nat.reduceEqDiff, reduceCtorEq, Nat.reduceLeDiff, Nat.reduceBEq, Nat.reduceMul, Int.reduceToNat, g, h0]; rfl) (by repeat' first | exact trivial | constructor) ?_
          refine Holds.condT rfl ?_
          refine Holds.step (Px := px) (T := TT) (ρ := fun _ => cntV u.toNat) TTe (by simp (maxSteps := 100000) (disch := omega) only [go_sem, V.isAgg, V.flat, ↓reduceIte, Nat.reduceAdd, Nat.reduceSub, Nat.reduceLT, Nat.reduceEqDiff, reduceCtorEq, Nat.reduceLeDiff, Nat.reduceBEq, Nat.reduceMul, Int.reduceToNat, g]; rfl) (by first | exact hcnt | (repeat' first | exact trivial | exact hcnt | constructor)) ?_
          refine Holds.step (Px := px) (T := TT) (ρ := fun _ => []) TTe (by simp (maxSteps := 100000) (disch := omega) only [go_sem, V.isAgg, V.flat, ↓reduceIte, Nat.reduceAdd, Nat.reduceSub, Nat.reduceLT, Nat.reduceEqDiff, reduceCtorEq, Nat.reduceLeDiff, Nat.reduceBEq, Nat.reduceMul, Int.reduceToNat]; rfl) (by repeat' first | exact trivial | constructor) ?_
          exact Holds.ret (RetOk.vs rfl (by exact ⟨⟨rfl, fun h => h⟩, trivial⟩) rfl)
      · rintro σ ⟨h0, hσ⟩
        refine Holds.from hσ ?_
        refine Holds.region (Px := px) (T := TT) (ρ := fun _ => []) TTe (by simp (maxSteps := 100000) (disch := omega) only [go_sem, V.isAgg, V.flat, ↓reduceIte, Nat.reduceAdd, Nat.reduceSub, Nat.reduceLT, Nat.reduceEqDiff, reduceCtorEq, Nat.reduceLeDiff, Nat.reduceBEq, Nat.reduceMul, Int.reduceToNat]; rfl) (by repeat' first | exact trivial | constructor) ?_
        exact ⟨j, ⟨by omega, by rw [ht, trimW, if_pos h0]⟩, (show j < j + 1 by omega), fun a w hr => Rel.keep [3, 0] [] hr⟩
  · rintro σ ⟨h0, hσ⟩
    rw [h0]
    refine Holds.from hσ ?_
    refine Holds.step (Px := px) (T := TT) (ρ := fun _ => []) TTe (by simp (maxSteps := 100000) (disch := omega) only [go_sem, V.isAgg, V.flat, ↓reduceIte, Nat.reduceAdd, Nat.reduceSub, Nat.reduceLT, Nat.reduceEqDiff, reduceCtorEq, Nat.reduceLeDiff, Nat.reduceBEq, Nat.reduceMul, Int.reduceToNat]; rfl) (by repeat' first | exact trivial | constructor) ?_
    exact Holds.ret (RetOk.vs rfl (by exact ⟨⟨rfl, fun h => h⟩, trivial⟩) rfl)

theorem IsZero_ok (x : List Int) (hx : x.length < 100000000) (ox : okW x) : FnOk Tryz.prog 41 [.v (words x)] [.v true (.bool (decide (val x = 0)))] := by
  have h1 := rLen_ok x hx ox
  have hz : decide (val x = 0) = decide (lenR x = 0) := by rw [decide_eq_decide]; exact (lenR_zero ox).symm
  rw [hz]
  refine FnOk.of Tryz.func41 rfl rfl fun cx w0 => ?_
  rw [show Tryz.f41.ntmps = 6 from rfl]
  refine Holds.step (Px := px) (T := TT) (ρ := fun _ => []) TTe (by simp (maxSteps := 100000) (disch := omega) only [go_sem, V.isAgg, V.flat, ↓reduceIte, Nat.reduceAdd, Nat.reduceSub, Nat.reduceLT, Nat.reduceEqDiff, reduceCtorEq, Nat.reduceLeDiff, Nat.reduceBEq, Nat.reduceMul, Int.reduceToNat, List.length_cons, List.length_nil]; rfl) (by repeat' first | exact trivial | constructor) ?_
  by_cases h : lenR x = 0
  · rw [h] at h1
    refine Holds.step (Px := px) (T := TT) (ρ := fun _ => [.v true (.int .i64 0)]) TTe (by simp (maxSteps := 100000) (disch := omega) only [go_sem, V.isAgg, V.flat, ↓reduceIte, Nat.reduceAdd, Nat.reduceSub, Nat.reduceLT, Nat.reduceEqDiff, reduceCtorEq, Nat.reduceLeDiff, Nat.reduceBEq, Nat.reduceMul, Int.reduceToNat, h]; rfl) (by first | exact h1 | (repeat' first | exact trivial | exact h1 | constructor)) ?_
    rw [decide_eq_true h]
    exact Holds.ret (RetOk.vs rfl (by exact ⟨⟨rfl, fun h => h⟩, trivial⟩) rfl)
  · refine Holds.step (Px := px) (T := TT) (ρ := fun _ => [.v true (.int .i64 (lenR x))]) TTe (by simp (maxSteps := 100000) (disch := omega) only [go_sem, V.isAgg, V.flat, ↓reduceIte, Nat.reduceAdd, Nat.reduceSub, Nat.reduceLT, Nat.reduceEqDiff, reduceCtorEq, Nat.reduceLeDiff, Nat.reduceBEq, Nat.reduceMul, Int.reduceToNat, h]; rfl) (by first | exact h1 | (repeat' first | exact trivial | exact h1 | constructor)) ?_
    rw [decide_eq_false h]
    exact Holds.ret (RetOk.vs rfl (by exact ⟨⟨rfl, fun h => h⟩, trivial⟩) rfl)
/-
  Left by whole words, reckonerref03.Join.
-/

theorem val_inj2 : ∀ {l m : List Int}, okW l → okW m → l.length = m.length → val l = val m → l = m
  | [], [], _, _, _, _ => rfl
  | x :: r, y :: s, ol, om, hl, hv => by
    simp only [val] at hv
    have h1 := ol x (by simp)
    have h2 := om y (by simp)
    have hx : x = y := by omega
    have hr : val r = val s := by omega
    rw [hx, val_inj2 (fun n hn => ol n (List.mem_cons_of_mem _ hn)) (fun n hn => om n (List.mem_cons_of_mem _ hn)) (by simpa using hl) hr]

theorem Word_ok (u : Nat) (hu : u < 18446744073709551616) : FnOk Tryz.prog 64 [.v (.int .u64 u)] [.v true (words [(u : Int) % 4294967296, (u : Int) / 4294967296])] := by
  have e1 : (u : Int).tmod 4294967296 = (u : Int) % 4294967296 := Int.tmod_eq_emod_of_nonneg (by omega)
  have e2 : (u : Int).tdiv 4294967296 = (u : Int) / 4294967296 := Int.tdiv_eq_ediv_of_nonneg (by omega)
  have e3 : IntKind.u64.wrap ((u : Int) % 4294967296) = (u : Int) % 4294967296 := by rw [wrap_u64]; omega
  have e4 : IntKind.u64.wrap ((u : Int) / 4294967296) = (u : Int) / 4294967296 := by rw [wrap_u64]; omega
  refine FnOk.of Tryz.func64 rfl rfl fun cx w0 => ?_
  rw [show Tryz.f64.ntmps = 8 from rfl]
  refine Holds.step (Px := px) (T := TT) (ρ := fun _ => []) TTe (by simp (maxSteps := 100000) (disch := omega) only [go_sem, V.isAgg, V.flat, ↓reduceIte, Nat.reduceAdd, Nat.reduceSub, Nat.reduceLT, Nat.reduceEqDiff, reduceCtorEq, Nat.reduceLeDiff, Nat.reduceBEq, Nat.reduceMul, Int.reduceToNat, List.length_cons, List.length_nil]; rfl) (by repeat' first | exact trivial | constructor) ?_
  refine Holds.step (Px := px) (T := TT) (ρ := fun _ => []) TTe (by simp (maxSteps := 100000) (disch := omega) only [go_sem, V.isAgg, V.flat, ↓reduceIte, Nat.reduceAdd, Nat.reduceSub, Nat.reduceLT, Nat.reduceEqDiff, reduceCtorEq, Nat.reduceLeDiff, Nat.reduceBEq, Nat.reduceMul, Int.reduceToNat, e1, e2, e3, e4]; rfl) (by repeat' first | exact trivial | constructor) ?_
  exact Holds.ret ⟨_, [], rfl, ⟨⟨rfl, rfl, fun h => h, rfl⟩, trivial⟩, by simp [R.names, R.mems, R.blks], by simp, rfl⟩

theorem val_rep0 : ∀ n, val (List.replicate n 0) = 0
  | 0 => rfl
  | n + 1 => by rw [List.replicate_succ, val, val_rep0 n]; rfl

theorem jv_lt {ls : List (List Int)} {n L : Nat} (hn : 1 ≤ n) (hls : ∀ l ∈ ls, l.length ≤ L ∧ okW l) : ∀ k, k ≤ ls.length → jv ls n k < 18446744073709551616 ^ (k * n + L)
  | 0, _ => Nat.pow_pos (by decide)
  | k + 1, hk => by
    have hkl : k < ls.length := by omega
    have hm : ls.getD k [] ∈ ls := by rw [List.getD_eq_getElem?_getD, List.getElem?_eq_getElem hkl]; exact List.getElem_mem hkl
    obtain ⟨hlm, olm⟩ := hls _ hm
    have h1 := jv_lt hn hls k (by omega)
    have h2 : val (ls.getD k []) < 18446744073709551616 ^ L := Nat.lt_of_lt_of_le (val_lt olm) (Nat.pow_le_pow_right (by decide) hlm)
    have h3 : 18446744073709551616 ^ (k * n) * val (ls.getD k []) < 18446744073709551616 ^ (k * n) * 18446744073709551616 ^ L := (Nat.mul_lt_mul_left (Nat.pow_pos (by decide))).2 h2
    rw [← Nat.pow_add] at h3
    have h4 : 18446744073709551616 ^ (k * n + L + 1) ≤ 18446744073709551616 ^ ((k + 1) * n + L) := Nat.pow_le_pow_right (by decide) (by rw [Nat.succ_mul]; omega)
    rw [Nat.pow_succ] at h4
    rw [jv]
    omega

theorem pow_mul_lt {a L v : Nat} (h : v < 18446744073709551616 ^ L) : 18446744073709551616 ^ a * v < 18446744073709551616 ^ (a + L) := by
  rw [Nat.pow_add]
  exact (Nat.mul_lt_mul_left (Nat.pow_pos (by decide))).2 h
end Go.Proofs.YtjmclobbfabnpaaGreat.L
