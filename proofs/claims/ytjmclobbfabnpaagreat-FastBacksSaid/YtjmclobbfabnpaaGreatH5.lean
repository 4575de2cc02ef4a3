/-
  Mn Mo Mp Ob Oc
-/
import Derived.Test.YtjmclobbfabnpaaGreatH3
import Derived.Test.YtjmclobbfabnpaaGreatG4
import Derived.Test.YtjmclobbfabnpaaGreatH4
import Derived.Test.YtjmclobbfabnpaaGreatH2
import Derived.Test.YtjmclobbfabnpaaGreatH1
set_option linter.unusedSimpArgs false
set_option linter.unusedVariables false
/-
  Bits: Len64, LeadingZeros64; nat.length, nat.Len, nat.tooLong.
-/
namespace Go.Proofs.YtjmclobbfabnpaaGreat.L
open Go Go.RowKit Go.Proofs
attribute [local go_sem] evalOps_nil evalOps_cons runW_t runW_f runE_s runP_s wantA evalOp effOp letters okDst coreA St.opv St.get St.at look constA St.put St.upd St.set decide_true List.all_nil List.all_cons Bool.and_true Bool.true_and and_self and_true true_and if_true if_false true_or Int.sub_zero List.nil_append List.cons_append List.append_nil Option.isSome_some List.getElem?_toArray List.getElem?_cons_succ List.getElem?_cons_zero Option.bind_some Option.map_some Option.map_none beq_self_eq_true Bool.false_beq Bool.true_beq Bool.not_true Bool.not_false Bool.false_eq_true cond_true cond_false binA binI List.map_cons List.map_nil boundA List.length_nil List.length_cons Nat.zero_mul Nat.one_mul Nat.mul_one Nat.zero_add Nat.add_zero Nat.zero_le Option.toList St.freshB AV.ment AV.ments Blk.ment V.sizes Nat.lt_add_one Bool.or_true Bool.true_or Bool.or_false Bool.false_or Bool.or_self if_pos if_neg decide_false decide_eq_true decide_eq_false wrap_i64 Int.toNat_natCast minA maxA Int.natCast_add Int.cast_ofNat_Int Option.isSome_none false_implies true_implies forall_const List.drop_zero Int.toNat_zero Int.add_sub_cancel lenA sliceA loadA indexAddrA partA fitsT V.atP V.offP V.size List.length_map List.getElem?_map Int.toNat_natCast_add_one Int.ofNat_eq_natCast TY calleeA capArg knotA capArgs toArgs toArg callA R.res R.mems R.blks R.av R.names R.nw invokeA storeA storeV fieldAddrA liveB V.off V.offs V.setP List.set_cons_zero List.set_cons_succ buildA buildP partsA appendA srcA copyA boxOk makeA AV.pure List.take_succ_cons List.take_zero nilA words entry List.zipIdx_cons List.zipIdx_nil Arg.av Arg.avs

noncomputable def lenTab : ByteArray := ((Tryz.f83.body.bind tabIn).getD ByteArray.empty)
theorem lenTab_ok : tabOk lenTab 256 8 = true := by kernel_rfl

/-- One halving. -/
def hv (b : Nat) (s : Nat × Nat) : Nat × Nat := if 2 ^ b ≤ s.1 then (s.1 / 2 ^ b, s.2 + b) else s
def len3 (x : Nat) : Nat × Nat := hv 8 (hv 16 (hv 32 (x, 0)))
noncomputable def len64 (x : Nat) : Nat := (len3 x).2 + bAt lenTab (len3 x).1

theorem shrB (a b : Nat) (hb : b < 64) : Int.fdiv (a : Int) (2 ^ min b 64) = ((a / 2 ^ b : Nat) : Int) := by
  have : min b 64 = b := Nat.min_eq_left (by omega)
  rw [this, Int.fdiv_eq_ediv_of_nonneg _ (Int.le_of_lt (Int.pow_pos (by omega))), Int.natCast_ediv, Int.natCast_pow]
  rfl

theorem len3_ok {x : Nat} (hx : x < 18446744073709551616) : (len3 x).1 < 256 ∧ (len3 x).2 ≤ 56 := by
  unfold len3
  have h1 : (hv 32 (x, 0)).1 < 4294967296 ∧ (hv 32 (x, 0)).2 ≤ 32 := by
    unfold hv; split <;> first | omega | (simp only; omega)
  generalize hv 32 (x, 0) = s at h1
  have h2 : (hv 16 s).1 < 65536 ∧ (hv 16 s).2 ≤ 48 := by
    unfold hv; split <;> first | omega | (simp only; omega)
  generalize hv 16 s = t at h2
  unfold hv; split <;> first | omega | (simp only; omega)
theorem len64_le {x : Nat} (hx : x < 18446744073709551616) : len64 x ≤ 64 := by
  obtain ⟨h1, h2⟩ := len3_ok hx
  have h3 := List.all_eq_true.1 lenTab_ok _ (List.mem_range.2 h1)
  unfold len64 bAt
  split
  · next b hb => rw [hb] at h3; have : b.toNat ≤ 8 := by simpa using h3
                 omega
  · omega

theorem len64_ok (x : Nat) (hx : x < 18446744073709551616) : FnOk Tryz.prog 83 [.v (.int .u64 x)] [.v true (.int .i64 (len64 x))] := by
  refine FnOk.of Tryz.func83 rfl rfl fun cx w0 => ?_
  rw [show Tryz.f83.ntmps = 25 from rfl]
  refine Holds.step (Px := px) (T := TT) (ρ := fun _ => []) TTe (by simp (maxSteps := 100000) (disch := omega) only [go_sem, V.isAgg, V.flat, ↓reduceIte, Nat.reduceAdd, Nat.reduceSub, Nat.reduceLT, Nat.reduceEqDiff, reduceCtorEq, Nat.reduceLeDiff, Nat.reduceBEq, Nat.reduceMul, Int.reduceToNat, List.length_cons, List.length_nil]; rfl) (by repeat' first | exact trivial | constructor) ?_
  refine Holds.next (fun σ => ∀ a w, Rel cx w0 σ a w → Rel cx w0 { nt := 25, env := [(0, .v true (.int .u64 (hv 32 (x, 0)).1)), (2, .v true (.int .i64 (hv 32 (x, 0)).2))], mem := [] } a w) ?_ ?_
  · by_cases h : 4294967296 ≤ x
    · refine Holds.step (Px := px) (T := TT) (ρ := fun _ => []) TTe (by simp (maxSteps := 100000) (disch := omega) only [go_sem, V.isAgg, V.flat, ↓reduceIte, Nat.reduceAdd, Nat.reduceSub, Nat.reduceLT, Nat.reduceEqDiff, reduceCtorEq, Nat.reduceLeDiff, Nat.reduceBEq, Nat.reduceMul, Int.reduceToNat]; rfl) (by repeat' first | exact trivial | constructor) ?_
      refine Holds.condT rfl ?_
      refine Holds.step (Px := px) (T := TT) (ρ := fun _ => []) TTe (by simp (maxSteps := 100000) (disch := omega) only [go_sem, V.isAgg, V.flat, ↓reduceIte, Nat.reduceAdd, Nat.reduceSub, Nat.reduceLT, Nat.reduceEqDiff, reduceCtorEq, Nat.reduceLeDiff, Nat.reduceBEq, Nat.reduceMul, Int.reduceToNat, Int.reduceToNat, shrB x 32 (by omega)]; rfl) (by repeat' first | exact trivial | constructor) ?_
      refine Holds.region (Px := px) (T := TT) (ρ := fun _ => []) TTe (by simp (maxSteps := 100000) (disch := omega) only [go_sem, V.isAgg, V.flat, ↓reduceIte, Nat.reduceAdd, Nat.reduceSub, Nat.reduceLT, Nat.reduceEqDiff, reduceCtorEq, Nat.reduceLeDiff, Nat.reduceBEq, Nat.reduceMul, Int.reduceToNat]; rfl) (by repeat' first | exact trivial | constructor) ?_
      intro a w hr
      rw [show hv 32 (x, 0) = (x / 2 ^ 32, 0 + 32) from by rw [hv, if_pos h]]
      exact Rel.keep [0, 2] [] hr
    · refine Holds.step (Px := px) (T := TT) (ρ := fun _ => []) TTe (by simp (maxSteps := 100000) (disch := omega) only [go_sem, V.isAgg, V.flat, ↓reduceIte, Nat.reduceAdd, Nat.reduceSub, Nat.reduceLT, Nat.reduceEqDiff, reduceCtorEq, Nat.reduceLeDiff, Nat.reduceBEq, Nat.reduceMul, Int.reduceToNat]; rfl) (by repeat' first | exact trivial | constructor) ?_
      refine Holds.condF rfl (Holds.skip fun a w hr => ?_)
      rw [show hv 32 (x, 0) = (x, 0) from by rw [hv, if_neg h]]
      exact Rel.keep [0, 2] [] hr
  · have b1 : (hv 32 (x, 0)).1 < 4294967296 ∧ (hv 32 (x, 0)).2 ≤ 32 := by
      unfold hv; split <;> first | omega | (simp only; omega)
    have b2 : ∀ s : Nat × Nat, s.1 < 4294967296 → s.2 ≤ 32 → (hv 16 s).1 < 65536 ∧ (hv 16 s).2 ≤ 48 := by
      intro s h1 h2
      unfold hv; split <;> first | omega | (simp only; omega)
    have b3 := b2 _ b1.1 b1.2
    intro σ hσ
    refine Holds.from hσ ?_
    obtain ⟨s, hs⟩ : ∃ s, s = hv 32 (x, 0) := ⟨_, rfl⟩
    have hb : s.1 < 4294967296 ∧ s.2 ≤ 32 := by rw [hs]; exact b1
    rw [← hs]
    refine Holds.next (fun σ => ∀ a w, Rel cx w0 σ a w → Rel cx w0 { nt := 25, env := [(0, .v true (.int .u64 (hv 16 s).1)), (2, .v true (.int .i64 (hv 16 s).2))], mem := [] } a w) ?_ ?_
    · by_cases h : 65536 ≤ s.1
      · refine Holds.step (Px := px) (T := TT) (ρ := fun _ => []) TTe (by simp (maxSteps := 100000) (disch := omega) only [go_sem, V.isAgg, V.flat, ↓reduceIte, Nat.reduceAdd, Nat.reduceSub, Nat.reduceLT, Nat.reduceEqDiff, reduceCtorEq, Nat.reduceLeDiff, Nat.reduceBEq, Nat.reduceMul, Int.reduceToNat]; rfl) (by repeat' first | exact trivial | constructor) ?_
        refine Holds.condT rfl ?_
        refine Holds.step (Px := px) (T := TT) (ρ := fun _ => []) TTe (by simp (maxSteps := 100000) (disch := omega) only [go_sem, V.isAgg, V.flat, ↓reduceIte, Nat.reduceAdd, Nat.reduceSub, Nat.reduceLT, Nat.reduceEqDiff, reduceCtorEq, Nat.reduceLeDiff, Nat.reduceBEq, Nat.reduceMul, Int.reduceToNat, Int.reduceToNat, shrB s.1 16 (by omega)]; rfl) (by repeat' first | exact trivial | constructor) ?_
        refine Holds.region (Px := px) (T := TT) (ρ := fun _ => []) TTe (by simp (maxSteps := 100000) (disch := omega) only [go_sem, V.isAgg, V.flat, ↓reduceIte, Nat.reduceAdd, Nat.reduceSub, Nat.reduceLT, Nat.reduceEqDiff, reduceCtorEq, Nat.reduceLeDiff, Nat.reduceBEq, Nat.reduceMul, Int.reduceToNat]; rfl) (by repeat' first | exact trivial | constructor) ?_
        intro a w hr
        rw [show hv 16 s = (s.1 / 2 ^ 16, s.2 + 16) from by rw [hv, if_pos h]]
        exact Rel.keep [0, 2] [] hr
      · refine Holds.step (Px := px) (T := TT) (ρ := fun _ => []) TTe (by simp (maxSteps := 100000) (disch := omega) only [go_sem, V.isAgg, V.flat, ↓reduceIte, Nat.reduceAdd, Nat.reduceSub, Nat.reduceLT, Nat.reduceEqDiff, reduceCtorEq, Nat.reduceLeDiff, Nat.reduceBEq, Nat.reduceMul, Int.reduceToNat]; rfl) (by repeat' first | exact trivial | constructor) ?_
        refine Holds.condF rfl (Holds.skip fun a w hr => ?_)
        rw [show hv 16 s = s from by rw [hv, if_neg h]]
        exact Rel.keep [0, 2] [] hr
    · rw [hs]
      intro σ hσ
      refine Holds.from hσ ?_
      obtain ⟨s, hs⟩ : ∃ s, s = hv 16 (hv 32 (x, 0)) := ⟨_, rfl⟩
      have hb : s.1 < 65536 ∧ s.2 ≤ 48 := by rw [hs]; exact b3
      rw [← hs]
      refine Holds.next (fun σ => ∀ a w, Rel cx w0 σ a w → Rel cx w0 { nt := 25, env := [(0, .v true (.int .u64 (hv 8 s).1)), (2, .v true (.int .i64 (hv 8 s).2))], mem := [] } a w) ?_ ?_
      · by_cases h : 256 ≤ s.1
        · refine Holds.step (Px := px) (T := TT) (ρ := fun _ => []) TTe (by simp (maxSteps := 100000) (disch := omega) only [go_sem, V.isAgg, V.flat, ↓reduceIte, Nat.reduceAdd, Nat.reduceSub, Nat.reduceLT, Nat.reduceEqDiff, reduceCtorEq, Nat.reduceLeDiff, Nat.reduceBEq, Nat.reduceMul, Int.reduceToNat]; rfl) (by repeat' first | exact trivial | constructor) ?_
          refine Holds.condT rfl ?_
          refine Holds.step (Px := px) (T := TT) (ρ := fun _ => []) TTe (by simp (maxSteps := 100000) (disch := omega) only [go_sem, V.isAgg, V.flat, ↓reduceIte, Nat.reduceAdd, Nat.reduceSub, Nat.reduceLT, Nat.reduceEqDiff, reduceCtorEq, Nat.reduceLeDiff, Nat.reduceBEq, Nat.reduceMul, Int.reduceToNat, Int.reduceToNat, shrB s.1 8 (by omega)]; rfl) (by repeat' first | exact trivial | constructor) ?_
          refine Holds.region (Px := px) (T := TT) (ρ := fun _ => []) TTe (by simp (maxSteps := 100000) (disch := omega) only [go_sem, V.isAgg, V.flat, ↓reduceIte, Nat.reduceAdd, Nat.reduceSub, Nat.reduceLT, Nat.reduceEqDiff, reduceCtorEq, Nat.reduceLeDiff, Nat.reduceBEq, Nat.reduceMul, Int.reduceToNat]; rfl) (by repeat' first | exact trivial | constructor) ?_
          intro a w hr
          rw [show hv 8 s = (s.1 / 2 ^ 8, s.2 + 8) from by rw [hv, if_pos h]]
          exact Rel.keep [0, 2] [] hr
        · refine Holds.step (Px := px) (T := TT) (ρ := fun _ => []) TTe (by simp (maxSteps := 100000) (disch := omega) only [go_sem, V.isAgg, V.flat, ↓reduceIte, Nat.reduceAdd, Nat.reduceSub, Nat.reduceLT, Nat.reduceEqDiff, reduceCtorEq, Nat.reduceLeDiff, Nat.reduceBEq, Nat.reduceMul, Int.reduceToNat]; rfl) (by repeat' first | exact trivial | constructor) ?_
          refine Holds.condF rfl (Holds.skip fun a w hr => ?_)
          rw [show hv 8 s = s from by rw [hv, if_neg h]]
          exact Rel.keep [0, 2] [] hr
      · rw [hs]
        intro σ hσ
        refine Holds.from hσ ?_
        have h3 := len3_ok hx
        obtain ⟨n, hn⟩ : ∃ n, n = len3 x := ⟨_, rfl⟩
        have e : len64 x = n.2 + bAt lenTab n.1 := by rw [hn]; rfl
        rw [← hn] at h3
        rw [e]
        rw [show hv 8 (hv 16 (hv 32 (x, 0))) = n from hn.symm]
        have hw : IntKind.u8.wrap (n.1 : Int) = n.1 := by
          unfold IntKind.wrap
          simp only [IntKind.bits, IntKind.signed, Bool.false_and, Bool.false_eq_true, if_false]
          omega
        have ikd5 : ikd Tryz.prog 5 = some .u8 := by kernel_rfl
        have ikd3 : ikd Tryz.prog 3 = some .i64 := by kernel_rfl
        have und69 : (Tryz.prog.underlying 52).isSome = true := by kernel_rfl
        have und5 : (Tryz.prog.underlying 5).isSome = true := by kernel_rfl
        have hb8 := (evalOp_tab (P := Tryz.prog) (T := TT) (ρ := fun _ => []) (σ := { nt := 1, env := [(0, .v true (.int .u8 n.1))], mem := [] }) (o := { dst := some 0, op := .index 9 (.const (.string lenTab)) (.tmp 0), type := 0, pos := "", after := #[], guard := none }) (N := 256) (m := 8) (n := n.1) (by kernel_rfl) lenTab_ok rfl rfl (Nat.le_of_ble_eq_true rfl) rfl h3.1).1
        refine Holds.seq (Holds.regionS (σ2 := { nt := 25, env := [(22, .v true (.int .u8 (bAt lenTab n.1 : Nat))), (21, .v true (.int .u8 n.1)), (20, .v true (.int .u64 n.1)), (19, .v true (.int .i64 n.2)), (0, .v true (.int .u64 n.1)), (2, .v true (.int .i64 n.2))], mem := [] }) (p2 := True) (Px := px) (T := TT) (ρ := fun _ => []) (k := 3) TTe (by simp (maxSteps := 100000) (disch := omega) only [List.take_succ_cons, List.take_zero, go_sem, V.isAgg, V.flat, ↓reduceIte, Nat.reduceAdd, Nat.reduceSub, Nat.reduceLT, Nat.reduceEqDiff, reduceCtorEq, Nat.reduceLeDiff, Nat.reduceBEq, Nat.reduceMul, Int.reduceToNat, hw, ikd5, und69]; rfl) (by repeat' constructor) rfl rfl ?h2 trivial ?h3)
        case h2 => exact evalOp_tabE (tab := lenTab) (N := 256) (m := 8) (n := n.1) (by kernel_rfl) lenTab_ok (by rfl) (by rfl) (by exact Nat.le_of_ble_eq_true rfl) (by rfl) h3.1
        case h3 =>
          refine ⟨_, _, by simp (maxSteps := 100000) (disch := omega) only [List.drop_succ_cons, List.drop_zero, go_sem, V.isAgg, V.flat, ↓reduceIte, Nat.reduceAdd, Nat.reduceSub, Nat.reduceLT, Nat.reduceEqDiff, reduceCtorEq, Nat.reduceLeDiff, Nat.reduceBEq, Nat.reduceMul, Int.reduceToNat, ikd3, und5]; rfl, by repeat' constructor, ?_⟩
          show Holds _ _ _ _ _ _ _
          exact Holds.ret (RetOk.vs rfl (by exact ⟨⟨rfl, fun h => h⟩, trivial⟩) rfl)

theorem lz64_ok (x : Nat) (hx : x < 18446744073709551616) : FnOk Tryz.prog 78 [.v (.int .u64 x)] [.v true (.int .i64 (64 - (len64 x : Int)))] := by
  have h := len64_le hx
  refine FnOk.of Tryz.func78 rfl rfl fun cx w0 => ?_
  rw [show Tryz.f78.ntmps = 6 from rfl]
  refine Holds.step (Px := px) (T := TT) (ρ := fun _ => []) TTe (by simp (maxSteps := 100000) (disch := omega) only [go_sem, V.isAgg, V.flat, ↓reduceIte, Nat.reduceAdd, Nat.reduceSub, Nat.reduceLT, Nat.reduceEqDiff, reduceCtorEq, Nat.reduceLeDiff, Nat.reduceBEq, Nat.reduceMul, Int.reduceToNat, List.length_cons, List.length_nil]; rfl) (by repeat' first | exact trivial | constructor) ?_
  refine Holds.step (Px := px) (T := TT) (ρ := fun _ => [.v true (.int .i64 (len64 x))]) TTe (by simp (maxSteps := 100000) (disch := omega) only [go_sem, V.isAgg, V.flat, ↓reduceIte, Nat.reduceAdd, Nat.reduceSub, Nat.reduceLT, Nat.reduceEqDiff, reduceCtorEq, Nat.reduceLeDiff, Nat.reduceBEq, Nat.reduceMul, Int.reduceToNat]; rfl) (by first | exact len64_ok x hx | (repeat' first | exact trivial | exact len64_ok x hx | constructor)) ?_
  exact Holds.ret (RetOk.vs rfl (by exact ⟨⟨rfl, fun h => h⟩, trivial⟩) rfl)

/-- The length in bits of a number without zeros at its end. -/
noncomputable def lenB (l : List Int) : Int := if l = [] then 0 else 64 * l.length - (64 - len64 (l.getD (l.length - 1) 0).toNat)
theorem lenB_le {l : List Int} (ol : okW l) : 0 ≤ lenB l ∧ lenB l ≤ 64 * l.length := by
  unfold lenB
  split
  · omega
  · next h =>
    have h1 := okW_getD ol (l.length - 1)
    have h2 := len64_le (x := (l.getD (l.length - 1) 0).toNat) (by omega)
    have h3 : 0 < l.length := List.length_pos_iff.2 h
    omega

theorem length_ok (l : List Int) (hl : l.length < 1000000) (ol : okW l) : FnOk Tryz.prog 114 [.v (words l)] [.v true (.int .i64 (lenB l))] := by
  have hb := lenB_le ol
  refine FnOk.of Tryz.func114 rfl rfl fun cx w0 => ?_
  rw [show Tryz.f114.ntmps = 17 from rfl]
  refine Holds.step (Px := px) (T := TT) (ρ := fun _ => []) TTe (by simp (maxSteps := 100000) (disch := omega) only [go_sem, V.isAgg, V.flat, ↓reduceIte, Nat.reduceAdd, Nat.reduceSub, Nat.reduceLT, Nat.reduceEqDiff, reduceCtorEq, Nat.reduceLeDiff, Nat.reduceBEq, Nat.reduceMul, Int.reduceToNat, List.length_cons, List.length_nil]; rfl) (by repeat' first | exact trivial | constructor) ?_
  refine Holds.next (fun σ => l ≠ [] ∧ ∀ a w, Rel cx w0 σ a w → Rel cx w0 { nt := 17, env := [(0, .v false (words l))], mem := [] } a w) ?_ ?_
  · by_cases h : l.length = 0
    · refine Holds.step (Px := px) (T := TT) (ρ := fun _ => []) TTe (by simp (maxSteps := 100000) (disch := omega) only [go_sem, V.isAgg, V.flat, ↓reduceIte, Nat.reduceAdd, Nat.reduceSub, Nat.reduceLT, Nat.reduceEqDiff, reduceCtorEq, Nat.reduceLeDiff, Nat.reduceBEq, Nat.reduceMul, Int.reduceToNat, h]; rfl) (by repeat' first | exact trivial | constructor) ?_
      refine Holds.condT rfl ?_
      refine Holds.step (Px := px) (T := TT) (ρ := fun _ => []) TTe (by simp (maxSteps := 100000) (disch := omega) only [go_sem, V.isAgg, V.flat, ↓reduceIte, Nat.reduceAdd, Nat.reduceSub, Nat.reduceLT, Nat.reduceEqDiff, reduceCtorEq, Nat.reduceLeDiff, Nat.reduceBEq, Nat.reduceMul, Int.reduceToNat]; rfl) (by repeat' first | exact trivial | constructor) ?_
      have e : lenB l = 0 := by rw [lenB, if_pos (List.eq_nil_of_length_eq_zero h)]
      rw [e]
      exact Holds.ret (RetOk.vs rfl (by exact ⟨⟨rfl, fun h => h⟩, trivial⟩) rfl)
    · refine Holds.step (Px := px) (T := TT) (ρ := fun _ => []) TTe (by simp (maxSteps := 100000) (disch := omega) only [go_sem, V.isAgg, V.flat, ↓reduceIte, Nat.reduceAdd, Nat.reduceSub, Nat.reduceLT, Nat.reduceEqDiff, reduceCtorEq, Nat.reduceLeDiff, Nat.reduceBEq, Nat.reduceMul, Int.reduceToNat, h]; rfl) (by repeat' first | exact trivial | constructor) ?_
      exact Holds.condF rfl (Holds.skip ⟨fun hn => h (by rw [hn]; rfl), fun a w h => Rel.keep [0] [] h⟩)
  · rintro σ ⟨hne, hσ⟩
    refine Holds.from hσ ?_
    have hpos : 0 < l.length := List.length_pos_iff.2 hne
    have hlast : l.length - 1 < l.length := by omega
    have h1 := okW_getD ol (l.length - 1)
    have hi : ((l.length : Int) - 1).toNat = l.length - 1 := by omega
    have e : lenB l = 64 * l.length - (64 - len64 (l.getD (l.length - 1) 0).toNat) := by rw [lenB, if_neg hne]
    have h2 := len64_le (x := (l.getD (l.length - 1) 0).toNat) (by omega)
    have hlz := lz64_ok (l.getD (l.length - 1) 0).toNat (by omega)
    rw [show (((l.getD (l.length - 1) 0).toNat : Nat) : Int) = l.getD (l.length - 1) 0 from by omega] at hlz
    rw [e]
    refine Holds.step (Px := px) (T := TT) (ρ := fun _ => [.v true (.int .i64 (64 - (len64 (l.getD (l.length - 1) 0).toNat : Int)))]) TTe (by simp (maxSteps := 100000) (disch := omega) only [go_sem, V.isAgg, V.flat, ↓reduceIte, Nat.reduceAdd, Nat.reduceSub, Nat.reduceLT, Nat.reduceEqDiff, reduceCtorEq, Nat.reduceLeDiff, Nat.reduceBEq, Nat.reduceMul, Int.reduceToNat, hi, get_map hlast]; rfl) (by first | exact hlz | (repeat' first | exact trivial | exact hlz | constructor)) ?_
    exact Holds.ret (RetOk.vs rfl (by exact ⟨⟨rfl, fun h => h⟩, trivial⟩) rfl)

/-- The length in bits. -/
noncomputable def lenN (l : List Int) : Int := lenB (trimL l)
theorem trimL_ok {l : List Int} (ol : okW l) : okW (trimL l) := fun n hn => ol n (List.mem_of_mem_take hn)
theorem Len_ok (l : List Int) (hl : l.length < 1000000) (ol : okW l) : FnOk Tryz.prog 109 [.v (words l)] [.v true (.int .i64 (lenN l))] := by
  have hlen := trimL_len l
  refine FnOk.of Tryz.func109 rfl rfl fun cx w0 => ?_
  rw [show Tryz.f109.ntmps = 6 from rfl]
  refine Holds.step (Px := px) (T := TT) (ρ := fun _ => []) TTe (by simp (maxSteps := 100000) (disch := omega) only [go_sem, V.isAgg, V.flat, ↓reduceIte, Nat.reduceAdd, Nat.reduceSub, Nat.reduceLT, Nat.reduceEqDiff, reduceCtorEq, Nat.reduceLeDiff, Nat.reduceBEq, Nat.reduceMul, Int.reduceToNat, List.length_cons, List.length_nil]; rfl) (by repeat' first | exact trivial | constructor) ?_
  refine Holds.step (Px := px) (T := TT) (ρ := fun d => if d = 4 then [.v false (words (trimL l))] else [.v true (.int .i64 (lenN l))]) TTe (by simp (maxSteps := 100000) (disch := omega) only [go_sem, V.isAgg, V.flat, ↓reduceIte, Nat.reduceAdd, Nat.reduceSub, Nat.reduceLT, Nat.reduceEqDiff, reduceCtorEq, Nat.reduceLeDiff, Nat.reduceBEq, Nat.reduceMul, Int.reduceToNat]; rfl) (by first | exact ⟨trim_ok l (by omega), length_ok _ (by omega) (trimL_ok ol)⟩ | (repeat' first | exact trivial | exact trim_ok l (by omega) | exact length_ok _ (by omega) (trimL_ok ol) | constructor)) ?_
  exact Holds.ret (RetOk.vs rfl (by exact ⟨⟨rfl, fun h => h⟩, trivial⟩) rfl)

theorem tooLong_ok (a b : Int) (ha : 0 ≤ a) (hb : 0 ≤ b) (h : a + b ≤ 262144) : FnOk Tryz.prog 108 [.v (.int .i64 a), .v (.int .i64 b)] [.v true (.bool false)] := by
  refine FnOk.of Tryz.func108 rfl rfl fun cx w0 => ?_
  rw [show Tryz.f108.ntmps = 18 from rfl]
  refine Holds.step (Px := px) (T := TT) (ρ := fun _ => []) TTe (by simp (maxSteps := 100000) (disch := omega) only [go_sem, V.isAgg, V.flat, ↓reduceIte, Nat.reduceAdd, Nat.reduceSub, Nat.reduceLT, Nat.reduceEqDiff, reduceCtorEq, Nat.reduceLeDiff, Nat.reduceBEq, Nat.reduceMul, Int.reduceToNat, List.length_cons, List.length_nil]; rfl) (by repeat' first | exact trivial | constructor) ?_
  by_cases h1 : 0 < a
  · by_cases h2 : 0 < b
    · refine Holds.step (Px := px) (T := TT) (ρ := fun _ => []) TTe (by simp (maxSteps := 100000) (disch := omega) only [go_sem, V.isAgg, V.flat, ↓reduceIte, Nat.reduceAdd, Nat.reduceSub, Nat.reduceLT, Nat.reduceEqDiff, reduceCtorEq, Nat.reduceLeDiff, Nat.reduceBEq, Nat.reduceMul, Int.reduceToNat, h1, h2]; rfl) (by repeat' first | exact trivial | constructor) ?_
      exact Holds.ret (RetOk.vs rfl (by exact ⟨⟨rfl, fun h => h⟩, trivial⟩) rfl)
    · refine Holds.step (Px := px) (T := TT) (ρ := fun _ => []) TTe (by simp (maxSteps := 100000) (disch := omega) only [go_sem, V.isAgg, V.flat, ↓reduceIte, Nat.reduceAdd, Nat.reduceSub, Nat.reduceLT, Nat.reduceEqDiff, reduceCtorEq, Nat.reduceLeDiff, Nat.reduceBEq, Nat.reduceMul, Int.reduceToNat, h1, h2]; rfl) (by repeat' first | exact trivial | constructor) ?_
      exact Holds.ret (RetOk.vs rfl (by exact ⟨⟨rfl, fun h => h⟩, trivial⟩) rfl)
  · refine Holds.step (Px := px) (T := TT) (ρ := fun _ => []) TTe (by simp (maxSteps := 100000) (disch := omega) only [go_sem, V.isAgg, V.flat, ↓reduceIte, Nat.reduceAdd, Nat.reduceSub, Nat.reduceLT, Nat.reduceEqDiff, reduceCtorEq, Nat.reduceLeDiff, Nat.reduceBEq, Nat.reduceMul, Int.reduceToNat, h1]; rfl) (by repeat' first | exact trivial | constructor) ?_
    exact Holds.ret (RetOk.vs rfl (by exact ⟨⟨rfl, fun h => h⟩, trivial⟩) rfl)
/-
  nat.Mul; fast.plain of numbers that are not long.
-/

theorem nfit_ok (l : List Int) (hl : l.length < 1000000) (h : (trimL l).length ≤ 4096) : FnOk Tryz.prog 110 [.v (words l)] [.v false (words (trimL l)), .v true (.int .i64 0)] := by
  refine FnOk.of Tryz.func110 rfl rfl fun cx w0 => ?_
  rw [show Tryz.f110.ntmps = 10 from rfl]
  refine Holds.step (Px := px) (T := TT) (ρ := fun _ => []) TTe (by simp (maxSteps := 100000) (disch := omega) only [go_sem, V.isAgg, V.flat, ↓reduceIte, Nat.reduceAdd, Nat.reduceSub, Nat.reduceLT, Nat.reduceEqDiff, reduceCtorEq, Nat.reduceLeDiff, Nat.reduceBEq, Nat.reduceMul, Int.reduceToNat, List.length_cons, List.length_nil]; rfl) (by repeat' first | exact trivial | constructor) ?_
  refine Holds.step (Px := px) (T := TT) (ρ := fun _ => [.v false (words (trimL l))]) TTe (by simp (maxSteps := 100000) (disch := omega) only [go_sem, V.isAgg, V.flat, ↓reduceIte, Nat.reduceAdd, Nat.reduceSub, Nat.reduceLT, Nat.reduceEqDiff, reduceCtorEq, Nat.reduceLeDiff, Nat.reduceBEq, Nat.reduceMul, Int.reduceToNat]; rfl) (by first | exact trim_ok l (by omega) | (repeat' first | exact trivial | exact trim_ok l (by omega) | constructor)) ?_
  refine Holds.next (fun σ => ∀ a w, Rel cx w0 σ a w → Rel cx w0 { nt := 10, env := [(0, .v false (words (trimL l)))], mem := [] } a w) ?_ ?_
  · refine Holds.step (Px := px) (T := TT) (ρ := fun _ => []) TTe (by simp (maxSteps := 100000) (disch := omega) only [go_sem, V.isAgg, V.flat, ↓reduceIte, Nat.reduceAdd, Nat.reduceSub, Nat.reduceLT, Nat.reduceEqDiff, reduceCtorEq, Nat.reduceLeDiff, Nat.reduceBEq, Nat.reduceMul, Int.reduceToNat]; rfl) (by repeat' first | exact trivial | constructor) ?_
    exact Holds.condF rfl (Holds.skip fun a w h => Rel.keep [0] [] h)
  · intro σ hσ
    refine Holds.from hσ ?_
    refine Holds.step (Px := px) (T := TT) (ρ := fun _ => []) TTe (by simp (maxSteps := 100000) (disch := omega) only [go_sem, V.isAgg, V.flat, ↓reduceIte, Nat.reduceAdd, Nat.reduceSub, Nat.reduceLT, Nat.reduceEqDiff, reduceCtorEq, Nat.reduceLeDiff, Nat.reduceBEq, Nat.reduceMul, Int.reduceToNat]; rfl) (by repeat' first | exact trivial | constructor) ?_
    exact Holds.ret (RetOk.vs rfl (by exact ⟨⟨rfl, fun h => h⟩, ⟨rfl, fun h => h⟩, trivial⟩) rfl)

/-- The product's words. -/
def prodL (X Y : List Int) : List Int := trimL (trimL (mulO (trimL X) (trimL Y) (trimL Y).length))

theorem nMul_ok (X Y : List Int) (hl : X.length + Y.length ≤ 4096) (oX : okW X) (oY : okW Y) : FnOk Tryz.prog 106 [.v (words X), .v (words Y)] [.v true (words (prodL X Y)), .v true (.int .i64 0)] := by
  have hX := trimL_len X
  have hY := trimL_len Y
  have bX : 0 ≤ lenN X ∧ lenN X ≤ 64 * (trimL X).length := lenB_le (trimL_ok oX)
  have bY : 0 ≤ lenN Y ∧ lenN Y ≤ 64 * (trimL Y).length := lenB_le (trimL_ok oY)
  have hm := natmul_ok X Y (by omega) (by omega) (by omega) oX oY
  have hO := mulO_ok (trimL_ok oX) (trimL_ok oY) (trimL Y).length
  have ht := trimL_len (mulO (trimL X) (trimL Y) (trimL Y).length)
  have ht2 := trimL_len (trimL (mulO (trimL X) (trimL Y) (trimL Y).length))
  have hf := nfit_ok (trimL (mulO (trimL X) (trimL Y) (trimL Y).length)) (by omega) (by omega)
  have hlg : FnOk Tryz.prog 107 [.v (.sl 1 [.sl 1 (X.map fun n => .int .u64 n), .sl 1 (Y.map fun n => .int .u64 n)])] [.v true (.bool false)] := by
    have := nlarge_ok [X, Y] (by simp) (by intro l hl; simp only [List.mem_cons, List.not_mem_nil, or_false] at hl; rcases hl with rfl | rfl <;> omega)
    rw [show ([X, Y].any longL) = false from by simp [longL]; omega] at this
    exact this
  refine FnOk.of Tryz.func106 rfl rfl fun cx w0 => ?_
  rw [show Tryz.f106.ntmps = 23 from rfl]
  refine Holds.step (Px := px) (T := TT) (ρ := fun _ => []) TTe (by simp (maxSteps := 100000) (disch := omega) only [go_sem, V.isAgg, V.flat, ↓reduceIte, Nat.reduceAdd, Nat.reduceSub, Nat.reduceLT, Nat.reduceEqDiff, reduceCtorEq, Nat.reduceLeDiff, Nat.reduceBEq, Nat.reduceMul, Int.reduceToNat, List.length_cons, List.length_nil]; rfl) (by repeat' first | exact trivial | constructor) ?_
  refine Holds.next (fun σ => ∀ a w, Rel cx w0 σ a w → Rel cx w0 { nt := 23, env := [(0, .v false (words X)), (1, .v false (words Y))], mem := [] } a w) ?_ ?_
  · refine Holds.step (Px := px) (T := TT) (ρ := fun d => if d = 9 then [.v true (.bool false)] else if d = 12 then [.v true (.int .i64 (lenN X))] else if d = 14 then [.v true (.int .i64 (lenN Y))] else [.v true (.bool false)]) TTe (by simp (maxSteps := 100000) (disch := omega) only [go_sem, V.isAgg, V.flat, ↓reduceIte, Nat.reduceAdd, Nat.reduceSub, Nat.reduceLT, Nat.reduceEqDiff, reduceCtorEq, Nat.reduceLeDiff, Nat.reduceBEq, Nat.reduceMul, Int.reduceToNat]; rfl) (by first | exact ⟨hlg, Len_ok X (by omega) oX, Len_ok Y (by omega) oY, tooLong_ok _ _ bX.1 bY.1 (by omega)⟩ | (repeat' first | exact trivial | exact hlg | exact Len_ok X (by omega) oX | exact Len_ok Y (by omega) oY | exact tooLong_ok _ _ bX.1 bY.1 (by omega) | constructor)) ?_
    exact Holds.condF rfl (Holds.skip fun a w h => Rel.keep [0, 1] [] h)
  · intro σ hσ
    refine Holds.from hσ ?_
    refine Holds.seq (Holds.regionC (Px := px) (T := TT) (ρ := fun _ => [.v true (words (trimL (mulO (trimL X) (trimL Y) (trimL Y).length)))]) (k := 3) TTe (by simp (maxSteps := 100000) (disch := omega) only [List.take_succ_cons, List.take_zero, go_sem, V.isAgg, V.flat, ↓reduceIte, Nat.reduceAdd, Nat.reduceSub, Nat.reduceLT, Nat.reduceEqDiff, reduceCtorEq, Nat.reduceLeDiff, Nat.reduceBEq, Nat.reduceMul, Int.reduceToNat]; rfl) (by first | exact hm | (repeat' first | exact trivial | exact hm | constructor)) rfl rfl rfl rfl (Nat.le_of_ble_eq_true rfl) (by rfl) (by repeat' first | exact trivial | rfl | constructor) (hf) ⟨_, _, by simp (maxSteps := 100000) (disch := omega) only [List.drop_succ_cons, List.drop_zero, R.young, go_sem, V.isAgg, V.flat, ↓reduceIte, Nat.reduceAdd, Nat.reduceSub, Nat.reduceLT, Nat.reduceEqDiff, reduceCtorEq, Nat.reduceLeDiff, Nat.reduceBEq, Nat.reduceMul, Int.reduceToNat]; rfl, by repeat' first | exact trivial | constructor, ?_⟩); show Holds _ _ _ _ _ _ _
    exact Holds.ret (RetOk.vs rfl (by exact ⟨⟨rfl, fun h => h⟩, ⟨rfl, fun h => h⟩, trivial⟩) rfl)

theorem must_ok (l : List Int) (e : Int) : FnOk Tryz.prog 105 [.v (words l), .v (.int .i64 e)] [.v false (words l)] := by
  refine FnOk.of Tryz.func105 rfl rfl fun cx w0 => ?_
  rw [show Tryz.f105.ntmps = 6 from rfl]
  refine Holds.step (Px := px) (T := TT) (ρ := fun _ => []) TTe (by simp (maxSteps := 100000) (disch := omega) only [go_sem, V.isAgg, V.flat, ↓reduceIte, Nat.reduceAdd, Nat.reduceSub, Nat.reduceLT, Nat.reduceEqDiff, reduceCtorEq, Nat.reduceLeDiff, Nat.reduceBEq, Nat.reduceMul, Int.reduceToNat, List.length_cons, List.length_nil]; rfl) (by repeat' first | exact trivial | constructor) ?_
  refine Holds.step (Px := px) (T := TT) (ρ := fun _ => []) TTe (by simp (maxSteps := 100000) (disch := omega) only [go_sem, V.isAgg, V.flat, ↓reduceIte, Nat.reduceAdd, Nat.reduceSub, Nat.reduceLT, Nat.reduceEqDiff, reduceCtorEq, Nat.reduceLeDiff, Nat.reduceBEq, Nat.reduceMul, Int.reduceToNat]; rfl) (by repeat' first | exact trivial | constructor) ?_
  exact Holds.ret (RetOk.vs rfl (by exact ⟨⟨rfl, fun h => h⟩, trivial⟩) rfl)

theorem plain_ok (X Y : List Int) (hl : X.length + Y.length ≤ 4096) (oX : okW X) (oY : okW Y) : FnOk Tryz.prog 102 [.v (words X), .v (words Y)] [.v true (words (prodL X Y))] := by
  refine FnOk.of Tryz.func102 rfl rfl fun cx w0 => ?_
  rw [show Tryz.f102.ntmps = 45 from rfl]
  refine Holds.step (Px := px) (T := TT) (ρ := fun _ => []) TTe (by simp (maxSteps := 100000) (disch := omega) only [go_sem, V.isAgg, V.flat, ↓reduceIte, Nat.reduceAdd, Nat.reduceSub, Nat.reduceLT, Nat.reduceEqDiff, reduceCtorEq, Nat.reduceLeDiff, Nat.reduceBEq, Nat.reduceMul, Int.reduceToNat, List.length_cons, List.length_nil]; rfl) (by repeat' first | exact trivial | constructor) ?_
  refine Holds.seq ?_
  refine Holds.step (Px := px) (T := TT) (ρ := fun _ => []) TTe (by simp (maxSteps := 100000) (disch := omega) only [go_sem, V.isAgg, V.flat, ↓reduceIte, Nat.reduceAdd, Nat.reduceSub, Nat.reduceLT, Nat.reduceEqDiff, reduceCtorEq, Nat.reduceLeDiff, Nat.reduceBEq, Nat.reduceMul, Int.reduceToNat]; rfl) (by repeat' first | exact trivial | constructor) ?_
  refine Holds.condT rfl ?_
  refine Holds.seq (Holds.regionC (Px := px) (T := TT) (ρ := fun _ => [.v true (words (prodL X Y)), .v true (.int .i64 0)]) (k := 5) TTe (by simp (maxSteps := 100000) (disch := omega) only [List.take_succ_cons, List.take_zero, go_sem, V.isAgg, V.flat, ↓reduceIte, Nat.reduceAdd, Nat.reduceSub, Nat.reduceLT, Nat.reduceEqDiff, reduceCtorEq, Nat.reduceLeDiff, Nat.reduceBEq, Nat.reduceMul, Int.reduceToNat]; rfl) (by first | exact nMul_ok X Y hl oX oY | (repeat' first | exact trivial | exact nMul_ok X Y hl oX oY | constructor)) rfl rfl rfl rfl (Nat.le_of_ble_eq_true rfl) (by rfl) (by repeat' first | exact trivial | rfl | constructor) (must_ok (prodL X Y) 0) ⟨_, _, by simp (maxSteps := 100000) (disch := omega) only [List.drop_succ_cons, List.drop_zero, R.young, go_sem, V.isAgg, V.flat, ↓reduceIte, Nat.reduceAdd, Nat.reduceSub, Nat.reduceLT, Nat.reduceEqDiff, reduceCtorEq, Nat.reduceLeDiff, Nat.reduceBEq, Nat.reduceMul, Int.reduceToNat]; rfl, by repeat' first | exact trivial | constructor, ?_⟩); show Holds _ _ _ _ _ _ _
  exact Holds.ret (RetOk.vs rfl (by exact ⟨⟨rfl, fun h => h⟩, trivial⟩) rfl)
/-
  toom's pieces.
-/

def wholeV (l : List Int) : V := .agg [.bool false, words l]
def pcA (k : Nat) : AV := if k = 0 then .nil else .own 300 0 k
def pcB (x : List Int) (n k : Nat) : List (Nat × Blk) := (4, .box 39 (pcA k)) :: if k = 0 then [] else [(300, .buf 43 2 true ((pcs x n k).map wholeV))]
theorem pcB_succ (x : List Int) (n k : Nat) : pcB x n (k + 1) = [(4, .box 39 (.own 300 0 (k + 1))), (300, .buf 43 2 true ((pcs x n (k + 1)).map wholeV))] := by
  rw [pcB, pcA, if_neg (by omega), if_neg (by omega)]
theorem pcB_zero (x : List Int) (n : Nat) : pcB x n 0 = [(4, .box 39 .nil)] := rfl

theorem pieces_ok (y : List Int) (m : Nat) (hm : 0 < m) (hm2 : m ≤ 1000000000) (hyl : y.length < 1000000000) : FnOk Tryz.prog 127 [.v (words y), .el (.int .i64 m)] [.v true (.sl 2 ((pcs y m (pcsM y m)).map wholeV))] := by
  refine FnOk.of Tryz.func127 rfl rfl fun cx w0 => ?_
  rw [show Tryz.f127.ntmps = 16 from rfl]
  refine Holds.step (Px := px) (T := TT) (ρ := fun _ => []) TTe (by simp (maxSteps := 100000) (disch := omega) only [go_sem, V.isAgg, V.flat, ↓reduceIte, Nat.reduceAdd, Nat.reduceSub, Nat.reduceLT, Nat.reduceEqDiff, reduceCtorEq, Nat.reduceLeDiff, Nat.reduceBEq, Nat.reduceMul, Int.reduceToNat, List.length_cons, List.length_nil]; rfl) (by repeat' first | exact trivial | constructor) ?_
  refine Holds.step (Px := px) (T := TT) (ρ := fun _ => []) TTe (by simp (maxSteps := 100000) (disch := omega) only [go_sem, V.isAgg, V.flat, ↓reduceIte, Nat.reduceAdd, Nat.reduceSub, Nat.reduceLT, Nat.reduceEqDiff, reduceCtorEq, Nat.reduceLeDiff, Nat.reduceBEq, Nat.reduceMul, Int.reduceToNat]; rfl) (by repeat' first | exact trivial | constructor) ?_
  obtain ⟨M, hM⟩ : ∃ M, M = pcsM y m := ⟨_, rfl⟩
  rw [← hM]
  refine Holds.next (fun σ => ∃ F ds, ∀ a w, Rel cx w0 σ a w → Rel cx w0 { nt := 16, env := [(4, .ptr 4 0 [] 0)], mem := pcB y m M, fix := F, defs := ds } a w) ?_ ?_
  · refine Holds.step (Px := px) (T := TT) (ρ := fun _ => [.clo 70 [(201, 24, false, words y), (202, 3, true, .int .i64 m)]]) TTe (by simp (maxSteps := 100000) (disch := omega) only [go_sem, V.isAgg, V.flat, ↓reduceIte, Nat.reduceAdd, Nat.reduceSub, Nat.reduceLT, Nat.reduceEqDiff, reduceCtorEq, Nat.reduceLeDiff, Nat.reduceBEq, Nat.reduceMul, Int.reduceToNat, List.all_cons]; rfl) (by first | exact cut_ok y m 201 202 (by decide) | (repeat' first | exact trivial | exact cut_ok y m 201 202 (by decide) | constructor)) ?_
    refine Holds.from (σ' := { nt := 16, env := [(4, .ptr 4 0 [] 0), (8, .fn 70 [.ptr 201 0 [] 0, .ptr 202 0 [] 0])], mem := [(201, .box 24 (.v false (words y))), (202, .box 3 (.v true (.int .i64 m))), (4, .box 39 .nil)] }) (fun a w h => Rel.keep [4, 8] [201, 202, 4] h) ?_
    refine Holds.blockN ?_
    refine overCut (y := y) (m := m) (Bk := pcB y m) hm hm2 hyl rfl (by rw [cutMem, Nat.zero_mul, List.drop_zero]; rfl) (by show 9 < 16; decide) rfl (fun l h => by cases h) ?_ ?_
    · intro k hk L fx fx' env rt henv hrt
      have h4 : look env 4 = .ptr 4 0 [] 0 := henv 4 (by show 4 < 16; decide)
      have r14 : (rt.all fun p => !p.1.ment 14) = true := hrt 14 (by decide) (by decide) rfl (fun p h => by cases h)
      have r300 : (rt.all fun p => !p.1.ment 300) = true := hrt 300 (by decide) (by decide) rfl (fun p h => by cases h)
      have r13 : (rt.all fun p => !p.1.ment 13) = true := hrt 13 (by decide) (by decide) rfl (fun p h => by cases h)
      have hroot : ∀ p ∈ rt, (p.1.ment 14 || p.1.ment 300) = false := fun p hp => by
        have h1 := List.all_eq_true.1 r14 p hp
        have h2 := List.all_eq_true.1 r300 p hp
        simp only [Bool.not_eq_true'] at h1 h2
        rw [h1, h2]; rfl
      have hpl := pcs_len y m k
      have hky : k < y.length := Nat.lt_of_le_of_lt (Nat.le_mul_of_pos_right k hm) ((pcsM_lt hm).1 hk)
      refine Holds.regionP (τ := { nt := 16, env := [(5, .v true (words (trimL ((y.drop (k * m)).take m)))), (4, .ptr 4 0 [] 0)], mem := cutMem y m k (pcB y m k), root := rt, fix := fx }) (Px := px) (T := TT) (ρ := fun _ => []) TTe (by simp (maxSteps := 100000) (disch := omega) only [go_sem, V.isAgg, V.flat, ↓reduceIte, Nat.reduceAdd, Nat.reduceSub, Nat.reduceLT, Nat.reduceEqDiff, reduceCtorEq, Nat.reduceLeDiff, Nat.reduceBEq, Nat.reduceMul, Int.reduceToNat]; rfl) (by repeat' first | exact trivial | constructor) ?_ ?_
      · intro a w h
        rw [← h4]
        exact Rel.less [5, 4] (fun _ => rfl) h
      refine ⟨rfl, rfl, Holds.block ?_⟩
      rcases k with _ | k
      · rw [pcB_zero]
        refine Holds.regionP (τ := { nt := 16, env := [], mem := cutMem y m 0 (pcB y m (0 + 1)), root := rt, fix := fx' }) (Px := px) (T := TT) (ρ := fun _ => []) TTe (by simp (maxSteps := 100000) (disch := omega) only [go_sem, V.isAgg, V.flat, ↓reduceIte, Nat.reduceAdd, Nat.reduceSub, Nat.reduceLT, Nat.reduceEqDiff, reduceCtorEq, Nat.reduceLeDiff, Nat.reduceBEq, Nat.reduceMul, Int.reduceToNat, cutMem, r13, r14]; rfl) (by repeat' first | exact trivial | constructor) ?_ ?_
        · intro a w h
          have := Rel.renR (s := 14) (s' := 300) (Rel.keep [] [201, 202, 4, 14] h) (by decide) hroot rfl rfl
          rw [pcB_succ, pcs_succ, cutMem, Nat.zero_mul, List.drop_zero]
          exact this
        · exact ⟨rfl, rfl, rfl, rfl⟩
      · rw [pcB_succ]
        refine Holds.regionP (τ := { nt := 16, env := [], mem := cutMem y m (k + 1) (pcB y m (k + 1 + 1)), root := rt, fix := fx' }) (Px := px) (T := TT) (ρ := fun _ => []) TTe (by simp (maxSteps := 100000) (disch := omega) only [go_sem, V.isAgg, V.flat, ↓reduceIte, Nat.reduceAdd, Nat.reduceSub, Nat.reduceLT, Nat.reduceEqDiff, reduceCtorEq, Nat.reduceLeDiff, Nat.reduceBEq, Nat.reduceMul, Int.reduceToNat, cutMem, r13, r14, hpl]; rfl) (by repeat' first | exact trivial | constructor) ?_ ?_
        · intro a w h
          have := Rel.renR (s := 14) (s' := 300) (Rel.keep [] [201, 202, 4, 14] h) (by decide) hroot rfl rfl
          rw [pcB_succ, pcs_succ, List.map_append]
          exact this
        · exact ⟨rfl, rfl, rfl, rfl⟩
    · intro F ds _
      refine ⟨F, ds, fun a w h => ?_⟩
      rw [← hM] at h
      rcases M with _ | k
      · rw [pcB_zero]
        rw [pcB_zero] at h
        exact Rel.keep [4] [4] h
      · rw [pcB_succ]
        rw [pcB_succ] at h
        exact Rel.keep [4] [4, 300] h
  · rintro σ ⟨F, ds, hσ⟩
    refine Holds.from hσ ?_
    have hpl := pcs_len y m M
    rcases M with _ | k
    · rw [pcB_zero]
      refine Holds.step (Px := px) (T := TT) (ρ := fun _ => []) TTe (by simp (maxSteps := 100000) (disch := omega) only [go_sem, V.isAgg, V.flat, ↓reduceIte, Nat.reduceAdd, Nat.reduceSub, Nat.reduceLT, Nat.reduceEqDiff, reduceCtorEq, Nat.reduceLeDiff, Nat.reduceBEq, Nat.reduceMul, Int.reduceToNat]; rfl) (by repeat' first | exact trivial | constructor) ?_
      exact Holds.ret ⟨_, [], rfl, ⟨rfl, trivial⟩, by simp [R.names, R.mems, R.blks], by simp, rfl⟩
    · rw [pcB_succ]
      refine Holds.step (Px := px) (T := TT) (ρ := fun _ => []) TTe (by simp (maxSteps := 100000) (disch := omega) only [go_sem, V.isAgg, V.flat, ↓reduceIte, Nat.reduceAdd, Nat.reduceSub, Nat.reduceLT, Nat.reduceEqDiff, reduceCtorEq, Nat.reduceLeDiff, Nat.reduceBEq, Nat.reduceMul, Int.reduceToNat]; rfl) (by repeat' first | exact trivial | constructor) ?_
      exact Holds.ret ⟨_, [], rfl, ⟨⟨rfl, by rw [List.drop_zero, List.take_of_length_le (by rw [List.length_map, hpl]; exact Nat.le_refl _)], fun h => h, rfl⟩, trivial⟩, by simp [R.names, R.mems, R.blks], by simp, rfl⟩
/-
  What the evaluator takes from contracts proved by hand.
-/

def extA : FuncId → List Arg → Option (List R)
  | 60, [.v (.int .u64 x), .v (.int .u64 y), .v (.int .u64 c)] => if 0 ≤ x ∧ 0 ≤ y ∧ 0 ≤ c ∧ c ≤ 1 then some [.v true (.int .u64 ((x + y + c) % 18446744073709551616)), .v true (.int .u64 ((x + y + c) / 18446744073709551616))] else none
  | 77, [.v (.int .u64 x), .v (.int .u64 y), .v (.int .u64 c)] => if 0 ≤ x ∧ x < 18446744073709551616 ∧ 0 ≤ y ∧ y < 18446744073709551616 ∧ 0 ≤ c ∧ c ≤ 1 then some [.v true (.int .u64 ((x - y - c) % 18446744073709551616)), .v true (.int .u64 (if x < y + c then 1 else 0))] else none
  | _, _ => none

theorem extA_ok (f : FuncId) (l : List Arg) (rs : List R) (h : extA f l = some rs) : FnOk Tryz.prog f l rs := by
  unfold extA at h
  split at h
  · split at h <;> cases h
    next hc => exact add64_ok _ _ _ hc.1 hc.2.1 hc.2.2.1 hc.2.2.2
  · split at h <;> cases h
    next hc => exact sub64_ok _ _ _ hc.1 hc.2.1 hc.2.2.1 hc.2.2.2.1 hc.2.2.2.2.1 hc.2.2.2.2.2
  · cases h
/-
  What the evaluator takes from contracts proved by hand, all of it.
-/

/-- Words, read. -/
def readL : List V → Option (List Int)
  | [] => some []
  | .int .u64 n :: r => if 0 ≤ n ∧ n < 18446744073709551616 then (readL r).map fun l => n :: l else none
  | _ => none
def readW : V → Option (List Int)
  | .sl 1 xs => readL xs
  | _ => none
theorem readL_ok : ∀ {xs : List V} {l : List Int}, readL xs = some l → xs = l.map (fun n => .int .u64 n) ∧ okW l
  | [], l, h => by rw [readL] at h; cases h; exact ⟨rfl, fun n h => by cases h⟩
  | x :: r, l, h => by
    unfold readL at h
    split at h
    · next he => cases he
    · next n r' he =>
      cases he
      split at h
      · next hn =>
        simp only [Option.map_eq_some_iff] at h
        obtain ⟨l', h1, rfl⟩ := h
        obtain ⟨h2, h3⟩ := readL_ok h1
        refine ⟨by rw [List.map_cons, ← h2], fun m hm => ?_⟩
        rcases List.mem_cons.1 hm with rfl | hm
        · exact hn
        · exact h3 m hm
      · cases h
    · cases h
theorem readW_ok {x : V} {l : List Int} (h : readW x = some l) : x = words l ∧ okW l := by
  unfold readW at h
  split at h
  · obtain ⟨h1, h2⟩ := readL_ok h
    exact ⟨by rw [h1]; rfl, h2⟩
  · cases h

def extB (f : FuncId) (l : List Arg) : Option (List R) :=
  match f, l with
  | 102, [.v X, .v Y] => match readW X, readW Y with
    | some x, some y => if x.length + y.length ≤ 4096 then some [.v true (words (prodL x y))] else none
    | _, _ => none
  | 46, [.v X] => match readW X with
    | some x => if x.length < 100000 then some [.v true (words (trimL x))] else none
    | none => none
  | 56, [.v X, .v Y, .v (.int .i64 a)] => match readW X, readW Y with
    | some x, some y => if x.length < 100000 ∧ y.length < 100000 ∧ 0 ≤ a ∧ a < 100000 then some [.v true (words (trimL (plusL x y a.toNat)))] else none
    | _, _ => none
  | 22, [.v X, .v (.int .i64 n)] => match readW X with
    | some x => if x.length < 100000 then some [.v true (natsV (splitR x n).1), .v true (.int .i64 (splitR x n).2)] else none
    | none => none
  | 127, [.v X, .el (.int .i64 m)] => match readW X with
    | some x => if x.length < 100000 ∧ 0 < m ∧ m ≤ 100000 then some [.v true (.sl 2 ((pcs x m.toNat (pcsM x m.toNat)).map wholeV))] else none
    | none => none
  | f, l => extA f l

theorem extB_ok (f : FuncId) (l : List Arg) (rs : List R) (h : extB f l = some rs) : FnOk Tryz.prog f l rs := by
  unfold extB at h
  split at h
  · split at h
    · next x y hx hy =>
      obtain ⟨rfl, ox⟩ := readW_ok hx
      obtain ⟨rfl, oy⟩ := readW_ok hy
      split at h <;> cases h
      next hc => exact plain_ok x y hc ox oy
    · cases h
  · split at h
    · next x hx =>
      obtain ⟨rfl, ox⟩ := readW_ok hx
      split at h <;> cases h
      next hc => exact Trim_ok x (by omega)
    · cases h
  · next a =>
    split at h
    · next x y hx hy =>
      obtain ⟨rfl, ox⟩ := readW_ok hx
      obtain ⟨rfl, oy⟩ := readW_ok hy
      split at h <;> cases h
      next hc =>
      have := plus_ok x y a.toNat (by omega) (by omega) (by omega) ox oy
      rw [show ((a.toNat : Nat) : Int) = a from by omega] at this
      exact this
    · cases h
  · split at h
    · next x hx =>
      obtain ⟨rfl, ox⟩ := readW_ok hx
      split at h <;> cases h
      next hc => exact Split_ok x _ (by omega)
    · cases h
  · next m =>
    split at h
    · next x hx =>
      obtain ⟨rfl, ox⟩ := readW_ok hx
      split at h <;> cases h
      next hc =>
      have := pieces_ok x m.toNat (by omega) (by omega) (by omega)
      rw [show ((m.toNat : Nat) : Int) = m from by omega] at this
      exact this
    · cases h
  · exact extA_ok _ _ _ h
end Go.Proofs.YtjmclobbfabnpaaGreat.L
