/-
  FastBacks
-/
import Derived.Test.YtjmclobbfabnpaaGreatS2
import Derived.Test.YtjmclobbfabnpaaGreatJ1
import Derived.Test.YtjmclobbfabnpaaGreatRows
import Derived.WalkKit
set_option linter.unusedSimpArgs false
set_option linter.unusedVariables false
/-
  reckonerlaw03.FastBacks returns true for all arguments (slice of integers of words), and leaves them as they are.
-/
namespace Go.Proofs.YtjmclobbfabnpaaGreat.FastBacks
open Go.ChangeShapes Go.WideShapes Go.ChangeAt Go.RowKit

theorem own : ownKnob Tryz.prog.godebug = none := by kernel_rfl
theorem cells52 : Tryz.prog.cellsOf 52 = 1 := by kernel_rfl

set_option maxRecDepth 100000 in
theorem lifted (os : Os) (started : os.Started) (H : Type) (enc : TypeId × Value → H) :
    ReturnsInHanded {} Tryz.checked os 3 .any (Rows.fastBacksSpec.pre6 enc Tryz.prog Tryz.f3 Rows.fastBacksRow.domain false) (Rows.fastBacksSpec.post enc Tryz.prog Tryz.f3 false true false false) := by
  refine returnsInHanded_of_change (C := Tryz.checked) own started (by kernel_rfl) Tryz.func3
    (ChangeSpec.witness6 (enc := enc) (C := Tryz.checked) false ⟨#[], #[.slice none 0 0], []⟩ 8 (by kernel_rfl) (by kernel_rfl) (by kernel_rfl) (by kernel_rfl)) ?_
  intro W base args ds gs before hval0 hW hcnd _
  have hval : ∀ (j : Nat) t v, Tryz.f3.params[j]? = some t → args[j]? = some v → Value.okWide Tryz.prog W .any base t v := hval0
  have hW' := hW
  have hlt := hW.lt
  obtain ⟨p, q, hA0, hV, rfl, hfz, hnd⟩ := hW
  have hA : DataW.TrodAll enc Tryz.prog W 0 (fun _ => true) true Tryz.f3.params.toList args.toList ds p := hA0
  rw [Tryz.params3] at hA hval
  obtain ⟨v0, vs0, d0, ds0, p0, q0, hargs, rfl, rfl, h0, r0⟩ := trodAll_cons hA
  obtain ⟨rfl, rfl, rfl⟩ := trodAll_nil r0
  obtain rfl : args = #[v0] := by cases args; simp_all
  obtain ⟨rfl, rfl⟩ := trodVars_none hV
  obtain ⟨l0, hl0, hrep0⟩ := L.openZ Tryz.underlying22 Tryz.underlying26 rfl rfl Tryz.underlying4 Tryz.underlying24 Tryz.underlying52 rfl rfl (by kernel_rfl) (by kernel_rfl) (by kernel_rfl) cells52 (hval 0 22 v0 rfl rfl) h0
  clear hA0 hval0
  simp only [List.append_nil] at hW' hlt
  have ol0 : ∀ l ∈ l0, L.okW l.2 := fun l hl n hn => by
    have := hl0 l hl n hn
    simp only [Lit.wf, Bool.and_eq_true, decide_eq_true_eq] at this
    have h2 : n ≤ 18446744073709551615 := this.2
    have h1 : 0 ≤ n := this.1
    omega
  have hwalk : Calls Tryz.prog 3 #[v0] W fun e w' => e = .returned (.bool true) ∧ Below W.heap.size W w' := by
    refine (L.FastBacks_ok l0 ol0).says Tryz.func3 rfl rfl (vs := [v0]) ?_
    rw [L.ArgsRep]
    refine ⟨_, _, rfl, hrep0, ?_⟩
    rw [L.ArgsRep]
  refine hwalk.mono fun e W' ⟨he, hg⟩ => ?_
  subst he
  have hpl : ∀ x, x ∈ (p0 ++ []) → x.block < W.heap.size := fun x hx => hlt x (by simpa using hx)
  refine ⟨_, rfl, L.post_below (pa := (p0 ++ [])) (pv := []) hW' hg (fun _ _ _ => (trodAll_cons_mk (shut_bool Tryz.underlying4 _) trodAll_mk0)) (fun sp hsp => ?_) (fun _ _ => rfl) (by simp)
    (ok_one (by kernel_rfl) rfl (okWide_bool_mk Tryz.underlying4 _))⟩
  have hsp' : ∀ x, x ∈ (p0 ++ []) → sp x.block = true := fun x hx => hsp x (by simpa using hx)
  have k0 := WideElems.Trod_stays (sp' := sp) (by kernel_rfl) (by kernel_rfl) (of_decide_eq_true (by kernel_rfl)) h0 (fun x hx => hg.same (hpl x (by simp [hx]))) (fun x hx => hsp' x (by simp [hx]))
  exact (trodAll_cons_mk k0 trodAll_mk0)

theorem over : Rows.fastBacksRow.holds Tryz.pinned (OpenSpec.ofChange Rows.fastBacksSpec) :=
  OpenClaim.holds_of_wide 3 Tryz.f3 rfl rfl rfl rfl rfl rfl rfl ⟨rfl, rfl, rfl, rfl, rfl⟩ rfl rfl rfl rfl rfl (by kernel_rfl) Tryz.func3 (by kernel_rfl)
    (of_decide_eq_true (by kernel_rfl)) (by unfold Func.isWrapper; first | (rw [if_pos (by decide +kernel)]; kernel_rfl) | (rw [if_neg (by decide +kernel)]; exact ⟨rfl, rfl⟩))
    (fun os started H enc _ => lifted os started H enc)

theorem holds : Rows.FastBacksSaid := over
#print axioms holds
end Go.Proofs.YtjmclobbfabnpaaGreat.FastBacks
