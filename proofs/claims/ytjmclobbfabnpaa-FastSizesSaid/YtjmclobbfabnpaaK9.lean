/-
  FastSizes
-/
import Derived.Test.YtjmclobbfabnpaaR1
import Derived.Test.YtjmclobbfabnpaaJ1
import Derived.Test.YtjmclobbfabnpaaRows
import Derived.WalkKit
set_option linter.unusedSimpArgs false
set_option linter.unusedVariables false
/-
  reckonerlaw03.FastSizes returns true for all arguments (integer, slice of words), and leaves them as they are.
-/
namespace Go.Proofs.Ytjmclobbfabnpaa.FastSizes
open Go.ChangeShapes Go.WideShapes Go.ChangeAt Go.RowKit

theorem own : ownKnob Try.prog.godebug = none := by kernel_rfl
theorem cells69 : Try.prog.cellsOf 69 = 1 := by kernel_rfl

set_option maxRecDepth 100000 in
theorem lifted (os : Os) (started : os.Started) (H : Type) (enc : TypeId × Value → H) :
    ReturnsInHanded {} Try.checked os 11 .any (Rows.fastSizesSpec.pre6 enc Try.prog Try.f11 Rows.fastSizesRow.domain false) (Rows.fastSizesSpec.post enc Try.prog Try.f11 false true false false) := by
  refine returnsInHanded_of_change (C := Try.checked) own started (by kernel_rfl) Try.func11
    (ChangeSpec.witness6 (enc := enc) (C := Try.checked) false ⟨#[], #[.int .i64 0, .slice none 0 0], []⟩ 8 (by kernel_rfl) (by kernel_rfl) (by kernel_rfl) (by kernel_rfl)) ?_
  intro W base args ds gs before hval0 hW hcnd _
  have hval : ∀ (j : Nat) t v, Try.f11.params[j]? = some t → args[j]? = some v → Value.okWide Try.prog W .any base t v := hval0
  have hW' := hW
  have hlt := hW.lt
  obtain ⟨p, q, hA0, hV, rfl, hfz, hnd⟩ := hW
  have hA : DataW.TrodAll enc Try.prog W 0 (fun _ => true) true Try.f11.params.toList args.toList ds p := hA0
  rw [Try.params11] at hA hval
  obtain ⟨v0, vs0, d0, ds0, p0, q0, hargs, rfl, rfl, h0, r0⟩ := trodAll_cons hA
  obtain ⟨v1, vs1, d1, ds1, p1, q1, rfl, rfl, rfl, h1, r1⟩ := trodAll_cons r0
  obtain ⟨rfl, rfl, rfl⟩ := trodAll_nil r1
  obtain rfl : args = #[v0, v1] := by cases args; simp_all
  obtain ⟨rfl, rfl⟩ := trodVars_none hV
  obtain ⟨a0, rfl, rfl, rfl, w0⟩ := open_int Try.underlying3 (hval 0 3 v0 rfl rfl) h0
  obtain ⟨l1, hl1, hrep1⟩ := L.openI Try.underlying23 Try.underlying69 cells69 (hval 1 23 v1 rfl rfl) h1
  clear hA0 hval0
  simp only [List.append_nil] at hW' hlt
  have ol1 : L.okW l1 := fun n hn => by
    have := hl1 n hn
    simp only [Lit.wf, Bool.and_eq_true, decide_eq_true_eq] at this
    have h2 : n ≤ 18446744073709551615 := this.2
    have h1 : 0 ≤ n := this.1
    omega
  have hwalk : Calls Try.prog 11 #[.int .i64 a0, v1] W fun e w' => e = .returned (.bool true) ∧ Below W.heap.size W w' := by
    refine (L.FastSizes_ok a0 l1 ol1).says Try.func11 rfl rfl (vs := [.int .i64 a0, v1]) ?_
    rw [L.ArgsRep]
    refine ⟨_, _, rfl, by rw [L.ArgRep]; exact ⟨[.int .i64 a0], by rw [L.Rep], rfl⟩, ?_⟩
    rw [L.ArgsRep]
    refine ⟨_, _, rfl, hrep1, ?_⟩
    rw [L.ArgsRep]
  refine hwalk.mono fun e W' ⟨he, hg⟩ => ?_
  subst he
  have hpl : ∀ x, x ∈ ([] ++ (p1 ++ [])) → x.block < W.heap.size := fun x hx => hlt x (by simpa using hx)
  refine ⟨_, rfl, L.post_below (pa := ([] ++ (p1 ++ []))) (pv := []) hW' hg (fun _ _ _ => (trodAll_cons_mk (shut_bool Try.underlying4 _) trodAll_mk0)) (fun sp hsp => ?_) (fun _ _ => rfl) (by simp)
    (ok_one (by kernel_rfl) rfl (okWide_bool_mk Try.underlying4 _))⟩
  have hsp' : ∀ x, x ∈ ([] ++ (p1 ++ [])) → sp x.block = true := fun x hx => hsp x (by simpa using hx)
  have k1 := WideElems.Trod_stays (sp' := sp) (by kernel_rfl) (by kernel_rfl) (of_decide_eq_true (by kernel_rfl)) h1 (fun x hx => hg.same (hpl x (by simp [hx]))) (fun x hx => hsp' x (by simp [hx]))
  exact (trodAll_cons_mk (shut_int Try.underlying3 w0) (trodAll_cons_mk k1 trodAll_mk0))

theorem over : Rows.fastSizesRow.holds Try.pinned (OpenSpec.ofChange Rows.fastSizesSpec) :=
  OpenClaim.holds_of_wide 11 Try.f11 rfl rfl rfl rfl rfl rfl rfl ⟨rfl, rfl, rfl, rfl, rfl⟩ rfl rfl rfl rfl rfl (by kernel_rfl) Try.func11 (by kernel_rfl)
    (of_decide_eq_true (by kernel_rfl)) (by unfold Func.isWrapper; first | (rw [if_pos (by decide +kernel)]; kernel_rfl) | (rw [if_neg (by decide +kernel)]; exact ⟨rfl, rfl⟩))
    (fun os started H enc _ => lifted os started H enc)

theorem holds : Rows.FastSizesSaid := over
#print axioms holds
end Go.Proofs.Ytjmclobbfabnpaa.FastSizes
