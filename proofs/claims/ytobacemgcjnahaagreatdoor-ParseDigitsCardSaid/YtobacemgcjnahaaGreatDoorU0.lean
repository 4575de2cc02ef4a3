/-
  ParseDigits
-/
import Derived.Test.YtobacemgcjnahaaGreatDoorU9
import Derived.Test.YtobacemgcjnahaaGreatDoorU6
import Derived.Test.YtobacemgcjnahaaGreatDoorU3
import Derived.Test.YtobacemgcjnahaaGreatDoorRows
import Derived.Test.YtobacemgcjnahaaGreatDoorTie
import Derived.Test.YtobacemgcjnahaaGreatDoorCards
import Derived.WalkKit
import Derived.ChangeMaps5
import Derived.SevenTiedAt
set_option linter.unusedSimpArgs false
set_option linter.unusedVariables false
/-
  reckonerlaw24.ParseDigits returns true for every context, every string, every exponent and either sign, and leaves them as they are.
-/
namespace Go.Proofs.YtobacemgcjnahaaGreatDoor.ParseDigits
open Go.ChangeShapes Go.WideShapes Go.ChangeAt Go.RowKit

theorem own : ownKnob Tryz.prog.godebug = none := by kernel_rfl

theorem walk (p g r : Int) (t : ByteArray) (ht : t.size ≤ 9223372036854775807) (x : Int) (hx : -32768 ≤ x ∧ x ≤ 32767) (n : Bool) (w : World) (hG : L.GL w) : Calls Tryz.prog 7 #[.agg #[.int .i64 p, .int .i64 g, .int .i64 r], .string t, .int .i16 x, .bool n] w fun e w' => e = .returned (.bool true) ∧ Below w.heap.size w w' := by
  refine (L.ParseDigits_ok p g r t ht x hx n).says Tryz.func7 rfl rfl (vs := [.agg #[.int .i64 p, .int .i64 g, .int .i64 r], .string t, .int .i16 x, .bool n]) hG ?_
  rw [L.ArgsRep]
  refine ⟨_, _, rfl, ?_, ?_⟩
  · rw [L.ArgRep]
    refine ⟨[.int .i64 p, .int .i64 g, .int .i64 r], ?_, rfl⟩
    unfold L.ctxV
    rw [L.Rep, L.RepL]
    refine ⟨[.int .i64 p], [.int .i64 g, .int .i64 r], rfl, by rw [L.Rep], ?_⟩
    rw [L.RepL]
    refine ⟨[.int .i64 g], [.int .i64 r], rfl, by rw [L.Rep], ?_⟩
    rw [L.RepL]
    exact ⟨[.int .i64 r], [], rfl, by rw [L.Rep], by rw [L.RepL]⟩
  · rw [L.ArgsRep]
    refine ⟨_, _, rfl, ?_, ?_⟩
    · rw [L.ArgRep]
      exact ⟨[.string t], by rw [L.Rep], rfl⟩
    · rw [L.ArgsRep]
      refine ⟨_, _, rfl, ?_, ?_⟩
      · rw [L.ArgRep]
        exact ⟨[.int .i16 x], by rw [L.Rep], rfl⟩
      · rw [L.ArgsRep]
        refine ⟨_, _, rfl, ?_, by rw [L.ArgsRep]⟩
        rw [L.ArgRep]
        exact ⟨[.bool n], by rw [L.Rep], rfl⟩

set_option maxRecDepth 100000 in
theorem lifted (os : Os) (started : os.Started) (H : Type) (enc : TypeId × Value → H) :
    ReturnsInHanded {} Tryz.checked os 7 .any (fun w args => (Rows.parseDigitsSpec.pre enc Tryz.prog Tryz.f7 Rows.parseDigitsRow.domain false w args ∧ laidMetH Tryz.prog Rows.parseDigitsRow.laid w) ∧ sizedMet enc Tryz.prog Tryz.f7 (OpenSpec.ofChange Rows.parseDigitsSpec) false w args)
      (Rows.parseDigitsSpec.post enc Tryz.prog Tryz.f7 false true false false) := by
  refine returnsInHanded_of_change_and (C := Tryz.checked) (X := fun w _ => laidMetH Tryz.prog Rows.parseDigitsRow.laid w) (fun _ _ _ hh h => h.of_heap hh) own started (by kernel_rfl) Tryz.func7
    (ChangeSpec.witness_shaped (enc := enc) (C := Tryz.checked) (os := os) (X := fun w _ => laidMetH Tryz.prog Rows.parseDigitsRow.laid w) false (L.wit os) #[.agg #[.int .i64 0, .int .i64 0, .int .i64 0], .string ⟨#[]⟩, .int .i16 0, .bool false] 8 (L.wit_os os)
      (World.shaped_of_ZipB (by kernel_rfl) (by kernel_rfl)) (by kernel_rfl) (by kernel_rfl) (by kernel_rfl) (L.wit_met os _)) ?_
  intro W base args ds gs before hval0 hW hcnd _ hL _
  have hval : ∀ (j : Nat) t v, Tryz.f7.params[j]? = some t → args[j]? = some v → Value.okWide Tryz.prog W .any base t v := hval0
  have hW' := hW
  obtain ⟨p, q, hA0, hV, rfl, hfz, hnd⟩ := hW
  have hA : DataW.TrodAll enc Tryz.prog W 0 (fun _ => true) true Tryz.f7.params.toList args.toList ds p := hA0
  rw [Tryz.params7] at hA hval
  obtain ⟨v0, vs0, d0, ds0, p0, q0, hargs, rfl, rfl, h0, r0⟩ := trodAll_cons hA
  obtain ⟨v1, vs1, d1, ds1, p1, q1, hargs1, rfl, rfl, h1, r1⟩ := trodAll_cons r0
  obtain ⟨v2, vs2, d2, ds2, p2, q2, hargs2, rfl, rfl, h2, r2⟩ := trodAll_cons r1
  obtain ⟨v3, vs3, d3, ds3, p3, q3, hargs3, rfl, rfl, h3, r3⟩ := trodAll_cons r2
  obtain ⟨rfl, rfl, rfl⟩ := trodAll_nil r3
  subst hargs3
  subst hargs2
  subst hargs1
  obtain rfl : args = #[v0, v1, v2, v3] := by cases args; simp_all
  obtain ⟨rfl, rfl⟩ := trodVars_none hV
  obtain ⟨a, b, c, rfl, rfl, rfl, wa, wb, wc⟩ := L.open_struct3 Tryz.underlying50 (by kernel_rfl) rfl rfl rfl (by kernel_rfl) (by kernel_rfl) (by kernel_rfl) Tryz.underlying3 Tryz.underlying3 Tryz.underlying27 (hval 0 50 v0 rfl rfl) h0
  obtain ⟨a0, rfl, rfl, rfl, w0⟩ := Go.ChangeMaps.open_string Tryz.underlying9 (hval 1 9 v1 rfl rfl) h1
  obtain ⟨x, rfl, rfl, rfl, wx⟩ := open_int Tryz.underlying70 (hval 2 70 v2 rfl rfl) h2
  obtain ⟨n, rfl, rfl, rfl⟩ := open_bool Tryz.underlying4 (hval 3 4 v3 rfl rfl) h3
  have hx : -32768 ≤ x ∧ x ≤ 32767 := by
    simp only [Lit.wf, Bool.and_eq_true, decide_eq_true_eq] at wx
    exact wx
  clear hA0 hval0
  simp only [List.append_nil] at hW'
  refine (walk a b c a0 (Nat.le_trans w0 (Nat.le_of_eq rfl)) x hx n W (L.laid_GL hL)).mono fun e W' ⟨he, hg⟩ => ?_
  subst he
  exact ⟨_, rfl, L.post_below (pa := []) (pv := []) hW' hg (fun _ _ _ => (trodAll_cons_mk (shut_bool Tryz.underlying4 _) trodAll_mk0)) (fun sp _ => (trodAll_cons_mk (L.shut_struct3 Tryz.underlying50 (by kernel_rfl) rfl rfl rfl (by kernel_rfl) (by kernel_rfl) (by kernel_rfl) Tryz.underlying3 Tryz.underlying3 Tryz.underlying27 wa wb wc) (trodAll_cons_mk (Go.ChangeMaps.shut_string Tryz.underlying9 w0) (trodAll_cons_mk (shut_int Tryz.underlying70 wx) (trodAll_cons_mk (shut_bool Tryz.underlying4 n) trodAll_mk0))))) (fun _ _ => rfl) rfl
    (ok_one (by kernel_rfl) rfl (okWide_bool_mk Tryz.underlying4 _))⟩

theorem over : Rows.parseDigitsRow.holds Tryz.pinned (OpenSpec.ofChange Rows.parseDigitsSpec) :=
  OpenClaim.holds_of_wide 7 Tryz.f7 rfl rfl rfl rfl rfl rfl rfl ⟨rfl, rfl, rfl, rfl, rfl⟩ rfl rfl rfl rfl rfl (by kernel_rfl) Tryz.func7 (by kernel_rfl)
    (of_decide_eq_true (by kernel_rfl)) (by unfold Func.isWrapper; first | (rw [if_pos (by decide +kernel)]; kernel_rfl) | (rw [if_neg (by decide +kernel)]; exact ⟨rfl, rfl⟩))
    (fun os started H enc _ => lifted os started H enc)

theorem holds : Rows.ParseDigitsCardSaid :=
  Claim7.holds_tied_plain_at .later [] [.data, .data, .data, .data, .funcs, .pinned, .pinned] true (true, "abd5d53504c1ab744571686a0be6f0eba500be591a899f70a251a97d2adf679d") false over (fun _ h => by cases h) (by kernel_rfl) (fun _ h => by cases h) parseDigits_row_tie rfl ⟨rfl, rfl⟩ (by kernel_rfl) rfl
    (fun f fn hf hfn => by
      obtain rfl : f = 7 := Option.some.inj ((show Tryz.prog.funcNamed "reckoner/reckonerlaw24.ParseDigits" = some 7 by kernel_rfl).symm.trans hf) |>.symm
      obtain rfl : fn = Tryz.f7 := (Option.some.inj (Tryz.func7.symm.trans hfn)).symm
      exact ⟨by kernel_rfl, fun j t ht => by
        rw [Tryz.params7] at ht
        have hm : t ∈ [50, 9, 70, 4] := by simpa using Array.mem_of_getElem? ht
        have hall : ([50, 9, 70, 4].all fun u => !Tryz.prog.wantsStandIn u) = true := by kernel_rfl
        exact (show Tryz.prog.wantsStandIn t = false by simpa using List.all_eq_true.1 hall t hm)⟩)
    (by kernel_rfl)
#print axioms holds
end Go.Proofs.YtobacemgcjnahaaGreatDoor.ParseDigits
