/-
  ParseFloats
-/
import Derived.Test.YtobacemgcjnahaaGreatDoorV10
import Derived.Test.YtobacemgcjnahaaGreatDoorV6
import Derived.Test.YtobacemgcjnahaaGreatDoorV3
import Derived.Test.YtobacemgcjnahaaGreatDoorRows
import Derived.Test.YtobacemgcjnahaaGreatDoorTie
import Derived.Test.YtobacemgcjnahaaGreatDoorCards
import Derived.WalkKit
import Derived.ChangeMaps5
import Derived.SevenTiedAt
set_option linter.unusedSimpArgs false
set_option linter.unusedVariables false
/-
  reckonerlaw24.ParseFloats returns true for every format, every rounding and every string, and leaves them as they are.
-/
namespace Go.Proofs.YtobacemgcjnahaaGreatDoor.ParseFloats
open Go.ChangeShapes Go.WideShapes Go.ChangeAt Go.RowKit

theorem own : ownKnob Tryz.prog.godebug = none := by kernel_rfl

theorem walk (k p r : Int) (t : ByteArray) (w : World) (hG : L.GL w) : Calls Tryz.prog 4 #[.agg #[.int .i64 k, .int .i64 p], .int .i64 r, .string t] w fun e w' => e = .returned (.bool true) ∧ Below w.heap.size w w' := by
  refine (L.ParseFloats_ok k p r t).says Tryz.func4 rfl rfl (vs := [.agg #[.int .i64 k, .int .i64 p], .int .i64 r, .string t]) hG ?_
  rw [L.ArgsRep]
  refine ⟨_, _, rfl, ?_, ?_⟩
  · rw [L.ArgRep]
    refine ⟨[.int .i64 k, .int .i64 p], ?_, rfl⟩
    unfold L.fmtV
    rw [L.Rep, L.RepL]
    refine ⟨[.int .i64 k], [.int .i64 p], rfl, by rw [L.Rep], ?_⟩
    rw [L.RepL]
    exact ⟨[.int .i64 p], [], rfl, by rw [L.Rep], by rw [L.RepL]⟩
  · rw [L.ArgsRep]
    refine ⟨_, _, rfl, ?_, ?_⟩
    · rw [L.ArgRep]
      exact ⟨[.int .i64 r], by rw [L.Rep], rfl⟩
    · rw [L.ArgsRep]
      refine ⟨_, _, rfl, ?_, by rw [L.ArgsRep]⟩
      rw [L.ArgRep]
      exact ⟨[.string t], by rw [L.Rep], rfl⟩

set_option maxRecDepth 100000 in
theorem lifted (os : Os) (started : os.Started) (H : Type) (enc : TypeId × Value → H) :
    ReturnsInHanded {} Tryz.checked os 4 .any (fun w args => (Rows.parseFloatsSpec.pre enc Tryz.prog Tryz.f4 Rows.parseFloatsRow.domain false w args ∧ laidMetH Tryz.prog Rows.parseFloatsRow.laid w) ∧ sizedMet enc Tryz.prog Tryz.f4 (OpenSpec.ofChange Rows.parseFloatsSpec) false w args)
      (Rows.parseFloatsSpec.post enc Tryz.prog Tryz.f4 false true false false) := by
  refine returnsInHanded_of_change_and (C := Tryz.checked) (X := fun w _ => laidMetH Tryz.prog Rows.parseFloatsRow.laid w) (fun _ _ _ hh h => h.of_heap hh) own started (by kernel_rfl) Tryz.func4
    (ChangeSpec.witness_shaped (enc := enc) (C := Tryz.checked) (os := os) (X := fun w _ => laidMetH Tryz.prog Rows.parseFloatsRow.laid w) false (L.wit os) #[.agg #[.int .i64 0, .int .i64 0], .int .i64 0, .string ⟨#[]⟩] 8 (L.wit_os os)
      (World.shaped_of_ZipB (by kernel_rfl) (by kernel_rfl)) (by kernel_rfl) (by kernel_rfl) (by kernel_rfl) (L.wit_met os _)) ?_
  intro W base args ds gs before hval0 hW hcnd _ hL _
  have hval : ∀ (j : Nat) t v, Tryz.f4.params[j]? = some t → args[j]? = some v → Value.okWide Tryz.prog W .any base t v := hval0
  have hW' := hW
  obtain ⟨p, q, hA0, hV, rfl, hfz, hnd⟩ := hW
  have hA : DataW.TrodAll enc Tryz.prog W 0 (fun _ => true) true Tryz.f4.params.toList args.toList ds p := hA0
  rw [Tryz.params4] at hA hval
  obtain ⟨v0, vs0, d0, ds0, p0, q0, hargs, rfl, rfl, h0, r0⟩ := trodAll_cons hA
  obtain ⟨v1, vs1, d1, ds1, p1, q1, hargs1, rfl, rfl, h1, r1⟩ := trodAll_cons r0
  obtain ⟨v2, vs2, d2, ds2, p2, q2, hargs2, rfl, rfl, h2, r2⟩ := trodAll_cons r1
  obtain ⟨rfl, rfl, rfl⟩ := trodAll_nil r2
  subst hargs2
  subst hargs1
  obtain rfl : args = #[v0, v1, v2] := by cases args; simp_all
  obtain ⟨rfl, rfl⟩ := trodVars_none hV
  obtain ⟨a, b, rfl, rfl, rfl, wa, wb⟩ := L.open_struct2 Tryz.underlying26 (by kernel_rfl) rfl rfl (by kernel_rfl) (by kernel_rfl) Tryz.underlying3 Tryz.underlying3 (hval 0 26 v0 rfl rfl) h0
  obtain ⟨c, rfl, rfl, rfl, wc⟩ := open_int Tryz.underlying27 (hval 1 27 v1 rfl rfl) h1
  obtain ⟨a0, rfl, rfl, rfl, w0⟩ := Go.ChangeMaps.open_string Tryz.underlying9 (hval 2 9 v2 rfl rfl) h2
  clear hA0 hval0
  simp only [List.append_nil] at hW'
  refine (walk a b c a0 W (L.laid_GL hL)).mono fun e W' ⟨he, hg⟩ => ?_
  subst he
  exact ⟨_, rfl, L.post_below (pa := []) (pv := []) hW' hg (fun _ _ _ => (trodAll_cons_mk (shut_bool Tryz.underlying4 _) trodAll_mk0)) (fun sp _ => (trodAll_cons_mk (L.shut_struct2 Tryz.underlying26 (by kernel_rfl) rfl rfl (by kernel_rfl) (by kernel_rfl) Tryz.underlying3 Tryz.underlying3 wa wb) (trodAll_cons_mk (shut_int Tryz.underlying27 wc) (trodAll_cons_mk (Go.ChangeMaps.shut_string Tryz.underlying9 w0) trodAll_mk0)))) (fun _ _ => rfl) rfl
    (ok_one (by kernel_rfl) rfl (okWide_bool_mk Tryz.underlying4 _))⟩

theorem over : Rows.parseFloatsRow.holds Tryz.pinned (OpenSpec.ofChange Rows.parseFloatsSpec) :=
  OpenClaim.holds_of_wide 4 Tryz.f4 rfl rfl rfl rfl rfl rfl rfl ⟨rfl, rfl, rfl, rfl, rfl⟩ rfl rfl rfl rfl rfl (by kernel_rfl) Tryz.func4 (by kernel_rfl)
    (of_decide_eq_true (by kernel_rfl)) (by unfold Func.isWrapper; first | (rw [if_pos (by decide +kernel)]; kernel_rfl) | (rw [if_neg (by decide +kernel)]; exact ⟨rfl, rfl⟩))
    (fun os started H enc _ => lifted os started H enc)

theorem holds : Rows.ParseFloatsCardSaid :=
  Claim7.holds_tied_plain_at .later [] [.data, .data, .data, .data, .funcs, .pinned, .pinned] true (true, "abd5d53504c1ab744571686a0be6f0eba500be591a899f70a251a97d2adf679d") false over (fun _ h => by cases h) (by kernel_rfl) (fun _ h => by cases h) parseFloats_row_tie rfl ⟨rfl, rfl⟩ (by kernel_rfl) rfl
    (fun f fn hf hfn => by
      obtain rfl : f = 4 := Option.some.inj ((show Tryz.prog.funcNamed "reckoner/reckonerlaw24.ParseFloats" = some 4 by kernel_rfl).symm.trans hf) |>.symm
      obtain rfl : fn = Tryz.f4 := (Option.some.inj (Tryz.func4.symm.trans hfn)).symm
      exact ⟨by kernel_rfl, fun j t ht => by
        rw [Tryz.params4] at ht
        have hm : t ∈ [26, 27, 9] := by simpa using Array.mem_of_getElem? ht
        have hall : ([26, 27, 9].all fun u => !Tryz.prog.wantsStandIn u) = true := by kernel_rfl
        exact (show Tryz.prog.wantsStandIn t = false by simpa using List.all_eq_true.1 hall t hm)⟩)
    (by kernel_rfl)
#print axioms holds
end Go.Proofs.YtobacemgcjnahaaGreatDoor.ParseFloats
