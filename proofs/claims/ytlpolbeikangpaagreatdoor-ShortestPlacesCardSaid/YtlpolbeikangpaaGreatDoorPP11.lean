/-
  ShortestPlacesA
-/
import Derived.Test.YtlpolbeikangpaaGreatDoorPP10
import Derived.Test.YtlpolbeikangpaaGreatDoorRows
import Derived.Test.YtlpolbeikangpaaGreatDoorTie
import Derived.Test.YtlpolbeikangpaaGreatDoorCards
import Derived.WalkKit
import Derived.ChangeMaps5
import Derived.SevenTiedAt
set_option linter.unusedSimpArgs false
set_option linter.unusedVariables false
set_option maxRecDepth 100000
namespace Go.Proofs.YtlpolbeikangpaaGreatDoor.ShortestPlaces
open Go.ChangeShapes Go.WideShapes Go.ChangeAt Go.RowKit
theorem own : ownKnob Tryz.prog.godebug = none := by kernel_rfl
theorem walk (k0 p0 : Int) (r1 : Int) (kd e : Int) (neg : Bool) (l : List Int) (r3 : Int) (ol : L.okW l) (he : -9223372036854775808 ≤ e ∧ e < 9223372036854775808) (v : Value) (w : World) (hG : L.GL w) (hv : L.ArgRep w (fun _ => True) (.v (L.fltW kd neg e l)) v) : Calls Tryz.prog 4 #[.agg #[.int .i64 k0, .int .i64 p0], .int .i64 r1, v, .int .i64 r3] w fun e w' => e = .returned (.bool true) ∧ Below w.heap.size w w' := by
 refine (L.SP_walk k0 p0 r1 kd e r3 neg l ol he).says Tryz.func4 rfl rfl (vs := [.agg #[.int .i64 k0, .int .i64 p0], .int .i64 r1, v, .int .i64 r3]) hG ?_
 rw [L.ArgsRep]
 refine ⟨_, _, rfl, ?_, ?_⟩
 ·rw [L.ArgRep]
  refine ⟨[.int .i64 k0, .int .i64 p0], ?_, rfl⟩
  unfold L.fmtV
  rw [L.Rep, L.RepL]
  refine ⟨[.int .i64 k0], [.int .i64 p0], rfl, by rw [L.Rep], ?_⟩
  rw [L.RepL]
  exact ⟨[.int .i64 p0], [], rfl, by rw [L.Rep], by rw [L.RepL]⟩
 rw [L.ArgsRep]
 refine ⟨_, _, rfl, ?_, ?_⟩
 ·rw [L.ArgRep]
  exact ⟨[.int .i64 r1], by rw [L.Rep], rfl⟩
 rw [L.ArgsRep]
 refine ⟨_, _, rfl, hv, ?_⟩
 rw [L.ArgsRep]
 refine ⟨_, _, rfl, ?_, ?_⟩
 ·rw [L.ArgRep]
  exact ⟨[.int .i64 r3], by rw [L.Rep], rfl⟩
 rw [L.ArgsRep]
theorem lifted (os : Os) (started : os.Started) (H : Type) (enc : TypeId × Value → H) :
 ReturnsInHanded {} Tryz.checked os 4 .any (fun w args => (Rows.shortestPlacesSpec.pre enc Tryz.prog Tryz.f4 Rows.shortestPlacesRow.domain false w args ∧ laidMetH Tryz.prog Rows.shortestPlacesRow.laid w) ∧ sizedMet enc Tryz.prog Tryz.f4 (OpenSpec.ofChange Rows.shortestPlacesSpec) false w args)
  (Rows.shortestPlacesSpec.post enc Tryz.prog Tryz.f4 false true false false) := by
 refine returnsInHanded_of_change_and (C := Tryz.checked) (X := fun w _ => laidMetH Tryz.prog Rows.shortestPlacesRow.laid w) (fun _ _ _ hh h => h.of_heap hh) own started (by kernel_rfl) Tryz.func4
  (ChangeSpec.witness_shaped (enc := enc) (C := Tryz.checked) (os := os) (X := fun w _ => laidMetH Tryz.prog Rows.shortestPlacesRow.laid w) false (L.wit os) #[.agg #[.int .i64 0, .int .i64 0], .int .i64 0, .agg #[.int .i64 0, .bool false, .int .i64 0, .slice none 0 0], .int .i64 0] 8 (L.wit_os os)
    (World.shaped_of_ZipB (by kernel_rfl) (by kernel_rfl)) (by kernel_rfl) (by kernel_rfl) (by kernel_rfl) (L.wit_met os _)) ?_
 intro W base args ds gs before hval0 hW hcnd _ hL _
 have hval : ∀ (j : Nat) t v, Tryz.f4.params[j]? = some t → args[j]? = some v → Value.okWide Tryz.prog W .any base t v := hval0
 have hW' := hW
 have hlt := hW.lt
 obtain ⟨p, q, hA0, hV, rfl, hfz, hnd⟩ := hW
 have hA : DataW.TrodAll enc Tryz.prog W 0 (fun _ => true) true Tryz.f4.params.toList args.toList ds p := hA0
 rw [Tryz.params4] at hA hval
 obtain ⟨v0, vs0, d0, ds0, pp0, q0, hargs, rfl, rfl, h0, r0⟩ := trodAll_cons hA
 obtain ⟨v1, vs1, d1, ds1, pp1, q1, hargs1, rfl, rfl, h1, r1⟩ := trodAll_cons r0
 obtain ⟨v2, vs2, d2, ds2, pp2, q2, hargs2, rfl, rfl, h2, r2⟩ := trodAll_cons r1
 obtain ⟨v3, vs3, d3, ds3, pp3, q3, hargs3, rfl, rfl, h3, r3⟩ := trodAll_cons r2
 obtain ⟨rfl, rfl, rfl⟩ := trodAll_nil r3
 subst hargs3
 subst hargs2
 subst hargs1
 obtain rfl : args = #[v0, v1, v2, v3] := by cases args; simp_all
 obtain ⟨rfl, rfl⟩ := trodVars_none hV
 obtain ⟨a0, b0, rfl, rfl, rfl, wa0, wb0⟩ := L.open_struct2 Tryz.underlying23 (by kernel_rfl) rfl rfl (by kernel_rfl) (by kernel_rfl) Tryz.underlying3 Tryz.underlying3 (hval 0 23 v0 rfl rfl) h0
 obtain ⟨c1, rfl, rfl, rfl, wc1⟩ := open_int Tryz.underlying44 (hval 1 44 v1 rfl rfl) h1
 obtain ⟨kd, ng, ex, l, wk, we, wl, hrep⟩ := L.openFlt Tryz.underlying28 (by kernel_rfl) rfl rfl rfl rfl (by kernel_rfl) (by kernel_rfl) (by kernel_rfl) (by kernel_rfl) Tryz.underlying24 Tryz.underlying4 Tryz.underlying3 Tryz.underlying26 Tryz.underlying91 (by kernel_rfl) (hval 2 28 v2 rfl rfl) h2
 obtain ⟨c3, rfl, rfl, rfl, wc3⟩ := open_int Tryz.underlying3 (hval 3 3 v3 rfl rfl) h3
 clear hA0 hval0
 simp only [List.append_nil] at hW' hlt
 have ol : L.okW l := fun n hn => by
  have := wl n hn
  simp only [Lit.wf, Bool.and_eq_true, decide_eq_true_eq] at this
  have h2 : n ≤ 18446744073709551615 := this.2
  have h1 : 0 ≤ n := this.1
  omega
 have he : -9223372036854775808 ≤ ex ∧ ex < 9223372036854775808 := by
  have := we
  simp only [Lit.wf, Bool.and_eq_true, decide_eq_true_eq] at this
  have h2 : ex ≤ 9223372036854775807 := this.2
  have h1 : -9223372036854775808 ≤ ex := this.1
  omega
 refine (walk a0 b0 c1 kd ex ng l c3 ol he v2 W (L.laid_GL hL) hrep).mono fun e W' ⟨he, hg⟩ => ?_
 subst he
 have hpl : ∀ x, x ∈ ([] ++ ([] ++ pp2)) → x.block < W.heap.size := fun x hx => hlt x (by simpa using hx)
 refine ⟨_, rfl, L.post_below (pa := ([] ++ ([] ++ pp2))) (pv := []) hW' hg (fun _ _ _ => (trodAll_cons_mk (shut_bool Tryz.underlying4 _) trodAll_mk0)) (fun sp hsp => ?_) (fun _ _ => rfl) (by simp)
  (ok_one (by kernel_rfl) rfl (okWide_bool_mk Tryz.underlying4 _))⟩
 have hsp' : ∀ x, x ∈ ([] ++ ([] ++ pp2)) → sp x.block = true := fun x hx => hsp x (by simpa using hx)
 have k2 := WideElems.Trod_stays (sp' := sp) (by kernel_rfl) (by kernel_rfl) (of_decide_eq_true (by kernel_rfl)) h2 (fun x hx => hg.same (hpl x (by simp [hx]))) (fun x hx => hsp' x (by simp [hx]))
 exact (trodAll_cons_mk (L.shut_struct2 Tryz.underlying23 (by kernel_rfl) rfl rfl (by kernel_rfl) (by kernel_rfl) Tryz.underlying3 Tryz.underlying3 wa0 wb0) (trodAll_cons_mk (shut_int Tryz.underlying44 wc1) (by have kk := trodAll_cons_mk k2 ((trodAll_cons_mk (shut_int Tryz.underlying3 wc3) trodAll_mk0)); simp only [List.append_nil] at kk; exact kk)))
end Go.Proofs.YtlpolbeikangpaaGreatDoor.ShortestPlaces
