/-
  What came in, read: a row of words.
-/
import Derived.Test.YtjmclobbfabnpaaG4
import Derived.WideKeyArgs
set_option linter.unusedSimpArgs false
set_option linter.unusedVariables false
namespace Go.Proofs.Ytjmclobbfabnpaa.L
open Go Go.RowKit Go.ChangeShapes Go.WideShapes Go.ChangeAt

variable {H : Type} {enc : TypeId × Value → H} {P : Program}

theorem repF_ints {w : World} {ok : Nat → Prop} {k : IntKind} : ∀ l : List Int, RepF w ok 1 (l.map fun n => V.int k n) (l.map fun n => Value.int k n)
  | [] => by rw [List.map_nil, List.map_nil, RepF]
  | x :: r => by
    rw [List.map_cons, List.map_cons, RepF]
    exact ⟨[.int k x], _, rfl, rfl, by rw [Rep], repF_ints r⟩

/-- A slice of numbers that came in. -/
theorem openI {t e : TypeId} {k : IntKind} {W : World} {v : Value} {d : DataW H} {ps : List MemPlace} {r : Reach} {b0 : Nat} (ht : P.underlying t = some (.slice e)) (he : P.underlying e = some (.int k)) (hc : P.cellsOf e = 1) (hval : Value.okWide P W r b0 t v)
    (h : DataW.Trod enc P W 0 (fun _ => true) true t v d ps) : ∃ l : List Int, (∀ n ∈ l, (Lit.int k n).wf = true) ∧ ArgRep W (fun _ => True) (.v (.sl 1 (l.map fun n => .int k n))) v := by
  obtain ⟨a0, len, cap, rfl⟩ := okWide_slice ht hval
  obtain ⟨fuel, hf⟩ := h
  rcases open_ints ht he hc hf with ⟨hcs, _⟩ | ⟨a, len', cap', zs, hcs, _, hl, hm, hz, _, hcell, hwz⟩
  · simp [Value.cells] at hcs
    obtain ⟨rfl, rfl, rfl⟩ := hcs
    refine ⟨[], (fun n hn => by cases hn), ?_⟩
    rw [ArgRep]
    exact ⟨[.slice none 0 0], by rw [Rep]; exact .inl ⟨rfl, _, _, rfl⟩, rfl⟩
  · simp [Value.cells] at hcs
    obtain ⟨rfl, rfl, rfl⟩ := hcs
    simp only [if_true] at hz
    refine ⟨zs.take len, fun n hn => hwz n (List.mem_of_mem_take hn), ?_⟩
    rw [ArgRep]
    refine ⟨[.slice (some a) len cap], ?_, rfl⟩
    rw [Rep]
    by_cases hl0 : len = 0
    · subst hl0
      exact .inl ⟨by simp, _, _, rfl⟩
    · obtain ⟨b, off, spot⟩ := a
      have hspot : spot = none := by simpa [Addr.add] using World.cell?_spot (hcell 0 (by omega))
      subst hspot
      have hb : b < W.heap.size := by
        have := hcell 0 (by omega)
        refine Nat.lt_of_not_le fun hle => ?_
        simp [World.cell?, Addr.add, Array.getElem?_eq_none hle] at this
      have hlen : ((zs.take len).map fun n => V.int k n).length = len := by rw [List.length_map, List.length_take]; omega
      refine .inr ⟨b, off, cap, by rw [hlen]; exact hl, ⟨hb, trivial⟩, by rw [hlen], ?_⟩
      refine RepF.row (repF_ints _) fun j hj => ?_
      rw [List.length_map, List.length_take] at hj
      have h1 := hcell j (by omega)
      rw [add_plain] at h1
      rw [h1, List.getElem?_map, List.getElem?_take_of_lt (by omega), List.getElem?_eq_getElem (by omega), List.getD_eq_getElem?_getD, List.getElem?_eq_getElem (by omega)]
      rfl
end Go.Proofs.Ytjmclobbfabnpaa.L
