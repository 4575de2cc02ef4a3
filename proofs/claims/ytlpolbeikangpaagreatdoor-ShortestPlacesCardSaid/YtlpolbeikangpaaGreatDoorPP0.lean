/-
  ShortestPlaces
-/
import Derived.Test.YtlpolbeikangpaaGreatDoorPP12
import Derived.Test.YtlpolbeikangpaaGreatDoorRows
import Derived.Test.YtlpolbeikangpaaGreatDoorTie
import Derived.Test.YtlpolbeikangpaaGreatDoorCards
import Derived.WalkKit
import Derived.ChangeMaps5
import Derived.SevenTiedAt
set_option linter.unusedSimpArgs false
set_option linter.unusedVariables false
/-
  reckonerlaw25.ShortestPlaces returns true for every format, every rounding, every float and every int, and leaves them as they are.
-/
namespace Go.Proofs.YtlpolbeikangpaaGreatDoor.ShortestPlaces
open Go.ChangeShapes Go.WideShapes Go.ChangeAt Go.RowKit

theorem n1 : false = Tryz.pinned.checked.prog.looks [] := by kernel_rfl
theorem n2 : false = Rows.shortestPlacesRow.goesBy Tryz.pinned.checked.prog := by kernel_rfl
theorem n3 : Rows.shortestPlacesRow.wfByText (OpenSpec.ofChange Rows.shortestPlacesSpec) = true := by kernel_rfl
theorem holds : Rows.ShortestPlacesCardSaid :=
  Claim7.holds_tied_plain_at .later [] [.data, .data, .data, .data, .funcs, .pinned] true (true, "01165b182e88073e754b5f02c68f2e33c331b6079b51b49d572e6ce0485a4061") false over (fun _ h => by cases h) n3 (fun _ h => by cases h) shortestPlaces_row_tie rfl ⟨rfl, rfl⟩ (by kernel_rfl) rfl
    (fun f fn hf hfn => by
      obtain rfl : f = 4 := Option.some.inj ((show Tryz.prog.funcNamed "reckoner/reckonerlaw25.ShortestPlaces" = some 4 by kernel_rfl).symm.trans hf) |>.symm
      obtain rfl : fn = Tryz.f4 := (Option.some.inj (Tryz.func4.symm.trans hfn)).symm
      exact ⟨n1, fun j t ht => by
        rw [Tryz.params4] at ht
        have hm : t ∈ [23, 44, 28, 3] := by simpa using Array.mem_of_getElem? ht
        have hall : ([23, 44, 28, 3].all fun u => !Tryz.prog.wantsStandIn u) = true := by kernel_rfl
        exact (show Tryz.prog.wantsStandIn t = false by simpa using List.all_eq_true.1 hall t hm)⟩)
    n2
#print axioms holds
end Go.Proofs.YtlpolbeikangpaaGreatDoor.ShortestPlaces
