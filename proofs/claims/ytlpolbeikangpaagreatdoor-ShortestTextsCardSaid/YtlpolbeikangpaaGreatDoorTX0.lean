/-
  ShortestTexts
-/
import Derived.Test.YtlpolbeikangpaaGreatDoorTX12
import Derived.Test.YtlpolbeikangpaaGreatDoorRows
import Derived.Test.YtlpolbeikangpaaGreatDoorTie
import Derived.Test.YtlpolbeikangpaaGreatDoorCards
import Derived.WalkKit
import Derived.ChangeMaps5
import Derived.SevenTiedAt
set_option linter.unusedSimpArgs false
set_option linter.unusedVariables false
/-
  reckonerlaw25.ShortestTexts returns true for every format and every float, and leaves them as they are.
-/
namespace Go.Proofs.YtlpolbeikangpaaGreatDoor.ShortestTexts
open Go.ChangeShapes Go.WideShapes Go.ChangeAt Go.RowKit

theorem n1 : false = Tryz.pinned.checked.prog.looks [] := by kernel_rfl
theorem n2 : false = Rows.shortestTextsRow.goesBy Tryz.pinned.checked.prog := by kernel_rfl
theorem n3 : Rows.shortestTextsRow.wfByText (OpenSpec.ofChange Rows.shortestTextsSpec) = true := by kernel_rfl
theorem holds : Rows.ShortestTextsCardSaid :=
  Claim7.holds_tied_plain_at .later [] [.data, .data, .data, .data, .funcs, .pinned] true (true, "01165b182e88073e754b5f02c68f2e33c331b6079b51b49d572e6ce0485a4061") false over (fun _ h => by cases h) n3 (fun _ h => by cases h) shortestTexts_row_tie rfl ⟨rfl, rfl⟩ (by kernel_rfl) rfl
    (fun f fn hf hfn => by
      obtain rfl : f = 3 := Option.some.inj ((show Tryz.prog.funcNamed "reckoner/reckonerlaw25.ShortestTexts" = some 3 by kernel_rfl).symm.trans hf) |>.symm
      obtain rfl : fn = Tryz.f3 := (Option.some.inj (Tryz.func3.symm.trans hfn)).symm
      exact ⟨n1, fun j t ht => by
        rw [Tryz.params3] at ht
        have hm : t ∈ [23, 28] := by simpa using Array.mem_of_getElem? ht
        have hall : ([23, 28].all fun u => !Tryz.prog.wantsStandIn u) = true := by kernel_rfl
        exact (show Tryz.prog.wantsStandIn t = false by simpa using List.all_eq_true.1 hall t hm)⟩)
    n2
#print axioms holds
end Go.Proofs.YtlpolbeikangpaaGreatDoor.ShortestTexts
