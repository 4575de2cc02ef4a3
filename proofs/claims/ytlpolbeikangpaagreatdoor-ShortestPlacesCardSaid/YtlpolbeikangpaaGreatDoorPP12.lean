/-
  ShortestPlacesB
-/
import Derived.Test.YtlpolbeikangpaaGreatDoorPP11
import Derived.Test.YtlpolbeikangpaaGreatDoorRows
import Derived.Test.YtlpolbeikangpaaGreatDoorTie
import Derived.Test.YtlpolbeikangpaaGreatDoorCards
import Derived.WalkKit
import Derived.ChangeMaps5
import Derived.SevenTiedAt
set_option linter.unusedSimpArgs false
set_option linter.unusedVariables false
set_option maxRecDepth 100000
namespace Go.Proofs.YtlpolbeikangpaaGreatDoor.ShortestPlaces
open Go.ChangeShapes Go.WideShapes Go.ChangeAt Go.RowKit
theorem j1 : (Rows.shortestPlacesRow.inPlace == Tryz.pinned.checked.prog.inPlace 4) = true := by kernel_rfl
theorem j2 : (Rows.shortestPlacesRow.unfollowed == Tryz.pinned.checked.prog.unfollowed 4) = true := by kernel_rfl
theorem j3 : (Rows.shortestPlacesRow.recurses == Tryz.pinned.checked.prog.recurses 4) = true := by kernel_rfl
theorem j4 : (Rows.shortestPlacesRow.named == Tryz.pinned.checked.prog.varsNamed 4) = true := by kernel_rfl
theorem j5 : namedTie Tryz.pinned.checked.prog Rows.shortestPlacesRow.named Rows.shortestPlacesSpec.vars = true := by kernel_rfl
theorem j6 : laidOutB Tryz.pinned.checked.prog = true := by kernel_rfl
theorem j7 : (Rows.shortestPlacesRow.plainKeys == Tryz.pinned.checked.prog.plainKeys) = true := by kernel_rfl
theorem jj : joinedFacts Tryz.pinned.checked.prog 4 Tryz.f4 Rows.shortestPlacesSpec Rows.shortestPlacesRow = true := by
 unfold joinedFacts
 rw [j1, j2, j3, j4, j5, j6, j7]
 kernel_rfl
theorem over : Rows.shortestPlacesRow.holds Tryz.pinned (OpenSpec.ofChange Rows.shortestPlacesSpec) :=
 OpenClaim.holds_of_wide 4 Tryz.f4 rfl rfl rfl rfl rfl rfl rfl ⟨rfl, rfl, rfl, rfl, rfl⟩ rfl rfl rfl rfl rfl (by kernel_rfl) Tryz.func4 jj
  (of_decide_eq_true (by kernel_rfl)) (by unfold Func.isWrapper; first | (rw [if_pos (by decide +kernel)]; kernel_rfl) | (rw [if_neg (by decide +kernel)]; exact ⟨rfl, rfl⟩))
  (fun os started H enc _ => lifted os started H enc)
end Go.Proofs.YtlpolbeikangpaaGreatDoor.ShortestPlaces
