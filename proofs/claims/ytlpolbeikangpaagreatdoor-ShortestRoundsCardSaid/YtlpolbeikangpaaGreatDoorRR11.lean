/-
  ShortestRoundsB
-/
import Derived.Test.YtlpolbeikangpaaGreatDoorRR10
import Derived.Test.YtlpolbeikangpaaGreatDoorRows
import Derived.Test.YtlpolbeikangpaaGreatDoorTie
import Derived.Test.YtlpolbeikangpaaGreatDoorCards
import Derived.WalkKit
import Derived.ChangeMaps5
import Derived.SevenTiedAt
set_option linter.unusedSimpArgs false
set_option linter.unusedVariables false
set_option maxRecDepth 100000
namespace Go.Proofs.YtlpolbeikangpaaGreatDoor.ShortestRounds
open Go.ChangeShapes Go.WideShapes Go.ChangeAt Go.RowKit
theorem j1 : (Rows.shortestRoundsRow.inPlace == Tryz.pinned.checked.prog.inPlace 6) = true := by kernel_rfl
theorem j2 : (Rows.shortestRoundsRow.unfollowed == Tryz.pinned.checked.prog.unfollowed 6) = true := by kernel_rfl
theorem j3 : (Rows.shortestRoundsRow.recurses == Tryz.pinned.checked.prog.recurses 6) = true := by kernel_rfl
theorem j4 : (Rows.shortestRoundsRow.named == Tryz.pinned.checked.prog.varsNamed 6) = true := by kernel_rfl
theorem j5 : namedTie Tryz.pinned.checked.prog Rows.shortestRoundsRow.named Rows.shortestRoundsSpec.vars = true := by kernel_rfl
theorem j6 : laidOutB Tryz.pinned.checked.prog = true := by kernel_rfl
theorem j7 : (Rows.shortestRoundsRow.plainKeys == Tryz.pinned.checked.prog.plainKeys) = true := by kernel_rfl
theorem jj : joinedFacts Tryz.pinned.checked.prog 6 Tryz.f6 Rows.shortestRoundsSpec Rows.shortestRoundsRow = true := by
 unfold joinedFacts
 rw [j1, j2, j3, j4, j5, j6, j7]
 kernel_rfl
theorem over : Rows.shortestRoundsRow.holds Tryz.pinned (OpenSpec.ofChange Rows.shortestRoundsSpec) :=
 OpenClaim.holds_of_wide 6 Tryz.f6 rfl rfl rfl rfl rfl rfl rfl ⟨rfl, rfl, rfl, rfl, rfl⟩ rfl rfl rfl rfl rfl (by kernel_rfl) Tryz.func6 jj
  (of_decide_eq_true (by kernel_rfl)) (by unfold Func.isWrapper; first | (rw [if_pos (by decide +kernel)]; kernel_rfl) | (rw [if_neg (by decide +kernel)]; exact ⟨rfl, rfl⟩))
  (fun os started H enc _ => lifted os started H enc)
end Go.Proofs.YtlpolbeikangpaaGreatDoor.ShortestRounds
