/-
  ShortestDigitsB
-/
import Derived.Test.YtlpolbeikangpaaGreatDoorDX11
import Derived.Test.YtlpolbeikangpaaGreatDoorRows
import Derived.Test.YtlpolbeikangpaaGreatDoorTie
import Derived.Test.YtlpolbeikangpaaGreatDoorCards
import Derived.WalkKit
import Derived.ChangeMaps5
import Derived.SevenTiedAt
set_option linter.unusedSimpArgs false
set_option linter.unusedVariables false
set_option maxRecDepth 100000
namespace Go.Proofs.YtlpolbeikangpaaGreatDoor.ShortestDigits
open Go.ChangeShapes Go.WideShapes Go.ChangeAt Go.RowKit
theorem j1:(Rows.shortestDigitsRow.inPlace == Tryz.pinned.checked.prog.inPlace 5)=true:=by kernel_rfl
theorem j2:(Rows.shortestDigitsRow.unfollowed == Tryz.pinned.checked.prog.unfollowed 5)=true:=by kernel_rfl
theorem j3:(Rows.shortestDigitsRow.recurses == Tryz.pinned.checked.prog.recurses 5)=true:=by kernel_rfl
theorem j4:(Rows.shortestDigitsRow.named == Tryz.pinned.checked.prog.varsNamed 5)=true:=by kernel_rfl
theorem j5:namedTie Tryz.pinned.checked.prog Rows.shortestDigitsRow.named Rows.shortestDigitsSpec.vars=true:=by kernel_rfl
theorem j6:laidOutB Tryz.pinned.checked.prog=true:=by kernel_rfl
theorem j7:(Rows.shortestDigitsRow.plainKeys == Tryz.pinned.checked.prog.plainKeys)=true:=by kernel_rfl
theorem jj:joinedFacts Tryz.pinned.checked.prog 5 Tryz.f5 Rows.shortestDigitsSpec Rows.shortestDigitsRow=true:=by
 unfold joinedFacts
 rw [j1,j2,j3,j4,j5,j6,j7]
 kernel_rfl
theorem over:Rows.shortestDigitsRow.holds Tryz.pinned (OpenSpec.ofChange Rows.shortestDigitsSpec) :=
 OpenClaim.holds_of_wide 5 Tryz.f5 rfl rfl rfl rfl rfl rfl rfl ⟨rfl,rfl,rfl,rfl,rfl⟩ rfl rfl rfl rfl rfl (by kernel_rfl) Tryz.func5 jj
  (of_decide_eq_true (by kernel_rfl)) (by unfold Func.isWrapper;first | (rw [if_pos (by decide +kernel)];kernel_rfl) | (rw [if_neg (by decide +kernel)];exact ⟨rfl,rfl⟩))
  (fun os started H enc _=>lifted os started H enc)
end Go.Proofs.YtlpolbeikangpaaGreatDoor.ShortestDigits
