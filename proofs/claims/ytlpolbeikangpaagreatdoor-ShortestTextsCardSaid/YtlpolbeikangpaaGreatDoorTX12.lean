/-
  ShortestTextsB
-/
import Derived.Test.YtlpolbeikangpaaGreatDoorTX11
import Derived.Test.YtlpolbeikangpaaGreatDoorRows
import Derived.Test.YtlpolbeikangpaaGreatDoorTie
import Derived.Test.YtlpolbeikangpaaGreatDoorCards
import Derived.WalkKit
import Derived.ChangeMaps5
import Derived.SevenTiedAt
set_option linter.unusedSimpArgs false
set_option linter.unusedVariables false
set_option maxRecDepth 100000
namespace Go.Proofs.YtlpolbeikangpaaGreatDoor.ShortestTexts
open Go.ChangeShapes Go.WideShapes Go.ChangeAt Go.RowKit
theorem j1:(Rows.shortestTextsRow.inPlace == Tryz.pinned.checked.prog.inPlace 3)=true:=by kernel_rfl
theorem j2:(Rows.shortestTextsRow.unfollowed == Tryz.pinned.checked.prog.unfollowed 3)=true:=by kernel_rfl
theorem j3:(Rows.shortestTextsRow.recurses == Tryz.pinned.checked.prog.recurses 3)=true:=by kernel_rfl
theorem j4:(Rows.shortestTextsRow.named == Tryz.pinned.checked.prog.varsNamed 3)=true:=by kernel_rfl
theorem j5:namedTie Tryz.pinned.checked.prog Rows.shortestTextsRow.named Rows.shortestTextsSpec.vars=true:=by kernel_rfl
theorem j6:laidOutB Tryz.pinned.checked.prog=true:=by kernel_rfl
theorem j7:(Rows.shortestTextsRow.plainKeys == Tryz.pinned.checked.prog.plainKeys)=true:=by kernel_rfl
theorem jj:joinedFacts Tryz.pinned.checked.prog 3 Tryz.f3 Rows.shortestTextsSpec Rows.shortestTextsRow=true:=by
 unfold joinedFacts
 rw [j1,j2,j3,j4,j5,j6,j7]
 kernel_rfl
theorem over:Rows.shortestTextsRow.holds Tryz.pinned (OpenSpec.ofChange Rows.shortestTextsSpec) :=
 OpenClaim.holds_of_wide 3 Tryz.f3 rfl rfl rfl rfl rfl rfl rfl ⟨rfl,rfl,rfl,rfl,rfl⟩ rfl rfl rfl rfl rfl (by kernel_rfl) Tryz.func3 jj
  (of_decide_eq_true (by kernel_rfl)) (by unfold Func.isWrapper;first|(rw [if_pos (by decide +kernel)];kernel_rfl)|(rw [if_neg (by decide +kernel)];exact ⟨rfl,rfl⟩))
  (fun os started H enc _=>lifted os started H enc)
end Go.Proofs.YtlpolbeikangpaaGreatDoor.ShortestTexts
