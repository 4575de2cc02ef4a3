/-
  Of
-/
import Derived.Test.YtjmclobbfabnpaaGreatH6
set_option linter.unusedSimpArgs false
set_option linter.unusedVariables false
/-
  One of awake's calls.
-/
namespace Go.Proofs.YtjmclobbfabnpaaGreat.L
open Go Go.RowKit Go.Proofs
theorem c_nmul : FnOk Tryz.prog 30 [.v (words x5), .v (words x5)] [.v true (words sq5)] :=
  runF_ok (Px := px) rfl mixed extB_ok (fuel := 100000) 1000 _ _ _ (by kernel_rfl)
end Go.Proofs.YtjmclobbfabnpaaGreat.L
