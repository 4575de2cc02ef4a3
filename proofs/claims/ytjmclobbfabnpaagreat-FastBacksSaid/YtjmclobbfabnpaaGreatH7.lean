/-
  Oe
-/
import Derived.Test.YtjmclobbfabnpaaGreatH6
set_option linter.unusedSimpArgs false
set_option linter.unusedVariables false
/-
  Two of awake's calls.
-/
namespace Go.Proofs.YtjmclobbfabnpaaGreat.L
open Go Go.RowKit Go.Proofs
theorem c_toom : FnOk Tryz.prog 27 [.v (words x5), .v (words x5), .v (.int .i64 3)] [.v true (words sq5), .v true (.int .i64 0)] :=
  runF_ok (Px := px) rfl mixed extB_ok (fuel := 100000) 1000 _ _ _ (by kernel_rfl)
end Go.Proofs.YtjmclobbfabnpaaGreat.L
