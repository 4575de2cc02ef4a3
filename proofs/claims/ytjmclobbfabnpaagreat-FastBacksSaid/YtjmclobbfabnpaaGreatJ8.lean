/-
  Qd
-/
import Derived.Test.YtjmclobbfabnpaaGreatJ7
set_option linter.unusedSimpArgs false
set_option linter.unusedVariables false
/-
  The law FastLows: the walk.
-/
namespace Go.Proofs.YtjmclobbfabnpaaGreat.L
open Go Go.RowKit Go.Proofs

theorem prodL_len {X Y : List Int} (oX : okW X) (oY : okW Y) : (prodL X Y).length ≤ X.length + Y.length := by
  have a1 := trimL_len (trimL (mulO (trimL X) (trimL Y) (trimL Y).length))
  have a2 := trimL_len (mulO (trimL X) (trimL Y) (trimL Y).length)
  have a3 := (mulO_ok (trimL_ok oX) (trimL_ok oY) (trimL Y).length).2
  have a4 := trimL_len X
  have a5 := trimL_len Y
  rw [prodL]
  omega
end Go.Proofs.YtjmclobbfabnpaaGreat.L
