/-
  Ea Eb
-/
import Derived.Test.YtobacemgcjnahaaGreatDoorH6
set_option linter.unusedSimpArgs false
set_option linter.unusedVariables false
/-
  What the evaluator takes from contracts proved by hand.
-/
namespace Go.Proofs.YtobacemgcjnahaaGreatDoor.L
open Go Go.RowKit Go.Proofs

instance (s : ByteArray) (base : Nat) : Decidable (okDig s base) := inferInstanceAs (Decidable (∀ i, i < s.size → _))

def extA (f : FuncId) (l : List Arg) : Option (List R) :=
  match f, l with
  | 31, [.v (.str s), .v (.bool b)] => if s.size < 1000000 then some (longR (longM s b)) else none
  | 77, [.v (.str s), .v (.int .u64 (.ofNat base))] => if s.size ≤ 1000 ∧ base ≤ 16 ∧ 2 ≤ base ∧ okDig s base then some [.v true (words (digs (fbN s base s.size)))] else none
  | 91, [.v (.int .u64 x), .v (.int .u64 y), .v (.int .u64 c)] => if 0 ≤ x ∧ 0 ≤ y ∧ 0 ≤ c ∧ c ≤ 1 then some [.v true (.int .u64 ((x + y + c) % 18446744073709551616)), .v true (.int .u64 ((x + y + c) / 18446744073709551616))] else none
  | 177, [.v (.int .u64 x), .v (.int .u64 y), .v (.int .u64 c)] => if 0 ≤ x ∧ x < 18446744073709551616 ∧ 0 ≤ y ∧ y < 18446744073709551616 ∧ 0 ≤ c ∧ c ≤ 1 then some [.v true (.int .u64 ((x - y - c) % 18446744073709551616)), .v true (.int .u64 (if x < y + c then 1 else 0))] else none
  | _, _ => none
theorem extA_ok (f : FuncId) (l : List Arg) (rs : List R) (h : extA f l = some rs) : FnOk Tryz.prog f l rs := by
  unfold extA at h
  split at h
  · split at h
    · next hs => cases h; exact longest_ok _ _ hs
    · cases h
  · split at h
    · next hs => cases h; exact fromBase_ok _ _ hs.1 hs.2.1 hs.2.2.1 hs.2.2.2
    · cases h
  · split at h
    · next hs => cases h; exact add64_ok _ _ _ hs.1 hs.2.1 hs.2.2.1 hs.2.2.2
    · cases h
  · split at h
    · next hs => cases h; exact sub64_ok _ _ _ hs.1 hs.2.1 hs.2.2.1 hs.2.2.2.1 hs.2.2.2.2.1 hs.2.2.2.2.2
    · cases h
  · cases h
/-
  awake is true.
-/
theorem awake_ok : FnOk Tryz.prog 8 [] [.v true (.bool true)] :=
  runF_ok (Px := px) (T := TT) rfl mixed extA_ok (fuel := 100000) 1000 _ _ _ (by kernel_rfl)
end Go.Proofs.YtobacemgcjnahaaGreatDoor.L
