/-
  Pe
-/
import Derived.Test.YtjmclobbfabnpaaGreatJ3
set_option linter.unusedSimpArgs false
set_option linter.unusedVariables false
/-
  reckonerref02: Low, Right by whole words; reckonerref03.Split.
-/
namespace Go.Proofs.YtjmclobbfabnpaaGreat.L
open Go Go.RowKit Go.Proofs

theorem okW_drop {l : List Int} (h : okW l) (k : Nat) : okW (l.drop k) := fun n hn => h n (List.mem_of_mem_drop hn)
theorem noZ_drop : ∀ {l : List Int}, noZ l → ∀ k, noZ (l.drop k)
  | _, h, 0 => h
  | [], _, k + 1 => by simp [noZ]
  | x :: r, h, k + 1 => by rw [List.drop_succ_cons]; exact noZ_drop (noZ_cons h) k

def loA (k : Nat) : AV := if k = 0 then .nil else .own 300 0 k
def loB (x : List Int) (k : Nat) : List (Nat × Blk) := if k = 0 then [] else [(300, .buf 52 1 true ((x.take k).map fun n => .int .u64 n))]

theorem loA_s (k : Nat) : loA (k + 1) = .own 300 0 (k + 1) := if_neg (by omega)
theorem loB_s (x : List Int) (k : Nat) : loB x (k + 1) = [(300, .buf 52 1 true ((x.take (k + 1)).map fun n => .int .u64 n))] := if_neg (by omega)
def rsA (k : Nat) : AV := if k = 0 then .nil else .own 300 0 k
def rsB (x : List Int) (n k : Nat) : List (Nat × Blk) := if k = 0 then [] else [(300, .buf 24 1 true ((pcs x n k).map words))]

theorem rsA_s (k : Nat) : rsA (k + 1) = .own 300 0 (k + 1) := if_neg (by omega)
theorem rsB_s (x : List Int) (n k : Nat) : rsB x n (k + 1) = [(300, .buf 24 1 true ((pcs x n (k + 1)).map words))] := if_neg (by omega)
end Go.Proofs.YtjmclobbfabnpaaGreat.L
