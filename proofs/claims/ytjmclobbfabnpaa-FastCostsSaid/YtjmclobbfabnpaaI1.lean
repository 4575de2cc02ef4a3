/-
  The law FastCosts.
-/
import Derived.Test.YtjmclobbfabnpaaH9
set_option linter.unusedSimpArgs false
set_option linter.unusedVariables false
namespace Go.Proofs.Ytjmclobbfabnpaa.L
open Go Go.RowKit Go.Proofs

theorem pow2_of : ∀ n : Nat, 0 < n → n &&& (n - 1) = 0 → ∃ k, n = 2 ^ k := by
  intro n
  induction n using Nat.strongRecOn with
  | _ n ih =>
    intro h0 h
    by_cases h1 : n = 1
    · exact ⟨0, h1⟩
    · have hd : n / 2 &&& (n - 1) / 2 = 0 := by rw [← Nat.and_div_two, h]
      rcases Nat.mod_two_eq_zero_or_one n with hm | hm
      · obtain ⟨k, hk⟩ := ih (n / 2) (by omega) (by omega) (by rw [show n / 2 - 1 = (n - 1) / 2 from by omega]; exact hd)
        exact ⟨k + 1, by rw [Nat.pow_succ]; omega⟩
      · rw [show (n - 1) / 2 = n / 2 from by omega, Nat.and_self] at hd
        omega

theorem andI (a b : Nat) (ha : a < 9223372036854775808) (hb : b < 9223372036854775808) : bitI .and .i64 (a : Int) (b : Int) = ((a &&& b : Nat) : Int) := by
  have hx : a &&& b < 2 ^ 63 := Nat.and_lt_two_pow _ (by omega)
  have h1 : (BitVec.ofInt 64 (a : Int)).toNat = a := by
    rw [BitVec.ofInt_natCast, BitVec.toNat_ofNat]; exact Nat.mod_eq_of_lt (by omega)
  have h2 : (BitVec.ofInt 64 (b : Int)).toNat = b := by
    rw [BitVec.ofInt_natCast, BitVec.toNat_ofNat]; exact Nat.mod_eq_of_lt (by omega)
  show IntKind.i64.wrap ((BitVec.ofInt 64 (a : Int) &&& BitVec.ofInt 64 (b : Int)).toNat : Int) = _
  rw [BitVec.toNat_and, h1, h2]
  exact wrap_i64 (by omega) (by omega)

/-- Bits that no way takes. -/
def badB (b : Int) : Prop := b < 64 ∨ 1048576 < b ∨ bitI .and .i64 b (b - 1) ≠ 0
theorem goodB {b : Int} (h : ¬ badB b) : ∃ k : Nat, k < 15 ∧ b = 64 * 2 ^ k := by
  unfold badB at h
  have h1 : 64 ≤ b ∧ b ≤ 1048576 ∧ bitI .and .i64 b (b - 1) = 0 := ⟨by omega, by omega, Classical.byContradiction fun hc => h (.inr (.inr hc))⟩
  obtain ⟨h1, h2, h3⟩ := h1
  obtain ⟨n, rfl⟩ : ∃ n : Nat, b = n := ⟨b.toNat, by omega⟩
  rw [show (n : Int) - 1 = ((n - 1 : Nat) : Int) from by omega, andI n (n - 1) (by omega) (by omega)] at h3
  obtain ⟨k, hk⟩ := pow2_of n (by omega) (by omega)
  have h6 : ¬ k < 6 := fun hlt => by
    have : 2 ^ k ≤ 2 ^ 5 := Nat.pow_le_pow_right (by omega) (by omega)
    omega
  have h20 : ¬ 20 < k := fun hlt => by
    have : 2 ^ 21 ≤ 2 ^ k := Nat.pow_le_pow_right (by omega) (by omega)
    omega
  refine ⟨k - 6, by omega, ?_⟩
  have e : n = 64 * 2 ^ (k - 6) := by rw [hk, show k = 6 + (k - 6) from by omega, Nat.pow_add, show 6 + (k - 6) - 6 = k - 6 from by omega]
  rw [e, Int.natCast_mul, Int.natCast_pow]
  rfl

/-- What each way costs, by both. -/
noncomputable def costOk (k : Nat) : Bool :=
  match runF Try.prog TT extC 100000 1000 17 [.v (.int .i64 (64 * 2 ^ k))] with
  | some [.v true (.int .i64 a), .v true (.int .i64 b), .v true (.int .i64 c), .v true (.int .i64 e)] => (match runF Try.prog TT extC 100000 1000 18 [.v (.int .i64 (2 ^ k))] with
    | some [.v true (.int .i64 a'), .v true (.int .i64 b'), .v true (.int .i64 c')] => decide (a = a') && decide (b = b') && decide (c = c') && decide (e = 0)
    | _ => false)
  | _ => false
theorem costsOk : ((List.range 15).all costOk) = true := by kernel_rfl
theorem costs {k : Nat} (hk : k < 15) : ∃ a b c, FnOk Try.prog 17 [.v (.int .i64 (64 * 2 ^ k))] [.v true (.int .i64 a), .v true (.int .i64 b), .v true (.int .i64 c), .v true (.int .i64 0)] ∧ FnOk Try.prog 18 [.v (.int .i64 (2 ^ k))] [.v true (.int .i64 a), .v true (.int .i64 b), .v true (.int .i64 c)] := by
  have h := List.all_eq_true.1 costsOk k (List.mem_range.2 hk)
  unfold costOk at h
  split at h
  · next a b c e h1 =>
    split at h
    · next a' b' c' h2 =>
      simp only [Bool.and_eq_true, decide_eq_true_eq] at h
      obtain ⟨⟨⟨rfl, rfl⟩, rfl⟩, rfl⟩ := h
      exact ⟨a, b, c, runF_ok (Px := px) rfl mixed extC_ok 1000 _ _ _ h1, runF_ok (Px := px) rfl mixed extC_ok 1000 _ _ _ h2⟩
    · cases h
  · cases h
noncomputable def lastOk : Bool := match runF Try.prog TT extC 100000 1000 17 [.v (.int .i64 1048576)] with
  | some [.v true (.int .i64 a), .v true (.int .i64 b), .v true (.int .i64 c), .v true (.int .i64 e)] => decide (e = 0) && decide (40 * b < a) && decide (c < b) && decide (0 ≤ b) && decide (b < 100000000)
  | _ => false
theorem lastOk_ok : lastOk = true := by kernel_rfl
theorem last : ∃ a b c, FnOk Try.prog 17 [.v (.int .i64 1048576)] [.v true (.int .i64 a), .v true (.int .i64 b), .v true (.int .i64 c), .v true (.int .i64 0)] ∧ 40 * b < a ∧ c < b ∧ 0 ≤ b ∧ b < 100000000 := by
  have h := lastOk_ok
  unfold lastOk at h
  split at h
  · next a b c e h1 =>
    simp only [Bool.and_eq_true, decide_eq_true_eq] at h
    obtain ⟨⟨⟨⟨rfl, h2⟩, h3⟩, h4⟩, h5⟩ := h
    exact ⟨a, b, c, runF_ok (Px := px) rfl mixed extC_ok 1000 _ _ _ h1, h2, h3, h4, h5⟩
  · cases h
end Go.Proofs.Ytjmclobbfabnpaa.L
