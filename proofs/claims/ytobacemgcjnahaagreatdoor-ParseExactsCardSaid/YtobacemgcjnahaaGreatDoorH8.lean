/-
  Bj Bk Bl
-/
import Derived.Test.YtobacemgcjnahaaGreatDoorH4
import Derived.Test.YtobacemgcjnahaaGreatDoorH6
set_option linter.unusedSimpArgs false
set_option linter.unusedVariables false
/-
  The plain law: the longest number text against the reference's reading, digits.
-/
namespace Go.Proofs.YtobacemgcjnahaaGreatDoor.L
open Go Go.RowKit

/-- l holds the first k bytes of t, as small letters. -/
structure Pre (t l : ByteArray) (k : Nat) : Prop where
  size : l.size = k
  le : k ≤ t.size
  byte : ∀ i, i < k → bAt l i = nxB t i

theorem bAt_mk {xs : List UInt8} {i : Nat} : bAt ⟨xs.toArray⟩ i = match xs[i]? with | some b => b.toNat | none => 0 := by
  unfold bAt
  have : (⟨xs.toArray⟩ : ByteArray)[i]? = xs[i]? := by
    by_cases h : i < xs.length
    · rw [getElem?_pos (⟨xs.toArray⟩ : ByteArray) i (by show i < xs.toArray.size; simpa using h), getElem?_pos xs i h]
      rfl
    · rw [getElem?_neg (⟨xs.toArray⟩ : ByteArray) i (by show ¬ i < xs.toArray.size; simpa using h), getElem?_neg xs i h]
  rw [this]
  cases xs[i]? <;> rfl

theorem bAt_lowS {s : ByteArray} {i : Nat} (h : i < s.size) : bAt (lowS s) i = nxB s i := by
  unfold lowS
  rw [bAt_mk, List.getElem?_map, lwL, List.getElem?_map, List.getElem?_range h]
  simp only [Option.map_some]
  have := nxB_lt s i
  unfold nxB at this ⊢
  rw [UInt8.toNat_ofNat']
  omega

theorem bAt_take {t : ByteArray} {k i : Nat} (hk : k ≤ t.size) (hi : i < k) : bAt (t.extract 0 k) i = bAt t i := by
  unfold bAt
  have h1 : i < (t.extract 0 k).size := by simp; omega
  rw [getElem?_pos (t.extract 0 k) i h1, getElem?_pos t i (by omega), ByteArray.getElem_extract]
  simp

theorem pre_low {t : ByteArray} {k : Nat} (hk : k ≤ t.size) : Pre t (lowS (t.extract 0 k)) k where
  size := by rw [lowS_size]; simp; omega
  le := hk
  byte := fun i hi => by
    rw [bAt_lowS (by simp; omega)]
    unfold nxB
    rw [bAt_take hk hi]
theorem pre_self {t : ByteArray} : Pre t (lowS t) t.size where
  size := lowS_size t
  le := Nat.le_refl _
  byte := fun i hi => bAt_lowS hi

/-- Digits with a point, from a place on. -/
def dgZ (t : ByteArray) (hex : Bool) : Nat → Nat → Bool → Nat × List UInt8 × Nat
  | 0, i, _ => (i, [], 0)
  | f + 1, i, pt => if dgN (nxB t i) hex = true then ((dgZ t hex f (i + 1) pt).1, UInt8.ofNat (nxB t i) :: (dgZ t hex f (i + 1) pt).2.1, b2n pt + (dgZ t hex f (i + 1) pt).2.2) else
    if dotN (nxB t i) pt = true then dgZ t hex f (i + 1) true else (i, [], 0)
theorem dgL_eq (t : ByteArray) (hex : Bool) : ∀ (f i : Nat) (pt : Bool) (l : List UInt8) (b : Nat), dgL t hex f i pt l b = ((dgZ t hex f i pt).1, l ++ (dgZ t hex f i pt).2.1, b + (dgZ t hex f i pt).2.2)
  | 0, i, pt, l, b => by simp [dgL, dgZ]
  | f + 1, i, pt, l, b => by
    rw [dgL, dgZ]
    split
    · rw [dgL_eq t hex f (i + 1) pt]
      simp [Nat.add_assoc]
    · split
      · rw [dgL_eq t hex f (i + 1) true]
      · simp
theorem dgR_eq (t : ByteArray) (i : Nat) (hex : Bool) : dgR t i hex = dgZ t hex (t.size + 1 - i) i false := by
  unfold dgR
  rw [dgL_eq]
  simp

theorem dgZ_ge (t : ByteArray) (hex : Bool) : ∀ (f i : Nat) (pt : Bool), i ≤ (dgZ t hex f i pt).1
  | 0, i, pt => Nat.le_refl _
  | f + 1, i, pt => by
    rw [dgZ]
    split
    · have := dgZ_ge t hex f (i + 1) pt; simp only; omega
    · split
      · have := dgZ_ge t hex f (i + 1) true; omega
      · exact Nat.le_refl _

/-- The number that digits make, behind n. -/
def vL (base : Nat) : Nat → List UInt8 → Nat
  | n, [] => n
  | n, d :: r => vL base (n * base + dvN d.toNat) r

def bases (hex : Bool) : Nat := if hex = true then 16 else 10

theorem nxB_low (t : ByteArray) (i : Nat) : ¬ (65 ≤ nxB t i ∧ nxB t i ≤ 90) := by
  unfold nxB lowN
  split <;> omega
theorem dg_iff {c : Nat} {hex : Bool} : dgN c hex = true ↔ 0 ≤ dgI c (bases hex) := by
  cases hex
  · simp only [dgN, bases, Bool.false_and, Bool.or_false, decide_eq_true_eq, Bool.false_eq_true, if_false]
    unfold dgI dgRaw
    repeat' split
    all_goals (constructor <;> intro h)
    all_goals omega
  · simp only [dgN, bases, Bool.true_and, Bool.or_eq_true, decide_eq_true_eq, if_true]
    unfold dgI dgRaw
    repeat' split
    all_goals (constructor <;> intro h)
    all_goals omega
theorem dg_val {c : Nat} {hex : Bool} (h : dgN c hex = true) : (dgI c (bases hex)).toNat = dvN c := by
  cases hex
  · simp only [dgN, Bool.false_and, Bool.or_false, decide_eq_true_eq] at h
    rw [show bases false = 10 from rfl]
    unfold dgI dgRaw dvN
    repeat' split
    all_goals omega
  · simp only [dgN, Bool.true_and, Bool.or_eq_true, decide_eq_true_eq] at h
    rw [show bases true = 16 from rfl]
    unfold dgI dgRaw dvN
    repeat' split
    all_goals omega
theorem dot_not {c : Nat} {hex pt : Bool} (h : dgN c hex = true) : dotN c pt = false := by
  unfold dotN
  rw [decide_eq_false, Bool.false_and]
  rintro rfl
  cases hex <;> simp [dgN] at h
theorem nx_nat (t : ByteArray) (i : Nat) : (UInt8.ofNat (nxB t i)).toNat = nxB t i := by
  rw [UInt8.toNat_ofNat']; have := nxB_lt t i; omega

/-- All of the digits lie within. -/
theorem mn_full {t l : ByteArray} {k : Nat} (hp : Pre t l k) (hex : Bool) : ∀ (f i : Nat) (pt : Bool) (n m b : Nat), i ≤ k → f = t.size + 1 - i → (dgZ t hex f i pt).1 ≤ k →
    mnL l (bases hex) (k - i) i pt n m b = ((dgZ t hex f i pt).1, vL (bases hex) n (dgZ t hex f i pt).2.1, m + (dgZ t hex f i pt).2.1.length, b + (dgZ t hex f i pt).2.2)
  | 0, i, pt, n, m, b, hi, hf, _ => by have := hp.le; omega
  | f + 1, i, pt, n, m, b, hi, hf, he => by
    have hle := hp.le
    by_cases hik : i = k
    · rw [hik, Nat.sub_self, mnL]
      rw [dgZ] at he ⊢
      by_cases hd : dgN (nxB t i) hex = true
      · rw [if_pos hd] at he
        have := dgZ_ge t hex f (i + 1) pt
        simp only at he
        omega
      · rw [if_neg hd] at he
        by_cases hq : dotN (nxB t i) pt = true
        · rw [if_pos hq] at he
          have := dgZ_ge t hex f (i + 1) true
          omega
        · rw [← hik, if_neg hd, if_neg hq]
          simp [vL]
    · have hlt : i < k := by omega
      rw [show k - i = (k - (i + 1)) + 1 from by omega, mnL, hp.byte i hlt]
      rw [dgZ] at he ⊢
      by_cases hd : dgN (nxB t i) hex = true
      · rw [if_pos hd] at he ⊢
        simp only at he ⊢
        rw [dot_not hd, if_neg (by simp), if_pos (dg_iff.1 hd), dg_val hd, mn_full hp hex f (i + 1) pt _ _ _ (by omega) (by omega) he, vL, nx_nat]
        simp only [List.length_cons, Prod.mk.injEq, true_and]
        omega
      · rw [if_neg hd] at he ⊢
        by_cases hq : dotN (nxB t i) pt = true
        · rw [if_pos hq] at he ⊢
          rw [if_pos hq, mn_full hp hex f (i + 1) true _ _ _ (by omega) (by omega) he]
        · rw [if_neg hq, if_neg hq, if_neg (fun h => hd (dg_iff.2 h))]
          simp [vL]
/-- They go on behind. -/
theorem mn_cut {t l : ByteArray} {k : Nat} (hp : Pre t l k) (hex : Bool) : ∀ (f i : Nat) (pt : Bool) (n m b : Nat), i ≤ k → f = t.size + 1 - i → k < (dgZ t hex f i pt).1 → (mnL l (bases hex) (k - i) i pt n m b).1 = k
  | 0, i, pt, n, m, b, hi, hf, _ => by have := hp.le; omega
  | f + 1, i, pt, n, m, b, hi, hf, he => by
    have hle := hp.le
    by_cases hik : i = k
    · rw [hik, Nat.sub_self, mnL]
    · have hlt : i < k := by omega
      rw [show k - i = (k - (i + 1)) + 1 from by omega, mnL, hp.byte i hlt]
      rw [dgZ] at he
      by_cases hd : dgN (nxB t i) hex = true
      · rw [if_pos hd] at he
        rw [dot_not hd, if_neg (by simp), if_pos (dg_iff.1 hd)]
        exact mn_cut hp hex f (i + 1) pt _ _ _ (by omega) (by omega) he
      · rw [if_neg hd] at he
        by_cases hq : dotN (nxB t i) pt = true
        · rw [if_pos hq] at he ⊢
          exact mn_cut hp hex f (i + 1) true _ _ _ (by omega) (by omega) he
        · rw [if_neg hq] at he
          simp only at he
          omega
/-- There are none. -/
theorem mn_none {t l : ByteArray} {k : Nat} (hp : Pre t l k) (hex : Bool) : ∀ (f i : Nat) (pt : Bool) (n m b : Nat), i ≤ k → f = t.size + 1 - i → (dgZ t hex f i pt).2.1 = [] → (mnL l (bases hex) (k - i) i pt n m b).2.2.1 = m
  | 0, i, pt, n, m, b, hi, hf, _ => by have := hp.le; omega
  | f + 1, i, pt, n, m, b, hi, hf, he => by
    have hle := hp.le
    by_cases hik : i = k
    · rw [hik, Nat.sub_self, mnL]
    · have hlt : i < k := by omega
      rw [show k - i = (k - (i + 1)) + 1 from by omega, mnL, hp.byte i hlt]
      rw [dgZ] at he
      by_cases hd : dgN (nxB t i) hex = true
      · rw [if_pos hd] at he
        cases he
      · rw [if_neg hd] at he
        by_cases hq : dotN (nxB t i) pt = true
        · rw [if_pos hq] at he ⊢
          exact mn_none hp hex f (i + 1) true _ _ _ (by omega) (by omega) he
        · rw [if_neg hq, if_neg (fun h => hd (dg_iff.2 h))]

/-! ### Exponents -/
theorem exp_ge (t : ByteArray) : ∀ (f j n : Nat), j ≤ (expL t f j n).1
  | 0, j, n => Nat.le_refl _
  | f + 1, j, n => by
    rw [expL]
    split
    · have := exp_ge t f (j + 1) (min 1099511627776 (10 * n + (nxB t j - 48))); omega
    · exact Nat.le_refl _
theorem dgF_iff {c : Nat} : dgN c false = true ↔ ¬ dgI c 10 < 0 := by
  have := @dg_iff c false
  rw [this]
  unfold bases
  simp

/-- Digits up to the end. -/
theorem rx_some {t l : ByteArray} {k : Nat} (hp : Pre t l k) : ∀ (f j n n' : Nat) (g : Bool), j ≤ k → f = t.size + 1 - j → (expL t f j n).1 = k → n' = min n 100000000 → n ≤ 1099511627776 →
    ∃ g', rxL l (k - j) j n' g = some (min (expL t f j n).2 100000000, g')
  | 0, j, n, n', g, hj, hf, _, _, _ => by have := hp.le; omega
  | f + 1, j, n, n', g, hj, hf, he, hn, hn2 => by
    have hle := hp.le
    rw [expL] at he ⊢
    by_cases hd : dgN (nxB t j) false = true
    · rw [if_pos hd] at he ⊢
      have h1 := exp_ge t f (j + 1) (min 1099511627776 (10 * n + (nxB t j - 48)))
      have hlt : j < k := by omega
      have hdd := dg_dec hd
      have hv : (dgI (nxB t j) 10).toNat = nxB t j - 48 := by
        have := dg_val (hex := false) hd
        rw [show bases false = 10 from rfl] at this
        rw [this]; unfold dvN; rw [if_neg (by omega), if_neg (by omega)]
      rw [show k - j = (k - (j + 1)) + 1 from by omega, rxL, hp.byte j hlt, if_neg (dgF_iff.1 hd), hv]
      obtain ⟨d, hde⟩ : ∃ d, d = nxB t j - 48 := ⟨_, rfl⟩
      rw [← hde] at he ⊢
      split
      · exact rx_some hp f (j + 1) _ _ _ (by omega) (by omega) he (by omega) (by omega)
      · exact rx_some hp f (j + 1) _ _ _ (by omega) (by omega) he (by omega) (by omega)
    · rw [if_neg hd] at he ⊢
      simp only at he
      subst he
      rw [Nat.sub_self, rxL, hn]
      exact ⟨g, rfl⟩
/-- Something else stands there. -/
theorem rx_none {t l : ByteArray} {k : Nat} (hp : Pre t l k) : ∀ (f j n n' : Nat) (g : Bool), j ≤ k → f = t.size + 1 - j → (expL t f j n).1 < k → rxL l (k - j) j n' g = none
  | 0, j, n, n', g, hj, hf, _ => by have := hp.le; omega
  | f + 1, j, n, n', g, hj, hf, he => by
    have hle := hp.le
    rw [expL] at he
    by_cases hd : dgN (nxB t j) false = true
    · rw [if_pos hd] at he
      have h1 := exp_ge t f (j + 1) (min 1099511627776 (10 * n + (nxB t j - 48)))
      rw [show k - j = (k - (j + 1)) + 1 from by omega, rxL, hp.byte j (by omega), if_neg (dgF_iff.1 hd)]
      split
      · exact rx_none hp f (j + 1) _ _ _ (by omega) (by omega) he
      · exact rx_none hp f (j + 1) _ _ _ (by omega) (by omega) he
    · rw [if_neg hd] at he
      simp only at he
      rw [show k - j = (k - (j + 1)) + 1 from by omega, rxL, hp.byte j he, if_pos (by have := mt dgF_iff.2 hd; omega)]
end Go.Proofs.YtobacemgcjnahaaGreatDoor.L
/-
  The plain law: the longest number text against the reference's reading.
-/
namespace Go.Proofs.YtobacemgcjnahaaGreatDoor.L
open Go Go.RowKit

def clampE (x : Int) : Int := if x < -100000000 then -100000000 else if 100000000 < x then 100000000 else x

theorem may_iff {s : ByteArray} {i c : Nat} (hc : c ≠ 0) : mayB s i c = true ↔ nxB s i = c := by
  unfold mayB
  rw [decide_eq_true_eq]
  exact ⟨fun h => h.1, fun h => ⟨h, hc⟩⟩
theorem sgn_iff {s : ByteArray} {i : Nat} : sgnB s i = true ↔ nxB s i = 43 ∨ nxB s i = 45 := by
  unfold sgnB
  rw [Bool.or_eq_true, may_iff (by decide), may_iff (by decide)]
  exact Or.comm

theorem rxJ_pre {t l : ByteArray} {k i : Nat} (hp : Pre t l k) (hi : i < k) : rxJ l i = i + b2n (sgnB t i) := by
  unfold rxJ
  rw [hp.size, hp.byte i hi]
  by_cases h : nxB t i = 43 ∨ nxB t i = 45
  · rw [if_pos ⟨hi, h⟩, sgn_iff.2 h]; rfl
  · rw [if_neg (fun h' => h h'.2), Bool.eq_false_iff.2 (fun h' => h (sgn_iff.1 h'))]; rfl
theorem rxN_pre {t l : ByteArray} {k i : Nat} (hp : Pre t l k) (hi : i < k) : rxN l i = mayB t i 45 := by
  unfold rxN
  rw [hp.size, hp.byte i hi]
  by_cases h : nxB t i = 45
  · rw [decide_eq_true ⟨hi, h⟩, (may_iff (by decide)).2 h]
  · rw [decide_eq_false (fun h' => h h'.2), Bool.eq_false_iff.2 (fun h' => h ((may_iff (by decide)).1 h'))]

theorem nx_end {t : ByteArray} {i : Nat} (h : t.size ≤ i) : nxB t i = 0 := by rw [nxB, bAt_end h]; rfl

theorem exp_start {t : ByteArray} {i c : Nat} (h : (expR t i c).2.2 = true) : mayB t i c = true ∧ dgN (nxB t (i + 1 + b2n (sgnB t (i + 1)))) false = true := by
  unfold expR at h
  split at h
  · next h1 =>
    split at h
    · next h2 => exact ⟨h1, h2⟩
    · cases h
  · cases h
theorem exp_is {t : ByteArray} {i c : Nat} (h1 : mayB t i c = true) (h2 : dgN (nxB t (i + 1 + b2n (sgnB t (i + 1)))) false = true) :
    expR t i c = ((expL t (t.size + 1 - (i + 1 + b2n (sgnB t (i + 1)))) (i + 1 + b2n (sgnB t (i + 1))) 0).1,
       (if mayB t (i + 1) 45 = true then -((expL t (t.size + 1 - (i + 1 + b2n (sgnB t (i + 1)))) (i + 1 + b2n (sgnB t (i + 1))) 0).2 : Int) else ((expL t (t.size + 1 - (i + 1 + b2n (sgnB t (i + 1)))) (i + 1 + b2n (sgnB t (i + 1))) 0).2 : Int)), true) := by
  unfold expR
  rw [if_pos h1, if_pos h2]

theorem expL_first {t : ByteArray} {j n : Nat} (hd : dgN (nxB t j) false = true) : j + 1 ≤ (expL t (t.size + 1 - j) j n).1 := by
  have hj := dg_in hd
  rw [show t.size + 1 - j = (t.size - j) + 1 from by omega, expL, if_pos hd]
  exact exp_ge t _ _ _

theorem exp_bounds {t : ByteArray} {i c : Nat} (h : (expR t i c).2.2 = true) : i + 1 < (expR t i c).1 ∧ (expR t i c).1 ≤ t.size := by
  obtain ⟨h1, h2⟩ := exp_start h
  rw [exp_is h1 h2]
  have h3 := expL_first (n := 0) h2
  have h4 := expL_bd t (t.size + 1 - (i + 1 + b2n (sgnB t (i + 1)))) (i + 1 + b2n (sgnB t (i + 1))) 0 (by decide)
  have h5 := dg_in h2
  exact ⟨by simp only; omega, h4.2 (by omega)⟩

/-- An exponent up to the end. -/
theorem exp_ok {t l : ByteArray} {i c : Nat} (h : (expR t i c).2.2 = true) (hp : Pre t l (expR t i c).1) : ∃ g, rxR l (i + 1) = (clampE (expR t i c).2.1, g, true) := by
  have hb := exp_bounds h
  obtain ⟨h1, h2⟩ := exp_start h
  have e := exp_is h1 h2
  have h3 := expL_first (n := 0) h2
  have h4 := expL_bd t (t.size + 1 - (i + 1 + b2n (sgnB t (i + 1)))) (i + 1 + b2n (sgnB t (i + 1))) 0 (by decide)
  have hi1 : i + 1 < (expR t i c).1 := hb.1
  unfold rxR
  rw [rxJ_pre hp hi1, rxN_pre hp hi1, hp.size]
  rw [e] at hp hi1 ⊢
  simp only at hp hi1 ⊢
  obtain ⟨j, hj⟩ : ∃ j, j = i + 1 + b2n (sgnB t (i + 1)) := ⟨_, rfl⟩
  rw [← hj] at hp hi1 h3 h4 ⊢
  rw [if_neg (by omega)]
  obtain ⟨g, hg⟩ := rx_some hp (t.size + 1 - j) j 0 0 false (by omega) rfl rfl rfl (by decide)
  rw [hg]
  refine ⟨g, ?_⟩
  simp only
  have hm := h4.1
  generalize (expL t (t.size + 1 - j) j 0).2 = m at *
  congr 1
  unfold clampE
  cases mayB t (i + 1) 45
  · simp only [Bool.false_eq_true, if_false]
    repeat' split
    all_goals omega
  · simp only [if_true]
    repeat' split
    all_goals omega
/-- More stands behind it. -/
theorem exp_far {t l : ByteArray} {i c k : Nat} (h : (expR t i c).2.2 = true) (hk : (expR t i c).1 < k) (hp : Pre t l k) : (rxR l (i + 1)).2.2 = false := by
  have hb := exp_bounds h
  obtain ⟨h1, h2⟩ := exp_start h
  have e := exp_is h1 h2
  have h3 := expL_first (n := 0) h2
  unfold rxR
  rw [rxJ_pre hp (by omega), hp.size]
  rw [e] at hk hb
  simp only at hk hb
  obtain ⟨j, hj⟩ : ∃ j, j = i + 1 + b2n (sgnB t (i + 1)) := ⟨_, rfl⟩
  rw [← hj] at hk hb h3 ⊢
  rw [if_neg (by omega), rx_none hp (t.size + 1 - j) j 0 0 false (by omega) rfl hk]
/-- There is none. -/
theorem exp_no {t l : ByteArray} {i c k : Nat} (hc : c ≠ 0) (h : (expR t i c).2.2 = false) (hk : i < k) (hl : nxB t i = c) (hp : Pre t l k) : (rxR l (i + 1)).2.2 = false := by
  have h1 := (may_iff (s := t) hc).2 hl
  have h2 : ¬ dgN (nxB t (i + 1 + b2n (sgnB t (i + 1)))) false = true := fun h2 => by rw [exp_is h1 h2] at h; cases h
  unfold rxR
  by_cases hi : i + 1 < k
  · rw [rxJ_pre hp hi, hp.size]
    obtain ⟨j, hj⟩ : ∃ j, j = i + 1 + b2n (sgnB t (i + 1)) := ⟨_, rfl⟩
    have hb : b2n (sgnB t (i + 1)) ≤ 1 := by cases sgnB t (i + 1) <;> decide
    rw [← hj] at h2 ⊢
    by_cases hjk : j = k
    · rw [if_pos hjk]
    · have := hp.le
      rw [if_neg hjk, rx_none hp (t.size + 1 - j) j 0 0 false (by omega) rfl (by
        rw [show t.size + 1 - j = (t.size - j) + 1 from by omega, expL, if_neg h2]; show j < k; omega)]
  · have : rxJ l (i + 1) = i + 1 := by
      unfold rxJ
      rw [hp.size, if_neg (fun h => hi h.1)]
    rw [this, hp.size, if_pos (by omega)]

/-! ### Words -/
theorem seB_iff {x w : ByteArray} : seB x w = true ↔ x.size = w.size ∧ ∀ j, j < w.size → bAt x j = bAt w j := by
  unfold seB
  rw [beq_iff_eq, ByteArray.toList_eq, ByteArray.toList_eq]
  constructor
  · intro h
    have h1 : x.data = w.data := by
      apply Array.toList_inj.1 h
    have h2 : x = w := by cases x; cases w; simpa using h1
    rw [h2]
    exact ⟨rfl, fun _ _ => rfl⟩
  · rintro ⟨h1, h2⟩
    apply List.ext_getElem
    · rw [Array.length_toList, Array.length_toList]; exact h1
    · intro i hi1 hi2
      have e1 : i < x.size := by rw [Array.length_toList] at hi1; exact hi1
      have e2 : i < w.size := by rw [Array.length_toList] at hi2; exact hi2
      have h3 := h2 i e2
      unfold bAt at h3
      rw [getElem?_pos x i e1, getElem?_pos w i e2] at h3
      simp only at h3
      exact UInt8.toNat_inj.1 h3

theorem bAt_mid {t : ByteArray} {a b j : Nat} (hb : b ≤ t.size) (hj : a + j < b) : bAt (t.extract a b) j = bAt t (a + j) := by
  unfold bAt
  have h1 : j < (t.extract a b).size := by simp; omega
  rw [getElem?_pos (t.extract a b) j h1, getElem?_pos t (a + j) (by omega), ByteArray.getElem_extract]

theorem wdB_iff {t w : ByteArray} {a : Nat} : wdB t a w = true ↔ a + w.size ≤ t.size ∧ ∀ j, j < w.size → nxB t (a + j) = bAt w j := by
  unfold wdB
  rw [Bool.and_eq_true, decide_eq_true_eq]
  constructor
  · rintro ⟨h1, h2⟩
    refine ⟨h1, fun j hj => ?_⟩
    have h3 := of_decide_eq_true h2 j (by simp; omega)
    rw [bAt_mid h1 (by omega)] at h3
    exact h3
  · rintro ⟨h1, h2⟩
    refine ⟨h1, decide_eq_true fun j hj => ?_⟩
    have hj' : j < w.size := by simp at hj; omega
    rw [bAt_mid h1 (by omega)]
    exact h2 j hj'

theorem tail_iff {t l w : ByteArray} {a k : Nat} (hp : Pre t l k) (ha : a ≤ k) : seB (l.extract a l.size) w = true ↔ k = a + w.size ∧ wdB t a w = true := by
  have hs := hp.size
  have hle := hp.le
  have hz : (l.extract a l.size).size = k - a := by simp [hs]
  rw [seB_iff, wdB_iff, hz]
  constructor
  · rintro ⟨h1, h2⟩
    refine ⟨by omega, by omega, fun j hj => ?_⟩
    have h3 := h2 j hj
    rw [bAt_mid (Nat.le_refl _) (by omega), hp.byte _ (by omega)] at h3
    exact h3
  · rintro ⟨h1, h2, h3⟩
    refine ⟨by omega, fun j hj => ?_⟩
    rw [bAt_mid (Nat.le_refl _) (by omega), hp.byte _ (by omega)]
    exact h3 j hj

theorem rHex_iff {t l : ByteArray} {a k : Nat} (hp : Pre t l k) : rHex l a = true ↔ a + 1 < k ∧ wdB t a w0x = true := by
  have hle := hp.le
  unfold rHex
  rw [decide_eq_true_eq, hp.size, wdB_iff]
  constructor
  · rintro ⟨h1, h2, h3⟩
    rw [hp.byte _ (by omega)] at h2
    rw [hp.byte _ (by omega)] at h3
    refine ⟨h1, by show a + 2 ≤ _; omega, fun j hj => ?_⟩
    have hj2 : j < 2 := hj
    rcases j with _ | _ | j
    · exact h2
    · exact h3
    · omega
  · rintro ⟨h1, h2, h3⟩
    refine ⟨h1, ?_, ?_⟩
    · rw [hp.byte _ (by omega)]; exact h3 0 (by decide)
    · rw [hp.byte _ (by omega)]; exact h3 1 (by decide)

/-! ### Numbers -/
theorem mnR_full {t l : ByteArray} {k i : Nat} (hp : Pre t l k) (hex : Bool) (hi : i ≤ k) (he : (dgR t i hex).1 ≤ k) :
    mnR l i (bases hex) = ((dgR t i hex).1, vL (bases hex) 0 (dgR t i hex).2.1, (dgR t i hex).2.1.length, (dgR t i hex).2.2) := by
  rw [dgR_eq] at he ⊢
  unfold mnR
  rw [hp.size, mn_full hp hex _ i false 0 0 0 hi rfl he]
  simp
theorem mnR_cut {t l : ByteArray} {k i : Nat} (hp : Pre t l k) (hex : Bool) (hi : i ≤ k) (he : k < (dgR t i hex).1) : (mnR l i (bases hex)).1 = k := by
  rw [dgR_eq] at he
  unfold mnR
  rw [hp.size, mn_cut hp hex _ i false 0 0 0 hi rfl he]
theorem mnR_none {t l : ByteArray} {k i : Nat} (hp : Pre t l k) (hex : Bool) (hi : i ≤ k) (he : (dgR t i hex).2.1 = []) : (mnR l i (bases hex)).2.2.1 = 0 := by
  rw [dgR_eq] at he
  unfold mnR
  rw [hp.size, mn_none hp hex _ i false 0 0 0 hi rfl he]

/-- A number's reading, told by its parts. -/
theorem rNum_eq (s : ByteArray) (a : Nat) (neg hex : Bool) (p2 base letter each kind : Nat) (h1 : p2 = if hex = true then a + 2 else a) (h2 : base = if hex = true then 16 else 10) (h3 : letter = if hex = true then 112 else 101)
    (h4 : each = if hex = true then 4 else 1) (h5 : kind = if hex = true then 2 else 1) : rNum s a neg hex =
    if (mnR s p2 base).2.2.1 = 0 then rZ else
    if (mnR s p2 base).1 < s.size ∧ bAt s (mnR s p2 base).1 = letter then
      if (rxR s ((mnR s p2 base).1 + 1)).2.2 = true then
        ⟨kind, neg, (mnR s p2 base).2.1, (rxR s ((mnR s p2 base).1 + 1)).1 - (each * (mnR s p2 base).2.2.2 : Nat), (rxR s ((mnR s p2 base).1 + 1)).2.1⟩ else rZ
    else if (mnR s p2 base).1 < s.size ∨ hex = true then rZ else ⟨1, neg, (mnR s p2 base).2.1, 0 - ((mnR s p2 base).2.2.2 : Nat), false⟩ := by
  unfold rNum
  rw [← h1, ← h2, ← h3, ← h4, ← h5]
  cases hex
  · simp only [Bool.false_eq_true, if_false] at h1 h2
    rw [h1, h2]
  · by_cases h0 : (mnR s p2 base).2.2.1 = 0
    · rw [if_pos h0, if_pos h0]
    · rw [if_neg h0, if_neg h0]
      by_cases h : (mnR s p2 base).1 < s.size ∧ bAt s (mnR s p2 base).1 = letter
      · rw [if_pos h, if_pos h]
      · rw [if_neg h, if_neg h, if_pos (.inr rfl), if_pos (.inr rfl)]

theorem num_none {t l : ByteArray} {k a : Nat} {neg hex : Bool} (hp : Pre t l k) (ha : (if hex = true then a + 2 else a) ≤ k) (hd : (dgR t (if hex = true then a + 2 else a) hex).2.1 = []) : (rNum l a neg hex).kind = 0 := by
  rw [rNum_eq l a neg hex _ (bases hex) _ _ _ rfl rfl rfl rfl rfl, if_pos (mnR_none hp hex ha hd)]
  rfl

/-- What is read of a number that stands whole, with the exponent e behind b digits. -/
def Nums (r : RNum) (kind : Nat) (neg : Bool) (base : Nat) (ds : List UInt8) (e : Int) (each b : Nat) : Prop :=
  ∃ g, r = ⟨kind, neg, vL base 0 ds, clampE e - (each * b : Nat), g⟩

theorem num_exp {t l : ByteArray} {a : Nat} {neg hex : Bool} (hd : (dgR t (if hex = true then a + 2 else a) hex).2.1 ≠ []) (hX : (expR t (dgR t (if hex = true then a + 2 else a) hex).1 (if hex = true then 112 else 101)).2.2 = true)
    (hp : Pre t l (expR t (dgR t (if hex = true then a + 2 else a) hex).1 (if hex = true then 112 else 101)).1) :
    Nums (rNum l a neg hex) (if hex = true then 2 else 1) neg (bases hex) (dgR t (if hex = true then a + 2 else a) hex).2.1 (expR t (dgR t (if hex = true then a + 2 else a) hex).1 (if hex = true then 112 else 101)).2.1 (if hex = true then 4 else 1) (dgR t (if hex = true then a + 2 else a) hex).2.2 := by
  obtain ⟨p2, hp2⟩ : ∃ p2, p2 = if hex = true then a + 2 else a := ⟨_, rfl⟩
  obtain ⟨c, hc⟩ : ∃ c, c = if hex = true then 112 else 101 := ⟨_, rfl⟩
  have hc0 : c ≠ 0 := by rw [hc]; split <;> decide
  rw [rNum_eq l a neg hex p2 (bases hex) c _ _ hp2 rfl hc rfl rfl]
  rw [← hp2] at hd hX hp ⊢
  rw [← hc] at hX hp ⊢
  have hb := exp_bounds hX
  obtain ⟨g, hg⟩ := exp_ok hX hp
  have hge : p2 ≤ (dgR t p2 hex).1 := by rw [dgR_eq]; exact dgZ_ge t hex _ _ _
  have hM := mnR_full hp hex (i := p2) (by omega) (by omega)
  have hl := (may_iff (s := t) hc0).1 (exp_start hX).1
  rw [hM]
  simp only
  rw [if_neg (by intro h; exact hd (List.eq_nil_of_length_eq_zero h)), hp.size, hp.byte _ (by omega), if_pos ⟨by omega, hl⟩, hg, if_pos rfl]
  exact ⟨g, rfl⟩

theorem num_exp_far {t l : ByteArray} {a k : Nat} {neg hex : Bool} (hX : (expR t (dgR t (if hex = true then a + 2 else a) hex).1 (if hex = true then 112 else 101)).2.2 = true)
    (hk : (expR t (dgR t (if hex = true then a + 2 else a) hex).1 (if hex = true then 112 else 101)).1 < k) (hp : Pre t l k) : (rNum l a neg hex).kind = 0 := by
  obtain ⟨p2, hp2⟩ : ∃ p2, p2 = if hex = true then a + 2 else a := ⟨_, rfl⟩
  obtain ⟨c, hc⟩ : ∃ c, c = if hex = true then 112 else 101 := ⟨_, rfl⟩
  have hc0 : c ≠ 0 := by rw [hc]; split <;> decide
  rw [rNum_eq l a neg hex p2 (bases hex) c _ _ hp2 rfl hc rfl rfl]
  rw [← hp2, ← hc] at hX hk
  have hb := exp_bounds hX
  have hge : p2 ≤ (dgR t p2 hex).1 := by rw [dgR_eq]; exact dgZ_ge t hex _ _ _
  have hM := mnR_full hp hex (i := p2) (by omega) (by omega)
  have hl := (may_iff (s := t) hc0).1 (exp_start hX).1
  rw [hM]
  simp only
  split
  · rfl
  · rw [hp.size, hp.byte _ (by omega), if_pos ⟨by omega, hl⟩, exp_far hX hk hp, if_neg (by simp)]
    rfl

/-- There is no exponent. -/
theorem num_no {t l : ByteArray} {a k : Nat} {neg hex : Bool} (hX : (expR t (dgR t (if hex = true then a + 2 else a) hex).1 (if hex = true then 112 else 101)).2.2 = false) (ha : (if hex = true then a + 2 else a) ≤ k)
    (hk : hex = true ∨ (dgR t (if hex = true then a + 2 else a) hex).1 < k) (hp : Pre t l k) : (rNum l a neg hex).kind = 0 := by
  obtain ⟨p2, hp2⟩ : ∃ p2, p2 = if hex = true then a + 2 else a := ⟨_, rfl⟩
  obtain ⟨c, hc⟩ : ∃ c, c = if hex = true then 112 else 101 := ⟨_, rfl⟩
  have hc0 : c ≠ 0 := by rw [hc]; split <;> decide
  rw [rNum_eq l a neg hex p2 (bases hex) c _ _ hp2 rfl hc rfl rfl]
  rw [← hp2] at hX ha hk
  rw [← hc] at hX
  split
  · rfl
  · by_cases he : (dgR t p2 hex).1 < k
    · have hM := mnR_full hp hex (i := p2) ha (by omega)
      rw [hM]
      simp only
      rw [hp.size, hp.byte _ he]
      by_cases hl : nxB t (dgR t p2 hex).1 = c
      · rw [if_pos ⟨he, hl⟩, exp_no hc0 hX he hl hp, if_neg (by simp)]
        rfl
      · rw [if_neg (fun h => hl h.2), if_pos (.inl he)]
        rfl
    · have hM : (mnR l p2 (bases hex)).1 = k := by
        by_cases he2 : k < (dgR t p2 hex).1
        · exact mnR_cut hp hex ha he2
        · rw [mnR_full hp hex ha (by omega)]
          show (dgR t p2 hex).1 = k
          omega
      rw [hM, hp.size, if_neg (fun h => absurd h.1 (Nat.lt_irrefl k)), if_pos (.inr (hk.resolve_right he))]
      rfl

/-- Digits alone. -/
theorem num_plain {t l : ByteArray} {a : Nat} {neg : Bool} (hd : (dgR t a false).2.1 ≠ []) (hp : Pre t l (dgR t a false).1) : Nums (rNum l a neg false) 1 neg 10 (dgR t a false).2.1 0 1 (dgR t a false).2.2 := by
  rw [rNum_eq l a neg false a 10 101 1 1 rfl rfl rfl rfl rfl]
  have hge : a ≤ (dgR t a false).1 := by rw [dgR_eq]; exact dgZ_ge t false _ _ _
  have hM := mnR_full hp false (i := a) hge (Nat.le_refl _)
  rw [show bases false = 10 from rfl] at hM
  rw [hM]
  simp only
  rw [if_neg (by intro h; exact hd (List.eq_nil_of_length_eq_zero h)), hp.size, if_neg (fun h => absurd h.1 (Nat.lt_irrefl _)), if_neg (by simp)]
  exact ⟨false, by rw [Nat.one_mul]; rfl⟩
end Go.Proofs.YtobacemgcjnahaaGreatDoor.L
/-
  The plain law, joined: the longest number text, by the reference.
-/
namespace Go.Proofs.YtobacemgcjnahaaGreatDoor.L
open Go Go.RowKit

def Says (r : RNum) (n : Nm) : Prop :=
  (n.kind = 0 ∧ Nums r 1 n.neg 10 n.digits n.exp 1 n.behind) ∨ (n.kind = 1 ∧ Nums r 2 n.neg 16 n.digits n.exp 4 n.behind) ∨ (n.kind = 2 ∧ r = ⟨3, n.neg, 0, 0, false⟩) ∨ (n.kind = 3 ∧ n.neg = false ∧ r = ⟨4, false, 0, 0, false⟩)
theorem Says.kind {r : RNum} {n : Nm} (h : Says r n) : r.kind ≠ 0 := by
  rcases h with ⟨_, _, rfl⟩ | ⟨_, _, rfl⟩ | ⟨_, rfl⟩ | ⟨_, _, rfl⟩ <;> simp

theorem read_zero {t l : ByteArray} (hp : Pre t l 0) : (rRead l).kind = 0 := by
  have hs := hp.size
  have hJ : rxJ l 0 = 0 := by unfold rxJ; rw [hs, if_neg (fun h => absurd h.1 (Nat.lt_irrefl 0))]
  have hz : (l.extract 0 l.size).size = 0 := by simp [hs]
  have hno : ∀ w : ByteArray, 0 < w.size → seB (l.extract 0 l.size) w = false := fun w hw => Bool.eq_false_iff.2 (fun h => by have := (seB_iff.1 h).1; omega)
  unfold rRead
  rw [hJ, hno wInf (by decide), hno wInfinity (by decide), hno wNan (by decide)]
  simp only [Bool.or_self, Bool.false_eq_true, if_false]
  have hh : rHex l 0 = false := Bool.eq_false_iff.2 (fun h => by have := ((rHex_iff hp).1 h).1; omega)
  rw [hh, rNum_eq l 0 _ false 0 10 101 1 1 rfl rfl rfl rfl rfl]
  have : mnR l 0 10 = (0, 0, 0, 0) := by unfold mnR; rw [hs]; rfl
  rw [this, if_pos rfl]
  rfl

section
variable {t l : ByteArray} {k : Nat}
def sgA (t : ByteArray) : Nat := b2n (sgnB t 0)
theorem sgA_le (hk : 0 < k) : sgA t ≤ k := by unfold sgA; cases sgnB t 0 <;> simp [b2n]; omega

theorem read_all (hp : Pre t l k) (hk : 0 < k) : rRead l =
    if (seB (l.extract (sgA t) l.size) wInf || seB (l.extract (sgA t) l.size) wInfinity) = true then ⟨3, mayB t 0 45, 0, 0, false⟩ else
    if seB (l.extract (sgA t) l.size) wNan = true then (if sgA t = 0 then ⟨4, false, 0, 0, false⟩ else rZ) else
    rNum l (sgA t) (mayB t 0 45) (rHex l (sgA t)) := by
  unfold rRead
  have hJ := rxJ_pre hp hk
  rw [Nat.zero_add] at hJ
  rw [hJ, rxN_pre hp hk]
  rfl
theorem read_inf (hp : Pre t l k) (hk : 0 < k) (h : (k = sgA t + 3 ∧ wdB t (sgA t) wInf = true) ∨ (k = sgA t + 8 ∧ wdB t (sgA t) wInfinity = true)) : rRead l = ⟨3, mayB t 0 45, 0, 0, false⟩ := by
  rw [read_all hp hk, if_pos]
  rw [Bool.or_eq_true, tail_iff hp (sgA_le hk), tail_iff hp (sgA_le hk)]
  exact h
theorem read_nan (hp : Pre t l k) (hk : 0 < k) (h0 : wdB t (sgA t) wInf = false) (h : k = sgA t + 3 ∧ wdB t (sgA t) wNan = true) : rRead l = if sgA t = 0 then ⟨4, false, 0, 0, false⟩ else rZ := by
  rw [read_all hp hk, if_neg, if_pos]
  · rw [tail_iff hp (sgA_le hk)]; exact h
  · rw [Bool.or_eq_true, tail_iff hp (sgA_le hk), tail_iff hp (sgA_le hk)]
    rintro (h1 | h1)
    · rw [h0] at h1; cases h1.2
    · have h3 : k = sgA t + 8 := h1.1
      omega
theorem read_num (hp : Pre t l k) (hk : 0 < k) (h1 : ¬ (k = sgA t + 3 ∧ wdB t (sgA t) wInf = true)) (h2 : ¬ (k = sgA t + 8 ∧ wdB t (sgA t) wInfinity = true)) (h3 : ¬ (k = sgA t + 3 ∧ wdB t (sgA t) wNan = true)) :
    rRead l = rNum l (sgA t) (mayB t 0 45) (rHex l (sgA t)) := by
  rw [read_all hp hk, if_neg, if_neg]
  · rw [tail_iff hp (sgA_le hk)]; exact h3
  · rw [Bool.or_eq_true, tail_iff hp (sgA_le hk), tail_iff hp (sgA_le hk)]
    rintro (h | h)
    · exact h1 h
    · exact h2 h

theorem wd_first {w : ByteArray} {a : Nat} (hw : 0 < w.size) (h : wdB t a w = true) : nxB t a = bAt w 0 := (wdB_iff.1 h).2 0 hw

theorem dg_letter {a : Nat} (h : nxB t a = 105 ∨ nxB t a = 110) : dgR t a false = (a, [], 0) := by
  have ha : a < t.size := by
    rcases Nat.lt_or_ge a t.size with h1 | h1
    · exact h1
    · rw [nx_end h1] at h; omega
  rw [dgR_eq, show t.size + 1 - a = (t.size - a) + 1 from by omega, dgZ, if_neg, if_neg]
  · rcases h with h | h <;> rw [h] <;> decide
  · rcases h with h | h <;> rw [h] <;> decide
theorem num_letter {a : Nat} {neg : Bool} (hp : Pre t l k) (ha : a ≤ k) (h : nxB t a = 105 ∨ nxB t a = 110) : (rNum l a neg (rHex l a)).kind = 0 := by
  have hh : rHex l a = false := Bool.eq_false_iff.2 fun h' => by
    have h1 := wd_first (by decide) ((rHex_iff hp).1 h').2
    rw [show bAt w0x 0 = 48 from rfl] at h1
    omega
  rw [hh]
  exact num_none hp (by simpa using ha) (by simp [dg_letter h])

/-- What longest does, told without cases on the sign. -/
theorem longM_eq : longM t true = restM t (sgA t) (mayB t 0 45) (!sgnB t 0) := by
  unfold longM; rw [if_pos rfl]; rfl

theorem sgl_zero : (!sgnB t 0) = true ↔ sgA t = 0 := by
  unfold sgA
  cases sgnB t 0 <;> simp [b2n]
theorem sgl_neg (h : (!sgnB t 0) = true) : mayB t 0 45 = false := by
  rw [Bool.not_eq_true'] at h
  unfold sgnB at h
  rw [Bool.or_eq_false_iff] at h
  exact h.1

/-- Behind a special text there is no longer one. -/
theorem spc_far {n : Nm} (h : spcM t (sgA t) (mayB t 0 45) (!sgnB t 0) = some n) (hk : n.len < k) (hp : Pre t l k) : (rRead l).kind = 0 := by
  unfold spcM at h
  split at h
  · next h1 =>
    cases h
    simp only at hk
    rw [read_num hp (by omega) (by omega) (by omega) (by omega)]
    exact num_letter hp (by omega) (.inl (wd_first (by decide) h1))
  · next h1 =>
    split at h
    · next h2 =>
      cases h
      simp only at hk
      rw [read_num hp (by omega) (by omega) (fun h => h1 h.2) (by omega)]
      exact num_letter hp (by omega) (.inl (wd_first (by decide) h2))
    · next h2 =>
      split at h
      · next h3 =>
        cases h
        simp only at hk
        rw [read_num hp (by omega) (by omega) (fun h => h1 h.2) (by omega)]
        exact num_letter hp (by omega) (.inr (wd_first (by decide) h3.2))
      · cases h
theorem spc_ok {n : Nm} (h : spcM t (sgA t) (mayB t 0 45) (!sgnB t 0) = some n) : n.len ≤ t.size ∧ 0 < n.len ∧ ∀ l, Pre t l n.len → Says (rRead l) n := by
  unfold spcM at h
  split at h
  · next h1 =>
    cases h
    have hle : sgA t + 8 ≤ t.size := (wdB_iff.1 h1).1
    exact ⟨hle, by simp only; omega, fun l hp => .inr (.inr (.inl ⟨rfl, read_inf hp (by simp only; omega) (.inr ⟨rfl, h1⟩)⟩))⟩
  · next h1 =>
    split at h
    · next h2 =>
      cases h
      have hle : sgA t + 3 ≤ t.size := (wdB_iff.1 h2).1
      exact ⟨hle, by simp only; omega, fun l hp => .inr (.inr (.inl ⟨rfl, read_inf hp (by simp only; omega) (.inl ⟨rfl, h2⟩)⟩))⟩
    · next h2 =>
      split at h
      · next h3 =>
        cases h
        have hle : sgA t + 3 ≤ t.size := (wdB_iff.1 h3.2).1
        refine ⟨hle, by simp only; omega, fun l hp => .inr (.inr (.inr ⟨rfl, sgl_neg h3.1, ?_⟩))⟩
        rw [read_nan hp (by simp only; omega) (Bool.eq_false_iff.2 h2) ⟨rfl, h3.2⟩, if_pos (sgl_zero.1 h3.1)]
      · cases h
/-- Without a special text the reference reads a number, but where a signed nan stands. -/
theorem spc_none (h : spcM t (sgA t) (mayB t 0 45) (!sgnB t 0) = none) (hp : Pre t l k) (hk : 0 < k) : rRead l = rNum l (sgA t) (mayB t 0 45) (rHex l (sgA t)) ∨ (rRead l = rZ ∧ wdB t (sgA t) wNan = true) := by
  unfold spcM at h
  split at h
  · cases h
  · next h1 =>
    split at h
    · cases h
    · next h2 =>
      split at h
      · cases h
      · next h3 =>
        by_cases hn : k = sgA t + 3 ∧ wdB t (sgA t) wNan = true
        · right
          refine ⟨?_, hn.2⟩
          rw [read_nan hp hk (Bool.eq_false_iff.2 h2) hn, if_neg (fun h => h3 ⟨sgl_zero.2 h, hn.2⟩)]
        · left
          exact read_num hp hk (fun h => h2 h.2) (fun h => h1 h.2) hn
end

theorem hexM_wd {t : ByteArray} {a : Nat} {neg sgl : Bool} {n : Nm} (h : hexM t a neg sgl = some n) : wdB t a w0x = true ∧ 0 < (dgR t (a + 2) true).2.1.length ∧ (expR t (dgR t (a + 2) true).1 112).2.2 = true ∧
    n = ⟨1, neg, (dgR t (a + 2) true).2.1, (dgR t (a + 2) true).2.2, (expR t (dgR t (a + 2) true).1 112).2.1, (expR t (dgR t (a + 2) true).1 112).1, sgl⟩ := by
  unfold hexM at h
  split at h
  · next h1 => cases h; exact ⟨h1.1, h1.2.1, h1.2.2, rfl⟩
  · cases h

theorem dg_0x {t : ByteArray} {a : Nat} (h : wdB t a w0x = true) : dgR t a false = (a + 1, [48], 0) ∧ nxB t (a + 1) = 120 := by
  obtain ⟨h1, h2⟩ := wdB_iff.1 h
  have h48 := h2 0 (by decide)
  have h120 := h2 1 (by decide)
  rw [show bAt w0x 0 = 48 from rfl, Nat.add_zero] at h48
  rw [show bAt w0x 1 = 120 from rfl] at h120
  have hle : a + 2 ≤ t.size := h1
  refine ⟨?_, h120⟩
  rw [dgR_eq, show t.size + 1 - a = (t.size - a - 1) + 1 + 1 from by omega, dgZ, h48, if_pos (by decide), dgZ, h120, if_neg (by decide), if_neg (by decide)]
  rfl

/-- All of it. -/
theorem long_some {t : ByteArray} {n : Nm} (h : longM t true = some n) : n.len ≤ t.size ∧ 0 < n.len ∧ (∀ l, Pre t l n.len → Says (rRead l) n) ∧ ∀ k l, n.len < k → Pre t l k → (rRead l).kind = 0 := by
  rw [longM_eq] at h
  unfold restM at h
  split at h
  · next m hm =>
    cases h
    obtain ⟨h1, h2, h3⟩ := spc_ok hm
    exact ⟨h1, h2, h3, fun k l hk hp => spc_far hm hk hp⟩
  · next hm =>
    split at h
    · next m hx =>
      cases h
      obtain ⟨g1, g2, g3, rfl⟩ := hexM_wd hx
      have hb := exp_bounds g3
      have hge : sgA t + 2 ≤ (dgR t (sgA t + 2) true).1 := by rw [dgR_eq]; exact dgZ_ge t true _ _ _
      have hnan : wdB t (sgA t) wNan = true → False := fun hn => by
        have e1 := wd_first (by decide) hn
        have e2 := wd_first (by decide) g1
        rw [e2] at e1
        exact absurd e1 (by decide)
      refine ⟨hb.2, by simp only; omega, fun l hp => ?_, fun k l hk hp => ?_⟩
      · simp only at hp
        have hr := (spc_none hm hp (by omega)).resolve_right (fun h => hnan h.2)
        rw [hr, (rHex_iff hp).2 ⟨by omega, g1⟩]
        exact .inr (.inl ⟨rfl, num_exp (hex := true) (List.length_pos_iff.1 g2) g3 hp⟩)
      · simp only at hk
        have hr := (spc_none hm hp (by omega)).resolve_right (fun h => hnan h.2)
        rw [hr, (rHex_iff hp).2 ⟨by omega, g1⟩]
        exact num_exp_far (hex := true) g3 hk hp
    · next hx =>
      unfold decM at h
      split at h
      · cases h
      · next hd0 =>
        have hd : (dgR t (sgA t) false).2.1 ≠ [] := fun h => hd0 (by rw [h]; rfl)
        have hge : sgA t ≤ (dgR t (sgA t) false).1 := by rw [dgR_eq]; exact dgZ_ge t false _ _ _
        have hle0 : sgA t ≤ t.size := by
          unfold sgA
          cases hs : sgnB t 0
          · exact Nat.zero_le _
          · rcases Nat.lt_or_ge 0 t.size with h1 | h1
            · exact h1
            · have := sgn_iff.1 hs; rw [nx_end h1] at this; omega
        have hle1 : (dgR t (sgA t) false).1 ≤ t.size := dgR_le t _ false hle0
        have hnan : wdB t (sgA t) wNan = true → False := fun hn => by
          have e1 := wd_first (by decide) hn
          rw [show bAt wNan 0 = 110 from rfl] at e1
          exact hd (by rw [dg_letter (.inr e1)])
        have hgt : sgA t < (dgR t (sgA t) false).1 := by
          refine Nat.lt_of_le_of_ne hge fun he => hd ?_
          rw [dgR_eq] at he ⊢
          obtain ⟨f, hf⟩ : ∃ f, t.size + 1 - sgA t = f + 1 := ⟨t.size - sgA t, by omega⟩
          rw [hf, dgZ] at he ⊢
          split at he
          · have := dgZ_ge t false f (sgA t + 1) false; simp only at he; omega
          · next h1 =>
            split at he
            · have := dgZ_ge t false f (sgA t + 1) true; omega
            · next h2 => rw [if_neg h1, if_neg h2]
        -- behind a 0x that leads to no number
        have hxno : wdB t (sgA t) w0x = true → ∀ k l, sgA t + 2 ≤ k → Pre t l k → (rNum l (sgA t) (mayB t 0 45) true).kind = 0 := fun h0 k l hk hp => by
          unfold hexM at hx
          split at hx
          · cases hx
          · next hc =>
            by_cases hl : 0 < (dgR t (sgA t + 2) true).2.1.length
            · exact num_no (hex := true) (Bool.eq_false_iff.2 fun he => hc ⟨h0, hl, he⟩) hk (.inl rfl) hp
            · exact num_none (hex := true) hp hk (List.eq_nil_of_length_eq_zero (by simp only [if_true]; omega))
        cases hX : (expR t (dgR t (sgA t) false).1 101).2.2
        · rw [hX, if_neg (by simp)] at h
          cases h
          refine ⟨hle1, by simp only; omega, fun l hp => ?_, fun k l hk hp => ?_⟩
          · simp only at hp
            have hr := (spc_none hm hp (by omega)).resolve_right (fun h => hnan h.2)
            have hh : rHex l (sgA t) = false := Bool.eq_false_iff.2 fun h' => by
              obtain ⟨e1, e2⟩ := (rHex_iff hp).1 h'
              rw [(dg_0x e2).1] at e1
              simp only at e1
              omega
            rw [hr, hh]
            exact .inl ⟨rfl, num_plain hd hp⟩
          · simp only at hk
            have hr := (spc_none hm hp (by omega)).resolve_right (fun h => hnan h.2)
            rw [hr]
            cases hh : rHex l (sgA t)
            · exact num_no (hex := false) hX (by simp only [Bool.false_eq_true, if_false]; omega) (.inr hk) hp
            · obtain ⟨e1, e2⟩ := (rHex_iff hp).1 hh
              exact hxno e2 k l (by omega) hp
        · rw [hX, if_pos rfl] at h
          cases h
          have hb := exp_bounds hX
          have hno0x : wdB t (sgA t) w0x = true → False := fun h0 => by
            obtain ⟨e1, e2⟩ := dg_0x h0
            rw [e1] at hX
            have := (may_iff (by decide)).1 (exp_start hX).1
            simp only at this
            omega
          have hh : ∀ k l, Pre t l k → rHex l (sgA t) = false := fun k l hp => Bool.eq_false_iff.2 fun h' => hno0x ((rHex_iff hp).1 h').2
          refine ⟨hb.2, by simp only; omega, fun l hp => ?_, fun k l hk hp => ?_⟩
          · simp only at hp
            have hr := (spc_none hm hp (by omega)).resolve_right (fun h => hnan h.2)
            rw [hr, hh _ _ hp]
            exact .inl ⟨rfl, num_exp (hex := false) hd hX hp⟩
          · simp only at hk
            have hr := (spc_none hm hp (by omega)).resolve_right (fun h => hnan h.2)
            rw [hr, hh _ _ hp]
            exact num_exp_far (hex := false) hX hk hp

theorem long_none {t : ByteArray} (h : longM t true = none) : ∀ k l, Pre t l k → (rRead l).kind = 0 := fun k l hp => by
  rcases Nat.eq_zero_or_pos k with rfl | hk
  · exact read_zero hp
  rw [longM_eq] at h
  unfold restM at h
  split at h
  · cases h
  · next hm =>
    split at h
    · cases h
    · next hx =>
      unfold decM at h
      split at h
      · next hd0 =>
        have hd := List.eq_nil_of_length_eq_zero hd0
        rcases spc_none hm hp hk with hr | ⟨hr, _⟩
        · rw [hr]
          have hh : rHex l (sgA t) = false := Bool.eq_false_iff.2 fun h' => by
            rw [(dg_0x ((rHex_iff hp).1 h').2).1] at hd
            cases hd
          rw [hh]
          exact num_none (hex := false) hp (sgA_le hk) hd
        · rw [hr]; rfl
      · cases h

/-- Both read the same texts. -/
theorem rd_is (t : ByteArray) : rdB t = rIsB t := by
  unfold rdB rIsB
  cases h : longM t true with
  | none =>
    rw [decide_eq_false (fun hn => hn (long_none h _ _ pre_self))]
  | some n =>
    obtain ⟨h1, h2, h3, h4⟩ := long_some h
    simp only
    by_cases hl : n.len = t.size
    · rw [decide_eq_true hl]
      have hp : Pre t (lowS t) n.len := by rw [hl]; exact pre_self
      rw [decide_eq_true (h3 _ hp).kind]
    · rw [decide_eq_false hl, decide_eq_false (fun hn => hn (h4 t.size _ (by omega) pre_self))]

theorem rPf_none {t : ByteArray} (h : ∀ k l, Pre t l k → (rRead l).kind = 0) : ∀ k, k ≤ t.size → rPf t k = 0
  | 0, _ => rfl
  | k + 1, hk => by
    rw [rPf, if_neg, rPf_none h k (by omega)]
    unfold rIsB
    rw [decide_eq_true_eq]
    exact fun hn => hn (h (k + 1) _ (pre_low hk))
theorem rPf_some {t : ByteArray} {m : Nat} (hm : 0 < m) (h1 : ∀ l, Pre t l m → (rRead l).kind ≠ 0) (h2 : ∀ k l, m < k → Pre t l k → (rRead l).kind = 0) : ∀ k, m ≤ k → k ≤ t.size → rPf t k = m
  | 0, hk, _ => by omega
  | k + 1, hk, hs => by
    rw [rPf]
    unfold rIsB
    rcases Nat.eq_or_lt_of_le hk with he | he
    · rw [← he, if_pos]
      rw [decide_eq_true_eq]
      exact h1 _ (pre_low (by omega))
    · rw [if_neg, rPf_some hm h1 h2 k (by omega) (by omega)]
      rw [decide_eq_true_eq]
      exact fun hn => hn (h2 (k + 1) _ he (pre_low hs))
theorem pf_is (t : ByteArray) : pfN t = rPf t t.size := by
  unfold pfN
  cases h : longM t true with
  | none => rw [rPf_none (long_none h) _ (Nat.le_refl _)]
  | some n =>
    obtain ⟨h1, h2, h3, h4⟩ := long_some h
    simp only
    rw [rPf_some h2 (fun l hp => (h3 l hp).kind) h4 _ h1 (Nat.le_refl _)]

theorem rPf_le (t : ByteArray) : ∀ k, rPf t k ≤ k
  | 0 => Nat.le_refl _
  | k + 1 => by
    rw [rPf]
    split
    · exact Nat.le_refl _
    · have := rPf_le t k; omega
theorem rPf_is (t : ByteArray) : ∀ k, 0 < rPf t k → rIsB (t.extract 0 (rPf t k)) = true
  | 0, h => absurd h (Nat.lt_irrefl 0)
  | k + 1, h => by
    rw [rPf] at h ⊢
    split at h
    · next h1 => rw [if_pos h1]; exact h1
    · next h1 => rw [if_neg h1]; exact rPf_is t k h
/-- A prefix as long as the text, and not empty: the text is one. -/
theorem pf_all (t : ByteArray) : (decide (pfN t = t.size) && decide (0 < pfN t)) = rdB t := by
  unfold pfN rdB
  cases h : longM t true with
  | none => simp
  | some n =>
    obtain ⟨h1, h2, h3, h4⟩ := long_some h
    simp only
    rw [decide_eq_true h2, Bool.and_true]
end Go.Proofs.YtobacemgcjnahaaGreatDoor.L
