/-
  Kd Xa Xb Xc Xd Xe Xf Xg Xh Xi Xj Xk Xl Xm Xn Xs Xt Xu Xv
-/
import Derived.Test.YtlpolbeikangpaaGreatDoorPP4
import Derived.Test.YtlpolbeikangpaaGreatDoorPP3
import Derived.Test.YtlpolbeikangpaaGreatDoorPP7
import Derived.Test.YtlpolbeikangpaaGreatDoorPP5
import Derived.Laws.RangeString
import Derived.Deep.LoopGhost
import Derived.Test.YtlpolbeikangpaaGreatDoorPP6
import Derived.OwnWalk
import Derived.Laws.AppendOwn
import Derived.Deep.OwnRows
set_option linter.unusedSimpArgs false
set_option linter.unusedVariables false
set_option maxRecDepth 100000
namespace Go.Proofs.YtlpolbeikangpaaGreatDoor.L
open Go Go.RowKit Go.Proofs
attribute [local go_sem] evalOps_nil evalOps_cons runW_t runW_f runE_s runP_s wantA evalOp effOp letters okDst coreA St.opv St.get St.at look constA St.put St.upd St.set decide_true List.all_nil List.all_cons Bool.and_true Bool.true_and and_self and_true true_and if_true if_false true_or Int.sub_zero List.nil_append List.cons_append List.append_nil Option.isSome_some List.getElem?_toArray List.getElem?_cons_succ List.getElem?_cons_zero Option.bind_some Option.map_some Option.map_none beq_self_eq_true Bool.false_beq Bool.true_beq Bool.not_true Bool.not_false Bool.false_eq_true cond_true cond_false binA binI List.map_cons List.map_nil boundA List.length_nil List.length_cons Nat.zero_mul Nat.one_mul Nat.mul_one Nat.zero_add Nat.add_zero Nat.zero_le Option.toList St.freshB AV.ment AV.ments Blk.ment V.sizes Nat.lt_add_one Bool.or_true Bool.true_or Bool.or_false Bool.false_or Bool.or_self if_pos if_neg decide_false decide_eq_true decide_eq_false wrap_i64 Int.toNat_natCast minA maxA Int.natCast_add Int.cast_ofNat_Int Option.isSome_none false_implies true_implies forall_const List.drop_zero Int.toNat_zero Int.add_sub_cancel lenA sliceA loadA indexAddrA partA fitsT V.atP V.offP V.size List.length_map List.getElem?_map Int.toNat_natCast_add_one Int.ofNat_eq_natCast TY calleeA capArg knotA capArgs toArgs toArg callA R.res R.mems R.blks R.av R.names R.nw invokeA storeA storeV fieldAddrA liveB V.off V.offs V.setP List.set_cons_zero List.set_cons_succ buildA buildP partsA appendA srcA copyA boxOk makeA AV.pure List.take_succ_cons List.take_zero nilA words unA entry List.zipIdx_cons List.zipIdx_nil Arg.av Arg.avs
theorem word0_ok (r : Nat) (hr : r < 18446744073709551616) : FnOk Tryz.prog 148 [.v (words (digs r)), .v (.int .i64 0)] [.v true (.int .u64 r)] := by
 have hlen := digs_len (v := r) (m := 1) (by rw [Nat.pow_one]; exact hr)
 obtain ⟨ok, _, hv⟩ := digs_ok r
 obtain ⟨l, hl⟩ : ∃ l, l = digs r := ⟨_, rfl⟩
 rw [← hl] at hlen ok hv ⊢
 clear hl
 rcases l with _ | ⟨x, l⟩
 ·have e : r = 0 := by rw [← hv]; rfl
  subst e
  refine FnOk.of Tryz.func148 rfl rfl fun cx w0 => ?_
  rw [show Tryz.f148.ntmps = 13 from rfl]
  refine zs0 ?_
  refine Holds.seq ?_
  refine zs0 ?_
  refine Holds.condF rfl (Holds.skip ?_)
  refine zs0 ?_
  exact Holds.ret (RetOk.vs rfl (by exact ⟨⟨rfl, id⟩, trivial⟩) rfl)
 ·rcases l with _ | ⟨y, l⟩
  ·have hx := ok x (by simp)
   have e : x = (r : Int) := by
    rw [← hv]
    show x = ((x.toNat + 18446744073709551616 * val [] : Nat) : Int)
    rw [show val [] = 0 from rfl]
    omega
   subst e
   refine FnOk.of Tryz.func148 rfl rfl fun cx w0 => ?_
   rw [show Tryz.f148.ntmps = 13 from rfl]
   refine zs0 ?_
   refine Holds.seq ?_
   refine zs0 ?_
   refine Holds.condT rfl ?_
   refine zs0 ?_
   exact Holds.ret (RetOk.vs rfl (by exact ⟨⟨rfl, id⟩, trivial⟩) rfl)
  ·simp only [List.length_cons] at hlen
   omega
def tdL : Nat → Nat → List Nat
 | 0, _ => []
 | f + 1, n => if n = 0 then [] else (48 + n % 10) :: tdL f (n / 10)
theorem tdL_0 (f : Nat) : tdL f 0 = [] := by cases f <;> simp [tdL]
theorem tdL_s {f n : Nat} (hf : 0 < f) (h : n ≠ 0) : tdL f n = (48 + n % 10) :: tdL (f - 1) (n / 10) := by
 obtain ⟨k, rfl⟩ : ∃ k, f = k + 1 := ⟨f - 1, by omega⟩
 rw [tdL, if_neg h]; rfl
theorem tdL_dg : ∀ (f n : Nat), ∀ c ∈ tdL f n, 48 ≤ c ∧ c ≤ 57
 | 0, _ => by simp [tdL]
 | f + 1, n => by
   rw [tdL]
   split
   ·simp
   ·intro c hc
    rcases List.mem_cons.1 hc with rfl | hc
    ·omega
    ·exact tdL_dg f _ c hc
def rvI (l : List Nat) (i : Nat) : List Nat := (List.range l.length).map fun k => if k < i ∨ l.length - 1 - i < k then l.getD (l.length - 1 - k) 0 else l.getD k 0
theorem rvI_len (l : List Nat) (i : Nat) : (rvI l i).length = l.length := by simp [rvI]
theorem rvI_get (l : List Nat) (i k : Nat) (h : k < l.length) : (rvI l i)[k]? = some (if k < i ∨ l.length - 1 - i < k then l.getD (l.length - 1 - k) 0 else l.getD k 0) := by
 unfold rvI
 rw [List.getElem?_map, List.getElem?_range h]; rfl
theorem rvI_0 (l : List Nat) : rvI l 0 = l := by
 refine List.ext_getElem? fun k => ?_
 by_cases h : k < l.length
 ·rw [rvI_get l 0 k h, if_neg (by omega), List.getElem?_eq_getElem h, List.getD_eq_getElem?_getD, List.getElem?_eq_getElem h]; rfl
 ·rw [List.getElem?_eq_none (by rw [rvI_len]; omega), List.getElem?_eq_none (by omega)]
theorem rvI_end (l : List Nat) (i : Nat) (h : l.length ≤ 2 * i + 1) : rvI l i = l.reverse := by
 refine List.ext_getElem? fun k => ?_
 by_cases hk : k < l.length
 ·rw [rvI_get l i k hk, List.getElem?_reverse hk, List.getElem?_eq_getElem (by omega)]
  split
  ·rw [List.getD_eq_getElem?_getD, List.getElem?_eq_getElem (by omega)]; rfl
  ·next h1 =>
   have e : k = l.length - 1 - k := by omega
   rw [List.getD_eq_getElem?_getD, List.getElem?_eq_getElem hk]
   simp only [Option.getD_some]
   congr 1
   congr 1
 ·rw [List.getElem?_eq_none (by rw [rvI_len]; omega), List.getElem?_eq_none (by rw [List.length_reverse]; omega)]
theorem rvI_s (l : List Nat) (i j : Nat) (h : l.length = i + j + 1) (hij : i < j) : ((rvI l i).set i (l.getD j 0)).set j (l.getD i 0) = rvI l (i + 1) := by
 refine List.ext_getElem? fun k => ?_
 by_cases hk : k < l.length
 ·rw [rvI_get l (i + 1) k hk, List.getElem?_set, List.getElem?_set, List.length_set, rvI_len, rvI_get l i k hk]
  by_cases h1 : j = k
  ·rw [if_pos h1, if_pos (by omega), if_pos (by omega), show l.length - 1 - k = i from by omega]
  ·rw [if_neg h1]
   by_cases h2 : i = k
   ·rw [if_pos h2, if_pos (by omega), if_pos (by omega), show l.length - 1 - k = j from by omega]
   ·rw [if_neg h2]
    congr 1
    by_cases h3 : k < i ∨ l.length - 1 - i < k
    ·rw [if_pos h3, if_pos (by omega)]
    ·rw [if_neg h3, if_neg (by omega)]
 ·rw [List.getElem?_eq_none (by rw [List.length_set, List.length_set, rvI_len]; omega), List.getElem?_eq_none (by rw [rvI_len]; omega)]
theorem dsV_set (l : List Nat) (i c : Nat) : (dsV l).set i (.int .u8 c) = dsV (l.set i c) := by
 unfold dsV
 rw [List.map_set]
theorem dsV_get {l : List Nat} {i c : Nat} (h : l[i]? = some c) : (dsV l)[i]? = some (.int .u8 c) := by
 unfold dsV
 rw [List.getElem?_map, h]; rfl
def fxL : Nat → Nat → List Nat
 | 0, _ => []
 | k + 1, n => (48 + n % 10) :: fxL k (n / 10)
theorem fxL_len : ∀ (k n : Nat), (fxL k n).length = k
 | 0, _ => rfl
 | k + 1, n => by rw [fxL, List.length_cons, fxL_len k]
theorem fxL_0 : ∀ k, fxL k 0 = List.replicate k 48
 | 0 => rfl
 | k + 1 => by rw [fxL, Nat.zero_div, fxL_0 k, Nat.zero_mod, List.replicate_succ]
theorem fxL_add : ∀ (k j n : Nat), fxL (k + j) n = fxL k n ++ fxL j (n / 10 ^ k)
 | 0, j, n => by rw [Nat.zero_add, Nat.pow_zero, Nat.div_one]; rfl
 | k + 1, j, n => by
   rw [show k + 1 + j = (k + j) + 1 from by omega, fxL, fxL_add k j (n / 10), fxL, List.cons_append, Nat.div_div_eq_div_mul, Nat.pow_succ, Nat.mul_comm (10 ^ k)]
theorem fxL_mod : ∀ (k n : Nat), fxL k (n % 10 ^ k) = fxL k n
 | 0, _ => rfl
 | k + 1, n => by
   have h1 : n % 10 ^ (k + 1) % 10 = n % 10 := Nat.mod_mod_of_dvd n ⟨10 ^ k, by rw [Nat.pow_succ, Nat.mul_comm]⟩
   have h2 : n % 10 ^ (k + 1) / 10 = n / 10 % 10 ^ k := by
    rw [Nat.pow_succ, Nat.mul_comm, Nat.mod_mul_right_div_self]
   rw [fxL, fxL, h1, h2, fxL_mod k]
theorem fxL_td : ∀ (k n : Nat), n < 10 ^ k → fxL k n = tdL k n ++ List.replicate (k - (tdL k n).length) 48
 | 0, n, _ => by simp [fxL, tdL]
 | k + 1, n, h => by
   rw [fxL, tdL]
   split
   ·next h0 =>
    subst h0
    rw [Nat.zero_div, fxL_0, Nat.zero_mod]
    simp [List.replicate_succ]
   ·rw [fxL_td k (n / 10) (Nat.div_lt_of_lt_mul (by rw [Nat.pow_succ] at h; omega))]
    simp
theorem tdL_more : ∀ (k j n : Nat), n < 10 ^ k → tdL (k + j) n = tdL k n
 | 0, j, n, h => by
   have : n = 0 := by simpa using h
   rw [this, tdL_0, tdL_0]
 | k + 1, j, n, h => by
   rw [show k + 1 + j = (k + j) + 1 from by omega, tdL, tdL]
   split
   ·rfl
   ·rw [tdL_more k j (n / 10) (Nat.div_lt_of_lt_mul (by rw [Nat.pow_succ] at h; omega))]
theorem tdL_any {k j n : Nat} (hk : n < 10 ^ k) (hj : n < 10 ^ j) : tdL k n = tdL j n := by
 rcases Nat.le_total k j with h | h
 ·obtain ⟨d, rfl⟩ := Nat.exists_eq_add_of_le h
  exact (tdL_more k d n hk).symm
 ·obtain ⟨d, rfl⟩ := Nat.exists_eq_add_of_le h
  exact tdL_more j d n hj
theorem tdL_split : ∀ (k f n : Nat), 10 ^ k ≤ n → tdL (k + f) n = fxL k (n % 10 ^ k) ++ tdL f (n / 10 ^ k)
 | 0, f, n, _ => by rw [Nat.zero_add, Nat.pow_zero, Nat.div_one]; rfl
 | k + 1, f, n, h => by
   have h0 : n ≠ 0 := by have := Nat.pow_pos (a := 10) (n := k + 1) (by decide); omega
   have h1 : 10 ^ k ≤ n / 10 := by rw [Nat.le_div_iff_mul_le (by decide), ← Nat.pow_succ]; exact h
   rw [fxL_mod, show k + 1 + f = (k + f) + 1 from by omega, tdL, if_neg h0, tdL_split k f (n / 10) h1, fxL_mod, fxL, List.cons_append, Nat.div_div_eq_div_mul, Nat.pow_succ, Nat.mul_comm (10 ^ k)]
theorem tdL_top : ∀ (f n : Nat), n ≠ 0 → n < 10 ^ f → ∃ l c, tdL f n = l ++ [c] ∧ 49 ≤ c ∧ c ≤ 57
 | 0, n, h0, h => by rw [Nat.pow_zero] at h; omega
 | f + 1, n, h0, h => by
   rw [tdL, if_neg h0]
   by_cases h1 : n / 10 = 0
   ·rw [h1, tdL_0]
    exact ⟨[], 48 + n % 10, rfl, by omega, by omega⟩
   ·obtain ⟨l, c, e, hc⟩ := tdL_top f (n / 10) h1 (Nat.div_lt_of_lt_mul (by rw [Nat.pow_succ] at h; omega))
    exact ⟨(48 + n % 10) :: l, c, by rw [e]; rfl, hc⟩
def decG (n : Nat) : List UInt8 := if n = 0 then [48] else (tdL n n).reverse.map UInt8.ofNat
theorem lt_ten_pow (n : Nat) : n < 10 ^ n := Nat.lt_pow_self (by decide)
theorem decG_of {n f : Nat} (h0 : n ≠ 0) (h : n < 10 ^ f) : decG n = (tdL f n).reverse.map UInt8.ofNat := by
 unfold decG
 rw [if_neg h0, tdL_any (lt_ten_pow n) h]
theorem decG_zeros {n f : Nat} (h0 : n ≠ 0) (h : n < 10 ^ f) : (((fxL f n).reverse.map UInt8.ofNat).dropWhile fun c => c == 48) = decG n := by
 rw [decG_of h0 h, fxL_td f n h, List.reverse_append, List.map_append, List.reverse_replicate, List.map_replicate]
 obtain ⟨l, c, e, hc1, hc2⟩ := tdL_top f n h0 h
 rw [e, List.reverse_append, List.map_append, List.reverse_singleton, List.map_singleton]
 have hne : (UInt8.ofNat c == 48) = false := by
  rw [beq_eq_false_iff_ne]
  intro hh
  have := congrArg UInt8.toNat hh
  simp at this
  omega
 have : ∀ k (r : List UInt8), (List.replicate k (UInt8.ofNat 48) ++ ([UInt8.ofNat c] ++ r)).dropWhile (fun c => c == 48) = [UInt8.ofNat c] ++ r := fun k r => by
  induction k with
  | zero => simp [hne]
  | succ k ih =>
    rw [List.replicate_succ, List.cons_append, List.dropWhile_cons, if_pos (by rfl)]
    exact ih
 exact this _ _
theorem decG_ne (n : Nat) : decG n ≠ [] := by
 unfold decG
 split
 ·simp
 ·next h => rw [tdL_s (by omega) h]; simp
theorem tdL_len : ∀ (f n D : Nat), HasD n D → n < 10 ^ f → (tdL f n).length = D
 | 0, n, D, h, hf => by
   obtain ⟨h1, h2, _⟩ := h
   have := Nat.pow_pos (a := 10) (n := D - 1) (by decide)
   rw [Nat.pow_zero] at hf
   omega
 | f + 1, n, D, h, hf => by
   obtain ⟨h1, h2, h3⟩ := h
   have hp := Nat.pow_pos (a := 10) (n := D - 1) (by decide)
   rw [tdL, if_neg (by omega), List.length_cons]
   obtain ⟨E, rfl⟩ : ∃ E, D = E + 1 := ⟨D - 1, by omega⟩
   rw [Nat.add_sub_cancel] at h2
   by_cases h4 : n < 10
   ·have hE : E = 0 := by
     rcases Nat.eq_zero_or_pos E with h | h
     ·exact h
     ·obtain ⟨G, rfl⟩ : ∃ G, E = G + 1 := ⟨E - 1, by omega⟩
      have := Nat.pow_pos (a := 10) (n := G) (by decide)
      rw [Nat.pow_succ] at h2
      omega
    rw [show n / 10 = 0 from by omega, tdL_0, hE]
    rfl
   ·have hE : 0 < E := by
     rcases Nat.eq_zero_or_pos E with h | h
     ·rw [h] at h3; omega
     ·exact h
    obtain ⟨G, rfl⟩ : ∃ G, E = G + 1 := ⟨E - 1, by omega⟩
    rw [tdL_len f (n / 10) (G + 1) ⟨by omega, by
     rw [Nat.add_sub_cancel, Nat.le_div_iff_mul_le (by decide), ← Nat.pow_succ]; exact h2, Nat.div_lt_of_lt_mul (by rw [Nat.pow_succ] at h3; omega)⟩ (Nat.div_lt_of_lt_mul (by rw [Nat.pow_succ] at hf; omega))]
theorem decG_len {n D : Nat} (h : HasD n D) : (decG n).length = D := by
 have h0 : n ≠ 0 := by
  have := Nat.pow_pos (a := 10) (n := D - 1) (by decide)
  have := h.2.1
  omega
 unfold decG
 rw [if_neg h0, List.length_map, List.length_reverse, tdL_len n n D h (lt_ten_pow n)]
def inI (n b Z W : Nat) : Prop := ((4 * n - b) * W < Z ∧ Z < (4 * n + 2) * W) ∨ (n % 2 = 0 ∧ (Z = (4 * n - b) * W ∨ Z = (4 * n + 2) * W))
instance (n b Z W : Nat) : Decidable (inI n b Z W) := inferInstanceAs (Decidable (_ ∨ _))
def IsA (num den : Nat) (a : Int) : Prop := ∀ i j : Nat, (i : Int) - j = a → den * 10 ^ i ≤ num * 10 ^ j ∧ num * 10 ^ j < den * 10 ^ (i + 1)
theorem isA_of {num den i j : Nat} {a : Int} (he : (i : Int) - j = a) (h1 : den * 10 ^ i ≤ num * 10 ^ j) (h2 : num * 10 ^ j < den * 10 ^ (i + 1)) : IsA num den a := by
 intro i' j' h'
 obtain ⟨c, d, hi, hj⟩ : ∃ c d, i' + d = i + c ∧ j' + d = j + c := ⟨i', i, by omega, by omega⟩
 have hc : 0 < 10 ^ c := Nat.pow_pos (by decide)
 have hd : 0 < 10 ^ d := Nat.pow_pos (by decide)
 constructor
 ·refine Nat.le_of_mul_le_mul_right ?_ hd
  rw [Nat.mul_assoc, Nat.mul_assoc, ← Nat.pow_add, ← Nat.pow_add, hi, hj, Nat.pow_add, Nat.pow_add, ← Nat.mul_assoc, ← Nat.mul_assoc]
  exact Nat.mul_le_mul_right _ h1
 ·refine Nat.lt_of_mul_lt_mul_right (a := 10 ^ d) ?_
  rw [Nat.mul_assoc, Nat.mul_assoc, ← Nat.pow_add, ← Nat.pow_add, show i' + 1 + d = i + 1 + c from by omega, hj, Nat.pow_add, Nat.pow_add, ← Nat.mul_assoc, ← Nat.mul_assoc]
  exact (Nat.mul_lt_mul_right hc).2 h2
theorem isA_uniq {num den : Nat} {e e' : Int} (h : IsA num den e) (h' : IsA num den e') : e = e' := by
 have key : ∀ {a b : Int}, IsA num den a → IsA num den b → ¬ a < b := fun {a b} ha hb hlt => by
  obtain ⟨j, i, hij, i', hij'⟩ : ∃ j i : Nat, (i : Int) - j = a ∧ ∃ i' : Nat, (i' : Int) - j = b := ⟨(-a).toNat, (a + (-a).toNat).toNat, by omega, (b + (-a).toNat).toNat, by omega⟩
  have h1 := (ha i j hij).2
  have h2 := (hb i' j hij').1
  have h3 : den * 10 ^ (i + 1) ≤ den * 10 ^ i' := Nat.mul_le_mul_left _ (Nat.pow_le_pow_right (by decide) (by omega))
  omega
 rcases Int.lt_trichotomy e e' with h1 | h1 | h1
 ·exact absurd h1 (key h h')
 ·exact h1
 ·exact absurd h1 (key h' h)
theorem isA_hasD {num den D : Nat} (hd : 0 < den) (h : HasD (num / den) D) : IsA num den (D - 1) := by
 obtain ⟨h1, h2, h3⟩ := h
 refine isA_of (i := D - 1) (j := 0) (by omega) ?_ ?_
 ·rw [Nat.pow_zero, Nat.mul_one, Nat.mul_comm, ← Nat.le_div_iff_mul_le hd]; exact h2
 ·rw [Nat.pow_zero, Nat.mul_one, show D - 1 + 1 = D from by omega, Nat.mul_comm, ← Nat.div_lt_iff_lt_mul hd]; exact h3
theorem isA_shift {num den k : Nat} {a : Int} (h : IsA (num * 10 ^ k) den a) : IsA num den (a - k) := fun i j hij => by
 have := h (i + k) j (by omega)
 rw [Nat.mul_right_comm, Nat.pow_add, ← Nat.mul_assoc, show i + k + 1 = i + 1 + k from by omega, Nat.pow_add, ← Nat.mul_assoc] at this
 have hp : 0 < 10 ^ k := Nat.pow_pos (by decide)
 exact ⟨Nat.le_of_mul_le_mul_right this.1 hp, Nat.lt_of_mul_lt_mul_right this.2⟩
theorem isA_ex {num den : Nat} (hn : 0 < num) (hd : 0 < den) : ∃ a, IsA num den a := by
 have hq : 0 < num * 10 ^ den / den := Nat.div_pos (Nat.le_trans (Nat.le_of_lt (lt_ten_pow den)) (Nat.le_mul_of_pos_left _ hn)) hd
 obtain ⟨D, hD⟩ := hasD_ex _ hq
 exact ⟨_, isA_shift (isA_hasD hd hD)⟩
def ctA (num den : Nat) (s : Int) : Nat := num * 10 ^ (-s).toNat / (den * 10 ^ s.toNat)
def cxA (num den : Nat) (s : Int) : Int := rstN (num * 10 ^ (-s).toNat % (den * 10 ^ s.toNat)) (den * 10 ^ s.toNat)
theorem cut_mul {A D c : Nat} (hc : 0 < c) : A * c / (D * c) = A / D ∧ rstN (A * c % (D * c)) (D * c) = rstN (A % D) D :=
 ⟨Nat.mul_div_mul_right _ _ hc, by rw [Nat.mul_mod_mul_right, rstN_mul hc]⟩
theorem cutA_eq {num den i j : Nat} {s : Int} (h : (j : Int) - i = s) : num * 10 ^ i / (den * 10 ^ j) = ctA num den s ∧ rstN (num * 10 ^ i % (den * 10 ^ j)) (den * 10 ^ j) = cxA num den s := by
 obtain ⟨c, hi, hj⟩ : ∃ c, i = (-s).toNat + c ∧ j = s.toNat + c := ⟨i - (-s).toNat, by omega, by omega⟩
 unfold ctA cxA
 rw [hi, hj, Nat.pow_add, Nat.pow_add, ← Nat.mul_assoc, ← Nat.mul_assoc]
 exact cut_mul (Nat.pow_pos (by decide))
def shU (u s : Int) : Nat := 10 ^ s.toNat * 2 ^ (2 - u).toNat
def shW (u s : Int) : Nat := 10 ^ (-s).toNat * 2 ^ (u - 2).toNat
def fNum (m : Nat) (e : Int) : Nat := m * 2 ^ e.toNat
def fDen (e : Int) : Nat := 2 ^ (-e).toNat
theorem fDen_pos (e : Int) : 0 < fDen e := Nat.pow_pos (by decide)
def inK (n b : Nat) (u s : Int) (k : Nat) : Prop := inI n b (k * shU u s) (shW u s)
instance (n b : Nat) (u s : Int) (k : Nat) : Decidable (inK n b u s k) := inferInstanceAs (Decidable (inI _ _ _ _))
theorem ctA_digs {num den d : Nat} {a : Int} (hd : 0 < den) (h : IsA num den a) : HasD (ctA num den (a - d)) (d + 1) := by
 obtain ⟨h1, h2⟩ := h ((a - d).toNat + d) (-(a - d)).toNat (by omega)
 have hp : 0 < den * 10 ^ (a - d).toNat := Nat.mul_pos hd (Nat.pow_pos (by decide))
 unfold ctA
 refine ⟨by omega, ?_, ?_⟩
 ·rw [Nat.le_div_iff_mul_le hp, Nat.add_sub_cancel]
  refine Nat.le_trans (Nat.le_of_eq ?_) h1
  rw [Nat.pow_add]
  simp only [Nat.mul_assoc, Nat.mul_comm, Nat.mul_left_comm]
 ·rw [Nat.div_lt_iff_lt_mul hp]
  refine Nat.lt_of_lt_of_eq h2 ?_
  rw [show (a - d).toNat + d + 1 = (a - d).toNat + (d + 1) from by omega, Nat.pow_add]
  simp only [Nat.mul_assoc, Nat.mul_comm, Nat.mul_left_comm]
set_option maxHeartbeats 1000000 in
theorem builder_Write (B b g m c : Nat) (bs news : List Value) (w : World) (h : Lib.IsBuilder 104 5 B b bs w) (hl : news.length = m) (hnews : ∀ j u, news[j]? = some u → w.cell? ⟨g, j, none⟩ = some u) (hg : g ≠ b) (h1 : ∀ u ∈ news, u.oneCell' = true)
 (hlen : bs.length + m ≤ 140737488355328) (hBw : B ≤ w.heap.size) :
 Calls Tryz.prog 135 #[.pointer (some ⟨b, 0, none⟩), .slice (some ⟨g, 0, none⟩) m c] w fun e w' => e = .returned (.tuple #[.int .i64 m, .nilIface]) ∧ Lib.BuilderAt 104 5 B b (.pointer (some ⟨b, 0, none⟩)) (bs ++ news) w' ∧ Below B w w' := by
 have cC : Calls Tryz.prog 141 #[.pointer (some ⟨b, 0, none⟩)] w fun e w' => e = .returned (.tuple #[]) ∧ Lib.BuilderAt 104 5 B b (.pointer (some ⟨b, 0, none⟩)) bs w' ∧ Below B w w' ∧ ∀ j u, news[j]? = some u → w'.cell? ⟨g, j, none⟩ = some u := by
  rcases h with h | h
  ·refine Calls.mono (Any.Builder_copyCheck_fresh (P := Tryz.prog) (ρ := Tryz.lays167_ren) { Tryz.lays167 with } Tryz.Builder_Extra_167.toX72 b w h.cell0 h.shape h.frozen0) ?_
   rintro e w' ⟨rfl, rfl⟩
   refine ⟨rfl, h.used _, (Below.refl B w).setCell (p := ⟨b, 0, none⟩) h.1 _, fun j u hj => ?_⟩
   rw [World.cell?_setCell_other _ _ _ _ (by simp [hg])]
   exact hnews j u hj
  ·refine Calls.mono (Any.Builder_copyCheck_used (P := Tryz.prog) (ρ := Tryz.lays167_ren) { Tryz.lays167 with } Tryz.Builder_Extra_167.toX72 b w h.cell0) ?_
   rintro e w' ⟨rfl, rfl⟩
   exact ⟨rfl, h, Below.refl B _, hnews⟩
 obtain ⟨i0, hi, hz0, hz1, hz2⟩ := info_parts Tryz.Builder_Extra_167.infoByte
 have hne5 := Tryz.Builder_Extra_167.neB5
 clear h hnews
 go_enter Tryz.func135, Tryz.ntmps135
 go_wp2_with fail
 refine cC.mono ?_
 rintro e w1 ⟨rfl, h1', hb1, hnews1⟩
 obtain ⟨hB, v, hbk, hown, hne⟩ := h1'
 have c0 : w1.cell? ⟨b, 0, none⟩ = some (.pointer (some ⟨b, 0, none⟩)) := by rw [Lib.cell_of_heap hbk]; rfl
 have c1 : w1.cell? ⟨b, 1, none⟩ = some v := by rw [Lib.cell_of_heap hbk]; rfl
 go_wp2_with (at_builtin; refine wpList_append_own _ rfl _ _ 102 rfl B 5 i0 (.int .u8 0) 1 1 Tryz.underlying102 hi hz0 hz1 hz2 rfl (by decide) _ _ _ rfl hown ⟨g, 0, none⟩ m c news rfl (by omega) ?c0 h1 ?c3 ?c4 ?c5 ?_)
 case c0 => intro j u hj; rw [addr_add, Nat.zero_add]; exact hnews1 j u hj
 case c3 => unfold maxLen; omega
 case c4 => omega
 case c5 => have := hb1.size; omega
 intro v' w2 hown' hgrow _
 have hlt : b < w1.heap.size := by
  rcases Nat.lt_or_ge b w1.heap.size with h' | h'
  ·exact h'
  ·simp [Array.getElem?_eq_none h'] at hbk
 have hb2 : w2.heap[b]? = some (.cells #[.pointer (some ⟨b, 0, none⟩), v] 104 (0, 0)) := by
  rw [hgrow.block b hlt (fun e => hne e.symm)]
  exact hbk
 have d0 : w2.cell? ⟨b, 0, none⟩ = some (.pointer (some ⟨b, 0, none⟩)) := by rw [Lib.cell_of_heap hb2]; rfl
 have d1 : w2.cell? ⟨b, 1, none⟩ = some v := by rw [Lib.cell_of_heap hb2]; rfl
 have f1 : w2.frozen? ⟨b, 1, none⟩ = false := Lib.frozen_of_heap hb2 1
 obtain ⟨ao, n', cap, rfl⟩ : ∃ ao n' cap, v' = .slice ao n' cap := by
  rcases hown'.2 with ⟨hv, _⟩ | ⟨g, cap, cur, hv, _⟩
  ·exact ⟨_, _, _, hv⟩
  ·exact ⟨_, _, _, hv⟩
 go_wp2
 go_ret2
 refine ⟨rfl, ?_, ?_⟩
 ·exact Lib.BuilderAt.put (T := 104) (e := 5) hB hb2 (bs' := bs ++ news) (by simpa [hl] using hown') hne5
 ·exact (hb1.grown hgrow (by have := hb1.size; omega) (fun k hk => (hown.lt k hk).1)).setCell (p := ⟨b, 1, none⟩) hB _
def WV (w : World) (l : List Int) (v : Value) : Prop := ∃ cs, Rep w (fun b => b < w.heap.size ∧ True) (words l) cs ∧ v = (words l).toVal cs
theorem WV.shape {w : World} {l : List Int} {v : Value} (h : WV w l v) : ∃ A c, v = .slice A l.length c := by
 obtain ⟨cs, h1, rfl⟩ := h
 unfold words at h1 ⊢
 rw [Rep] at h1
 rcases h1 with ⟨h2, A, c, rfl⟩ | ⟨b, o, c, _, _, rfl, _⟩
 ·have : l = [] := by simpa using h2
  subst this
  exact ⟨A, c, rfl⟩
 ·exact ⟨_, c, by rw [List.length_map]; rfl⟩
theorem WV.below {w w' : World} {l : List Int} {v : Value} (h : WV w l v) (hb : Below w.heap.size w w') : WV w' l v := by
 obtain ⟨cs, h1, rfl⟩ := h
 refine ⟨cs, Rep.mono (fun b o v hb' hv => ?_) (fun b hb' => ⟨Nat.lt_of_lt_of_le hb'.1 hb.size, trivial⟩) h1, rfl⟩
 rw [← hv]
 exact World.cell?_of_block (w := w) (a := ⟨b, o, none⟩) (hb.block b hb'.1)
theorem WV.of {w : World} {μ : Sites} {cx : Cx} {nw : Bool} {mem : Nat → Blk} {l : List Int} {v : Value} (h : RepA cx w μ mem (.v nw (words l)) v) : WV w l v := by
 rw [RepA] at h
 obtain ⟨cs, h1, h2⟩ := h
 exact ⟨cs, Rep.any h1, h2⟩
def WVB (B : Nat) (w : World) (l : List Int) (v : Value) : Prop := ∃ cs, Rep w (fun b => B ≤ b ∧ b < w.heap.size) (words l) cs ∧ v = (words l).toVal cs
theorem WVB.of {w : World} {μ : Sites} {cx : Cx} {mem : Nat → Blk} {l : List Int} {v : Value} (h : RepA cx w μ mem (.v true (words l)) v) : WVB cx.B w l v := by
 rw [RepA] at h
 obtain ⟨cs, h1, h2⟩ := h
 refine ⟨cs, Rep.mono (fun _ _ _ _ hv => hv) (fun b hb => ⟨?_, hb.1⟩) h1, h2⟩
 rcases hb.2.2 with h | h
 ·exact h
 ·cases h.1
theorem WVB.to {B : Nat} {w w' : World} {l : List Int} {v : Value} (h : WVB B w l v) (hs : w.heap.size ≤ w'.heap.size) (hc : ∀ b, B ≤ b → b < w.heap.size → w'.heap[b]? = w.heap[b]?) : WV w' l v := by
 obtain ⟨cs, h1, h2⟩ := h
 refine ⟨cs, Rep.mono (fun b o v hb hv => ?_) (fun b hb => ⟨Nat.lt_of_lt_of_le hb.2 hs, trivial⟩) h1, h2⟩
 rw [← hv]
 exact World.cell?_of_block (w := w) (a := ⟨b, o, none⟩) (hc b hb.1 hb.2)
theorem grown_of {w w' : World} (h : Below w.heap.size w w') : w.grownBy w' none := ⟨h.os, h.tape, h.output, h.size, fun k hk _ => h.block k hk⟩
theorem row_kept {w w' : World} {B e : Nat} {v : Value} {n : Nat} {xs : List Value} (h : w.ownsRow B e 1 v n xs) (hb : Below w.heap.size w w') : w'.ownsRow B e 1 v n xs := by
 refine h.kept (grown_of hb) ?_
 obtain ⟨_, h2⟩ := h
 rcases h2 with ⟨rfl, _⟩ | ⟨g, cap, cur, rfl, _⟩
 ·exact .inl rfl
 ·exact .inr (by simp [Value.ownBlock])
theorem row_shape {w : World} {B e : Nat} {v : Value} {n : Nat} {xs : List Value} (h : w.ownsRow B e 1 v n xs) : ∃ A c, v = .slice A n c ∧ (n ≠ 0 → ∃ g, A = some ⟨g, 0, none⟩ ∧ g < w.heap.size ∧ ∀ (j : Nat) (u : Value), xs[j]? = some u → w.cell? ⟨g, j, none⟩ = some u) := by
 have h0 := h
 obtain ⟨_, h2⟩ := h
 rcases h2 with ⟨rfl, rfl⟩ | ⟨g, cap, cur, rfl, h3, h4, h5⟩
 ·exact ⟨_, _, rfl, fun h => absurd rfl h⟩
 ·refine ⟨_, _, rfl, fun _ => ⟨g, rfl, (h0.lt g rfl).2, fun j u hj => ?_⟩⟩
  have := h0.cells rfl j u hj
  rw [addr_add, Nat.zero_add] at this
  exact this
theorem FnOk.callsV {P : Program} {f : FuncId} {args : List Arg} {rs : List R} {w : World} (h : FnOk P f args rs) (hent : ∀ vs w, (callFunc f vs).run P w = .ok (.enter f vs) w) {vs : List Value} (hG : GL w) (ha : ArgsRep w (fun _ => True) args vs) :
 Calls P f vs.toArray w fun e w' => ∃ val μ', e = .returned val ∧ Below w.heap.size w w' ∧ RepA { B := w.heap.size, O := fun _ => True } w' μ' (look (R.mems rs)) (R.res rs) val := by
 rcases h w _ vs hG ha with ⟨_, h2⟩ | ⟨v, w', h1, _⟩
 ·refine h2.mono ?_
  rintro e w' ⟨v, μ', rfl, h3, h4, h5, h6⟩
  exact ⟨v, μ', rfl, h3, h6⟩
 ·rw [hent] at h1
  cases h1
theorem args_wv {w : World} {l : List Int} {v : Value} {al : List Arg} {vs : List Value} (h : WV w l v) (hr : ArgsRep w (fun _ => True) al vs) : ArgsRep w (fun _ => True) (.v (words l)  :: al) (v :: vs) := by
 rw [ArgsRep]
 exact ⟨_, _, rfl, by rw [ArgRep]; exact h, hr⟩
theorem args_i {w : World} {k : IntKind} {n : Int} {al : List Arg} {vs : List Value} (hr : ArgsRep w (fun _ => True) al vs) : ArgsRep w (fun _ => True) (.v (.int k n)  :: al) (.int k n :: vs) := by
 rw [ArgsRep]
 exact ⟨_, _, rfl, by rw [ArgRep]; exact ⟨[.int k n], by rw [Rep], rfl⟩, hr⟩
theorem args_0 {w : World} : ArgsRep w (fun _ => True) [] [] := by rw [ArgsRep]
theorem trim_calls (l : List Int) (hl : l.length < 1000000) (ol : okW l) (v : Value) (w : World) (hG : GL w) (hv : WV w l v) :
 Calls Tryz.prog 133 #[v] w fun e w' => ∃ v', e = .returned v' ∧ WV w' (digs (val l)) v' ∧ Below w.heap.size w w' := by
 refine ((wTrim_ok l hl ol).callsV (enters_of Tryz.func133 (by kernel_rfl) rfl) (vs := [v]) hG (args_wv hv args_0)).mono ?_
 rintro e w' ⟨val, μ', rfl, h1, h2⟩
 exact ⟨_, rfl, WV.of h2, h1⟩
theorem divWord_calls (n : Nat) (hn : (digs n).length < 900) (v : Value) (w : World) (hG : GL w) (hv : WV w (digs n) v) :
 Calls Tryz.prog 134 #[v, .int .u64 10000000000000000000] w fun e w' => ∃ v', e = .returned (.tuple #[v', .int .u64 ((n % 10000000000000000000 : Nat) : Int)]) ∧ WVB w.heap.size w' (digs (n / 10000000000000000000)) v' ∧ Below w.heap.size w w' := by
 have h := divWord_ok (digs n) 10000000000000000000 (by omega) (digs_ok _).1 (by decide) (by decide)
 rw [(digs_ok n).2.2] at h
 refine (h.callsV (enters_of Tryz.func134 (by kernel_rfl) rfl) (vs := [v, .int .u64 10000000000000000000]) hG (args_wv hv (args_i args_0))).mono ?_
 rintro e w' ⟨val, μ', rfl, h1, h2⟩
 rw [show R.res [R.v true (words (digs (n / 10000000000000000000))), R.v true (.int .u64 ((n % 10000000000000000000 : Nat) : Int))] = .tup [.v true (words (digs (n / 10000000000000000000))), .v true (.int .u64 ((n % 10000000000000000000 : Nat) : Int))] from rfl, RepA] at h2
 obtain ⟨vs, rfl, h2⟩ := h2
 rw [RepAL] at h2
 obtain ⟨v1, vr, rfl, h3, h4⟩ := h2
 rw [RepAL] at h4
 obtain ⟨v2, vr, rfl, h5, h6⟩ := h4
 rw [RepAL] at h6
 subst h6
 rw [repA_int.1 h5]
 exact ⟨_, rfl, WVB.of h3, h1⟩
def grL (gs : List Nat) : List Nat := gs.flatMap (fxL 19)
theorem grL_snoc (gs : List Nat) (N : Nat) (h : grL gs = fxL (19 * gs.length) N) : grL (gs ++ [N / 10 ^ (19 * gs.length) % 10000000000000000000]) = fxL (19 * (gs.length + 1)) N := by
 unfold grL at h ⊢
 rw [List.flatMap_append, h, Nat.mul_succ, fxL_add, List.flatMap_cons, List.flatMap_nil, List.append_nil, show (10000000000000000000 : Nat) = 10 ^ 19 from rfl, fxL_mod]
def gpB (gs : List Nat) (i : Nat) : List UInt8 := (grL (gs.drop i)).reverse.map UInt8.ofNat
theorem gpB_end (gs : List Nat) : gpB gs gs.length = [] := by simp [gpB, grL]
theorem gpB_step (gs : List Nat) (i : Nat) (h : i < gs.length) : gpB gs i = gpB gs (i + 1) ++ (fxL 19 (gs.getD i 0)).reverse.map UInt8.ofNat := by
 unfold gpB grL
 rw [List.drop_eq_getElem_cons h, List.flatMap_cons, List.reverse_append, List.map_append, List.getD_eq_getElem?_getD, List.getElem?_eq_getElem h]
 rfl
theorem gpB_len (gs : List Nat) (i : Nat) (h : i ≤ gs.length) : (gpB gs i).length = 19 * (gs.length - i) := by
 have key : ∀ l : List Nat, (grL l).length = 19 * l.length := fun l => by
  induction l with
  | nil => rfl
  | cons a l ih => unfold grL at ih ⊢; rw [List.flatMap_cons, List.length_append, ih, fxL_len, List.length_cons]; omega
 unfold gpB
 rw [List.length_map, List.length_reverse, key, List.length_drop]
theorem fxL_get : ∀ (k n i : Nat), i < k → (fxL k n)[i]? = some (48 + n / 10 ^ i % 10)
 | 0, _, _, h => by omega
 | k + 1, n, 0, _ => by rw [fxL, List.getElem?_cons_zero, Nat.pow_zero, Nat.div_one]
 | k + 1, n, i + 1, h => by rw [fxL, List.getElem?_cons_succ, fxL_get k (n / 10) i (by omega), Nat.div_div_eq_div_mul, Nat.pow_succ, Nat.mul_comm 10]
def dgW (z h : Nat) : List Value := List.replicate h (.int .u8 0) ++ ((fxL 19 z).take (19 - h)).reverse.map fun c => Value.int .u8 (c : Nat)
theorem dgW_len (z h : Nat) (hh : h ≤ 19) : (dgW z h).length = 19 := by
 unfold dgW
 rw [List.length_append, List.length_replicate, List.length_map, List.length_reverse, List.length_take, fxL_len]
 omega
theorem dgW_step (z h : Nat) (hh : h < 19) : (dgW z (h + 1)).set h (.int .u8 ((48 + z / 10 ^ (18 - h) % 10 : Nat) : Int)) = dgW z h := by
 unfold dgW
 rw [show 19 - h = (19 - (h + 1)) + 1 from by omega, List.take_add_one, fxL_get 19 z (19 - (h + 1)) (by omega), show 19 - (h + 1) = 18 - h from by omega]
 rw [List.reverse_append, List.map_append, Option.toList, List.reverse_singleton, List.map_singleton, List.replicate_succ', List.append_assoc, List.set_append_right _ _ (by simp), List.length_replicate, Nat.sub_self]
 rfl
theorem dgW_0 (z : Nat) : dgW z 0 = Lib.byteCells ((fxL 19 z).reverse.map UInt8.ofNat) := by
 unfold dgW Lib.byteCells
 rw [List.replicate_zero, List.nil_append, Nat.sub_zero, List.take_of_length_le (by rw [fxL_len]; exact Nat.le_refl _), List.map_map]
 refine List.map_congr_left fun c hc => ?_
 have key : ∀ (k n : Nat), ∀ c ∈ fxL k n, c < 256 := fun k => by
  induction k with
  | zero => intro n c hc; simp [fxL] at hc
  | succ k ih =>
    intro n c hc
    rw [fxL] at hc
    rcases List.mem_cons.1 hc with rfl | hc
    ·omega
    ·exact ih _ c hc
 have h := key 19 z c (List.mem_reverse.1 hc)
 show Value.int .u8 _ = Value.int .u8 _
 simp only [Function.comp, UInt8.toNat_ofNat', Nat.mod_eq_of_lt h]
theorem set_cells {w : World} {b i : Nat} {cs : List Value} {e : TypeId} {v : Value} (h : w.heap[b]? = some (.cells cs.toArray e (0, 0))) : (w.setCell ⟨b, i, none⟩ v).heap[b]? = some (.cells (cs.set i v).toArray e (0, 0)) := by
 simp [World.setCell, Array.getElem?_modify, h]
theorem World.lt_of_builder {T e B b : Nat} {bs : List Value} {w : World} (h : Lib.IsBuilder T e B b bs w) : b < w.heap.size := by
 have one : ∀ p, Lib.BuilderAt T e B b p bs w → b < w.heap.size := fun p h => by
  obtain ⟨_, v, hb, _⟩ := h
  exact (Array.getElem?_eq_some_iff.1 hb).1
 rcases h with h | h
 ·exact one _ h
 ·exact one _ h
theorem drop_zeros : ∀ k, Lib.trimLeftB (List.replicate k (UInt8.ofNat 48)) 48 = []
 | 0 => rfl
 | k + 1 => by
   unfold Lib.trimLeftB
   rw [List.replicate_succ, List.dropWhile_cons, if_pos (by rfl)]
   exact drop_zeros k
theorem hid_mk {p : Prop} (h : p) : Hid p := h
theorem grp_bounds {g N X k : Nat} (h0 : 0 < g) (hg : g = N / 10 ^ (19 * k)) (hN : N < 2 ^ (64 * X)) (hX : X < 900) : (digs g).length < 900 ∧ 0 < (digs g).length ∧ k < 1000 := by
 have hle : g ≤ N := by rw [hg]; exact Nat.div_le_self _ _
 refine ⟨?_, ?_, ?_⟩
 ·have := digs_len (v := g) (m := X) (by rw [B_pow]; omega)
  omega
 ·rcases Nat.eq_zero_or_pos (digs g).length with h | h
  ·have := (digs_ok g).2.2
   rw [List.length_eq_zero_iff.1 h] at this
   have e : val [] = 0 := rfl
   omega
  ·exact h
 ·rcases Nat.lt_or_ge k 1000 with h | h
  ·exact h
  ·exfalso
   have h1 : 10 ^ (19 * k) ≤ N := by
    rcases Nat.lt_or_ge N (10 ^ (19 * k)) with h2 | h2
    ·rw [Nat.div_eq_of_lt h2] at hg; omega
    ·exact h2
   have h2 : 2 ^ (64 * X) ≤ 10 ^ (19 * k) := by
    have h3 : (2 : Nat) ^ (63 * k) ≤ 10 ^ (19 * k) := by
     rw [Nat.pow_mul, Nat.pow_mul]
     exact Nat.pow_le_pow_left (by decide) k
    exact Nat.le_trans (Nat.pow_le_pow_right (by decide) (by omega)) h3
   omega
set_option maxHeartbeats 4000000 in
set_option maxRecDepth 1000000 in
theorem decimal_calls (x : List Int) (hx : x.length < 900) (ox : okW x) (v : Value) (w : World) (hG : GL w) (hv : WV w x v) : Calls Tryz.prog 54 #[v] w fun e w' => e = .returned (.string ⟨(decG (val x)).toArray⟩) ∧ Below w.heap.size w w' := by
 obtain ⟨i0, hi, hz0, hz1, hz2⟩ := info_parts (P := Tryz.prog) (e := 91) (z := .int .u64 0) (size := 1) (bytes := 8) (by kernel_rfl)
 have hT := trim_calls x (by omega) ox v w hG hv
 obtain ⟨N, hN⟩ : ∃ N, N = val x := ⟨_, rfl⟩
 have hNl : Hid (N < 2 ^ (64 * x.length) ∧ x.length < 900) := by
  have := val_lt ox
  rw [B_pow] at this
  exact ⟨by rw [hN]; exact this, hx⟩
 obtain ⟨X, hX⟩ : ∃ X, X = x.length := ⟨_, rfl⟩
 rw [← hX] at hNl
 rw [← hN] at hT ⊢
 clear hX hN hv ox hx
 go_enter Tryz.func54, Tryz.ntmps54
 go_wp2_with fail
 refine hT.mono ?_
 rintro e w1 ⟨v1, rfl, hv1, hb1⟩
 have HB1 : Hid (Below w.heap.size w w1) := hb1
 have HG1 : Hid (GL w1) := hG.below hb1 (Nat.le_refl _)
 have HV1 : Hid (WV w1 (digs N) v1) := hv1
 have hG0 := hG
 clear hT hb1 hv1 hG HG1
 have HG0 : Hid (GL w) := hG0
 go_wp2
 go_loopg [0, 3] N (fun g x0 x3 wx => ∃ gs : List Nat, Hid (g = N / 10 ^ (19 * gs.length)) ∧ Hid (WV wx (digs g) x0) ∧ Hid (grL gs = fxL (19 * gs.length) N) ∧ Hid ((∀ z ∈ gs, z < 10000000000000000000) ∧ gs.length ≤ 1000) ∧ Hid (Below w.heap.size w wx) ∧
  Hid (wx.ownsRow w.heap.size 91 1 x3 gs.length (gs.map fun n => Value.int .u64 (n : Nat))))
 case atStart => exact ⟨[], by show N = N / 10 ^ 0; rw [Nat.pow_zero, Nat.div_one], HV1, rfl, ⟨fun _ h => by simp at h, Nat.zero_le _⟩, HB1, World.ownsRow_nil _ _ _ _⟩
 case round =>
  obtain ⟨gs, Hg, HV, HL, HZ, HB, HO⟩ := hrel
  obtain ⟨A, c, rfl⟩ := HV.out.shape
  have HG : Hid (GL wr) := HG0.out.below HB.out (Nat.le_refl _)
  rcases Nat.eq_zero_or_pos gk with h0 | h0
  ·subst h0
   have hd0 : (digs 0).length = 0 := rfl
   obtain ⟨A3, c3, rfl, hA3⟩ := row_shape HO.out
   have HA3 := hid_mk hA3
   obtain ⟨wr', hwr⟩ : ∃ W, W = wr := ⟨_, rfl⟩
   subst hwr
   have hkb : gs.length ≤ 1000 := HZ.out.2
   clear hA3
   go_wp2
   go_loopg [6] gs.length (fun g v6 wx => g ≤ gs.length ∧ v6 = .int .i64 ((g : Int) - 1) ∧ Hid (Lib.IsBuilder 104 5 wr'.heap.size wr'.heap.size (Lib.byteCells (gpB gs g)) wx) ∧ Hid (Below wr'.heap.size wr' wx))
   case atStart =>
    refine ⟨Nat.le_refl _, ?_, ?_, (Below.refl _ _).alloc (Nat.le_refl _) _⟩
    ·rfl
    ·rw [gpB_end]
     exact Lib.fresh_isBuilder 104 5 wr'
   case round =>
    obtain ⟨hgk, rfl, HBl, HBb⟩ := hrel
    rcases Nat.eq_zero_or_pos gk with h0 | h0
    ·subst h0
     have g0 : ¬ (0 : Int) ≤ ((0 : Nat) : Int) - 1 := by decide
     go_wp2_with fail
     refine (Tryz.Builder_String wr'.heap.size wr'.heap.size (gpB gs 0) _ HBl.out HBb.out.size).mono ?_
     rintro e w5 ⟨rfl, hb5⟩
     have hTL := Tryz.strings_TrimLeft ⟨(gpB gs 0).toArray⟩ 48 (by decide) w5
     obtain ⟨D, hD⟩ : ∃ D, D = Lib.trimLeftB (gpB gs 0) 48 := ⟨_, rfl⟩
     have hTL : Calls Tryz.prog 136 #[.string ⟨(gpB gs 0).toArray⟩, .string ⟨#[48]⟩] w5 fun e w' => e = .returned (.string ⟨D.toArray⟩) ∧ w' = w5 := by rw [hD]; exact hTL
     have hDn : (N = 0 → D = []) ∧ (N ≠ 0 → D = decG N ∧ D ≠ []) := by
      have hN0 : N < 10 ^ (19 * gs.length) := by
       have := Hg.out
       rcases Nat.lt_or_ge N (10 ^ (19 * gs.length)) with h | h
       ·exact h
       ·have := Nat.div_pos h (Nat.pow_pos (by decide)); omega
      have e1 : gpB gs 0 = (fxL (19 * gs.length) N).reverse.map UInt8.ofNat := by unfold gpB; rw [List.drop_zero, HL.out]
      rw [hD, e1]
      refine ⟨fun h => ?_, fun h => ?_⟩
      ·rw [h, fxL_0, List.reverse_replicate, List.map_replicate]
       exact drop_zeros _
      ·have := decG_zeros h hN0
       refine ⟨this, ?_⟩
       unfold Lib.trimLeftB
       rw [this]
       exact decG_ne N
     have HB5 : Hid (Below w.heap.size w w5) := by
      have h1 : Below w.heap.size w wr := HB.out.trans ⟨HBb.out.os, HBb.out.tape, HBb.out.output, HBb.out.size, fun k hk => HBb.out.block k (by have := HB.out.size; omega)⟩
      exact h1.trans ⟨hb5.os, hb5.tape, hb5.output, hb5.size, fun k hk => hb5.block k (by have := HB.out.size; omega)⟩
     have HD := hid_mk hDn
     clear hDn hD hb5
     go_wp2_with fail
     refine hTL.mono ?_
     rintro e w6 ⟨rfl, rfl⟩
     by_cases hN0 : N = 0
     ·obtain rfl := HD.out.1 hN0
      have e2 : decG N = [48] := by rw [hN0]; rfl
      go_wp2
      go_ret
      exact ⟨by rw [e2]; rfl, HB5⟩
     ·obtain ⟨hD1, hD2⟩ := HD.out.2 hN0
      have hDs : ¬ (⟨D.toArray⟩ : ByteArray) = ⟨#[]⟩ := fun e => hD2 (by simpa using e)
      go_wp2
      ·go_ret
       exact ⟨rfl, HB5⟩
      ·exfalso
       have h1 : (!(decG N).isEmpty) = false := by assumption
       rw [← hD1] at h1
       exact hD2 (by simpa using h1)
    ·obtain ⟨q, rfl⟩ : ∃ q, gk = q + 1 := ⟨gk - 1, by omega⟩
     have g0 : (0 : Int) ≤ ((q + 1 : Nat) : Int) - 1 := by omega
     have e0 : ((q + 1 : Nat) : Int) - 1 = (q : Nat) := by omega
     rw [e0] at g0 ⊢
     obtain ⟨g, rfl, hg1, hg2⟩ := HA3.out (by omega)
     have hql : q < gs.length := by omega
     obtain ⟨z, hz⟩ : ∃ z, z = gs.getD q 0 := ⟨_, rfl⟩
     have hzc : wr.cell? ⟨g, q, none⟩ = some (.int .u64 (z : Nat)) := by
      rw [HBb.out.cell (p := ⟨g, q, none⟩) hg1]
      refine hg2 q _ ?_
      rw [List.getElem?_map, List.getElem?_eq_getElem hql, hz, List.getD_eq_getElem?_getD, List.getElem?_eq_getElem hql]
      rfl
     have h19 : madeCells #[Value.int .u8 0] 19 = (dgW z 19).toArray := by
      unfold dgW
      rw [Nat.sub_self, List.take_zero, List.reverse_nil, List.map_nil]
      kernel_rfl
     have hmk : ∀ w, (Instr.makeSlice 102 (.int .i64 19) (.int .i64 19)).run Tryz.prog w = .ok (.slice (some ⟨w.heap.size, 0, none⟩) 19 19) (w.alloc (.cells (dgW z 19).toArray 5)) := fun w => by
      rw [← h19]
      exact run_make_row' 102 5 (.int .u8 0) 1 Tryz.underlying102 (by kernel_rfl) rfl .i64 .i64 19 (by decide) (by decide) w
     have hzc2 : (wr.alloc (.cells (dgW z 19).toArray 5)).cell? ⟨g, q, none⟩ = some (.int .u64 (z : Nat)) := by
      rw [World.cell?_alloc_past _ _ _ (by have := HBb.out.size; show g < _; omega)]
      exact hzc
     have hzl : z < 10000000000000000000 := HZ.out.1 z (by rw [hz, List.getD_eq_getElem?_getD, List.getElem?_eq_getElem hql]; exact List.getElem_mem hql)
     have Hz := hid_mk hz
     clear hg2 h19 hz hzc
     have H0 : Hid (Below wr.heap.size wr (wr.alloc (.cells (dgW z 19).toArray 5)).drew ∧ (wr.alloc (.cells (dgW z 19).toArray 5)).drew.heap[wr.heap.size]? = some (.cells (dgW z 19).toArray 5 (0, 0))) := ⟨((Below.refl _ _).alloc (Nat.le_refl _) _).drew, MapKept.heap_alloc wr _ |>.1⟩
     go_wp2_with fail
     go_region
     go_wp2
     obtain ⟨wo, hwo⟩ : ∃ W, W = wr := ⟨_, rfl⟩
     subst hwo
     go_loopg [8, 9] 19 (fun h v8 v9 wy => h ≤ 19 ∧ v8 = .int .i64 ((h : Int) - 1) ∧ v9 = .int .u64 ((z / 10 ^ (19 - h) : Nat) : Int) ∧ Hid (Below wo.heap.size wo wy ∧ wy.heap[wo.heap.size]? = some (.cells (dgW z h).toArray 5 (0, 0))))
     case atStart => exact ⟨Nat.le_refl _, rfl, by rw [Nat.sub_self, Nat.pow_zero, Nat.div_one], H0⟩
     case round =>
      obtain ⟨hh, rfl, rfl, HY⟩ := hrel
      rcases Nat.eq_zero_or_pos gk with h0 | h0
      ·subst h0
       have g3 : ¬ (0 : Int) ≤ ((0 : Nat) : Int) - 1 := by decide
       have hbl : Lib.IsBuilder 104 5 wr'.heap.size wr'.heap.size (Lib.byteCells (gpB gs (q + 1))) wr := builder_kept HBl.out fun k hk => HY.out.1.block k hk
       have hg := HY.out.2
       rw [dgW_0] at hg
       have hcl : ∀ j u, (Lib.byteCells ((fxL 19 z).reverse.map UInt8.ofNat))[j]? = some u → wr.cell? ⟨wo.heap.size, j, none⟩ = some u := fun j u hj => by
        rw [Lib.cell_of_heap hg, ← hj, List.getElem?_toArray]
       have hW := builder_Write wr'.heap.size wr'.heap.size wo.heap.size 19 19 _ _ wr hbl (by rw [Lib.byteCells_length, List.length_map, List.length_reverse, fxL_len]) hcl (by have := HBb.out.size; have := (World.lt_of_builder HBl.out); omega) (fun u hu => by obtain ⟨c, _, rfl⟩ := List.mem_map.1 hu; rfl) (by rw [Lib.byteCells_length, gpB_len gs (q + 1) hgk]; omega) (by have := HBb.out.size; have := HY.out.1.size; omega)
       rw [← Lib.byteCells_append] at hW
       have HW := hid_mk hW
       have HB9 : Hid (Below wr'.heap.size wr' wr) := HBb.out.trans ⟨HY.out.1.os, HY.out.1.tape, HY.out.1.output, HY.out.1.size, fun k hk => HY.out.1.block k (by have := HBb.out.size; omega)⟩
       clear hW hcl hg hbl
       go_wp2_with fail
       refine HW.out.mono ?_
       rintro e w8 ⟨rfl, h8, hb8⟩
       have H8 : Hid (Lib.IsBuilder 104 5 wr'.heap.size wr'.heap.size (Lib.byteCells (gpB gs q)) w8) := by
        rw [gpB_step gs q hql, ← Hz.out]
        exact .inr h8
       have HB8 : Hid (Below wr'.heap.size wr' w8) := HB9.out.trans hb8
       clear h8 hb8 HW
       go_wp2
       go_roundg q
       case measure => omega
       case rel => exact ⟨by omega, rfl, H8, HB8⟩
      ·obtain ⟨h, rfl⟩ : ∃ h, gk = h + 1 := ⟨gk - 1, by omega⟩
       have e3 : ((h + 1 : Nat) : Int) - 1 = (h : Nat) := by omega
       have g3 : (0 : Int) ≤ (h : Nat) := by omega
       have g4 : (h : Int) < 19 := by omega
       rw [e3]
       have hul : z / 10 ^ (19 - (h + 1)) < 10000000000000000000 := Nat.lt_of_le_of_lt (Nat.div_le_self _ _) hzl
       have hst := dgW_step z h (by omega)
       have hnx : z / 10 ^ (19 - (h + 1)) / 10 = z / 10 ^ (19 - h) := by
        rw [Nat.div_div_eq_div_mul, ← Nat.pow_succ, show (19 - (h + 1)).succ = 19 - h from by omega]
       rw [show 18 - h = 19 - (h + 1) from by omega] at hst
       obtain ⟨u, hu⟩ : ∃ u, u = z / 10 ^ (19 - (h + 1)) := ⟨_, rfl⟩
       rw [← hu] at hul hst hnx ⊢
       have wd := quoN u 10
       have wm : (u : Int).tmod 10 = ((u % 10 : Nat) : Int) := remN u 10
       have hd10 : u % 10 < 10 := Nat.mod_lt _ (by decide)
       have hud : u / 10 ≤ u := Nat.div_le_self _ _
       obtain ⟨d, hd⟩ : ∃ d, d = u % 10 := ⟨_, rfl⟩
       obtain ⟨p, hp⟩ : ∃ p, p = u / 10 := ⟨_, rfl⟩
       rw [← hd] at wm hst hd10
       rw [← hp] at wd hud hnx
       have w1 : IntKind.u64.wrap (p : Int) = (p : Int) := by rw [wrap_u64]; omega
       have w2 : IntKind.u64.wrap (48 + (d : Int)) = 48 + (d : Int) := by rw [wrap_u64]; omega
       have w3 : IntKind.u8.wrap (48 + (d : Int)) = 48 + (d : Int) := by rw [wrap_u8]; omega
       have hlen := dgW_len z (h + 1) hh
       obtain ⟨x1, hx1⟩ : ∃ x1, (dgW z (h + 1))[h]? = some x1 := ⟨_, List.getElem?_eq_getElem (by omega)⟩
       have c1 : wr.cell? ⟨wo.heap.size, h, none⟩ = some x1 := by rw [Lib.cell_of_heap HY.out.2, List.getElem?_toArray]; exact hx1
       have f1 : wr.frozen? ⟨wo.heap.size, h, none⟩ = false := Lib.frozen_of_heap HY.out.2 h
       have HN : Hid (Below wo.heap.size wo (wr.setCell ⟨wo.heap.size, h, none⟩ (.int .u8 (48 + (d : Int)))) ∧ (wr.setCell ⟨wo.heap.size, h, none⟩ (.int .u8 (48 + (d : Int)))).heap[wo.heap.size]? = some (.cells (dgW z h).toArray 5 (0, 0))) := by
        refine ⟨HY.out.1.setCell (p := ⟨wo.heap.size, h, none⟩) (Nat.le_refl _) _, ?_⟩
        rw [set_cells HY.out.2, show (48 + (d : Int)) = ((48 + d : Nat) : Int) from by omega, hst]
       have HP := hid_mk (And.intro hnx hp)
       clear hst hnx hu hd hp hx1 hlen
       go_wp2
       go_roundg h
       case measure => omega
       case rel => exact ⟨by omega, rfl, congrArg (Value.int .u64) (by rw [← HP.out.1, HP.out.2]; omega), HN⟩
  ·obtain ⟨hl1, hl2, hl3⟩ := grp_bounds h0 Hg.out hNl.out.1 hNl.out.2
   have hd := divWord_calls gk hl1 _ wr HG.out HV.out
   have hd0 : 0 < (digs gk).length := hl2
   have HLn := HL.out
   have hLs := grL_snoc gs N HL.out
   rw [← Hg.out] at hLs
   have hqn : gk / 10000000000000000000 = N / 10 ^ (19 * (gs.length + 1)) := by
    rw [Hg.out, Nat.div_div_eq_div_mul, show (10000000000000000000 : Nat) = 10 ^ 19 from rfl, ← Nat.pow_add, Nat.mul_succ]
   have hqlt : gk / 10000000000000000000 < gk := Nat.div_lt_self h0 (by decide)
   have hrl : gk % 10000000000000000000 < 10000000000000000000 := Nat.mod_lt _ (by decide)
   obtain ⟨r, hr⟩ : ∃ r, r = gk % 10000000000000000000 := ⟨_, rfl⟩
   obtain ⟨q, hq⟩ : ∃ q, q = gk / 10000000000000000000 := ⟨_, rfl⟩
   rw [← hr] at hLs hrl hd
   rw [← hq] at hqn hqlt hd
   have HX := hid_mk (And.intro hLs (And.intro hrl (And.intro hqn hqlt)))
   clear hr hq hLs hrl hqn hqlt HLn hl2
   go_wp2_with fail
   refine hd.mono ?_
   rintro e w2 ⟨v2, rfl, hv2, hb2⟩
   have HV2 := hid_mk hv2
   have HB2 := hid_mk hb2
   have HO2 := hid_mk (row_kept HO.out hb2)
   have HOl := hid_mk HO.out.lt
   clear hd hv2 hb2
   go_wp2_with (first
    | (at_builtin; refine wpList_append_own _ rfl _ _ 25 rfl w.heap.size 91 i0 (.int .u64 0) 1 8 Tryz.underlying25 hi hz0 hz1 hz2 rfl (by decide) _ _ _ rfl (HO2.out.alloc _) ⟨w2.heap.size, 0, none⟩ 1 1 [.int .u64 (r : Nat)] rfl rfl ?c1 ?c2 ?c3 ?c4 ?c5 ?_)
    | go_in)
   case c1 =>
    intro j u hj
    match j, hj with
    | 0, hj => simp at hj; subst hj; simp [Addr.add]
   case c2 => intro u hu; simp at hu; subst hu; rfl
   case c3 => unfold maxLen; omega
   case c4 => omega
   case c5 => have := HB.out.size; have := HB2.out.size; simp; omega
   intro v3 w3 hown' hgrow _
   have HO3 := hid_mk hown'
   have hsz := HB2.out.size
   have hs3 := hgrow.size
   have hgr : ∀ b, w.heap.size ≤ b → b < w2.heap.size → u3.ownBlock ≠ some b → w3.heap[b]? = w2.heap[b]? := fun b _ hb hne => by
    rw [hgrow.block b (by simp; omega) (fun e => hne e.symm)]
    exact Below.heap_alloc _ _ _ hb
   have HV3 : Hid (WV w3 (digs q) v2) := HV2.out.to (by simp at hs3; omega) fun b h1 h2 => hgr b (by have := HB.out.size; omega) h2 (fun e => by have := (HOl.out b e).2; omega)
   have HB3 : Hid (Below w.heap.size w w3) := by
    have h1 : Below w.heap.size w w2 := HB.out.trans ⟨HB2.out.os, HB2.out.tape, HB2.out.output, HB2.out.size, fun k hk => HB2.out.block k (by have := HB.out.size; omega)⟩
    exact (h1.alloc h1.size _).grown hgrow (by have := h1.size; simp; omega) (fun k hk => (HOl.out k hk).1)
   clear hown' hgrow hgr
   go_wp2
   go_roundg q
   case measure => exact HX.out.2.2.2
   case rel =>
    refine ⟨gs ++ [r], ?_, HV3, ?_, ?_, HB3, ?_⟩
    ·rw [List.length_append]; exact HX.out.2.2.1
    ·rw [List.length_append]; exact HX.out.1
    ·refine ⟨fun z hz => ?_, by rw [List.length_append]; show gs.length + 1 ≤ 1000; omega⟩
     rcases List.mem_append.1 hz with h | h
     ·exact HZ.out.1 z h
     ·rw [List.mem_singleton.1 h]; exact HX.out.2.1
    ·rw [List.length_append, List.map_append]
     exact HO3
theorem wDecimal_ok (x : List Int) (hx : x.length < 900) (ox : okW x) : FnOk Tryz.prog 54 [.v (words x)] [.v true (.str ⟨(decG (val x)).toArray⟩)] := by
 refine FnOk.plain (val := .string ⟨(decG (val x)).toArray⟩) (enters_of Tryz.func54 (by kernel_rfl) rfl) rfl (fun cx w μ mem => repA_str.2 rfl) fun w O vs hG ha => ?_
 rw [ArgsRep] at ha
 obtain ⟨v, vr, rfl, h1, h2⟩ := ha
 rw [ArgsRep] at h2
 subst h2
 rw [ArgRep] at h1
 obtain ⟨cs, h3, h4⟩ := h1
 exact decimal_calls x hx ox v w hG ⟨cs, Rep.mono (fun _ _ _ _ hv => hv) (fun b hb => ⟨hb.1, trivial⟩) h3, h4⟩
abbrev bs (l : List UInt8) : ByteArray := ⟨l.toArray⟩
theorem bs_app (x y : List UInt8) : bs x ++ bs y = bs (x ++ y) := ByteArray.mk_append_mk x y
theorem bs_size (l : List UInt8) : (bs l).size = l.length := by show l.toArray.size = _; simp
theorem bs_ext (l : List UInt8) (i j : Nat) : (bs l).extract i j = bs ((l.drop i).take (j - i)) := by
 apply ByteArray.ext
 simp [ByteArray.data_extract]
theorem bs_of (s : ByteArray) : s = bs s.data.toList := by cases s; rfl
def z48 (n : Nat) : List UInt8 := List.replicate n 48
theorem z48_len (n : Nat) : (z48 n).length = n := List.length_replicate
theorem decDigits_eq : ∀ (n : Nat), Lib.decDigits n = decG n := fun n => by
 induction n using Nat.strongRecOn with
 | ind n ih =>
   rw [Lib.decDigits]
   split
   ·next h =>
    rcases Nat.eq_zero_or_pos n with h0 | h0
    ·subst h0; rfl
    ·rw [decG_of (f := 1) (by omega) (by omega), tdL, if_neg (by omega), Nat.mod_eq_of_lt h]
     rfl
   ·next h =>
    have hq : n / 10 < 10 ^ (n / 10) := lt_ten_pow _
    rw [ih (n / 10) (by omega), decG_of (f := n / 10) (by omega) hq, decG_of (f := n / 10 + 1) (by omega) (by rw [Nat.pow_succ]; omega), tdL, if_neg (by omega), List.reverse_cons, List.map_append]
    rfl
theorem repeat_ok (n : Nat) (hn : n ≤ 1000000) : FnOk Tryz.prog 82 [.v (.str ⟨#[48]⟩), .v (.int .i64 n)] [.v true (.str (bs (z48 n)))] := by
 refine FnOk.plain (val := .string (bs (z48 n))) (enters_of Tryz.func82 (by kernel_rfl) rfl) rfl (fun cx w μ mem => repA_str.2 rfl) fun w O vs hG ha => ?_
 rw [ArgsRep] at ha
 obtain ⟨v, vr, rfl, h1, h2⟩ := ha
 rw [ArgsRep] at h2
 obtain ⟨v2, vr, rfl, h3, h4⟩ := h2
 rw [ArgsRep] at h4
 subst h4
 rw [ArgRep] at h1 h3
 obtain ⟨cs, h5, rfl⟩ := h1
 obtain ⟨ds, h6, rfl⟩ := h3
 rw [Rep] at h5
 rw [Rep] at h6
 subst h5
 subst h6
 have e : Lib.repeatL [48] n = z48 n := by
  clear hn
  induction n with
  | zero => rfl
  | succ n ih => rw [Lib.repeatL, ih]; rfl
 have := Tryz.strings_Repeat ⟨#[48]⟩ n w (by omega) (by show 1 * n ≤ _; omega)
 rw [show (ByteArray.mk #[48]).data.toList = [48] from rfl, e] at this
 exact this
def trR (l : List UInt8) : List UInt8 := Lib.trimRightB l 48
theorem trimRight_ok (l : List UInt8) (hl : l.length < 1000000) : FnOk Tryz.prog 132 [.v (.str (bs l)), .v (.str ⟨#[48]⟩)] [.v true (.str (bs (trR l)))] := by
 refine FnOk.plain (val := .string (bs (trR l))) (enters_of Tryz.func132 (by kernel_rfl) rfl) rfl (fun cx w μ mem => repA_str.2 rfl) fun w O vs hG ha => ?_
 rw [ArgsRep] at ha
 obtain ⟨v, vr, rfl, h1, h2⟩ := ha
 rw [ArgsRep] at h2
 obtain ⟨v2, vr, rfl, h3, h4⟩ := h2
 rw [ArgsRep] at h4
 subst h4
 rw [ArgRep] at h1 h3
 obtain ⟨cs, h5, rfl⟩ := h1
 obtain ⟨ds, h6, rfl⟩ := h3
 rw [Rep] at h5
 rw [Rep] at h6
 subst h5
 subst h6
 refine (Tryz.strings_TrimRight (bs l) 48 (by decide) w (by rw [bs_size]; omega)).mono ?_
 rintro e w' ⟨h, rfl⟩
 exact ⟨h, Below.refl _ _⟩
theorem itoa_ok (n : Nat) (hn : n < 4611686018427387904) : FnOk Tryz.prog 142 [.v (.int .i64 n)] [.v true (.str (bs (decG n)))] := by
 refine FnOk.plain (val := .string (bs (decG n))) (enters_of Tryz.func142 (by kernel_rfl) rfl) rfl (fun cx w μ mem => repA_str.2 rfl) fun w O vs hG ha => ?_
 rw [ArgsRep] at ha
 obtain ⟨v, vr, rfl, h1, h2⟩ := ha
 rw [ArgsRep] at h2
 subst h2
 rw [ArgRep] at h1
 obtain ⟨cs, h5, rfl⟩ := h1
 rw [Rep] at h5
 subst h5
 have htab : Lib.TabIs Tryz.prog w "internal/strconv.uint64pow10" .u64 Lib.pow10Tab := by
  obtain ⟨_, cs, h2, t, f, h3⟩ := hG (7, pow10V) (by simp [GLOB])
  have hc : cs = Lib.pow10Tab.map fun z => Value.int .u64 z := by
   unfold pow10V at h2
   rw [Rep] at h2
   have key : ∀ (zs : List Int) (cs : List Value) {ok : Nat → Prop}, RepL w ok (zs.map fun z => V.int .u64 z) cs → cs = zs.map fun z => Value.int .u64 z := fun zs => by
    induction zs with
    | nil => intro cs ok h; rw [List.map_nil, RepL] at h; exact h
    | cons z zs ih =>
      intro cs ok h
      rw [List.map_cons, RepL] at h
      obtain ⟨a, b, rfl, h1, h2⟩ := h
      rw [Rep] at h1
      rw [h1, ih _ h2]
      rfl
   exact key Lib.pow10Tab cs h2
  unfold Lib.TabIs World.var?
  rw [show Tryz.prog.globalNamed "internal/strconv.uint64pow10" = some 7 from by kernel_rfl]
  show (match w.heap[7]? with | some (.cells cs _ _) => some cs | _ => none) = _
  rw [show w.heap[7]? = _ from h3, hc]
 refine (Tryz.strconv_Itoa n (by omega) (by omega) w htab).mono ?_
 rintro e w' ⟨h, hb⟩
 refine ⟨?_, hb⟩
 rw [h]
 unfold Lib.itoa
 rw [if_neg (by omega), Int.toNat_natCast, decDigits_eq]
def smL (neg : Bool) (l : List UInt8) : List UInt8 := if neg = true then 45 :: l else l
theorem sMinus_ok (neg : Bool) (l : List UInt8) (hl : l.length < 10000000) : FnOk Tryz.prog 51 [.v (.bool neg), .v (.str (bs l))] [.v true (.str (bs (smL neg l)))] := by
 have e : bs (smL neg l) = if neg = true then ByteArray.mk #[45] ++ bs l else bs l := by
  unfold smL
  split
  ·exact (bs_app [45] l).symm
  ·rfl
 have hz := bs_size l
 rw [e]
 obtain ⟨s, hs⟩ : ∃ s, s = bs l := ⟨_, rfl⟩
 rw [← hs] at hz ⊢
 have g : (#[(45 : UInt8)]).size + s.size ≤ 9223372036854775807 := by rw [hz]; show 1 + l.length ≤ _; omega
 clear e hs hz
 cases neg with
 | true =>
   rw [if_pos rfl]
   refine FnOk.of Tryz.func51 rfl rfl fun cx w0 => ?_
   rw [show Tryz.f51.ntmps = 9 from rfl]
   refine zs0 ?_
   refine Holds.seq ?_
   refine zs0 ?_
   refine Holds.condT rfl ?_
   refine zs1 g ?_
   exact Holds.ret (RetOk.vs rfl (by exact ⟨⟨rfl, id⟩, trivial⟩) rfl)
 | false =>
   rw [if_neg (by simp)]
   refine FnOk.of Tryz.func51 rfl rfl fun cx w0 => ?_
   rw [show Tryz.f51.ntmps = 9 from rfl]
   refine zs0 ?_
   refine Holds.seq ?_
   refine zs0 ?_
   refine Holds.condF rfl (Holds.skip ?_)
   refine zs0 ?_
   exact Holds.ret (RetOk.vs rfl (by exact ⟨⟨rfl, id⟩, trivial⟩) rfl)
def oneL (d : List UInt8) : List UInt8 := if 1 < d.length then d.take 1 ++ 46 :: d.drop 1 else d
theorem oneL_len (d : List UInt8) : (oneL d).length ≤ d.length + 1 := by unfold oneL; split <;> simp <;> omega
theorem sOne_ok (d : List UInt8) (hd : d.length < 10000000) : FnOk Tryz.prog 84 [.v (.str (bs d))] [.v true (.str (bs (oneL d)))] := by
 have hz := bs_size d
 by_cases h1 : 1 < d.length
 ·have e : bs (oneL d) = ((bs d).extract 0 1 ++ ByteArray.mk #[46]) ++ (bs d).extract 1 (bs d).size := by
   unfold oneL
   rw [if_pos h1, bs_ext, bs_ext, bs_size, show ByteArray.mk #[46] = bs [46] from rfl, bs_app, bs_app, List.drop_zero, List.take_of_length_le (l := d.drop 1) (by rw [List.length_drop]; omega), List.append_assoc]
   rfl
  rw [e]
  have z1 : ((bs d).extract 0 1).size = 1 := by rw [bs_ext, bs_size]; simp; omega
  have z2 : ((bs d).extract 1 (bs d).size).size = d.length - 1 := by rw [bs_ext, bs_size, bs_size]; simp
  obtain ⟨s, hs⟩ : ∃ s, s = bs d := ⟨_, rfl⟩
  rw [← hs] at hz z1 z2 ⊢
  have g0 : (1 : Int) < s.size := by omega
  have g0' : (1 : Int) ≤ s.size := by omega
  have g1 : (s.extract 0 1).size + (#[(46 : UInt8)]).size ≤ 9223372036854775807 := by rw [z1]; decide
  have g2 : (s.extract 0 1).size + (#[(46 : UInt8)]).size + (s.extract 1 s.size).size ≤ 9223372036854775807 := by rw [z1, z2]; show 1 + 1 + (d.length - 1) ≤ _; omega
  clear e hs z1 z2
  refine FnOk.of Tryz.func84 rfl rfl fun cx w0 => ?_
  rw [show Tryz.f84.ntmps = 13 from rfl]
  refine zs0 ?_
  refine Holds.seq ?_
  refine zs1 g0 ?_
  refine Holds.condT rfl ?_
  refine zd1 [] (an g0' <| an g1 <| g2) ?_
  exact Holds.ret (RetOk.vs rfl (by exact ⟨⟨rfl, id⟩, trivial⟩) rfl)
 ·have e : bs (oneL d) = bs d := by unfold oneL; rw [if_neg h1]
  rw [e]
  obtain ⟨s, hs⟩ : ∃ s, s = bs d := ⟨_, rfl⟩
  rw [← hs] at hz ⊢
  have g0 : ¬ (1 : Int) < s.size := by omega
  clear e hs
  refine FnOk.of Tryz.func84 rfl rfl fun cx w0 => ?_
  rw [show Tryz.f84.ntmps = 13 from rfl]
  refine zs0 ?_
  refine Holds.seq ?_
  refine zs1 g0 ?_
  refine Holds.condF rfl (Holds.skip ?_)
  refine zs0 ?_
  exact Holds.ret (RetOk.vs rfl (by exact ⟨⟨rfl, id⟩, trivial⟩) rfl)
def ptN (d : List UInt8) (k : Nat) : List UInt8 := d.take (d.length - k) ++ 46 :: d.drop (d.length - k)
def ptL (d : List UInt8) (k : Int) : List UInt8 := if k ≤ 0 then d else ptN (z48 (k.toNat + 1 - d.length) ++ d) k.toNat
theorem ptN_len (d : List UInt8) (k : Nat) : (ptN d k).length = d.length + 1 := by unfold ptN; simp; omega
theorem ptL_len (d : List UInt8) (k : Int) : (ptL d k).length ≤ d.length + k.toNat + 2 := by
 unfold ptL
 split
 ·omega
 ·rw [ptN_len, List.length_append, z48_len]; omega
theorem pt_tail {cx : Cx} {w0 : World} (d : List UInt8) (k : Nat) (hd : d.length < 10000000) (hk : 0 < k) (h : k < d.length) : Holds Tryz.prog none cx w0 (codeAt Tryz.f56 [1, 1, 1]) { nt := 34, env := [(0, .v true (.str (bs d))), (1, .v true (.int .i64 (k : Nat)))], mem := [] } (fnQ Tryz.prog Tryz.f56 [.v true (.str (bs (ptN d k)))]) := by
 have hz := bs_size d
 obtain ⟨m, hm⟩ : ∃ m, m = d.length - k := ⟨_, rfl⟩
 have e : bs (ptN d k) = ((bs d).extract 0 m ++ ByteArray.mk #[46]) ++ (bs d).extract m (bs d).size := by
  unfold ptN
  rw [← hm, bs_ext, bs_ext, bs_size, show ByteArray.mk #[46] = bs [46] from rfl, bs_app, bs_app, List.drop_zero, List.take_of_length_le (l := d.drop m) (by rw [List.length_drop]; omega), List.append_assoc, Nat.sub_zero]
  rfl
 rw [e]
 have z1 : ((bs d).extract 0 m).size = m := by rw [bs_ext, bs_size]; simp; omega
 have z2 : ((bs d).extract m (bs d).size).size = k := by rw [bs_ext, bs_size, bs_size]; simp; omega
 obtain ⟨s, hs⟩ : ∃ s, s = bs d := ⟨_, rfl⟩
 rw [← hs] at hz z1 z2 ⊢
 have w1 : IntKind.i64.wrap ((s.size : Int) - (k : Int)) = (m : Int) := by rw [wrap_i64] <;> omega
 have g0 : (0 : Int) ≤ (m : Int) := by omega
 have g0' : (m : Int) ≤ (s.size : Int) := by omega
 have g1 : (s.extract 0 m).size + (#[(46 : UInt8)]).size ≤ 9223372036854775807 := by rw [z1]; show m + 1 ≤ _; omega
 have g2 : (s.extract 0 m).size + (#[(46 : UInt8)]).size + (s.extract m s.size).size ≤ 9223372036854775807 := by rw [z1, z2]; show m + 1 + k ≤ _; omega
 clear e hs z1 z2 hm
 refine Holds.seq ?_
 refine zq1 [] (an w1 <| an g0 <| an g0' <| an g1 <| g2) ?_
 show Holds _ _ _ _ _ _ _
 exact Holds.ret (RetOk.vs rfl (by exact ⟨⟨rfl, id⟩, trivial⟩) rfl)
theorem sPoint_ok (d : List UInt8) (k : Int) (hd : d.length < 1000000) (hk : -4611686018427387904 < k ∧ k < 1000000) : FnOk Tryz.prog 56 [.v (.str (bs d)), .v (.int .i64 k)] [.v true (.str (bs (ptL d k)))] := by
 have hz := bs_size d
 by_cases h0 : k ≤ 0
 ·have e : bs (ptL d k) = bs d := by unfold ptL; rw [if_pos h0]
  rw [e]
  obtain ⟨s, hs⟩ : ∃ s, s = bs d := ⟨_, rfl⟩
  rw [← hs] at hz ⊢
  refine FnOk.of Tryz.func56 rfl rfl fun cx w0 => ?_
  rw [show Tryz.f56.ntmps = 34 from rfl]
  refine zs0 ?_
  refine Holds.seq ?_
  refine zs1 h0 ?_
  refine Holds.condT rfl ?_
  refine zs0 ?_
  exact Holds.ret (RetOk.vs rfl (by exact ⟨⟨rfl, id⟩, trivial⟩) rfl)
 ·obtain ⟨n, rfl⟩ : ∃ n : Nat, k = n := ⟨k.toNat, by omega⟩
  have e : bs (ptL d n) = bs (ptN (z48 (n + 1 - d.length) ++ d) n) := by unfold ptL; rw [if_neg h0, Int.toNat_natCast]
  rw [e]
  have ht := fun {cx w0} => pt_tail (cx := cx) (w0 := w0) (z48 (n + 1 - d.length) ++ d) n (by rw [List.length_append, z48_len]; omega) (by omega) (by rw [List.length_append, z48_len]; omega)
  have w1 : IntKind.i64.wrap ((n : Int) + 1) = (n : Int) + 1 := by rw [wrap_i64] <;> omega
  by_cases h1 : d.length < n + 1
  ·have hR := repeat_ok (n + 1 - d.length) (by omega)
   have hcat := bs_app (z48 (n + 1 - d.length)) d
   have hzr := bs_size (z48 (n + 1 - d.length))
   rw [z48_len] at hzr
   obtain ⟨c, hc⟩ : ∃ c, c = n + 1 - d.length := ⟨_, rfl⟩
   rw [← hc] at ht hR hcat hzr ⊢
   have w2 : IntKind.i64.wrap ((n : Int) + 1 - (bs d).size) = (c : Int) := by rw [hz, wrap_i64] <;> omega
   have g0 : (0 : Int) < (c : Int) := by omega
   have g1 : (bs (z48 c)).size + (bs d).size ≤ 9223372036854775807 := by rw [hz, hzr]; omega
   obtain ⟨s, hs⟩ : ∃ s, s = bs d := ⟨_, rfl⟩
   obtain ⟨r, hr⟩ : ∃ r, r = bs (z48 c) := ⟨_, rfl⟩
   obtain ⟨t, ht'⟩ : ∃ t, t = bs (z48 c ++ d) := ⟨_, rfl⟩
   rw [← hs, ← hr, ← ht'] at hcat
   rw [← hs] at w2
   rw [← hs, ← hr] at g1
   rw [← hr] at hR
   rw [← ht'] at ht
   rw [← hs]
   clear hz hzr hs hr ht' hc
   refine FnOk.of Tryz.func56 rfl rfl fun cx w0 => ?_
   rw [show Tryz.f56.ntmps = 34 from rfl]
   refine zs0 ?_
   refine Holds.seq ?_
   refine zs1 h0 ?_
   refine Holds.condF rfl (Holds.skip ?_)
   refine Holds.next (fun σ => ∀ a w, Rel cx w0 σ a w → Rel cx w0 { nt := 34, env := [(0, .v true (.str t)), (1, .v true (.int .i64 n))], mem := [] } a w) ?_ ?_
   ·refine zs1 (an w1 <| w2) ?_
    refine zs1 g0 ?_
    refine Holds.condT rfl ?_
    rw [← hcat]
    refine zr3 (ρ := fun _ => [.v true (.str r)]) g1 (o := by repeat' first|exact hR|trivial|constructor) (k := ?_)
    exact fun a w h => Rel.keep [0, 1] [] h
   ·intro σ hσ
    exact Holds.from hσ ht
  ·have e2 : z48 (n + 1 - d.length) ++ d = d := by rw [show n + 1 - d.length = 0 from by omega]; rfl
   rw [e2] at ht ⊢
   obtain ⟨c, hc⟩ : ∃ c : Int, c = (n : Int) + 1 - (bs d).size := ⟨_, rfl⟩
   have w2 : IntKind.i64.wrap ((n : Int) + 1 - (bs d).size) = c := by rw [hc, wrap_i64] <;> omega
   have g0 : ¬ (0 : Int) < c := by omega
   obtain ⟨s, hs⟩ : ∃ s, s = bs d := ⟨_, rfl⟩
   rw [← hs] at w2 ht ⊢
   clear hz hs hc
   refine FnOk.of Tryz.func56 rfl rfl fun cx w0 => ?_
   rw [show Tryz.f56.ntmps = 34 from rfl]
   refine zs0 ?_
   refine Holds.seq ?_
   refine zs1 h0 ?_
   refine Holds.condF rfl (Holds.skip ?_)
   refine Holds.next (fun σ => ∀ a w, Rel cx w0 σ a w → Rel cx w0 { nt := 34, env := [(0, .v true (.str s)), (1, .v true (.int .i64 n))], mem := [] } a w) ?_ ?_
   ·refine zs1 (an w1 <| w2) ?_
    refine zs1 g0 ?_
    exact Holds.condF rfl (Holds.skip fun a w h => Rel.keep [0, 1] [] h)
   ·intro σ hσ
    exact Holds.from hσ ht
def sgL (n : Int) (least : Nat) : List UInt8 := (if n < 0 then 45 else 43) :: (z48 (least - (decG n.natAbs).length) ++ decG n.natAbs)
theorem decG_len_of {n D : Nat} (h : n < 10 ^ D) (hD : 1 ≤ D) : (decG n).length ≤ D := by
 rcases Nat.eq_zero_or_pos n with h0 | h0
 ·rw [h0]; exact hD
 ·obtain ⟨E, hE⟩ := hasD_ex n h0
  rw [decG_len hE]
  exact hasD_le hE h
set_option maxHeartbeats 1000000 in
theorem signed_ok (n : Int) (least : Nat) (hn : -4611686018427387904 < n ∧ n < 4611686018427387904) (hl : least ≤ 1000) : FnOk Tryz.prog 64 [.v (.int .i64 n), .v (.int .i64 least)] [.v true (.str (bs (sgL n least)))] := by
 obtain ⟨m, hm⟩ : ∃ m, m = n.natAbs := ⟨_, rfl⟩
 have hI := itoa_ok m (by omega)
 have hlen : (decG m).length ≤ 19 := decG_len_of (by rw [show (10 : Nat) ^ 19 = 10000000000000000000 from rfl]; omega) (by decide)
 have hR := repeat_ok (least - (decG m).length) (by omega)
 have hz := bs_size (decG m)
 have hzr := bs_size (z48 (least - (decG m).length))
 rw [z48_len] at hzr
 have e : ∀ c : UInt8, bs (c :: (z48 (least - (decG m).length) ++ decG m)) = (ByteArray.mk #[c] ++ bs (z48 (least - (decG m).length))) ++ bs (decG m) := fun c => by
  rw [show ByteArray.mk #[c] = bs [c] from rfl, bs_app, bs_app]; rfl
 unfold sgL
 rw [← hm]
 obtain ⟨c, hc⟩ : ∃ c, c = least - (decG m).length := ⟨_, rfl⟩
 have hmx : max (0 : Int) ((least : Int) - ((decG m).length : Int)) = (c : Int) := by omega
 rw [← hc] at hR hzr e ⊢
 obtain ⟨s, hs⟩ : ∃ s, s = bs (decG m) := ⟨_, rfl⟩
 obtain ⟨r, hr⟩ : ∃ r, r = bs (z48 c) := ⟨_, rfl⟩
 have hsl : s.size ≤ 19 := by rw [hs, hz]; exact hlen
 have w1 : IntKind.i64.wrap ((least : Int) - (s.size : Int)) = (least : Int) - (s.size : Int) := by rw [wrap_i64] <;> omega
 have w2 : (if (0 : Int) < (least : Int) - (s.size : Int) then (least : Int) - (s.size : Int) else 0) = (c : Int) := by rw [hs, hz, ← hmx]; split <;> omega
 have hrl : r.size ≤ 1000 := by rw [hr, hzr, hc]; omega
 rw [← hs] at hI e
 rw [← hr] at hR e
 have g1 : ∀ c : UInt8, (#[(c : UInt8)]).size + r.size ≤ 9223372036854775807 := fun c => by show 1 + r.size ≤ _; omega
 have g2 : ∀ c : UInt8, (#[(c : UInt8)]).size + r.size + s.size ≤ 9223372036854775807 := fun c => by show 1 + r.size + s.size ≤ _; omega
 have e1 := e 45
 have e2 := e 43
 have a1 := g1 45
 have a2 := g2 45
 have b1 := g1 43
 have b2 := g2 43
 clear e g1 g2 hz hzr hc hs hr hmx hsl hrl hlen
 by_cases h0 : n < 0
 ·rw [if_pos h0, e1]
  have wn : IntKind.i64.wrap (0 - n) = (m : Int) := by rw [wrap_i64] <;> omega
  refine FnOk.of Tryz.func64 rfl rfl fun cx w0 => ?_
  rw [show Tryz.f64.ntmps = 23 from rfl]
  refine zs0 ?_
  refine zs0 ?_
  refine Holds.next (fun σ => ∀ a w, Rel cx w0 σ a w → Rel cx w0 { nt := 23, env := [(0, .v true (.int .i64 m)), (1, .v true (.int .i64 least)), (5, .v true (.str (ByteArray.mk #[45])))], mem := [] } a w) ?_ ?_
  ·refine zs1 h0 ?_
   refine Holds.condT rfl ?_
   refine zr1 wn ?_
   exact fun a w h => Rel.keep [0, 1, 5] [] h
  ·intro σ hσ
   refine Holds.from hσ ?_
   refine zs2 (ρ := fun _ => [.v true (.str s)]) (o := by repeat' first|exact hI|trivial|constructor) (k := ?_)
   refine zs3 (ρ := fun _ => [.v true (.str r)]) (an w1 <| an w2 <| an a1 <| a2) (o := by repeat' first|exact hR|trivial|constructor) (k := ?_)
   exact Holds.ret (RetOk.vs rfl (by exact ⟨⟨rfl, id⟩, trivial⟩) rfl)
 ·rw [if_neg h0, e2]
  have en : n = (m : Int) := by omega
  subst en
  refine FnOk.of Tryz.func64 rfl rfl fun cx w0 => ?_
  rw [show Tryz.f64.ntmps = 23 from rfl]
  refine zs0 ?_
  refine zs0 ?_
  refine Holds.next (fun σ => ∀ a w, Rel cx w0 σ a w → Rel cx w0 { nt := 23, env := [(0, .v true (.int .i64 m)), (1, .v true (.int .i64 least)), (5, .v true (.str (ByteArray.mk #[43])))], mem := [] } a w) ?_ ?_
  ·refine zs1 h0 ?_
   exact Holds.condF rfl (Holds.skip fun a w h => Rel.keep [0, 1, 5] [] h)
  ·intro σ hσ
   refine Holds.from hσ ?_
   refine zs2 (ρ := fun _ => [.v true (.str s)]) (o := by repeat' first|exact hI|trivial|constructor) (k := ?_)
   refine zs3 (ρ := fun _ => [.v true (.str r)]) (an w1 <| an w2 <| an b1 <| b2) (o := by repeat' first|exact hR|trivial|constructor) (k := ?_)
   exact Holds.ret (RetOk.vs rfl (by exact ⟨⟨rfl, id⟩, trivial⟩) rfl)
theorem sgL_len (n : Int) (least : Nat) (hn : -4611686018427387904 < n ∧ n < 4611686018427387904) (hl : least ≤ 1000) : (sgL n least).length ≤ 1100 := by
 have : (decG n.natAbs).length ≤ 19 := decG_len_of (by rw [show (10 : Nat) ^ 19 = 10000000000000000000 from rfl]; omega) (by decide)
 unfold sgL
 rw [List.length_cons, List.length_append, z48_len]
 omega
def fltW (k : Int) (neg : Bool) (e : Int) (l : List Int) : V := .agg [.int .i64 k, .bool neg, .int .i64 e, words l]
theorem fltW_eq (k : Nat) (neg : Bool) (e : Int) (m : Nat) : fltV k neg e m = fltW k neg e (digs m) := rfl
def cnB (k : Int) (neg : Bool) (e : Int) (v : Nat) : Bool :=
 if k = 0 ∨ k = 2 then decide (e = 0 ∧ v = 0) else if k = 3 then !neg && decide (e = 0 ∧ v = 0) else if k = 1 then decide (v ≠ 0 ∧ -1048576 ≤ e ∧ e ≤ 1048576 ∧ e + trN v ≤ 1048576) else false
def cnK (k : Int) (e : Int) (v : Nat) : Nat := if k = 0 ∨ k = 2 then k.toNat else if k = 3 then 3 else if k = 1 ∧ v ≠ 0 ∧ -1048576 ≤ e ∧ e ≤ 1048576 then 1 else 0
def cnN (k : Int) (neg : Bool) (e : Int) (v : Nat) : Bool := if k = 0 ∨ k = 2 then neg else if k = 3 then false else if k = 1 ∧ v ≠ 0 ∧ -1048576 ≤ e ∧ e ≤ 1048576 then neg else false
def cnE (k : Int) (e : Int) (v : Nat) : Int := if k = 1 ∧ v ≠ 0 ∧ -1048576 ≤ e ∧ e ≤ 1048576 then e + trN v else 0
def cnM (k : Int) (e : Int) (v : Nat) : Nat := if k = 1 ∧ v ≠ 0 ∧ -1048576 ≤ e ∧ e ≤ 1048576 then v / 2 ^ trN v else 0
def cnV (k : Int) (neg : Bool) (e : Int) (v : Nat) : V := fltV (cnK k e v) (cnN k neg e v) (cnE k e v) (cnM k e v)
theorem flarge_ok (k : Int) (neg : Bool) (e : Int) (l : List Int) : FnOk Tryz.prog 250 [.v (fltW k neg e l)] [.v true (.bool (decide (4096 < l.length)))] := by
 unfold fltW words
 have hd : decide ((4096 : Int) < (l.length : Int)) = decide (4096 < l.length) := decide_eq_decide.2 (by omega)
 refine FnOk.of Tryz.func250 rfl rfl fun cx w0 => ?_
 rw [show Tryz.f250.ntmps = 7 from rfl]
 refine zs0 ?_
 refine zs1 hd ?_
 exact Holds.ret (RetOk.vs rfl (by exact ⟨⟨rfl, id⟩, trivial⟩) rfl)
def cnS (k : Int) (neg : Bool) (e : Int) (L : List V) (b : Bool) : St := { nt := 75, env := [(1, .ptr 1 0 [] 0), (2, .ptr 2 0 [] 0), (6, .v true (.int .i64 k)), (7, .v true (.bool b))], mem := [(1, .box 28 (.v false (.agg [.int .i64 k, .bool neg, .int .i64 e, .sl 1 L]))), (2, .box 28 (.v true (.agg [.int .i64 0, .bool false, .int .i64 0, .sl 1 []])))] }
theorem cn_head (k : Int) (neg : Bool) (e : Int) (L : List V) {rs : List R} (h : ∀ cx w0, Holds Tryz.prog none cx w0 (codeAt Tryz.f113 [1, 0, 1, 0, 1]) (cnS k neg e L (decide (k = 0 ∨ k = 2))) (NR (fun _ => False) (fnQ Tryz.prog Tryz.f113 rs .ret))) : FnOk Tryz.prog 113 [.v (.agg [.int .i64 k, .bool neg, .int .i64 e, .sl 1 L])] rs := by
 refine FnOk.of Tryz.func113 rfl rfl fun cx w0 => ?_
 rw [show Tryz.f113.ntmps = 75 from rfl]
 refine zs0 ?_
 refine Holds.seq ?_
 refine zs0 ?_
 refine Holds.block ?_
 refine Holds.next (fun σ => ∀ a w, Rel cx w0 σ a w → Rel cx w0 (cnS k neg e L (decide (k = 0 ∨ k = 2))) a w) ?_ ?_
 ·by_cases h0 : k = 0
  ·subst h0
   refine zs0 ?_
   exact Holds.condT rfl (Holds.skip fun a w h => Rel.keep [1, 2, 6, 7] [1, 2] h)
  ·have g0 : decide (k = 0 ∨ k = 2) = decide (k = 2) := decide_eq_decide.2 (by omega)
   rw [g0]
   refine zs1 h0 ?_
   refine Holds.condF rfl ?_
   refine zr0 ?_
   exact fun a w h => Rel.keep [1, 2, 6, 7] [1, 2] h
 ·intro σ hσ
  refine Holds.from hσ ((h cx w0).mono fun e σ hq => ?_)
  cases e <;> first | exact hq | exact hq.elim
set_option maxHeartbeats 2000000 in
theorem canonical_ok (k : Int) (neg : Bool) (e : Int) (l : List Int) (hl : l.length < 5000) (ol : okW l) (he : -9223372036854775808 ≤ e ∧ e < 9223372036854775808) : FnOk Tryz.prog 113 [.v (fltW k neg e l)] [.v true (cnV k neg e (val l)), .v true (.bool (cnB k neg e (val l)))] := by
 have hZ := wZero_ok l (by omega) ol
 have hT := wTrailing_ok l (by omega) ol
 have htl : trN (val l) ≤ 64 * l.length := by
  rcases Nat.eq_zero_or_pos (val l) with h0 | h0
  ·rw [h0]; exact Nat.zero_le _
  ·exact Nat.le_of_lt (trN_le h0 (val_bl ol))
 have hS := wShrG_ok l (trN (val l)) (by omega) ol (by omega)
 unfold cnV cnB cnK cnN cnE cnM
 obtain ⟨v, hv⟩ : ∃ v, v = val l := ⟨_, rfl⟩
 rw [← hv] at hZ hT htl hS ⊢
 clear hv ol
 unfold fltW words
 obtain ⟨L, hL⟩ : ∃ L, L = l.map fun n => V.int .u64 n := ⟨_, rfl⟩
 unfold words at hZ hT hS
 rw [← hL] at hZ hT hS ⊢
 clear hL
 by_cases h02 : k = 0 ∨ k = 2
 ·rw [if_pos h02, if_pos h02, if_pos h02, if_neg (by omega), if_neg (by omega)]
  have hkn : ((k.toNat : Nat) : Int) = k := by omega
  rw [fltV_zero, hkn]
  clear hT hS htl
  refine cn_head k neg e L fun cx w0 => ?_
  rw [decide_eq_true h02]
  unfold cnS
  refine Holds.condT rfl ?_
  by_cases he0 : e = 0
  ·subst he0
   have hd : decide ((0 : Int) = 0 ∧ v = 0) = decide (v = 0) := decide_eq_decide.2 (by simp)
   rw [hd]
   obtain ⟨z, hz⟩ : ∃ z, z = decide (v = 0) := ⟨_, rfl⟩
   rw [← hz] at hZ ⊢
   refine Holds.seq ?_
   refine zq2 [(5, 13), (6, 13), (9, 13), (10, 13)] (ρ := fun _ => [.v true (.bool z)]) (o := by repeat' first|exact hZ|trivial|constructor) (k := ?_)
   exact Holds.ret (RetOk.vs rfl (by exact ⟨⟨rfl, id⟩, ⟨rfl, id⟩, trivial⟩) rfl)
  ·have hd : decide (e = 0 ∧ v = 0) = false := decide_eq_false (fun h => he0 h.1)
   rw [hd]
   refine Holds.seq ?_
   refine Holds.dregionT (Px := px) (T := TT) (ρ := fun _ => []) [(5, 13), (6, 13), (9, 13), (10, 13)] mixed (by kernel_rfl) TTe (by simp (maxSteps := 100000) (disch := omega) only [go_sem, V.isAgg, V.flat, ↓reduceIte, Nat.reduceAdd, Nat.reduceSub, Nat.reduceLT, Nat.reduceEqDiff, reduceCtorEq, Nat.reduceLeDiff, Nat.reduceBEq, Nat.reduceMul, Int.reduceToNat, he0]; rfl) (by repeat' first | exact trivial | constructor) (by rfl) (by rfl) (by simp (maxSteps := 100000) (disch := omega) only [trc_nil, trc_cons, effW_t, effW_f, trcE_s, opSites_eq, sitesOf, AV.sites, AV.sitesL, Op.operands, Call.operands, List.append_toArray, List.toList_toArray, List.filter_nil, List.filter_cons, List.contains_cons, List.contains_nil, go_sem, V.isAgg, V.flat, ↓reduceIte, Nat.reduceAdd, Nat.reduceSub, Nat.reduceLT, Nat.reduceEqDiff, reduceCtorEq, Nat.reduceLeDiff, Nat.reduceBEq, Nat.reduceMul, Int.reduceToNat, he0]; rfl) (by rfl) ?_
   exact Holds.ret (RetOk.vs rfl (by exact ⟨⟨rfl, id⟩, ⟨rfl, id⟩, trivial⟩) rfl)
 ·rw [if_neg h02, if_neg h02, if_neg h02]
  have h0 : ¬ k = 0 := fun h => h02 (.inl h)
  have h2 : ¬ k = 2 := fun h => h02 (.inr h)
  by_cases h3 : k = 3
  ·subst h3
   rw [if_pos rfl, if_pos rfl, if_pos rfl, if_neg (by omega), if_neg (by omega)]
   rw [fltV_zero, show (((3 : Nat) : Nat) : Int) = 3 from rfl]
   clear hT hS htl
   refine cn_head 3 neg e L fun cx w0 => ?_
   rw [decide_eq_false h02]
   unfold cnS
   refine Holds.condF rfl ?_
   refine zs0 ?_
   refine Holds.condT rfl ?_
   cases neg with
   | true =>
     rw [Bool.not_true, Bool.false_and]
     refine zs0 ?_
     exact Holds.ret (RetOk.vs rfl (by exact ⟨⟨rfl, id⟩, ⟨rfl, id⟩, trivial⟩) rfl)
   | false =>
     rw [Bool.not_false, Bool.true_and]
     by_cases he0 : e = 0
     ·subst he0
      have hd : decide ((0 : Int) = 0 ∧ v = 0) = decide (v = 0) := decide_eq_decide.2 (by simp)
      rw [hd]
      obtain ⟨z, hz⟩ : ∃ z, z = decide (v = 0) := ⟨_, rfl⟩
      rw [← hz] at hZ ⊢
      refine zs2 (ρ := fun _ => [.v true (.bool z)]) (o := by repeat' first|exact hZ|trivial|constructor) (k := ?_)
      exact Holds.ret (RetOk.vs rfl (by exact ⟨⟨rfl, id⟩, ⟨rfl, id⟩, trivial⟩) rfl)
     ·have hd : decide (e = 0 ∧ v = 0) = false := decide_eq_false (fun h => he0 h.1)
      rw [hd]
      refine zs1 he0 ?_
      exact Holds.ret (RetOk.vs rfl (by exact ⟨⟨rfl, id⟩, ⟨rfl, id⟩, trivial⟩) rfl)
  rw [if_neg h3, if_neg h3, if_neg h3]
  by_cases h1 : k = 1
  ·subst h1
   rw [if_pos rfl]
   by_cases hin : v ≠ 0 ∧ -1048576 ≤ e ∧ e ≤ 1048576
   ·rw [if_pos ⟨rfl, hin⟩, if_pos ⟨rfl, hin⟩, if_pos ⟨rfl, hin⟩, if_pos ⟨rfl, hin⟩]
    obtain ⟨hv0, hi1, hi2⟩ := hin
    rw [decide_eq_false hv0] at hZ
    have hd : decide (v ≠ 0 ∧ -1048576 ≤ e ∧ e ≤ 1048576 ∧ e + (trN v : Int) ≤ 1048576) = decide (e + (trN v : Int) ≤ 1048576) := decide_eq_decide.2 (by constructor; exact fun h => h.2.2.2; exact fun h => ⟨hv0, hi1, hi2, h⟩)
    rw [hd]
    obtain ⟨t, ht⟩ : ∃ t, t = trN v := ⟨_, rfl⟩
    rw [← ht] at hT hS htl ⊢
    unfold fltV words
    obtain ⟨Q, hQ⟩ : ∃ Q, Q = (digs (v / 2 ^ t)).map fun n => V.int .u64 n := ⟨_, rfl⟩
    rw [← hQ] at hS ⊢
    have w1 : IntKind.i64.wrap (e + (t : Int)) = e + t := by rw [wrap_i64] <;> omega
    have g1 : ¬ e < -1048576 := by omega
    have g2 : ¬ (1048576 : Int) < e := by omega
    clear hd ht hQ hv0
    refine cn_head 1 neg e L fun cx w0 => ?_
    rw [decide_eq_false h02]
    unfold cnS
    refine Holds.condF rfl ?_
    refine zs0 ?_
    refine Holds.condF rfl ?_
    refine zs0 ?_
    refine Holds.condT rfl ?_
    refine Holds.seq ?_
    refine zs3 (ρ := fun _ => [.v true (.bool false)]) (an g1 <| g2) (o := by repeat' first|exact hZ|trivial|constructor) (k := ?_)
    refine Holds.condF rfl (Holds.skip ?_)
    show Holds _ _ _ _ _ _ _
    refine zs2 (ρ := fun _ => [.v true (.int .i64 t)]) (o := by repeat' first|exact hT|trivial|constructor) (k := ?_)
    refine zd3 [(11, 16), (12, 16)] (ρ := fun _ => [.v true (.sl 1 Q)]) w1 (o := by repeat' first|exact hS|trivial|constructor) (k := ?_)
    exact Holds.ret (RetOk.vs rfl (by exact ⟨⟨rfl, id⟩, ⟨rfl, id⟩, trivial⟩) rfl)
   ·rw [if_neg (fun h => hin h.2), if_neg (fun h => hin h.2), if_neg (fun h => hin h.2), if_neg (fun h => hin h.2)]
    rw [decide_eq_false (fun h => hin ⟨h.1, h.2.1, h.2.2.1⟩), fltV_zero, show (((0 : Nat) : Nat) : Int) = 0 from rfl]
    refine cn_head 1 neg e L fun cx w0 => ?_
    rw [decide_eq_false h02]
    unfold cnS
    refine Holds.condF rfl ?_
    refine zs0 ?_
    refine Holds.condF rfl ?_
    refine zs0 ?_
    refine Holds.condT rfl ?_
    refine Holds.seq ?_
    by_cases hv0 : v = 0
    ·rw [decide_eq_true hv0] at hZ
     refine zs2 (ρ := fun _ => [.v true (.bool true)]) (o := by repeat' first|exact hZ|trivial|constructor) (k := ?_)
     refine Holds.condT rfl ?_
     refine zs0 ?_
     exact Holds.ret (RetOk.vs rfl (by exact ⟨⟨rfl, id⟩, ⟨rfl, id⟩, trivial⟩) rfl)
    ·rw [decide_eq_false hv0] at hZ
     by_cases g1 : e < -1048576
     ·refine zs3 (ρ := fun _ => [.v true (.bool false)]) g1 (o := by repeat' first|exact hZ|trivial|constructor) (k := ?_)
      refine Holds.condT rfl ?_
      refine zs0 ?_
      exact Holds.ret (RetOk.vs rfl (by exact ⟨⟨rfl, id⟩, ⟨rfl, id⟩, trivial⟩) rfl)
     ·have g2 : (1048576 : Int) < e := by omega
      refine zs3 (ρ := fun _ => [.v true (.bool false)]) (an g1 <| g2) (o := by repeat' first|exact hZ|trivial|constructor) (k := ?_)
      refine Holds.condT rfl ?_
      refine zs0 ?_
      exact Holds.ret (RetOk.vs rfl (by exact ⟨⟨rfl, id⟩, ⟨rfl, id⟩, trivial⟩) rfl)
  ·rw [if_neg h1, if_neg (fun h => h1 h.1), if_neg (fun h => h1 h.1), if_neg (fun h => h1 h.1), if_neg (fun h => h1 h.1)]
   rw [fltV_zero, show (((0 : Nat) : Nat) : Int) = 0 from rfl]
   clear hZ hT hS htl
   refine FnOk.of Tryz.func113 rfl rfl fun cx w0 => ?_
   rw [show Tryz.f113.ntmps = 75 from rfl]
   refine zs0 ?_
   refine Holds.seq ?_
   refine zs0 ?_
   refine Holds.block ?_
   refine Holds.seq ?_
   refine zs1 h0 ?_
   refine Holds.condF rfl ?_
   refine zr1 h2 ?_
   show Holds _ _ _ _ _ _ _
   refine Holds.condF rfl ?_
   refine zs1 h3 ?_
   refine Holds.condF rfl ?_
   refine zs1 h1 ?_
   refine Holds.condF rfl (Holds.skip ?_)
   show Holds _ _ _ _ _ _ _
   refine zs0 ?_
   exact Holds.ret (RetOk.vs rfl (by exact ⟨⟨rfl, id⟩, ⟨rfl, id⟩, trivial⟩) rfl)
def hoI (K p : Nat) (e : Int) (m : Nat) : Bool := decide (blN m ≤ p ∧ 1 - gK K - ((p : Int) - 1) ≤ e ∧ e + blN m - 1 ≤ gK K)
instance (k P : Int) : Decidable (FmtOk k P) := inferInstanceAs (Decidable (_ ∧ _))
def hoB (K p : Nat) (k : Int) (neg : Bool) (e : Int) (v : Nat) : Bool := cnB k neg e v && (decide (k ≠ 1) || hoI K p (cnE k e v) (cnM k e v))
theorem cn_one {k : Int} {neg : Bool} {e : Int} {v : Nat} (h : cnB k neg e v = true) : (k = 1 ↔ cnK k e v = 1) ∧ (-1048576 ≤ cnE k e v ∧ cnE k e v ≤ 1048576) ∧ (k = 1 → 0 < v ∧ cnE k e v = e + trN v ∧ cnM k e v = v / 2 ^ trN v ∧ cnN k neg e v = neg) := by
 unfold cnB at h
 unfold cnK cnE cnM cnN
 split at h
 ·next h1 =>
  rw [if_pos h1, if_neg (by omega), if_neg (by omega), if_pos h1]
  exact ⟨by omega, by omega, by omega⟩
 ·next h1 =>
  split at h
  ·next h2 =>
   rw [if_neg h1, if_pos h2, if_neg (by omega), if_neg (by omega), if_neg h1, if_pos h2]
   exact ⟨by omega, by omega, by omega⟩
  ·next h2 =>
   split at h
   ·next h3 =>
    obtain ⟨a, b, c, d⟩ := of_decide_eq_true h
    rw [if_neg h1, if_neg h2, if_pos ⟨h3, a, b, c⟩, if_pos ⟨h3, a, b, c⟩, if_pos ⟨h3, a, b, c⟩, if_neg h1, if_neg h2, if_pos ⟨h3, a, b, c⟩]
    exact ⟨by omega, by omega, fun _ => ⟨by omega, rfl, rfl, rfl⟩⟩
   ·cases h
set_option maxHeartbeats 2000000 in
theorem holds_ok (K p : Nat) (hK : 1 ≤ K ∧ K ≤ 14) (hp : 2 ≤ p ∧ p ≤ 256) (k : Int) (neg : Bool) (e : Int) (l : List Int) (hl : l.length < 5000) (ol : okW l) (he : -9223372036854775808 ≤ e ∧ e < 9223372036854775808) :
 FnOk Tryz.prog 251 [.v (fmtV ((K + 1 : Nat) : Int) p), .v (fltW k neg e l)] [.v true (cnV k neg e (val l)), .v true (.bool (hoB K p k neg e (val l)))] := by
 have hC := canonical_ok k neg e l hl ol he
 have hR := fRange_ok K p hK (by omega)
 have hG := gK_bd hK
 have hcn := fun h => cn_one (k := k) (neg := neg) (e := e) (v := val l) h
 have hml : (digs (cnM k e (val l))).length < 6000 := by
  have h1 : cnM k e (val l) ≤ val l := by unfold cnM; split; exact Nat.div_le_self _ _; exact Nat.zero_le _
  have h2 := digs_mono h1
  have h3 := digs_len (val_lt ol)
  omega
 have hL := wLen_ok (digs (cnM k e (val l))) (by omega) (digs_ok _).1
 rw [(digs_ok _).2.2] at hL
 have hbl : blN (cnM k e (val l)) ≤ 64 * 6000 := by
  have := bl_lt (val_bl (digs_ok (cnM k e (val l))).1)
  rw [(digs_ok _).2.2] at this
  omega
 unfold hoB
 unfold cnV hoI
 obtain ⟨b, hb⟩ : ∃ b, b = cnB k neg e (val l) := ⟨_, rfl⟩
 obtain ⟨ky, hky⟩ : ∃ x, x = cnK k e (val l) := ⟨_, rfl⟩
 obtain ⟨ny, hny⟩ : ∃ x, x = cnN k neg e (val l) := ⟨_, rfl⟩
 obtain ⟨ey, hey⟩ : ∃ x, x = cnE k e (val l) := ⟨_, rfl⟩
 obtain ⟨my, hmy⟩ : ∃ x, x = cnM k e (val l) := ⟨_, rfl⟩
 unfold cnV at hC
 rw [← hb, ← hky, ← hny, ← hey, ← hmy] at hC
 rw [← hb, ← hky, ← hny, ← hey, ← hmy] at hcn
 rw [← hmy] at hL hbl
 rw [← hb, ← hky, ← hny, ← hey, ← hmy]
 obtain ⟨n, hn⟩ : ∃ n, n = blN my := ⟨_, rfl⟩
 rw [← hn] at hL hbl ⊢
 obtain ⟨G, hG'⟩ : ∃ G, G = gK K := ⟨_, rfl⟩
 rw [← hG'] at hR hG ⊢
 obtain ⟨F, hF⟩ : ∃ F : Int, F = ((K + 1 : Nat) : Int) := ⟨_, rfl⟩
 rw [← hF] at hR ⊢
 unfold fltV words at hC ⊢
 unfold words at hL
 obtain ⟨Q, hQ⟩ : ∃ Q, Q = (digs my).map fun n => V.int .u64 n := ⟨_, rfl⟩
 rw [← hQ] at hC hL ⊢
 unfold fltW words at hC ⊢
 obtain ⟨L, hL'⟩ : ∃ L, L = l.map fun n => V.int .u64 n := ⟨_, rfl⟩
 rw [← hL'] at hC ⊢
 unfold fmtV at hR ⊢
 obtain ⟨ki, hki⟩ : ∃ x : Int, x = (ky : Int) := ⟨_, rfl⟩
 rw [← hki] at hC ⊢
 have hko : b = true → (k = 1 ↔ ki = 1) ∧ (-1048576 ≤ ey ∧ ey ≤ 1048576) := fun h => by
  obtain ⟨h1, h2, _⟩ := hcn h
  exact ⟨by omega, h2⟩
 clear hL' hQ hF hG' hn hb hky hny hey hmy hcn ol hml hki
 cases b with
 | false =>
   rw [Bool.false_and]
   refine FnOk.of Tryz.func251 rfl rfl fun cx w0 => ?_
   rw [show Tryz.f251.ntmps = 57 from rfl]
   refine zs0 ?_
   refine zs2 (ρ := fun _ => [.v true (.agg [.int .i64 ki, .bool ny, .int .i64 ey, .sl 1 Q]), .v true (.bool false)]) (o := by repeat' first|exact hC|trivial|constructor) (k := ?_)
   refine Holds.seq ?_
   refine zs0 ?_
   refine Holds.condT rfl ?_
   refine zs0 ?_
   exact Holds.ret (RetOk.vs rfl (by exact ⟨⟨rfl, id⟩, ⟨rfl, id⟩, trivial⟩) rfl)
 | true =>
   obtain ⟨hk1, he1, he2⟩ := hko rfl
   rw [Bool.true_and]
   by_cases h1 : k = 1
   ·have h1' : ki = 1 := hk1.1 h1
    subst h1'
    rw [decide_eq_false (not_not_intro h1), Bool.false_or]
    have w1 : IntKind.i64.wrap (ey + (n : Int)) = ey + n := by rw [wrap_i64] <;> omega
    have w2 : IntKind.i64.wrap (ey + (n : Int) - 1) = ey + n - 1 := by rw [wrap_i64] <;> omega
    refine FnOk.of Tryz.func251 rfl rfl fun cx w0 => ?_
    rw [show Tryz.f251.ntmps = 57 from rfl]
    refine zs0 ?_
    refine zs2 (ρ := fun _ => [.v true (.agg [.int .i64 1, .bool ny, .int .i64 ey, .sl 1 Q]), .v true (.bool true)]) (o := by repeat' first|exact hC|trivial|constructor) (k := ?_)
    refine Holds.seq ?_
    refine zs0 ?_
    refine Holds.condF rfl (Holds.skip ?_)
    refine zs2 (ρ := fun _ => [.v true (.int .i64 (1 - G)), .v true (.int .i64 G), .v true (.int .i64 (1 - G - (p - 1))), .v true (.int .i64 0)]) (o := by repeat' first|exact hR|trivial|constructor) (k := ?_)
    refine zs2 (ρ := fun _ => [.v true (.int .i64 n)]) (o := by repeat' first|exact hL|trivial|constructor) (k := ?_)
    by_cases a1 : (n : Int) ≤ (p : Int)
    ·by_cases a2 : 1 - G - ((p : Int) - 1) ≤ ey
     ·have hd : decide (n ≤ p ∧ 1 - G - ((p : Int) - 1) ≤ ey ∧ ey + (n : Int) - 1 ≤ G) = decide (ey + (n : Int) - 1 ≤ G) := decide_eq_decide.2 (by omega)
      rw [hd]
      refine Holds.dstepT (Px := px) (T := TT) (ρ := fun _ => []) [(2, 20), (3, 20), (6, 20), (7, 20), (12, 20), (13, 20)] mixed (by kernel_rfl) TTe (by simp (maxSteps := 100000) (disch := omega) only [go_sem, V.isAgg, V.flat, ↓reduceIte, Nat.reduceAdd, Nat.reduceSub, Nat.reduceLT, Nat.reduceEqDiff, reduceCtorEq, Nat.reduceLeDiff, Nat.reduceBEq, Nat.reduceMul, Int.reduceToNat, a1, a2, w1, w2]; rfl) (by repeat' first | exact trivial | constructor) (by rfl) (by rfl) (by simp (maxSteps := 100000) (disch := omega) only [trc_nil, trc_cons, effW_t, effW_f, trcE_s, opSites_eq, sitesOf, AV.sites, AV.sitesL, Op.operands, Call.operands, List.append_toArray, List.toList_toArray, List.filter_nil, List.filter_cons, List.contains_cons, List.contains_nil, go_sem, V.isAgg, V.flat, ↓reduceIte, Nat.reduceAdd, Nat.reduceSub, Nat.reduceLT, Nat.reduceEqDiff, reduceCtorEq, Nat.reduceLeDiff, Nat.reduceBEq, Nat.reduceMul, Int.reduceToNat, a1, a2, w1, w2]; rfl) (by rfl) ?_
      exact Holds.ret (RetOk.vs rfl (by exact ⟨⟨rfl, id⟩, ⟨rfl, id⟩, trivial⟩) rfl)
     ·rw [decide_eq_false (fun h => a2 h.2.1)]
      refine Holds.dstepT (Px := px) (T := TT) (ρ := fun _ => []) [(2, 20), (3, 20), (6, 20), (7, 20), (12, 20), (13, 20)] mixed (by kernel_rfl) TTe (by simp (maxSteps := 100000) (disch := omega) only [go_sem, V.isAgg, V.flat, ↓reduceIte, Nat.reduceAdd, Nat.reduceSub, Nat.reduceLT, Nat.reduceEqDiff, reduceCtorEq, Nat.reduceLeDiff, Nat.reduceBEq, Nat.reduceMul, Int.reduceToNat, a1, a2]; rfl) (by repeat' first | exact trivial | constructor) (by rfl) (by rfl) (by simp (maxSteps := 100000) (disch := omega) only [trc_nil, trc_cons, effW_t, effW_f, trcE_s, opSites_eq, sitesOf, AV.sites, AV.sitesL, Op.operands, Call.operands, List.append_toArray, List.toList_toArray, List.filter_nil, List.filter_cons, List.contains_cons, List.contains_nil, go_sem, V.isAgg, V.flat, ↓reduceIte, Nat.reduceAdd, Nat.reduceSub, Nat.reduceLT, Nat.reduceEqDiff, reduceCtorEq, Nat.reduceLeDiff, Nat.reduceBEq, Nat.reduceMul, Int.reduceToNat, a1, a2]; rfl) (by rfl) ?_
      exact Holds.ret (RetOk.vs rfl (by exact ⟨⟨rfl, id⟩, ⟨rfl, id⟩, trivial⟩) rfl)
    ·rw [decide_eq_false (fun h => a1 (by omega))]
     refine Holds.dstepT (Px := px) (T := TT) (ρ := fun _ => []) [(2, 20), (3, 20), (6, 20), (7, 20), (12, 20), (13, 20)] mixed (by kernel_rfl) TTe (by simp (maxSteps := 100000) (disch := omega) only [go_sem, V.isAgg, V.flat, ↓reduceIte, Nat.reduceAdd, Nat.reduceSub, Nat.reduceLT, Nat.reduceEqDiff, reduceCtorEq, Nat.reduceLeDiff, Nat.reduceBEq, Nat.reduceMul, Int.reduceToNat, a1]; rfl) (by repeat' first | exact trivial | constructor) (by rfl) (by rfl) (by simp (maxSteps := 100000) (disch := omega) only [trc_nil, trc_cons, effW_t, effW_f, trcE_s, opSites_eq, sitesOf, AV.sites, AV.sitesL, Op.operands, Call.operands, List.append_toArray, List.toList_toArray, List.filter_nil, List.filter_cons, List.contains_cons, List.contains_nil, go_sem, V.isAgg, V.flat, ↓reduceIte, Nat.reduceAdd, Nat.reduceSub, Nat.reduceLT, Nat.reduceEqDiff, reduceCtorEq, Nat.reduceLeDiff, Nat.reduceBEq, Nat.reduceMul, Int.reduceToNat, a1]; rfl) (by rfl) ?_
     exact Holds.ret (RetOk.vs rfl (by exact ⟨⟨rfl, id⟩, ⟨rfl, id⟩, trivial⟩) rfl)
   ·have h1' : ¬ ki = 1 := fun h => h1 (hk1.2 h)
    rw [decide_eq_true h1, Bool.true_or]
    refine FnOk.of Tryz.func251 rfl rfl fun cx w0 => ?_
    rw [show Tryz.f251.ntmps = 57 from rfl]
    refine zs0 ?_
    refine zs2 (ρ := fun _ => [.v true (.agg [.int .i64 ki, .bool ny, .int .i64 ey, .sl 1 Q]), .v true (.bool true)]) (o := by repeat' first|exact hC|trivial|constructor) (k := ?_)
    refine Holds.seq ?_
    refine zs1 h1' ?_
    refine Holds.condT rfl ?_
    refine zs0 ?_
    exact Holds.ret (RetOk.vs rfl (by exact ⟨⟨rfl, id⟩, ⟨rfl, id⟩, trivial⟩) rfl)
def nuE (k P : Int) (okr : Bool) (kd : Int) (neg : Bool) (e : Int) (l : List Int) : Int :=
 if 4096 < l.length then 2 else if okr = false then 1 else if ¬ FmtOk k P then 150 else if hoB (k - 1).toNat P.toNat kd neg e (val l) = false then 151 else 0
def nuL (k P : Int) (okr : Bool) (kd : Int) (neg : Bool) (e : Int) (l : List Int) : List V := if nuE k P okr kd neg e l = 0 then [cnV kd neg e (val l)] else []
set_option maxHeartbeats 2000000 in
theorem Floats_ok (k P : Int) (kd : Int) (neg : Bool) (e : Int) (l : List Int) (hl : l.length < 5000) (ol : okW l) (he : -9223372036854775808 ≤ e ∧ e < 9223372036854775808) :
 FnOk Tryz.prog 202 [.v (fmtV k P), .v (.sl 4 [fltW kd neg e l])] [.v true (.sl 4 (nuL k P true kd neg e l)), .v true (.int .i64 (nuE k P true kd neg e l))] := by
 have hLg := flarge_ok kd neg e l
 have hC := fCheck_ok k P
 have hH : FmtOk k P → FnOk Tryz.prog 251 [.v (fmtV k P), .v (fltW kd neg e l)] [.v true (cnV kd neg e (val l)), .v true (.bool (hoB (k - 1).toNat P.toNat kd neg e (val l)))] := fun h => by
  obtain ⟨⟨h1, h2⟩, h3, h4⟩ := h
  have := holds_ok (k - 1).toNat P.toNat (by omega) (by omega) kd neg e l hl ol he
  rw [show (((k - 1).toNat + 1 : Nat) : Int) = k from by omega, show ((P.toNat : Nat) : Int) = P from by omega] at this
  exact this
 have hcv : ∃ ka na ea da, cnV kd neg e (val l) = .agg [.int .i64 ka, .bool na, .int .i64 ea, .sl 1 da] := ⟨_, _, _, _, rfl⟩
 unfold nuL
 unfold nuE
 obtain ⟨h, hh⟩ : ∃ h, h = hoB (k - 1).toNat P.toNat kd neg e (val l) := ⟨_, rfl⟩
 rw [← hh] at hH ⊢
 obtain ⟨ka, na, ea, da, hcv⟩ := hcv
 rw [hcv] at hH ⊢
 obtain ⟨n, hn⟩ : ∃ n, n = l.length := ⟨_, rfl⟩
 rw [← hn] at hLg ⊢
 unfold fltW words at hLg hH ⊢
 obtain ⟨L, hL'⟩ : ∃ L, L = l.map fun n => V.int .u64 n := ⟨_, rfl⟩
 rw [← hL'] at hLg hH ⊢
 unfold fmtV at hC hH ⊢
 clear hL' hn hh hcv ol hl
 refine FnOk.of Tryz.func202 rfl rfl fun cx w0 => ?_
 rw [show Tryz.f202.ntmps = 48 from rfl]
 refine zs0 ?_
 refine Holds.next (fun σ => ¬ 4096 < n ∧ ∀ a w, Rel cx w0 σ a w → Rel cx w0 { nt := 48, env := [(1, .v false (.sl 4 [.agg [.int .i64 kd, .bool neg, .int .i64 e, .sl 1 L]])), (2, .ptr 2 0 [] 0)], mem := [(2, .box 23 (.v false (.agg [.int .i64 k, .int .i64 P])))] } a w) ?_ ?_
 ·refine zs0 ?_
  refine Holds.loopB (fun i : Nat => { nt := 48, env := [(16, .v true (.int .i64 i)), (15, .v true (.int .i64 1)), (14, .v false (.sl 4 [.agg [.int .i64 kd, .bool neg, .int .i64 e, .sl 1 L]])), (1, .v false (.sl 4 [.agg [.int .i64 kd, .bool neg, .int .i64 e, .sl 1 L]])), (2, .ptr 2 0 [] 0)], mem := [(2, .box 23 (.v false (.agg [.int .i64 k, .int .i64 P])))] }) (fun i => i = 0 ∨ i = 1 ∧ ¬ 4096 < n) (fun i => 1 - i) 0 (.inl rfl) (fun a w h => Rel.keep [16, 15, 14, 1, 2] [2] h) ?_
  rintro i hi
  by_cases hi0 : i = 0
  ·subst hi0
   refine zs0 ?_
   refine Holds.seq ?_
   refine Holds.condT rfl (Holds.skip ?_)
   show Holds _ _ _ _ _ _ _
   refine Holds.next (fun σ => ¬ 4096 < n ∧ ∀ a w, Rel cx w0 σ a w → Rel cx w0 { nt := 48, env := [(16, .v true (.int .i64 0)), (15, .v true (.int .i64 1)), (14, .v false (.sl 4 [.agg [.int .i64 kd, .bool neg, .int .i64 e, .sl 1 L]])), (1, .v false (.sl 4 [.agg [.int .i64 kd, .bool neg, .int .i64 e, .sl 1 L]])), (2, .ptr 2 0 [] 0)], mem := [(2, .box 23 (.v false (.agg [.int .i64 k, .int .i64 P])))] } a w) ?_ ?_
   ·refine Holds.blockN ?_
    refine zs0 ?_
    by_cases hn : 4096 < n
    ·rw [decide_eq_true hn] at hLg
     rw [if_pos hn, if_neg (by decide)]
     refine zs2 (ρ := fun _ => [.v true (.bool true)]) (o := by repeat' first|exact hLg|trivial|constructor) (k := ?_)
     refine Holds.condT rfl ?_
     refine zs0 ?_
     exact Holds.ret (RetOk.vs rfl (by exact ⟨rfl, ⟨rfl, id⟩, trivial⟩) rfl)
    ·rw [decide_eq_false hn] at hLg
     refine zs2 (ρ := fun _ => [.v true (.bool false)]) (o := by repeat' first|exact hLg|trivial|constructor) (k := ?_)
     exact Holds.condF rfl (Holds.skip ⟨hn, fun a w h => Rel.keep [16, 15, 14, 1, 2] [2] h⟩)
   ·rintro σ ⟨hn, hσ⟩
    refine Holds.from hσ ?_
    refine zr0 ?_
    exact ⟨1, .inr ⟨rfl, hn⟩, (show 1 - 1 < 1 - 0 by decide), fun a w h => Rel.keep [16, 15, 14, 1, 2] [2] h⟩
  ·have hi1 : i = 1 ∧ ¬ 4096 < n := by omega
   obtain ⟨rfl, hn⟩ := hi1
   refine zs0 ?_
   refine Holds.seq ?_
   exact Holds.condF rfl (Holds.exit ⟨rfl, hn, fun a w h => Rel.keep [1, 2] [2] h⟩)
 ·rintro σ ⟨hn, hσ⟩
  refine Holds.from hσ ?_
  rw [if_neg hn, if_neg (show ¬ true = false by decide)]
  refine Holds.seq ?_
  by_cases hf : FmtOk k P
  ·have hH := hH hf
   have hf' := hf
   unfold FmtOk at hf'
   rw [if_pos hf'] at hC
   rw [if_neg (not_not_intro hf)]
   refine zs2 (ρ := fun _ => [.v true (.int .i64 0)]) (o := by repeat' first|exact hC|trivial|constructor) (k := ?_)
   refine zs0 ?_
   refine Holds.condF rfl (Holds.skip ?_)
   show Holds _ _ _ _ _ _ _
   refine zs0 ?_
   refine Holds.next (fun σ => h = true ∧ ∀ a w, Rel cx w0 σ a w → Rel cx w0 { nt := 48, env := [(9, .own 45 0 1)], mem := [(45, .buf 28 4 true [.agg [.int .i64 ka, .bool na, .int .i64 ea, .sl 1 da]])] } a w) ?_ ?_
   ·refine zs0 ?_
    refine Holds.loopB (fun i : Nat => if i = 0 then { nt := 48, env := [(30, .v true (.int .i64 0)), (29, .v true (.int .i64 1)), (28, .v false (.sl 4 [.agg [.int .i64 kd, .bool neg, .int .i64 e, .sl 1 L]])), (9, .nil), (1, .v false (.sl 4 [.agg [.int .i64 kd, .bool neg, .int .i64 e, .sl 1 L]])), (2, .ptr 2 0 [] 0)], mem := [(2, .box 23 (.v false (.agg [.int .i64 k, .int .i64 P])))] }
     else { nt := 48, env := [(30, .v true (.int .i64 1)), (29, .v true (.int .i64 1)), (9, .own 45 0 1)], mem := [(45, .buf 28 4 true [.agg [.int .i64 ka, .bool na, .int .i64 ea, .sl 1 da]])] }) (fun i => i = 0 ∨ i = 1 ∧ h = true) (fun i => 1 - i) 0 (.inl rfl) (fun a w h => by rw [if_pos rfl]; exact Rel.keep [30, 29, 28, 9, 1, 2] [2] h) ?_
    rintro i hi
    by_cases hi0 : i = 0
    ·subst hi0
     rw [if_pos rfl]
     refine zs0 ?_
     refine Holds.seq ?_
     refine Holds.condT rfl (Holds.skip ?_)
     show Holds _ _ _ _ _ _ _
     refine Holds.next (fun σ => h = true ∧ ∀ a w, Rel cx w0 σ a w → Rel cx w0 { nt := 48, env := [(30, .v true (.int .i64 0)), (29, .v true (.int .i64 1)), (9, .own 45 0 1)], mem := [(45, .buf 28 4 true [.agg [.int .i64 ka, .bool na, .int .i64 ea, .sl 1 da]])] } a w) ?_ ?_
     ·refine Holds.blockN ?_
      refine zs0 ?_
      refine zs2 (ρ := fun _ => [.v true (.agg [.int .i64 ka, .bool na, .int .i64 ea, .sl 1 da]), .v true (.bool h)]) (o := by repeat' first|exact hH|trivial|constructor) (k := ?_)
      refine Holds.seq ?_
      cases h with
      | false =>
        rw [if_pos rfl, if_neg (by decide)]
        refine zs0 ?_
        refine Holds.condT rfl ?_
        refine zs0 ?_
        exact Holds.ret (RetOk.vs rfl (by exact ⟨rfl, ⟨rfl, id⟩, trivial⟩) rfl)
      | true =>
        refine zs0 ?_
        refine Holds.condF rfl (Holds.skip ?_)
        show Holds _ _ _ _ _ _ _
        refine zr0 ?_
        exact ⟨rfl, fun a w h => Rel.keep [30, 29, 9] [45] h⟩
     ·rintro σ ⟨hn, hσ⟩
      refine Holds.from hσ ?_
      refine zr0 ?_
      exact ⟨1, .inr ⟨rfl, hn⟩, (show 1 - 1 < 1 - 0 by decide), fun a w h => by show Rel cx w0 (if (1 : Nat) = 0 then _ else _) a w; rw [if_neg (by decide)]; exact Rel.keep [30, 29, 9] [45] h⟩
    ·have hi1 : i = 1 ∧ h = true := by rcases hi with h | h; exact absurd h hi0; exact h
     obtain ⟨rfl, hn⟩ := hi1
     rw [if_neg (by decide)]
     refine zs0 ?_
     refine Holds.seq ?_
     exact Holds.condF rfl (Holds.exit ⟨rfl, hn, fun a w h => Rel.keep [9] [45] h⟩)
   ·rintro σ ⟨hn, hσ⟩
    refine Holds.from hσ ?_
    subst hn
    rw [if_neg (show ¬ true = false by decide), if_pos rfl]
    refine zs0 ?_
    exact Holds.ret (RetOk.vs rfl (by exact ⟨⟨rfl, rfl, id, rfl⟩, ⟨rfl, id⟩, trivial⟩) rfl)
  ·have hf' := hf
   unfold FmtOk at hf'
   rw [if_neg hf'] at hC
   rw [if_pos hf, if_neg (by decide)]
   refine zs2 (ρ := fun _ => [.v true (.int .i64 150)]) (o := by repeat' first|exact hC|trivial|constructor) (k := ?_)
   refine zs0 ?_
   refine Holds.condT rfl ?_
   refine zs0 ?_
   exact Holds.ret (RetOk.vs rfl (by exact ⟨rfl, ⟨rfl, id⟩, trivial⟩) rfl)
def nuV (k P : Int) (okr : Bool) (kd : Int) (neg : Bool) (e : Int) (l : List Int) : V := if nuE k P okr kd neg e l = 0 then cnV kd neg e (val l) else fltV 0 false 0 0
set_option maxHeartbeats 2000000 in
theorem fArgs_ok (k P r : Int) (out : Bool) (kd : Int) (neg : Bool) (e : Int) (l : List Int) (hl : l.length < 5000) (ol : okW l) (he : -9223372036854775808 ≤ e ∧ e < 9223372036854775808) :
 FnOk Tryz.prog 126 [.v (fmtV k P), .v (.int .i64 r), .v (.bool out), .v (.sl 4 [fltW kd neg e l])] [.v true (.sl 4 (nuL k P (decide (0 ≤ r ∧ r ≤ 4) && !out) kd neg e l)), .v true (.int .i64 (nuE k P (decide (0 ≤ r ∧ r ≤ 4) && !out) kd neg e l))] := by
 have hR := Right_ok r
 have hF := Floats_ok k P kd neg e l hl ol he
 obtain ⟨rr, hrr⟩ : ∃ b, b = decide (0 ≤ r ∧ r ≤ 4) := ⟨_, rfl⟩
 rw [← hrr] at hR ⊢
 have e1 : ∀ b, nuE k P b kd neg e l = if 4096 < l.length then 2 else if b = false then 1 else nuE k P true kd neg e l := fun b => by
  unfold nuE
  by_cases h : 4096 < l.length
  ·rw [if_pos h, if_pos h]
  ·rw [if_neg h, if_neg h, if_neg h]
   cases b <;> simp
 have e2 : ∀ b, nuL k P b kd neg e l = if 4096 < l.length then [] else if b = false then [] else nuL k P true kd neg e l := fun b => by
  unfold nuL
  rw [e1 b]
  by_cases h : 4096 < l.length
  ·rw [if_pos h, if_pos h, if_neg (by decide)]
  ·rw [if_neg h, if_neg h]
   cases b
   ·rw [if_pos rfl, if_pos rfl, if_neg (by decide)]
   ·rw [if_neg (show ¬ true = false by decide), if_neg (show ¬ true = false by decide)]
 rw [e1, e2]
 obtain ⟨E, hE⟩ : ∃ E, E = nuE k P true kd neg e l := ⟨_, rfl⟩
 obtain ⟨ls, hls⟩ : ∃ E, E = nuL k P true kd neg e l := ⟨_, rfl⟩
 rw [← hE, ← hls] at hF ⊢
 obtain ⟨n, hn⟩ : ∃ n, n = l.length := ⟨_, rfl⟩
 rw [← hn]
 unfold fltW words at hF ⊢
 obtain ⟨L, hL'⟩ : ∃ L, L = l.map fun n => V.int .u64 n := ⟨_, rfl⟩
 have hLn : L.length = n := by rw [hL', List.length_map, hn]
 rw [← hL'] at hF ⊢
 unfold fmtV at hF ⊢
 clear hL' hn hrr ol hl e1 e2 hE hls
 refine FnOk.of Tryz.func126 rfl rfl fun cx w0 => ?_
 rw [show Tryz.f126.ntmps = 34 from rfl]
 refine zs0 ?_
 refine Holds.next (fun σ => ¬ 4096 < n ∧ ∀ a w, Rel cx w0 σ a w → Rel cx w0 { nt := 34, env := [(1, .v true (.int .i64 r)), (2, .v true (.bool out)), (3, .v false (.sl 4 [.agg [.int .i64 kd, .bool neg, .int .i64 e, .sl 1 L]])), (4, .ptr 4 0 [] 0)], mem := [(4, .box 23 (.v false (.agg [.int .i64 k, .int .i64 P])))] } a w) ?_ ?_
 ·refine zs0 ?_
  refine Holds.loopB (fun i : Nat => { nt := 34, env := [(14, .v true (.int .i64 i)), (13, .v true (.int .i64 1)), (12, .v false (.sl 4 [.agg [.int .i64 kd, .bool neg, .int .i64 e, .sl 1 L]])), (1, .v true (.int .i64 r)), (2, .v true (.bool out)), (3, .v false (.sl 4 [.agg [.int .i64 kd, .bool neg, .int .i64 e, .sl 1 L]])), (4, .ptr 4 0 [] 0)], mem := [(4, .box 23 (.v false (.agg [.int .i64 k, .int .i64 P])))] }) (fun i => i = 0 ∨ i = 1 ∧ ¬ 4096 < n) (fun i => 1 - i) 0 (.inl rfl) (fun a w h => Rel.keep [14, 13, 12, 1, 2, 3, 4] [4] h) ?_
  rintro i hi
  by_cases hi0 : i = 0
  ·subst hi0
   refine zs0 ?_
   refine Holds.seq ?_
   refine Holds.condT rfl (Holds.skip ?_)
   show Holds _ _ _ _ _ _ _
   refine Holds.next (fun σ => ¬ 4096 < n ∧ ∀ a w, Rel cx w0 σ a w → Rel cx w0 { nt := 34, env := [(14, .v true (.int .i64 0)), (13, .v true (.int .i64 1)), (12, .v false (.sl 4 [.agg [.int .i64 kd, .bool neg, .int .i64 e, .sl 1 L]])), (1, .v true (.int .i64 r)), (2, .v true (.bool out)), (3, .v false (.sl 4 [.agg [.int .i64 kd, .bool neg, .int .i64 e, .sl 1 L]])), (4, .ptr 4 0 [] 0)], mem := [(4, .box 23 (.v false (.agg [.int .i64 k, .int .i64 P])))] } a w) ?_ ?_
   ·refine Holds.blockN ?_
    refine zs0 ?_
    by_cases hn : 4096 < n
    ·rw [if_pos hn, if_pos hn]
     have g : (4096 : Int) < (L.length : Int) := by omega
     refine zs1 g ?_
     refine Holds.condT rfl ?_
     refine zs0 ?_
     exact Holds.ret (RetOk.vs rfl (by exact ⟨rfl, ⟨rfl, id⟩, trivial⟩) rfl)
    ·have g : ¬ (4096 : Int) < (L.length : Int) := by omega
     refine zs1 g ?_
     exact Holds.condF rfl (Holds.skip ⟨hn, fun a w h => Rel.keep [14, 13, 12, 1, 2, 3, 4] [4] h⟩)
   ·rintro σ ⟨hn, hσ⟩
    refine Holds.from hσ ?_
    refine zr0 ?_
    exact ⟨1, .inr ⟨rfl, hn⟩, (show 1 - 1 < 1 - 0 by decide), fun a w h => Rel.keep [14, 13, 12, 1, 2, 3, 4] [4] h⟩
  ·have hi1 : i = 1 ∧ ¬ 4096 < n := by omega
   obtain ⟨rfl, hn⟩ := hi1
   refine zs0 ?_
   refine Holds.seq ?_
   exact Holds.condF rfl (Holds.exit ⟨rfl, hn, fun a w h => Rel.keep [1, 2, 3, 4] [4] h⟩)
 ·rintro σ ⟨hn, hσ⟩
  refine Holds.from hσ ?_
  rw [if_neg hn, if_neg hn]
  refine Holds.seq ?_
  cases rr with
  | false =>
    rw [Bool.false_and, if_pos rfl, if_pos rfl]
    refine zs2 (ρ := fun _ => [.v true (.bool false)]) (o := by repeat' first|exact hR|trivial|constructor) (k := ?_)
    refine Holds.condT rfl ?_
    refine zs0 ?_
    exact Holds.ret (RetOk.vs rfl (by exact ⟨rfl, ⟨rfl, id⟩, trivial⟩) rfl)
  | true =>
    cases out with
    | true =>
      rw [Bool.true_and, Bool.not_true, if_pos rfl, if_pos rfl]
      refine zs2 (ρ := fun _ => [.v true (.bool true)]) (o := by repeat' first|exact hR|trivial|constructor) (k := ?_)
      refine Holds.condT rfl ?_
      refine zs0 ?_
      exact Holds.ret (RetOk.vs rfl (by exact ⟨rfl, ⟨rfl, id⟩, trivial⟩) rfl)
    | false =>
      rw [Bool.true_and, Bool.not_false, if_neg (show ¬ true = false by decide), if_neg (show ¬ true = false by decide)]
      refine zs2 (ρ := fun _ => [.v true (.bool true)]) (o := by repeat' first|exact hR|trivial|constructor) (k := ?_)
      refine Holds.condF rfl (Holds.skip ?_)
      show Holds _ _ _ _ _ _ _
      refine zs2 (ρ := fun _ => [.v true (.sl 4 ls), .v true (.int .i64 E)]) (o := by repeat' first|exact hF|trivial|constructor) (k := ?_)
      exact Holds.ret (RetOk.vs rfl (by exact ⟨⟨rfl, id⟩, ⟨rfl, id⟩, trivial⟩) rfl)
theorem nuL_0 {k P : Int} {okr : Bool} {kd : Int} {neg : Bool} {e : Int} {l : List Int} (h : nuE k P okr kd neg e l = 0) : nuL k P okr kd neg e l = [cnV kd neg e (val l)] := by unfold nuL; rw [if_pos h]
set_option maxHeartbeats 2000000 in
theorem number_ok (k P r : Int) (out : Bool) (kd : Int) (neg : Bool) (e : Int) (l : List Int) (hl : l.length < 5000) (ol : okW l) (he : -9223372036854775808 ≤ e ∧ e < 9223372036854775808) :
 FnOk Tryz.prog 49 [.v (fmtV k P), .v (.int .i64 r), .v (.bool out), .v (fltW kd neg e l)] [.v true (nuV k P (decide (0 ≤ r ∧ r ≤ 4) && !out) kd neg e l), .v true (.int .i64 (nuE k P (decide (0 ≤ r ∧ r ≤ 4) && !out) kd neg e l))] := by
 have hA := fArgs_ok k P r out kd neg e l hl ol he
 obtain ⟨b, hb⟩ : ∃ b, b = (decide (0 ≤ r ∧ r ≤ 4) && !out) := ⟨_, rfl⟩
 rw [← hb] at hA ⊢
 unfold nuV
 have h0 := fun h => nuL_0 (k := k) (P := P) (okr := b) (kd := kd) (neg := neg) (e := e) (l := l) h
 obtain ⟨ls, hls⟩ : ∃ E, E = nuL k P b kd neg e l := ⟨_, rfl⟩
 rw [← hls] at hA h0
 obtain ⟨E, hE⟩ : ∃ E, E = nuE k P b kd neg e l := ⟨_, rfl⟩
 rw [← hE] at hA h0 ⊢
 obtain ⟨ka, na, ea, da, hcv⟩ : ∃ ka na ea da, cnV kd neg e (val l) = .agg [.int .i64 ka, .bool na, .int .i64 ea, .sl 1 da] := ⟨_, _, _, _, rfl⟩
 rw [hcv] at h0 ⊢
 rw [fltV_zero]
 unfold fltW words at hA ⊢
 obtain ⟨L, hL'⟩ : ∃ L, L = l.map fun n => V.int .u64 n := ⟨_, rfl⟩
 rw [← hL'] at hA ⊢
 unfold fmtV at hA ⊢
 clear hL' hcv ol hl hb hls hE
 refine FnOk.of Tryz.func49 rfl rfl fun cx w0 => ?_
 rw [show Tryz.f49.ntmps = 28 from rfl]
 refine zs0 ?_
 refine zs2 (ρ := fun _ => [.v true (.sl 4 ls), .v true (.int .i64 E)]) (o := by repeat' first|exact hA|trivial|constructor) (k := ?_)
 refine Holds.seq ?_
 by_cases h : E = 0
 ·have hls := h0 h
  subst hls
  subst h
  rw [if_pos rfl]
  refine zs0 ?_
  refine Holds.condF rfl (Holds.skip ?_)
  show Holds _ _ _ _ _ _ _
  refine zs0 ?_
  exact Holds.ret (RetOk.vs rfl (by exact ⟨⟨rfl, id⟩, ⟨rfl, id⟩, trivial⟩) rfl)
 ·rw [if_neg h]
  refine zs1 h ?_
  refine Holds.condT rfl ?_
  refine zs0 ?_
  exact Holds.ret (RetOk.vs rfl (by exact ⟨⟨rfl, id⟩, ⟨rfl, id⟩, trivial⟩) rfl)
theorem nu_one {k P : Int} {okr : Bool} {kd : Int} {neg : Bool} {e : Int} {l : List Int} (h : nuE k P okr kd neg e l = 0) : FmtOk k P ∧ okr = true ∧ l.length ≤ 4096 ∧ cnB kd neg e (val l) = true ∧ (kd = 1 → hoI (k - 1).toNat P.toNat (cnE kd e (val l)) (cnM kd e (val l)) = true) := by
 unfold nuE at h
 split at h
 ·cases h
 ·next h1 =>
  split at h
  ·cases h
  ·next h2 =>
   split at h
   ·cases h
   ·next h3 =>
    split at h
    ·cases h
    ·next h4 =>
     have h5 : hoB (k - 1).toNat P.toNat kd neg e (val l) = true := by simpa using h4
     unfold hoB at h5
     rw [Bool.and_eq_true, Bool.or_eq_true] at h5
     refine ⟨Classical.not_not.1 h3, by simpa using h2, by omega, h5.1, fun h6 => ?_⟩
     rcases h5.2 with h7 | h7
     ·exact absurd h6 (of_decide_eq_true h7)
     ·exact h7
theorem digG_tab : ((List.range 180).all fun i => (List.range 100).all fun j => decide (10 ^ ((100 * i + j) * 30103 / 100000) ≤ 10 * 2 ^ (100 * i + j))) = true := by kernel_rfl
theorem digG_start {m : Nat} (h : m < 18000) : 10 ^ (m * 30103 / 100000) ≤ 10 * 2 ^ m := by
 have := of_decide_eq_true (List.all_eq_true.1 (List.all_eq_true.1 digG_tab (m / 100) (List.mem_range.2 (by omega))) (m % 100) (List.mem_range.2 (Nat.mod_lt _ (by decide))))
 rw [Nat.div_add_mod] at this
 exact this
theorem digG_le {v D n : Nat} (h : HasD v D) (hn : 10 ^ n ≤ 10 * v) : n ≤ D := by
 cases n with
 | zero => exact Nat.zero_le _
 | succ n =>
   rw [Nat.pow_succ, Nat.mul_comm] at hn
   exact hasD_lt h (Nat.le_of_mul_le_mul_left hn (by decide))
theorem log_start {t L : Nat} (h : t * 100000 ≤ 30102 * L) : 10 ^ t ≤ 2 ^ L := by
 have h1 : 196 * t ≤ 59 * L := by omega
 have h2 : (10 ^ t) ^ 196 ≤ (2 ^ L) ^ 196 := by
  rw [← Nat.pow_mul, ← Nat.pow_mul, Nat.mul_comm t]
  refine Nat.le_trans (Nat.pow_le_pow_right (by decide) h1) ?_
  rw [Nat.pow_mul, Nat.mul_comm L, Nat.pow_mul]
  exact Nat.pow_le_pow_left (by decide) L
 rcases Nat.lt_or_ge (2 ^ L) (10 ^ t) with h3 | h3
 ·have := Nat.pow_lt_pow_left h3 (show (196 : Nat) ≠ 0 by decide)
  omega
 ·exact h3
theorem wDigitsG_ok (x : List Int) (D : Nat) (hx : x.length < 10000) (ox : okW x) (hD : HasD (val x) D) (hb : blN (val x) ≤ 18000) (hDl : D < 20000) : FnOk Tryz.prog 110 [.v (words x)] [.v true (.int .i64 D)] := by
 have hpos : 0 < val x := by
  have := Nat.pow_pos (a := 10) (n := D - 1) (by decide)
  have := hD.2.1
  omega
 have hZ := wZero_ok x (by omega) ox
 rw [decide_eq_false (by omega)] at hZ
 have hL := wLen_ok x (by omega) ox
 obtain ⟨b1, b2⟩ := bl_le hpos
 obtain ⟨B, hB⟩ : ∃ B, B = blN (val x) := ⟨_, rfl⟩
 rw [← hB] at hL b1 b2 hb
 have hs := digG_start (m := B - 1) (by omega)
 have hn0 : (B - 1) * 30103 / 100000 ≤ D := digG_le hD (Nat.le_trans hs (Nat.mul_le_mul_left 10 b1))
 refine FnOk.of Tryz.func110 rfl rfl fun cx w0 => ?_
 rw [show Tryz.f110.ntmps = 19 from rfl]
 obtain ⟨n0, hn0'⟩ : ∃ n0, n0 = (B - 1) * 30103 / 100000 := ⟨_, rfl⟩
 rw [← hn0'] at hn0
 have w1 : (B : Int) - 1 = ((B - 1 : Nat) : Int) := by omega
 have w2 : IntKind.i64.wrap (((B - 1 : Nat) : Int) * 30103) = (((B - 1) * 30103 : Nat) : Int) := by rw [wrap_i64] <;> omega
 have w3 : (((B - 1) * 30103 : Nat) : Int).tdiv 100000 = (n0 : Int) := by rw [hn0']; exact quoN _ 100000
 have w4 : IntKind.i64.wrap (n0 : Int) = (n0 : Int) := by rw [wrap_i64] <;> omega
 obtain ⟨B1, hB1⟩ : ∃ B1, B1 = B - 1 := ⟨_, rfl⟩
 rw [← hB1] at w1 w2 w3
 obtain ⟨p, hp⟩ : ∃ p, p = B1 * 30103 := ⟨_, rfl⟩
 rw [← hp] at w2 w3
 clear hs b1 hn0' hp hB1 hB
 refine zs0 ?_
 refine Holds.seq ?_
 refine zs2 (ρ := fun _ => [.v true (.bool false)]) (o := by repeat' first|exact hZ|trivial|constructor) (k := ?_)
 refine Holds.condF rfl (Holds.skip ?_)
 refine zs3 (ρ := fun _ => [.v true (.int .i64 (B : Nat))]) (an w1 <| an w2 <| an w3 <| w4) (o := by repeat' first|exact hL|trivial|constructor) (k := ?_)
 refine Holds.next (fun σ => ∀ a w, Rel cx w0 σ a w → Rel cx w0 { nt := 19, env := [(3, .v true (.int .i64 D))], mem := [] } a w) ?_ ?_
 ·refine Holds.loopB (fun n : Nat => { nt := 19, env := [(3, .v true (.int .i64 (n : Nat))), (0, .v false (words x))], mem := [] }) (fun n => n ≤ D) (fun n => D - n) n0 hn0 (fun a w h => Rel.keep [3, 0] [] h) ?_
  intro n hn
  have hT := wTen_ok n (by omega)
  have hl : (digs (10 ^ n)).length < 100000 := by
   have h5 : (10 : Nat) ^ n ≤ 16 ^ n := Nat.pow_le_pow_left (by decide) n
   have := digs_len (v := 10 ^ n) (m := n / 16 + 1) (Nat.lt_of_le_of_lt h5 (by
    rw [show (18446744073709551616 : Nat) = 16 ^ 16 from rfl, ← Nat.pow_mul]
    exact Nat.pow_lt_pow_right (by decide) (by omega)))
   omega
  have hC := wCmp_ok x (digs (10 ^ n)) (by omega) hl ox (digs_ok _).1
  rw [(digs_ok (10 ^ n)).2.2] at hC
  obtain ⟨T, hT'⟩ : ∃ T, T = digs (10 ^ n) := ⟨_, rfl⟩
  obtain ⟨c, hc⟩ : ∃ c, c = cmpN (val x) (10 ^ n) := ⟨_, rfl⟩
  rw [← hT'] at hT hC
  rw [← hc] at hC
  refine Holds.seq ?_
  rcases Nat.lt_or_ge (val x) (10 ^ n) with h | h
  ·have hDn : n = D := Nat.le_antisymm hn (hasD_le hD h)
   have g : ¬ 0 ≤ c := by rw [hc, cmpN, if_pos h]; omega
   refine zs3 (ρ := fun d => if d = 13 then [.v true (words T)] else [.v true (.int .i64 c)]) g (o := by repeat' first|exact hT|exact hC|trivial|constructor) (k := ?_)
   refine Holds.condF rfl (Holds.exit ⟨rfl, fun a w h => ?_⟩)
   have := Rel.keep [3] [] h
   rw [hDn] at this
   exact this
  ·have hlt := hasD_lt hD h
   have g : 0 ≤ c := by rw [hc, cmpN, if_neg (by omega)]; split <;> omega
   have wk : IntKind.i64.wrap ((n : Int) + 1) = ((n + 1 : Nat) : Int) := by rw [wrap_i64] <;> omega
   refine zs3 (ρ := fun d => if d = 13 then [.v true (words T)] else [.v true (.int .i64 c)]) g (o := by repeat' first|exact hT|exact hC|trivial|constructor) (k := ?_)
   refine Holds.condT rfl (Holds.skip ?_)
   refine Holds.block ?_
   refine zr1 wk ?_
   exact ⟨n + 1, (by show n + 1 ≤ D; omega), (show D - (n + 1) < D - n by omega), fun a w h => Rel.keep [3, 0] [] h⟩
 ·intro σ hσ
  refine Holds.from hσ ?_
  refine zs0 ?_
  exact Holds.ret (RetOk.vs rfl (by exact ⟨⟨rfl, id⟩, trivial⟩) rfl)
theorem log_k0 {num den : Nat} (hn : 0 < num) (h : num < den) {t : Nat} (ht : t * 100000 ≤ 30102 * (blN den - blN num - 1)) : num * 10 ^ t ≤ den := by
 have h1 := log_start ht
 have h2 := (bl_le (show 0 < den by omega)).1
 have h3 : num < 2 ^ blN num := by
  rw [blN, if_neg (by omega)]
  exact Nat.lt_log2_self
 refine Nat.le_trans (Nat.mul_le_mul_left num h1) ?_
 rcases Nat.lt_or_ge (blN num) (blN den) with h4 | h4
 ·refine Nat.le_trans ?_ h2
  rw [show blN den - 1 = blN num + (blN den - blN num - 1) from by omega, Nat.pow_add]
  exact Nat.mul_le_mul_right _ (Nat.le_of_lt h3)
 ·rw [show blN den - blN num - 1 = 0 from by omega, Nat.pow_zero, Nat.mul_one]
  omega
theorem isA_neg {num den K : Nat} {a : Int} (hd : num < den) (hn : 0 < num) (h : IsA num den a) (ha : a = -(K : Int)) : 1 ≤ K ∧ den ≤ num * 10 ^ K ∧ ∀ k, k < K → num * 10 ^ k < den := by
 have h1 := h 0 K (by omega)
 rw [Nat.pow_zero, Nat.mul_one, Nat.zero_add, Nat.pow_one] at h1
 have hK : 1 ≤ K := by
  rcases Nat.eq_zero_or_pos K with h0 | h0
  ·subst h0; rw [Nat.pow_zero, Nat.mul_one] at h1; omega
  ·exact h0
 refine ⟨hK, h1.1, fun k hk => ?_⟩
 have h2 : num * 10 ^ k * 10 ≤ num * 10 ^ K := by
  rw [Nat.mul_assoc, ← Nat.pow_succ]
  exact Nat.mul_le_mul_left _ (Nat.pow_le_pow_right (by decide) hk)
 omega
theorem bl_mono {a b : Nat} (h : a ≤ b) : blN a ≤ blN b := by
 refine bl_lt ?_
 rcases Nat.eq_zero_or_pos b with h0 | h0
 ·subst h0; rw [show a = 0 from by omega]; exact Nat.pow_pos (by decide)
 ·rw [show blN b = b.log2 + 1 from by rw [blN, if_neg (by omega)]]
  exact Nat.lt_of_le_of_lt h Nat.lt_log2_self
theorem digs_lenB {v B n : Nat} (h : v < 2 ^ B) (hB : B ≤ 64 * n) : (digs v).length ≤ n := digs_len (m := n) (by rw [B_pow]; exact Nat.lt_of_lt_of_le h (Nat.pow_le_pow_right (by decide) hB))
theorem hasD_lt2 {v B D : Nat} (h : HasD v D) (hv : v < 2 ^ B) : D ≤ B := by
 rcases Nat.lt_or_ge B D with h1 | h1
 ·have h2 : (2 : Nat) ^ (D - 1) ≤ 10 ^ (D - 1) := Nat.pow_le_pow_left (by decide) _
  have h3 : (2 : Nat) ^ B ≤ 2 ^ (D - 1) := Nat.pow_le_pow_right (by decide) (by omega)
  have := h.2.1
  omega
 ·exact h1
theorem log_big (num den B : Nat) (a : Int) (hB : B ≤ 17000) (hd : 0 < den) (hle : den ≤ num) (hnl : num < 2 ^ B) (hA : IsA num den a) : FnOk Tryz.prog 128 [.v (words (digs num)), .v (words (digs den))] [.v true (.int .i64 a)] := by
 have l1 := digs_lenB (n := 300) hnl (by omega)
 have l2 := digs_lenB (n := 300) (Nat.lt_of_le_of_lt hle hnl) (by omega)
 have hC := wCmp_ok (digs num) (digs den) (by omega) (by omega) (digs_ok _).1 (digs_ok _).1
 have hM := wDivMod_ok (digs num) (digs den) (by omega) (by omega) (digs_ok _).1 (digs_ok _).1 (by rw [(digs_ok den).2.2]; exact hd)
 rw [(digs_ok num).2.2, (digs_ok den).2.2] at hC hM
 have hq0 : 0 < num / den := Nat.div_pos hle hd
 have hqB : num / den < 2 ^ B := Nat.lt_of_le_of_lt (Nat.div_le_self _ _) hnl
 obtain ⟨D, hD⟩ := hasD_ex (num / den) hq0
 have hDB := hasD_lt2 hD hqB
 have hG := wDigitsG_ok (digs (num / den)) D (by have := digs_lenB (n := 300) hqB (by omega); omega) (digs_ok _).1 (by rw [(digs_ok _).2.2]; exact hD) (by rw [(digs_ok _).2.2]; have := bl_lt hqB; omega) (by omega)
 have ha : a = ((D - 1 : Nat) : Int) := by
  have := isA_uniq hA (isA_hasD hd hD)
  have := hD.1
  omega
 subst ha
 have w1 : (D : Int) - 1 = ((D - 1 : Nat) : Int) := by have := hD.1; omega
 obtain ⟨c, hc⟩ : ∃ c, c = cmpN num den := ⟨_, rfl⟩
 have g : 0 ≤ c := by rw [hc, cmpN, if_neg (by omega)]; split <;> omega
 rw [← hc] at hC
 obtain ⟨X, hX⟩ : ∃ X, X = digs num := ⟨_, rfl⟩
 obtain ⟨Y, hY⟩ : ∃ Y, Y = digs den := ⟨_, rfl⟩
 obtain ⟨Q, hQ⟩ : ∃ Y, Y = digs (num / den) := ⟨_, rfl⟩
 obtain ⟨R, hR⟩ : ∃ Y, Y = digs (num % den) := ⟨_, rfl⟩
 rw [← hX] at hC hM ⊢
 rw [← hY] at hC hM ⊢
 rw [← hQ, ← hR] at hM
 rw [← hQ] at hG
 obtain ⟨D1, hD1⟩ : ∃ x, x = D - 1 := ⟨_, rfl⟩
 rw [← hD1] at w1 ⊢
 clear hD1 hc hX hY hQ hR hD hqB hq0 hA hnl hle l1 l2 hd
 refine FnOk.of Tryz.func128 rfl rfl fun cx w0 => ?_
 rw [show Tryz.f128.ntmps = 46 from rfl]
 refine zs0 ?_
 refine Holds.seq ?_
 refine zs3 (ρ := fun _ => [.v true (.int .i64 c)]) g (o := by repeat' first|exact hC|trivial|constructor) (k := ?_)
 refine Holds.condT rfl ?_
 refine zs2 (ρ := fun _ => [.v true (words Q), .v true (words R)]) (o := by repeat' first|exact hM|trivial|constructor) (k := ?_)
 refine zs3 (ρ := fun _ => [.v true (.int .i64 D)]) w1 (o := by repeat' first|exact hG|trivial|constructor) (k := ?_)
 exact Holds.ret (RetOk.vs rfl (by exact ⟨⟨rfl, id⟩, trivial⟩) rfl)
set_option maxHeartbeats 1000000 in
theorem log_small (num den B : Nat) (K : Nat) (hB : B ≤ 17000) (hn : 0 < num) (hlt : num < den) (hdl : den < 2 ^ B) (hK1 : 1 ≤ K) (hK2 : den ≤ num * 10 ^ K) (hK3 : ∀ k, k < K → num * 10 ^ k < den) : FnOk Tryz.prog 128 [.v (words (digs num)), .v (words (digs den))] [.v true (.int .i64 (-(K : Int)))] := by
 have hnl : num < 2 ^ B := Nat.lt_trans hlt hdl
 have l1 := digs_lenB (n := 300) hnl (by omega)
 have l2 := digs_lenB (n := 300) hdl (by omega)
 have hC := wCmp_ok (digs num) (digs den) (by omega) (by omega) (digs_ok _).1 (digs_ok _).1
 have hL1 := wLen_ok (digs den) (by omega) (digs_ok _).1
 have hL2 := wLen_ok (digs num) (by omega) (digs_ok _).1
 rw [(digs_ok num).2.2, (digs_ok den).2.2] at hC
 rw [(digs_ok den).2.2] at hL1
 rw [(digs_ok num).2.2] at hL2
 have hKB : K ≤ B + 1 := by
  have h1 := hK3 (K - 1) (by omega)
  have h2 : (2 : Nat) ^ (K - 1) ≤ 10 ^ (K - 1) := Nat.pow_le_pow_left (by decide) _
  have h3 : 10 ^ (K - 1) ≤ num * 10 ^ (K - 1) := Nat.le_mul_of_pos_left _ hn
  rcases Nat.lt_or_ge (B + 1) K with h4 | h4
  ·have h5 : (2 : Nat) ^ B ≤ 2 ^ (K - 1) := Nat.pow_le_pow_right (by decide) (by omega)
   omega
  ·exact h4
 have hbl := bl_mono (Nat.le_of_lt hlt)
 have hb1 := bl_lt hdl
 obtain ⟨t, ht⟩ : ∃ t, t = (blN den - blN num - 1) * 30102 / 100000 := ⟨_, rfl⟩
 have hk0 : max 1 t ≤ K := by
  have h1 := log_k0 hn hlt (t := t) (by omega)
  have h2 : t ≤ K := by
   rcases Nat.lt_or_ge K t with h3 | h3
   ·have h4 : num * 10 ^ K * 10 ≤ num * 10 ^ t := by rw [Nat.mul_assoc, ← Nat.pow_succ]; exact Nat.mul_le_mul_left _ (Nat.pow_le_pow_right (by decide) h3)
    omega
   ·exact h3
  omega
 obtain ⟨b, hb⟩ : ∃ x, x = blN num := ⟨_, rfl⟩
 obtain ⟨d, hd⟩ : ∃ x, x = blN den := ⟨_, rfl⟩
 rw [← hb] at hL2 hbl ht
 rw [← hd] at hL1 hbl ht hb1
 obtain ⟨z, hz⟩ : ∃ z : Int, z = (d : Int) - b - 1 := ⟨_, rfl⟩
 obtain ⟨k0, hk0'⟩ : ∃ k, k = max 1 t := ⟨_, rfl⟩
 rw [← hk0'] at hk0
 have w1 : IntKind.i64.wrap ((d : Int) - b) = (d : Int) - b := by rw [wrap_i64] <;> omega
 have w2 : IntKind.i64.wrap ((d : Int) - b - 1) = z := by rw [wrap_i64] <;> omega
 have w3 : IntKind.i64.wrap (z * 30102) = z * 30102 := by rw [wrap_i64] <;> omega
 have w4 : (z * 30102).tdiv 100000 = if z = -1 then 0 else (t : Int) := by
  by_cases h : z = -1
  ·rw [h]; rfl
  ·rw [if_neg h, show z * 30102 = (((d - b - 1) * 30102 : Nat) : Int) from by omega, ht]
   exact quoN _ 100000
 have w5 : IntKind.i64.wrap (if z = -1 then (0 : Int) else (t : Int)) = if z = -1 then (0 : Int) else (t : Int) := by rw [wrap_i64] <;> split <;> omega
 have w6 : (if (1 : Int) < (if z = -1 then (0 : Int) else (t : Int)) then (if z = -1 then (0 : Int) else (t : Int)) else 1) = (k0 : Int) := by
  by_cases h : z = -1
  ·rw [if_pos h, if_neg (by decide)]; omega
  ·rw [if_neg h]; split <;> omega
 obtain ⟨u, hu⟩ : ∃ u, u = if z = -1 then (0 : Int) else (t : Int) := ⟨_, rfl⟩
 rw [← hu] at w4 w5 w6
 have hT := wTen_ok k0 (by omega)
 have lT : (digs (10 ^ k0)).length ≤ 1100 := by
  have h5 : (10 : Nat) ^ k0 ≤ 16 ^ k0 := Nat.pow_le_pow_left (by decide) k0
  rw [show (16 : Nat) = 2 ^ 4 from rfl, ← Nat.pow_mul] at h5
  exact digs_lenB (B := 4 * k0 + 1) (Nat.lt_of_le_of_lt h5 (Nat.pow_lt_pow_right (by decide) (by omega))) (by omega)
 have hMl := wMul_ok (digs num) (digs (10 ^ k0)) (by omega) (by omega) (digs_ok _).1 (digs_ok _).1
 rw [(digs_ok num).2.2, (digs_ok (10 ^ k0)).2.2] at hMl
 obtain ⟨c, hc⟩ : ∃ c, c = cmpN num den := ⟨_, rfl⟩
 have g : ¬ 0 ≤ c := by rw [hc, cmpN, if_pos hlt]; omega
 rw [← hc] at hC
 have hat : ∀ k, k ≤ K → (digs (num * 10 ^ k)).length ≤ 301 := fun k hk => by
  refine digs_lenB (B := B + 4) ?_ (by omega)
  rcases Nat.eq_zero_or_pos k with h0 | h0
  ·subst h0; rw [Nat.pow_zero, Nat.mul_one, Nat.pow_add]; omega
  ·have h1 := hK3 (k - 1) (by omega)
   have h2 : num * 10 ^ k = num * 10 ^ (k - 1) * 10 := by rw [Nat.mul_assoc, ← Nat.pow_succ, show (k - 1).succ = k from by omega]
   rw [h2, Nat.pow_add]
   omega
 have hloop : ∀ k, k ≤ K → FnOk Tryz.prog 101 [.v (words (digs (num * 10 ^ k))), .v (words (digs den))] [.v true (.int .i64 (if k = K then (if den = num * 10 ^ k then 0 else 1) else -1))] := fun k hk => by
  have h1 := wCmp_ok (digs (num * 10 ^ k)) (digs den) (by have := hat k hk; omega) (by omega) (digs_ok _).1 (digs_ok _).1
  rw [(digs_ok den).2.2, (digs_ok _).2.2] at h1
  have e : cmpN (num * 10 ^ k) den = if k = K then (if den = num * 10 ^ k then 0 else 1) else -1 := by
   unfold cmpN
   by_cases h : k = K
   ·subst h
    rw [if_pos rfl, if_neg (by omega)]
    by_cases h2 : den = num * 10 ^ k
    ·rw [if_pos h2, if_neg (by omega)]
    ·rw [if_neg h2, if_pos (by omega)]
   ·rw [if_neg h, if_pos (hK3 k (by omega))]
  rw [e] at h1
  exact h1
 have htimes : ∀ k, k < K → FnOk Tryz.prog 57 [.v (words (digs (num * 10 ^ k))), .v (.sl 1 [.int .u64 10])] [.v true (words (digs (num * 10 ^ (k + 1))))] := fun k hk => by
  have h1 := wMul_ok (digs (num * 10 ^ k)) [10] (by have := hat k (by omega); omega) (by simp) (digs_ok _).1 (by intro n hn; simp at hn; omega)
  rw [(digs_ok _).2.2, show val [(10 : Int)] = 10 from by decide, Nat.mul_assoc, ← Nat.pow_succ] at h1
  exact h1
 obtain ⟨Y, hY⟩ : ∃ Y, Y = digs den := ⟨_, rfl⟩
 obtain ⟨X, hX⟩ : ∃ Y, Y = digs num := ⟨_, rfl⟩
 obtain ⟨T, hT'⟩ : ∃ Y, Y = digs (10 ^ k0) := ⟨_, rfl⟩
 rw [← hY] at hC hL1 ⊢
 rw [← hX] at hC hL2 hMl ⊢
 rw [← hT'] at hT hMl
 have hloop' : ∀ k, k ≤ K → FnOk Tryz.prog 101 [.v (words (digs (num * 10 ^ k))), .v (words Y)] [.v true (.int .i64 (if k = K then (if den = num * 10 ^ k then 0 else 1) else -1))] := by rw [hY]; exact hloop
 clear hloop hat hX hY hT' hc hu hz ht hbl hb1 hK3 hK2 lT hdl hnl hlt l1 l2 hd hb hk0'
 refine FnOk.of Tryz.func128 rfl rfl fun cx w0 => ?_
 rw [show Tryz.f128.ntmps = 46 from rfl]
 refine zs0 ?_
 refine Holds.seq ?_
 refine zs3 (ρ := fun _ => [.v true (.int .i64 c)]) g (o := by repeat' first|exact hC|trivial|constructor) (k := ?_)
 refine Holds.condF rfl (Holds.skip ?_)
 show Holds _ _ _ _ _ _ _
 refine zs3 (ρ := fun e => if e = 23 then [.v true (.int .i64 d)] else [.v true (.int .i64 b)]) (an w1 <| an w2 <| an w3 <| an w4 <| an w5 <| w6) (o := by repeat' first|exact hL1|exact hL2|trivial|constructor) (k := ?_)
 refine Holds.next (fun σ => ∀ a w, Rel cx w0 σ a w → Rel cx w0 { nt := 46, env := [(7, .v true (.int .i64 (K : Nat)))], mem := [] } a w) ?_ ?_
 ·refine zs2 (ρ := fun e => if e = 33 then [.v true (words T)] else [.v true (words (digs (num * 10 ^ k0)))]) (o := by repeat' first|exact hT|exact hMl|trivial|constructor) (k := ?_)
  refine Holds.loopB (fun k : Nat => { nt := 46, env := [(7, .v true (.int .i64 (k : Nat))), (8, .v true (words (digs (num * 10 ^ k)))), (1, .v false (words Y))], mem := [] }) (fun k => k ≤ K) (fun k => K - k) k0 hk0 (fun a w h => Rel.keep [7, 8, 1] [] h) ?_
  intro k hk
  have hCk := hloop' k hk
  refine Holds.seq ?_
  by_cases h : k = K
  ·subst h
   rw [if_pos rfl] at hCk
   obtain ⟨x, hx⟩ : ∃ x : Int, x = if den = num * 10 ^ k then 0 else 1 := ⟨_, rfl⟩
   rw [← hx] at hCk
   have g1 : ¬ x < 0 := by rw [hx]; split <;> decide
   obtain ⟨A, hA⟩ : ∃ A, A = digs (num * 10 ^ k) := ⟨_, rfl⟩
   rw [← hA] at hCk ⊢
   clear hx hA htimes hloop'
   refine zs3 (ρ := fun _ => [.v true (.int .i64 x)]) g1 (o := by repeat' first|exact hCk|trivial|constructor) (k := ?_)
   exact Holds.condF rfl (Holds.exit ⟨rfl, fun a w h => Rel.keep [7] [] h⟩)
  ·rw [if_neg h] at hCk
   have hMk := htimes k (by omega)
   obtain ⟨A, hA⟩ : ∃ A, A = digs (num * 10 ^ k) := ⟨_, rfl⟩
   obtain ⟨A', hA'⟩ : ∃ A, A = digs (num * 10 ^ (k + 1)) := ⟨_, rfl⟩
   rw [← hA] at hCk hMk ⊢
   rw [← hA'] at hMk
   have wk : IntKind.i64.wrap ((k : Int) + 1) = ((k + 1 : Nat) : Int) := by rw [wrap_i64] <;> omega
   clear htimes hloop'
   refine zs2 (ρ := fun _ => [.v true (.int .i64 (-1))]) (o := by repeat' first|exact hCk|trivial|constructor) (k := ?_)
   refine Holds.condT rfl (Holds.skip ?_)
   show Holds _ _ _ _ _ _ _
   refine Holds.next (fun σ => ∀ a w, Rel cx w0 σ a w → Rel cx w0 { nt := 46, env := [(7, .v true (.int .i64 k)), (8, .v true (words A')), (1, .v false (words Y))], mem := [] } a w) ?_ ?_
   ·refine Holds.blockN ?_
    refine zr2 (ρ := fun _ => [.v true (words A')]) (o := by repeat' first|exact hMk|trivial|constructor) (k := ?_)
    exact fun a w h => Rel.keep [7, 8, 1] [] h
   ·intro σ hσ
    refine Holds.from hσ ?_
    refine zr1 wk ?_
    exact ⟨k + 1, (by show k + 1 ≤ K; omega), (show K - (k + 1) < K - k by omega), fun a w h => by
     show Rel _ _ { nt := 46, env := [(7, .v true (.int .i64 ((k + 1 : Nat) : Int))), (8, .v true (words (digs (num * 10 ^ (k + 1))))), (1, .v false (words Y))], mem := [] } a w
     rw [← hA']
     exact Rel.keep [7, 8, 1] [] h⟩
 ·intro σ hσ
  refine Holds.from hσ ?_
  have wn : IntKind.i64.wrap (0 - (K : Int)) = -(K : Int) := by rw [wrap_i64] <;> omega
  refine zs1 wn ?_
  exact Holds.ret (RetOk.vs rfl (by exact ⟨⟨rfl, id⟩, trivial⟩) rfl)
theorem wLog_ok (num den B : Nat) (a : Int) (hB : B ≤ 17000) (hn : 0 < num) (hd : 0 < den) (hnl : num < 2 ^ B) (hdl : den < 2 ^ B) (hA : IsA num den a) : FnOk Tryz.prog 128 [.v (words (digs num)), .v (words (digs den))] [.v true (.int .i64 a)] := by
 rcases Nat.lt_or_ge num den with h | h
 ·have ha : a < 0 := by
   rcases Int.lt_or_le a 0 with h1 | h1
   ·exact h1
   ·have h2 := (hA a.toNat 0 (by omega)).1
    rw [Nat.pow_zero, Nat.mul_one] at h2
    have : den ≤ den * 10 ^ a.toNat := Nat.le_mul_of_pos_right _ (Nat.pow_pos (by decide))
    omega
  obtain ⟨K, hK⟩ : ∃ K : Nat, a = -(K : Int) := ⟨(-a).toNat, by omega⟩
  obtain ⟨k1, k2, k3⟩ := isA_neg h hn hA hK
  rw [hK]
  exact log_small num den B K hB hn h hdl k1 k2 k3
 ·exact log_big num den B a hB hd h hnl hA
theorem wBitN_ok (x : List Int) (i : Int) (hi : i < 0) : FnOk Tryz.prog 60 [.v (words x), .v (.int .i64 i)] [.v true (.bool false)] := by
 refine FnOk.of Tryz.func60 rfl rfl fun cx w0 => ?_
 rw [show Tryz.f60.ntmps = 26 from rfl]
 have g : ¬ 0 ≤ i := by omega
 refine zs0 ?_
 refine zs1 g ?_
 exact Holds.ret (RetOk.vs rfl (by exact ⟨⟨rfl, id⟩, trivial⟩) rfl)
def spL (k : Int) (neg : Bool) : List UInt8 := if k = 3 then [110, 97, 110] else if k = 2 then smL neg [105, 110, 102] else []
theorem sSpecial_ok (k : Int) (neg : Bool) (e : Int) (m : Nat) (l : List V) : FnOk Tryz.prog 50 [.v (.agg [.int .i64 k, .bool neg, .int .i64 e, .sl 1 l])] [.v true (.str (bs (spL k neg))), .v true (.bool (decide (k = 3 ∨ k = 2)))] := by
 have hM := sMinus_ok neg [105, 110, 102] (by decide)
 have e1 : bs [105, 110, 102] = ByteArray.mk #[105, 110, 102] := rfl
 rw [e1] at hM
 unfold spL
 refine FnOk.of Tryz.func50 rfl rfl fun cx w0 => ?_
 rw [show Tryz.f50.ntmps = 13 from rfl]
 refine zs0 ?_
 refine Holds.seq ?_
 refine zs0 ?_
 refine Holds.block ?_
 by_cases h3 : k = 3
 ·subst h3
  refine zs0 ?_
  refine Holds.condT rfl ?_
  refine zs0 ?_
  exact Holds.ret (RetOk.vs rfl (by exact ⟨⟨rfl, id⟩, ⟨rfl, id⟩, trivial⟩) rfl)
 ·by_cases h2 : k = 2
  ·subst h2
   obtain ⟨s, hs⟩ : ∃ s, s = bs (smL neg [105, 110, 102]) := ⟨_, rfl⟩
   rw [if_neg (by decide), if_pos rfl, ← hs]
   rw [← hs] at hM
   refine zs0 ?_
   refine Holds.condF rfl ?_
   refine zs0 ?_
   refine Holds.condT rfl ?_
   refine zs2 (ρ := fun _ => [.v true (.str s)]) (o := by repeat' first|exact hM|trivial|constructor) (k := ?_)
   exact Holds.ret (RetOk.vs rfl (by exact ⟨⟨rfl, id⟩, ⟨rfl, id⟩, trivial⟩) rfl)
  ·rw [if_neg h3, if_neg h2, decide_eq_false (by omega)]
   refine zs1 h3 ?_
   refine Holds.condF rfl ?_
   refine zs1 h2 ?_
   refine Holds.condF rfl (Holds.skip ?_)
   show Holds _ _ _ _ _ _ _
   refine zs0 ?_
   exact Holds.ret (RetOk.vs rfl (by exact ⟨⟨rfl, id⟩, ⟨rfl, id⟩, trivial⟩) rfl)
theorem shl_digs (v s : Nat) (hv : (digs v).length < 10000) (hs : s < 1000000) : FnOk Tryz.prog 55 [.v (words (digs v)), .v (.int .i64 s)] [.v true (words (digs (v * 2 ^ s)))] := by
 have := wShl_ok (digs v) s hv hs (digs_ok v).1
 rw [(digs_ok v).2.2] at this
 exact this
theorem mul_digs (x y : Nat) (hx : (digs x).length < 400000) (hy : (digs y).length < 400000) : FnOk Tryz.prog 57 [.v (words (digs x)), .v (words (digs y))] [.v true (words (digs (x * y)))] := by
 have := wMul_ok (digs x) (digs y) hx hy (digs_ok x).1 (digs_ok y).1
 rw [(digs_ok x).2.2, (digs_ok y).2.2] at this
 exact this
theorem digs_pow (v s L n : Nat) (hv : v < 2 ^ L) (hn : L + s ≤ 64 * n) : (digs (v * 2 ^ s)).length ≤ n :=
 digs_lenB (B := L + s) (by rw [Nat.pow_add]; exact Nat.mul_lt_mul_of_pos_right hv (Nat.pow_pos (by decide))) hn
theorem ten_lt (k : Nat) : 10 ^ k < 2 ^ (4 * k + 1) := by
 rw [Nat.pow_add, Nat.pow_mul]
 have : (10 : Nat) ^ k ≤ (2 ^ 4) ^ k := Nat.pow_le_pow_left (by decide) k
 have h0 : 0 < (2 ^ 4) ^ k := Nat.pow_pos (by decide)
 omega
set_option maxHeartbeats 1000000 in
theorem ratio_ok (k : Int) (neg : Bool) (e : Int) (m : Nat) (t : Int) (hm : m < 2 ^ 256) (he : -20000 ≤ e ∧ e ≤ 20000) (ht : -10000 ≤ t ∧ t ≤ 10000) :
 FnOk Tryz.prog 80 [.v (fltW k neg e (digs m)), .v (.int .i64 t)] [.v true (words (digs (fNum m e * 10 ^ t.toNat))), .v true (words (digs (fDen e * 10 ^ (-t).toNat)))] := by
 have lm : (digs m).length ≤ 5 := digs_lenB hm (by omega)
 have h1 := shl_digs m e.toNat (by omega) (by omega)
 have l1 : (digs (m * 2 ^ e.toNat)).length ≤ 400 := digs_pow m _ _ _ hm (by omega)
 have d1 : digs 1 = [1] := by decide
 have h2 := shl_digs 1 (-e).toNat (by rw [d1]; decide) (by omega)
 have l2 : (digs (1 * 2 ^ (-e).toNat)).length ≤ 400 := digs_pow 1 _ 1 _ (by decide) (by omega)
 rw [d1] at h2
 have t1 := wTen_ok t.toNat (by omega)
 have t2 := wTen_ok (-t).toNat (by omega)
 have l3 : (digs (10 ^ t.toNat)).length ≤ 1000 := digs_lenB (ten_lt _) (by omega)
 have l4 : (digs (10 ^ (-t).toNat)).length ≤ 1000 := digs_lenB (ten_lt _) (by omega)
 have m1 := mul_digs (m * 2 ^ e.toNat) (10 ^ t.toNat) (by omega) (by omega)
 have m2 := mul_digs (1 * 2 ^ (-e).toNat) (10 ^ (-t).toNat) (by omega) (by omega)
 rw [Nat.one_mul] at h2 m2
 unfold fNum fDen fltW
 obtain ⟨A, hA⟩ : ∃ A, A = digs (m * 2 ^ e.toNat) := ⟨_, rfl⟩
 obtain ⟨B, hB⟩ : ∃ A, A = digs (2 ^ (-e).toNat) := ⟨_, rfl⟩
 obtain ⟨C, hC⟩ : ∃ A, A = digs (10 ^ t.toNat) := ⟨_, rfl⟩
 obtain ⟨D, hD⟩ : ∃ A, A = digs (10 ^ (-t).toNat) := ⟨_, rfl⟩
 obtain ⟨E, hE⟩ : ∃ A, A = digs (m * 2 ^ e.toNat * 10 ^ t.toNat) := ⟨_, rfl⟩
 obtain ⟨F, hF⟩ : ∃ A, A = digs (2 ^ (-e).toNat * 10 ^ (-t).toNat) := ⟨_, rfl⟩
 obtain ⟨M, hM⟩ : ∃ A, A = digs m := ⟨_, rfl⟩
 rw [← hE, ← hF, ← hM]
 rw [← hA] at h1 m1
 rw [← hM] at h1
 rw [← hB] at h2 m2
 rw [← hC] at t1 m1
 rw [← hD] at t2 m2
 rw [← hE] at m1
 rw [← hF] at m2
 have w1 : (if e < 0 then (0 : Int) else e) = (e.toNat : Int) := by split <;> omega
 have wn : IntKind.i64.wrap (0 - e) = -e := by rw [wrap_i64] <;> omega
 have w2 : (if -e < 0 then (0 : Int) else -e) = ((-e).toNat : Int) := by split <;> omega
 have w3 : (if t < 0 then (0 : Int) else t) = (t.toNat : Int) := by split <;> omega
 have wt : IntKind.i64.wrap (0 - t) = -t := by rw [wrap_i64] <;> omega
 have w4 : (if -t < 0 then (0 : Int) else -t) = ((-t).toNat : Int) := by split <;> omega
 have h2 : FnOk Tryz.prog 55 [.v (.sl 1 [.int .u64 1]), .v (.int .i64 ((-e).toNat : Nat))] [.v true (words B)] := h2
 obtain ⟨a, ha⟩ : ∃ a, a = e.toNat := ⟨_, rfl⟩
 obtain ⟨b, hb⟩ : ∃ a, a = (-e).toNat := ⟨_, rfl⟩
 obtain ⟨c, hc⟩ : ∃ a, a = t.toNat := ⟨_, rfl⟩
 obtain ⟨d, hd⟩ : ∃ a, a = (-t).toNat := ⟨_, rfl⟩
 rw [← ha] at h1 w1
 rw [← hb] at h2 w2
 rw [← hc] at t1 w3
 rw [← hd] at t2 w4
 clear ha hb hc hd hA hB hC hD hE hF hM l1 l2 l3 l4 lm hm d1
 refine FnOk.of Tryz.func80 rfl rfl fun cx w0 => ?_
 rw [show Tryz.f80.ntmps = 29 from rfl]
 refine zs0 ?_
 refine zs3 (ρ := fun _ => [.v true (words A)]) w1 (o := by repeat' first|exact h1|trivial|constructor) (k := ?_)
 refine zs3 (ρ := fun _ => [.v true (words B)]) (an wn <| w2) (o := by repeat' first|exact h2|trivial|constructor) (k := ?_)
 refine zs3 (ρ := fun x => if x = 21 then [.v true (words C)] else if x = 22 then [.v true (words E)] else if x = 27 then [.v true (words D)] else [.v true (words F)]) (an w3 <| an wt <| w4) (o := by repeat' first|exact t1|exact m1|exact t2|exact m2|trivial|constructor) (k := ?_)
 exact Holds.ret (RetOk.vs rfl (by exact ⟨⟨rfl, id⟩, ⟨rfl, id⟩, trivial⟩) rfl)
theorem rstN_zero {x d : Nat} : rstN x d = 0 ↔ x = 0 := by
 unfold rstN cmpN
 split
 ·next h => exact ⟨fun _ => h, fun _ => rfl⟩
 ·next h =>
  refine ⟨fun h2 => ?_, fun h2 => absurd h2 h⟩
  exfalso
  split at h2
  ·omega
  ·split at h2 <;> omega
set_option maxHeartbeats 1000000 in
theorem Quotient_ok (r : Nat) (hr : r ≤ 4) (neg : Bool) (n d : Nat) (hn : (digs n).length < 1000) (hd : (digs d).length < 1000) (h0 : 0 < d) :
 FnOk Tryz.prog 81 [.v (.int .i64 r), .v (.bool neg), .v (words (digs n)), .v (words (digs d))] [.v true (words (digs (upN r neg (n / d) (rstN (n % d) d)))), .v true (.bool (decide (rstN (n % d) d = 0)))] := by
 have hM := wDivMod_ok (digs n) (digs d) hn hd (digs_ok _).1 (digs_ok _).1 (by rw [(digs_ok d).2.2]; exact h0)
 rw [(digs_ok n).2.2, (digs_ok d).2.2] at hM
 have hmd : ∀ {v : Nat}, v ≤ n → (digs v).length < 1000 := fun {v} h => by
  have h1 := val_lt (digs_ok n).1
  rw [(digs_ok n).2.2] at h1
  have := digs_len (v := v) (Nat.lt_of_le_of_lt h h1)
  omega
 have lq := hmd (Nat.div_le_self n d)
 have lx := hmd (Nat.mod_le n d)
 have hC := compare_ok (digs (n % d)) (digs d) (by omega) (by omega) (digs_ok _).1 (digs_ok _).1
 rw [(digs_ok (n % d)).2.2, (digs_ok d).2.2] at hC
 have hU := up_ok r hr neg (digs (n / d)) (rstN (n % d) d) (by omega) (digs_ok _).1
 rw [(digs_ok (n / d)).2.2] at hU
 have hZ := wZero_ok (digs (n % d)) (by omega) (digs_ok _).1
 rw [(digs_ok (n % d)).2.2] at hZ
 have eb : decide (n % d = 0) = decide (rstN (n % d) d = 0) := by
  by_cases h : n % d = 0
  ·rw [decide_eq_true h, decide_eq_true (rstN_zero.2 h)]
  ·rw [decide_eq_false h, decide_eq_false (fun h2 => h (rstN_zero.1 h2))]
 rw [eb] at hZ
 obtain ⟨z, hz⟩ : ∃ z, z = decide (rstN (n % d) d = 0) := ⟨_, rfl⟩
 obtain ⟨x, hx⟩ : ∃ z, z = rstN (n % d) d := ⟨_, rfl⟩
 rw [← hz] at hZ ⊢
 rw [← hx] at hC hU ⊢
 obtain ⟨Q, hQ⟩ : ∃ z, z = digs (n / d) := ⟨_, rfl⟩
 obtain ⟨X, hX⟩ : ∃ z, z = digs (n % d) := ⟨_, rfl⟩
 obtain ⟨U, hU'⟩ : ∃ z, z = digs (upN r neg (n / d) x) := ⟨_, rfl⟩
 obtain ⟨N, hN⟩ : ∃ z, z = digs n := ⟨_, rfl⟩
 obtain ⟨D, hD⟩ : ∃ z, z = digs d := ⟨_, rfl⟩
 rw [← hQ, ← hX, ← hN, ← hD] at hM
 rw [← hX, ← hD] at hC
 rw [← hX] at hZ
 rw [← hQ, ← hU'] at hU
 rw [← hU', ← hN, ← hD]
 clear hz hx hQ hX hU' hN hD eb lq lx hmd hn hd
 refine FnOk.of Tryz.func81 rfl rfl fun cx w0 => ?_
 rw [show Tryz.f81.ntmps = 27 from rfl]
 refine zs0 ?_
 refine zs2 (ρ := fun _ => [.v true (words Q), .v true (words X)]) (o := by repeat' first|exact hM|trivial|constructor) (k := ?_)
 refine zs2 (ρ := fun y => if y = 23 then [.v true (.int .i64 x)] else if y = 24 then [.v true (words U)] else [.v true (.bool z)]) (o := by repeat' first|exact hC|exact hU|exact hZ|trivial|constructor) (k := ?_)
 exact Holds.ret (RetOk.vs rfl (by exact ⟨⟨rfl, id⟩, ⟨rfl, id⟩, trivial⟩) rfl)
theorem fNum_lt {m B : Nat} {e : Int} (hm : m < 2 ^ 256) (he : e ≤ 16384) (hB : 16640 ≤ B) : fNum m e < 2 ^ B := by
 unfold fNum
 refine Nat.lt_of_lt_of_le (Nat.mul_lt_mul_of_pos_right hm (Nat.pow_pos (by decide))) ?_
 rw [← Nat.pow_add]
 exact Nat.pow_le_pow_right (by decide) (by omega)
theorem fNum_pos {m : Nat} {e : Int} (hm : 0 < m) : 0 < fNum m e := Nat.mul_pos hm (Nat.pow_pos (by decide))
theorem fDen_lt {B : Nat} {e : Int} (he : -16640 ≤ e) (hB : 16641 ≤ B) : fDen e < 2 ^ B := Nat.pow_lt_pow_right (by decide) (by omega)
structure FlB (m : Nat) (e : Int) : Prop where
 m0 : 0 < m
 mB : m < 2 ^ 256
 lo : -16640 ≤ e
 hi : e ≤ 16384
theorem two_ten (k : Nat) : 2 ^ (3 * k) ≤ 10 ^ k := by
 rw [Nat.pow_mul]
 exact Nat.pow_le_pow_left (by decide) k
theorem pow_lt_of {a b : Nat} (h : 2 ^ a < 2 ^ b) : a < b := (Nat.pow_lt_pow_iff_right (by decide)).1 h
theorem FlB.isA_bd {m : Nat} {e a : Int} (h : FlB m e) (hA : IsA (fNum m e) (fDen e) a) : -5600 ≤ a ∧ a ≤ 5600 := by
 have hn := fNum_pos (e := e) h.m0
 have hd := fDen_pos e
 obtain ⟨B, hB⟩ : ∃ B, B = 16641 := ⟨_, rfl⟩
 have hnl := fNum_lt (B := B) h.mB h.hi (by omega)
 have hdl := fDen_lt (B := B) h.lo (by omega)
 constructor
 ·rcases Int.lt_or_le a (-5600) with h1 | h1
  ·exfalso
   obtain ⟨K, hK⟩ : ∃ K : Nat, a = -(K : Int) := ⟨(-a).toNat, by omega⟩
   have h2 := (hA 0 K (by omega)).2
   rw [Nat.zero_add, Nat.pow_one] at h2
   have h3 : 10 ^ K ≤ fNum m e * 10 ^ K := Nat.le_mul_of_pos_left _ hn
   have h4 := two_ten K
   have h5 : (2 : Nat) ^ (3 * K) < 2 ^ (B + 4) := by rw [Nat.pow_add]; omega
   have := pow_lt_of h5
   omega
  ·exact h1
 ·rcases Int.lt_or_le 5600 a with h1 | h1
  ·exfalso
   obtain ⟨K, hK⟩ : ∃ K : Nat, a = (K : Int) := ⟨a.toNat, by omega⟩
   have h2 := (hA K 0 (by omega)).1
   rw [Nat.pow_zero, Nat.mul_one] at h2
   have h3 : 10 ^ K ≤ fDen e * 10 ^ K := Nat.le_mul_of_pos_left _ hd
   have h4 := two_ten K
   have h5 : (2 : Nat) ^ (3 * K) < 2 ^ B := by omega
   have := pow_lt_of h5
   omega
  ·exact h1
def rdK (r : Nat) (neg : Bool) (m : Nat) (e a : Int) (n : Nat) : Nat := upN r neg (ctA (fNum m e) (fDen e) (a - n + 1)) (cxA (fNum m e) (fDen e) (a - n + 1))
def rdL (r : Nat) (neg : Bool) (m : Nat) (e a : Int) (n : Nat) : List UInt8 := (decG (rdK r neg m e a n)).take n
def rdE (r : Nat) (neg : Bool) (m : Nat) (e a : Int) (n : Nat) : Int := a + ((decG (rdK r neg m e a n)).length - n : Nat)
theorem rdK_bd {r : Nat} {neg : Bool} {m : Nat} {e a : Int} {n : Nat} (h : 1 ≤ n) (hA : IsA (fNum m e) (fDen e) a) : 10 ^ (n - 1) ≤ rdK r neg m e a n ∧ rdK r neg m e a n ≤ 10 ^ n := by
 have h1 := ctA_digs (d := n - 1) (fDen_pos e) hA
 rw [show a - ((n - 1 : Nat) : Int) = a - n + 1 from by omega, Nat.sub_add_cancel h] at h1
 have h2 := upN_le r neg (ctA (fNum m e) (fDen e) (a - n + 1)) (cxA (fNum m e) (fDen e) (a - n + 1))
 unfold rdK
 have h3 := h1.2.1
 have h4 := h1.2.2
 omega
theorem rd_len {r : Nat} {neg : Bool} {m : Nat} {e a : Int} {n : Nat} (h : 1 ≤ n) (hA : IsA (fNum m e) (fDen e) a) : n ≤ (decG (rdK r neg m e a n)).length ∧ (decG (rdK r neg m e a n)).length ≤ n + 1 := by
 obtain ⟨h1, h2⟩ := rdK_bd (r := r) (neg := neg) h hA
 have h0 : 0 < rdK r neg m e a n := Nat.lt_of_lt_of_le (Nat.pow_pos (by decide)) h1
 obtain ⟨D, hD⟩ := hasD_ex _ h0
 rw [decG_len hD]
 have := hasD_lt hD h1
 have := hasD_le hD (n := n + 1) (by rw [Nat.pow_succ]; have := Nat.pow_pos (a := 10) (n := n) (by decide); omega)
 omega
set_option maxHeartbeats 1000000 in
theorem rounded_ok (r : Nat) (hr : r ≤ 4) (neg : Bool) (m : Nat) (e a : Int) (n : Nat) (hB : FlB m e) (hn : 1 ≤ n ∧ n ≤ 1200) (hA : IsA (fNum m e) (fDen e) a) :
 FnOk Tryz.prog 83 [.v (.int .i64 r), .v (fltV 1 neg e m), .v (.int .i64 n)] [.v true (.str (bs (rdL r neg m e a n))), .v true (.int .i64 (rdE r neg m e a n)), .v true (.bool (decide (cxA (fNum m e) (fDen e) (a - n + 1) = 0)))] := by
 have hab := hB.isA_bd hA
 have lo := hB.lo
 have hi := hB.hi
 obtain ⟨B, hBe⟩ : ∃ B, B = 16641 := ⟨_, rfl⟩
 have hnl := fNum_lt (B := B) hB.mB hi (by omega)
 have hdl := fDen_lt (B := B) lo (by omega)
 have r1 := ratio_ok 1 neg e m 0 hB.mB (by omega) (by omega)
 rw [show (0 : Int).toNat = 0 from rfl, show (-0 : Int).toNat = 0 from rfl, Nat.pow_zero, Nat.mul_one, Nat.mul_one] at r1
 have hL := wLog_ok (fNum m e) (fDen e) B a (by omega) (fNum_pos hB.m0) (fDen_pos e) hnl hdl hA
 have r2 := ratio_ok 1 neg e m (n - 1 - a) hB.mB (by omega) (by omega)
 have cut := cutA_eq (num := fNum m e) (den := fDen e) (i := ((n : Int) - 1 - a).toNat) (j := (-((n : Int) - 1 - a)).toNat) (s := a - n + 1) (by omega)
 have hmB : ∀ {v t}, v < 2 ^ B → t ≤ 7000 → (digs (v * 10 ^ t)).length < 1000 := fun {v t} hv ht => by
  have h1 : v * 10 ^ t < 2 ^ (B + (4 * t + 1)) := by rw [Nat.pow_add]; exact Nat.mul_lt_mul_of_lt_of_lt hv (ten_lt t)
  exact Nat.lt_of_le_of_lt (digs_lenB h1 (n := 900) (by omega)) (by decide)
 have hQ := Quotient_ok r hr neg _ _ (hmB hnl (t := ((n : Int) - 1 - a).toNat) (by omega)) (hmB hdl (t := (-((n : Int) - 1 - a)).toNat) (by omega)) (Nat.mul_pos (fDen_pos e) (Nat.pow_pos (by decide)))
 rw [cut.1, cut.2] at hQ
 obtain ⟨k1, k2⟩ := rdK_bd (r := r) (neg := neg) hn.1 hA
 have hlen := rd_len (r := r) (neg := neg) hn.1 hA
 unfold rdE rdL
 have hK : upN r neg (ctA (fNum m e) (fDen e) (a - n + 1)) (cxA (fNum m e) (fDen e) (a - n + 1)) = rdK r neg m e a n := rfl
 rw [hK] at hQ
 obtain ⟨k, hk⟩ : ∃ k, k = rdK r neg m e a n := ⟨_, rfl⟩
 rw [← hk] at hQ k2 hlen ⊢
 have lk : (digs k).length ≤ 100 := digs_lenB (Nat.lt_of_le_of_lt k2 (ten_lt n)) (by omega)
 have hD := wDecimal_ok (digs k) (by omega) (digs_ok k).1
 rw [(digs_ok k).2.2] at hD
 have hD : FnOk Tryz.prog 54 [.v (words (digs k))] [.v true (.str (bs (decG k)))] := hD
 obtain ⟨ex, hex⟩ : ∃ b, b = decide (cxA (fNum m e) (fDen e) (a - n + 1) = 0) := ⟨_, rfl⟩
 rw [← hex] at hQ ⊢
 have e1 := fltW_eq 1 neg e m
 rw [e1]
 have hr1 : FnOk Tryz.prog 80 [.v (fltW 1 neg e (digs m)), .v (.int .i64 0)] [.v true (words (digs (fNum m e))), .v true (words (digs (fDen e)))] := r1
 clear r1
 obtain ⟨t, ht⟩ : ∃ t, t = (n : Int) - 1 - a := ⟨_, rfl⟩
 rw [← ht] at r2 hQ cut
 have w2 := ht.symm
 obtain ⟨N2, hN2⟩ : ∃ x, x = digs (fNum m e * 10 ^ t.toNat) := ⟨_, rfl⟩
 obtain ⟨D2, hD2⟩ : ∃ x, x = digs (fDen e * 10 ^ (-t).toNat) := ⟨_, rfl⟩
 obtain ⟨N1, hN1⟩ : ∃ x, x = digs (fNum m e) := ⟨_, rfl⟩
 obtain ⟨D1, hD1⟩ : ∃ x, x = digs (fDen e) := ⟨_, rfl⟩
 obtain ⟨W, hW⟩ : ∃ x, x = digs k := ⟨_, rfl⟩
 obtain ⟨s, hs⟩ : ∃ s, s = bs (decG k) := ⟨_, rfl⟩
 have hsz : s.size = (decG k).length := by rw [hs, bs_size]
 rw [← hN2, ← hD2] at r2 hQ
 rw [← hN1, ← hD1] at hr1 hL
 rw [← hW] at hQ hD
 rw [← hs] at hD
 have hmv : words (digs m) = .sl 1 ((digs m).map fun n => .int .u64 n) := rfl
 unfold fltW at hr1 r2 ⊢
 rw [hmv] at hr1 r2 ⊢
 obtain ⟨M, hM⟩ : ∃ M, M = (digs m).map fun n => V.int .u64 n := ⟨_, rfl⟩
 rw [← hM] at hr1 r2 ⊢
 have g1 : (n : Int) < s.size ↔ (decG k).length = n + 1 := by rw [hsz]; omega
 have ext : s.extract 0 n = bs ((decG k).take n) := by rw [hs, bs_ext, List.drop_zero, Nat.sub_zero]
 have e2 : (decG k).length = n → bs ((decG k).take n) = s := fun h => by rw [hs, List.take_of_length_le (by omega)]
 obtain ⟨dl, hdl'⟩ : ∃ dl, dl = (decG k).length := ⟨_, rfl⟩
 rw [← hdl'] at hsz hlen g1 e2 ⊢
 obtain ⟨T, hT⟩ : ∃ T, T = bs ((decG k).take n) := ⟨_, rfl⟩
 rw [← hT] at ext e2 ⊢
 clear hT hdl' hM hmv hs hW hD1 hN1 hD2 hN2 ht e1 hex lk hk hK k1 k2 cut hmB hnl hdl hB hA
 refine FnOk.of Tryz.func83 rfl rfl fun cx w0 => ?_
 rw [show Tryz.f83.ntmps = 54 from rfl]
 refine zs0 ?_
 refine zs2 (ρ := fun _ => [.v true (words N1), .v true (words D1)]) (o := by repeat' first|exact hr1|trivial|constructor) (k := ?_)
 refine zs2 (ρ := fun _ => [.v true (.int .i64 a)]) (o := by repeat' first|exact hL|trivial|constructor) (k := ?_)
 refine zs3 (ρ := fun _ => [.v true (words N2), .v true (words D2)]) w2 (o := by repeat' first|exact r2|trivial|constructor) (k := ?_)
 refine zs2 (ρ := fun _ => [.v true (words W), .v true (.bool ex)]) (o := by repeat' first|exact hQ|trivial|constructor) (k := ?_)
 refine zs2 (ρ := fun _ => [.v true (.str s)]) (o := by repeat' first|exact hD|trivial|constructor) (k := ?_)
 refine Holds.seq ?_
 by_cases h : dl = n + 1
 ·have g := g1.2 h
  have w3 : IntKind.i64.wrap (a + 1) = a + 1 := by rw [wrap_i64] <;> omega
  have hle : (n : Int) ≤ s.size := by omega
  rw [show dl - n = 1 from by omega]
  refine zs1 g ?_
  refine Holds.condT rfl ?_
  refine zs1 (an w3 <| an hle <| ext) ?_
  exact Holds.ret (RetOk.vs rfl (by exact ⟨⟨rfl, id⟩, ⟨rfl, id⟩, ⟨rfl, id⟩, trivial⟩) rfl)
 ·have g : ¬ (n : Int) < s.size := fun x => h (g1.1 x)
  rw [e2 (by omega), show dl - n = 0 from by omega, show a + ((0 : Nat) : Int) = a from by omega]
  refine zs1 g ?_
  refine Holds.condF rfl (Holds.skip ?_)
  show Holds _ _ _ _ _ _ _
  refine zs0 ?_
  exact Holds.ret (RetOk.vs rfl (by exact ⟨⟨rfl, id⟩, ⟨rfl, id⟩, ⟨rfl, id⟩, trivial⟩) rfl)
structure ShH (K p : Nat) (m : Nat) (e u : Int) (n : Nat) (a : Int) : Prop where
 hK : 1 ≤ K ∧ K ≤ 14
 hP : 2 ≤ p ∧ p ≤ 256
 fl : FlB m e
 hu : u = fU p (gK K) (e + blN m - 1)
 hue : u ≤ e
 hs : e - u ≤ 300
 hn : n = m * 2 ^ (e - u).toNat
 hnB : n < 2 ^ 256
 hA : IsA (fNum m e) (fDen e) a
theorem hoI_sh {K p m : Nat} {e : Int} (hK : 1 ≤ K ∧ K ≤ 14) (hP : 2 ≤ p ∧ p ≤ 256) (h : hoI K p e m = true) (hm : 0 < m) : ∃ u n a, ShH K p m e u n a := by
 have h := of_decide_eq_true h
 have hg := gK_bd hK
 obtain ⟨b1, b2⟩ := bl_le hm
 have b3 : m < 2 ^ blN m := by rw [blN, if_neg (by omega)]; exact Nat.lt_log2_self
 obtain ⟨u, hu⟩ : ∃ u, u = fU p (gK K) (e + blN m - 1) := ⟨_, rfl⟩
 have hu' := hu
 unfold fU at hu'
 obtain ⟨a, hA⟩ := isA_ex (num := fNum m e) (den := fDen e) (fNum_pos hm) (fDen_pos e)
 obtain ⟨b, hb⟩ : ∃ b, b = blN m := ⟨_, rfl⟩
 rw [← hb] at hu' h b2 b3
 have mB : m < 2 ^ 256 := Nat.lt_of_lt_of_le b3 (Nat.pow_le_pow_right (by decide) (by omega))
 refine ⟨u, _, a, hK, hP, ⟨hm, mB, by omega, by omega⟩, hu, by omega, by omega, rfl, ?_, hA⟩
 have h1 : m * 2 ^ (e - u).toNat < 2 ^ b * 2 ^ (e - u).toNat := Nat.mul_lt_mul_of_pos_right b3 (Nat.pow_pos (by decide))
 rw [← Nat.pow_add] at h1
 exact Nat.lt_of_lt_of_le h1 (Nat.pow_le_pow_right (by decide) (by omega))
def outB (n lo hi : Int) : Bool := decide (n < lo ∨ hi < n)
set_option maxHeartbeats 2000000 in
theorem Places_gen (k P r kd0 e0 kd ex E n : Int) (n0 ng b : Bool) (L ms : List V) (s : ByteArray)
 (hN : FnOk Tryz.prog 49 [.v (.agg [.int .i64 k, .int .i64 P]), .v (.int .i64 r), .v (.bool (outB n 0 1200)), .v (.agg [.int .i64 kd0, .bool n0, .int .i64 e0, .sl 1 L])] [.v true (.agg [.int .i64 kd, .bool ng, .int .i64 ex, .sl 1 ms]), .v true (.int .i64 E)])
 (hE : E ≠ 0 → s = ⟨#[]⟩ ∧ b = false) (h3 : E = 0 → kd = 3 ∨ kd = 2 → s = bs (spL kd ng) ∧ b = true)
 (h1 : E = 0 → ¬ (kd = 3 ∨ kd = 2) → ∃ (u v q : List Int) (t1 t2 : ByteArray), FnOk Tryz.prog 80 [.v (.agg [.int .i64 kd, .bool ng, .int .i64 ex, .sl 1 ms]), .v (.int .i64 n)] [.v true (words u), .v true (words v)] ∧
   FnOk Tryz.prog 81 [.v (.int .i64 r), .v (.bool ng), .v (words u), .v (words v)] [.v true (words q), .v true (.bool b)] ∧ FnOk Tryz.prog 54 [.v (words q)] [.v true (.str t1)] ∧ FnOk Tryz.prog 56 [.v (.str t1), .v (.int .i64 n)] [.v true (.str t2)] ∧ FnOk Tryz.prog 51 [.v (.bool ng), .v (.str t2)] [.v true (.str s)]) :
 FnOk Tryz.prog 23 [.v (.agg [.int .i64 k, .int .i64 P]), .v (.int .i64 r), .v (.agg [.int .i64 kd0, .bool n0, .int .i64 e0, .sl 1 L]), .v (.int .i64 n)] [.v true (.str s), .v true (.bool b), .v true (.int .i64 E)] := by
 obtain ⟨ob, hob⟩ : ∃ b, b = outB n 0 1200 := ⟨_, rfl⟩
 rw [← hob] at hN
 refine FnOk.of Tryz.func23 rfl rfl fun cx w0 => ?_
 rw [show Tryz.f23.ntmps = 64 from rfl]
 refine zs0 ?_
 refine Holds.next (fun σ => ∀ a w, Rel cx w0 σ a w → Rel cx w0 { nt := 64, env := [(11, .v true (.int .i64 E)), (6, .ptr 6 0 [] 0), (1, .v true (.int .i64 r)), (3, .v true (.int .i64 n))], mem := [(6, .box 28 (.v false (.agg [.int .i64 kd, .bool ng, .int .i64 ex, .sl 1 ms])))] } a w) ?_ ?_
 ·by_cases g1 : n < 0
  ·have : ob = true := by rw [hob]; exact decide_eq_true (.inl g1)
   subst this
   refine zr3 (ρ := fun _ => [.v true (.agg [.int .i64 kd, .bool ng, .int .i64 ex, .sl 1 ms]), .v true (.int .i64 E)]) g1 (o := by repeat' first|exact hN|trivial|constructor) (k := ?_)
   exact fun a w h => Rel.keep [11, 6, 1, 3] [6] h
  ·by_cases g2 : 1200 < n
   ·have : ob = true := by rw [hob]; exact decide_eq_true (.inr g2)
    subst this
    refine zr3 (ρ := fun _ => [.v true (.agg [.int .i64 kd, .bool ng, .int .i64 ex, .sl 1 ms]), .v true (.int .i64 E)]) (an g1 <| g2) (o := by repeat' first|exact hN|trivial|constructor) (k := ?_)
    exact fun a w h => Rel.keep [11, 6, 1, 3] [6] h
   ·have : ob = false := by rw [hob]; exact decide_eq_false (by omega)
    subst this
    refine zr3 (ρ := fun _ => [.v true (.agg [.int .i64 kd, .bool ng, .int .i64 ex, .sl 1 ms]), .v true (.int .i64 E)]) (an g1 <| g2) (o := by repeat' first|exact hN|trivial|constructor) (k := ?_)
    exact fun a w h => Rel.keep [11, 6, 1, 3] [6] h
 ·intro σ hσ
  refine Holds.from hσ ?_
  clear hN hob
  refine Holds.seq ?_
  by_cases hE0 : E = 0
  ·subst hE0
   have h1 := h1 rfl
   have h3 := h3 rfl
   clear hE
   refine zs0 ?_
   refine Holds.condF rfl (Holds.skip ?_)
   show Holds _ _ _ _ _ _ _
   have hS := sSpecial_ok kd ng ex 0 ms
   refine Holds.seq ?_
   by_cases hk : kd = 3 ∨ kd = 2
   ·obtain ⟨hs, rfl⟩ := h3 hk
    rw [decide_eq_true hk, ← hs] at hS
    clear h3 h1 hs
    refine zs2 (ρ := fun _ => [.v true (.str s), .v true (.bool true)]) (o := by repeat' first|exact hS|trivial|constructor) (k := ?_)
    refine zs0 ?_
    refine Holds.condT rfl ?_
    refine zs0 ?_
    exact Holds.ret (RetOk.vs rfl (by exact ⟨⟨rfl, id⟩, ⟨rfl, id⟩, ⟨rfl, id⟩, trivial⟩) rfl)
   ·obtain ⟨u, v, q, t1, t2, c1, c2, c3, c4, c5⟩ := h1 hk
    rw [decide_eq_false hk] at hS
    obtain ⟨t0, ht⟩ : ∃ s, s = bs (spL kd ng) := ⟨_, rfl⟩
    rw [← ht] at hS
    clear h3 h1 ht
    refine zs2 (ρ := fun _ => [.v true (.str t0), .v true (.bool false)]) (o := by repeat' first|exact hS|trivial|constructor) (k := ?_)
    refine zs0 ?_
    refine Holds.condF rfl (Holds.skip ?_)
    show Holds _ _ _ _ _ _ _
    refine zs2 (ρ := fun _ => [.v true (words u), .v true (words v)]) (o := by repeat' first|exact c1|trivial|constructor) (k := ?_)
    refine zs2 (ρ := fun _ => [.v true (words q), .v true (.bool b)]) (o := by repeat' first|exact c2|trivial|constructor) (k := ?_)
    refine zd2 [] (ρ := fun y => if y = 59 then [.v true (.str t1)] else if y = 61 then [.v true (.str t2)] else [.v true (.str s)]) (o := by repeat' first|exact c3|exact c4|exact c5|trivial|constructor) (k := ?_)
    exact Holds.ret (RetOk.vs rfl (by exact ⟨⟨rfl, id⟩, ⟨rfl, id⟩, ⟨rfl, id⟩, trivial⟩) rfl)
  ·obtain ⟨rfl, rfl⟩ := hE hE0
   refine zs1 hE0 ?_
   refine Holds.condT rfl ?_
   refine zs0 ?_
   exact Holds.ret (RetOk.vs rfl (by exact ⟨⟨rfl, id⟩, ⟨rfl, id⟩, ⟨rfl, id⟩, trivial⟩) rfl)
set_option maxHeartbeats 2000000 in
theorem Scientific_gen (k P r kd0 e0 kd ex E n : Int) (n0 ng b : Bool) (L ms : List V) (s : ByteArray)
 (hN : FnOk Tryz.prog 49 [.v (.agg [.int .i64 k, .int .i64 P]), .v (.int .i64 r), .v (.bool (outB n 0 1199)), .v (.agg [.int .i64 kd0, .bool n0, .int .i64 e0, .sl 1 L])] [.v true (.agg [.int .i64 kd, .bool ng, .int .i64 ex, .sl 1 ms]), .v true (.int .i64 E)])
 (hE : E ≠ 0 → s = ⟨#[]⟩ ∧ b = false) (h3 : E = 0 → kd = 3 ∨ kd = 2 → s = bs (spL kd ng) ∧ b = true)
 (h1 : E = 0 → (0 ≤ n ∧ n ≤ 1199) ∧ (¬ (kd = 3 ∨ kd = 2) → ∃ (d : ByteArray) (x : Int) (t1 t2 : ByteArray), (kd = 1 → FnOk Tryz.prog 83 [.v (.int .i64 r), .v (.agg [.int .i64 kd, .bool ng, .int .i64 ex, .sl 1 ms]), .v (.int .i64 (n + 1))] [.v true (.str d), .v true (.int .i64 x), .v true (.bool b)]) ∧ (kd ≠ 1 → d = bs (z48 (n + 1).toNat) ∧ x = 0 ∧ b = true) ∧
   FnOk Tryz.prog 84 [.v (.str d)] [.v true (.str t1)] ∧ t1.size ≤ 10000 ∧ FnOk Tryz.prog 64 [.v (.int .i64 x), .v (.int .i64 2)] [.v true (.str t2)] ∧ t2.size ≤ 10000 ∧ FnOk Tryz.prog 51 [.v (.bool ng), .v (.str ((t1 ++ ⟨#[101]⟩) ++ t2))] [.v true (.str s)])) :
 FnOk Tryz.prog 24 [.v (.agg [.int .i64 k, .int .i64 P]), .v (.int .i64 r), .v (.agg [.int .i64 kd0, .bool n0, .int .i64 e0, .sl 1 L]), .v (.int .i64 n)] [.v true (.str s), .v true (.bool b), .v true (.int .i64 E)] := by
 obtain ⟨ob, hob⟩ : ∃ b, b = outB n 0 1199 := ⟨_, rfl⟩
 rw [← hob] at hN
 refine FnOk.of Tryz.func24 rfl rfl fun cx w0 => ?_
 rw [show Tryz.f24.ntmps = 65 from rfl]
 refine zs0 ?_
 refine Holds.next (fun σ => ∀ a w, Rel cx w0 σ a w → Rel cx w0 { nt := 65, env := [(11, .v true (.int .i64 E)), (6, .ptr 6 0 [] 0), (1, .v true (.int .i64 r)), (3, .v true (.int .i64 n))], mem := [(6, .box 28 (.v false (.agg [.int .i64 kd, .bool ng, .int .i64 ex, .sl 1 ms])))] } a w) ?_ ?_
 ·by_cases g1 : n < 0
  ·have : ob = true := by rw [hob]; exact decide_eq_true (.inl g1)
   subst this
   refine zr3 (ρ := fun _ => [.v true (.agg [.int .i64 kd, .bool ng, .int .i64 ex, .sl 1 ms]), .v true (.int .i64 E)]) g1 (o := by repeat' first|exact hN|trivial|constructor) (k := ?_)
   exact fun a w h => Rel.keep [11, 6, 1, 3] [6] h
  ·by_cases g2 : 1199 < n
   ·have : ob = true := by rw [hob]; exact decide_eq_true (.inr g2)
    subst this
    refine zr3 (ρ := fun _ => [.v true (.agg [.int .i64 kd, .bool ng, .int .i64 ex, .sl 1 ms]), .v true (.int .i64 E)]) (an g1 <| g2) (o := by repeat' first|exact hN|trivial|constructor) (k := ?_)
    exact fun a w h => Rel.keep [11, 6, 1, 3] [6] h
   ·have : ob = false := by rw [hob]; exact decide_eq_false (by omega)
    subst this
    refine zr3 (ρ := fun _ => [.v true (.agg [.int .i64 kd, .bool ng, .int .i64 ex, .sl 1 ms]), .v true (.int .i64 E)]) (an g1 <| g2) (o := by repeat' first|exact hN|trivial|constructor) (k := ?_)
    exact fun a w h => Rel.keep [11, 6, 1, 3] [6] h
 ·intro σ hσ
  refine Holds.from hσ ?_
  clear hN hob
  refine Holds.seq ?_
  by_cases hE0 : E = 0
  ·subst hE0
   obtain ⟨hn, h1⟩ := h1 rfl
   have h3 := h3 rfl
   clear hE
   refine zs0 ?_
   refine Holds.condF rfl (Holds.skip ?_)
   show Holds _ _ _ _ _ _ _
   have hS := sSpecial_ok kd ng ex 0 ms
   refine Holds.seq ?_
   by_cases hk : kd = 3 ∨ kd = 2
   ·obtain ⟨hs, rfl⟩ := h3 hk
    rw [decide_eq_true hk, ← hs] at hS
    clear h3 h1 hs
    refine zs2 (ρ := fun _ => [.v true (.str s), .v true (.bool true)]) (o := by repeat' first|exact hS|trivial|constructor) (k := ?_)
    refine zs0 ?_
    refine Holds.condT rfl ?_
    refine zs0 ?_
    exact Holds.ret (RetOk.vs rfl (by exact ⟨⟨rfl, id⟩, ⟨rfl, id⟩, ⟨rfl, id⟩, trivial⟩) rfl)
   ·obtain ⟨d, x, t1, t2, c1, c0, c2, l2, c3, l3, c4⟩ := h1 hk
    rw [decide_eq_false hk] at hS
    obtain ⟨t0, ht⟩ : ∃ s, s = bs (spL kd ng) := ⟨_, rfl⟩
    rw [← ht] at hS
    have hZ := repeat_ok (n + 1).toNat (by omega)
    rw [show (((n + 1).toNat : Nat) : Int) = n + 1 from by omega] at hZ
    obtain ⟨z, hz⟩ : ∃ z, z = bs (z48 (n + 1).toNat) := ⟨_, rfl⟩
    rw [← hz] at hZ c0
    have w1 : IntKind.i64.wrap (n + 1) = n + 1 := by rw [wrap_i64] <;> omega
    clear h3 h1 ht hz
    refine zs2 (ρ := fun _ => [.v true (.str t0), .v true (.bool false)]) (o := by repeat' first|exact hS|trivial|constructor) (k := ?_)
    refine zs0 ?_
    refine Holds.condF rfl (Holds.skip ?_)
    show Holds _ _ _ _ _ _ _
    refine zs3 (ρ := fun _ => [.v true (.str z)]) w1 (o := by repeat' first|exact hZ|trivial|constructor) (k := ?_)
    refine Holds.next (fun σ => ∀ a w, Rel cx w0 σ a w → Rel cx w0 { nt := 65, env := [(14, .v true (.str d)), (15, .v true (.int .i64 x)), (16, .v true (.bool b)), (6, .ptr 6 0 [] 0)], mem := [(6, .box 28 (.v false (.agg [.int .i64 kd, .bool ng, .int .i64 ex, .sl 1 ms])))] } a w) ?_ ?_
    ·by_cases h : kd = 1
     ·have c1 := c1 h
      subst h
      refine zs0 ?_
      refine Holds.condT rfl ?_
      refine zr3 (ρ := fun _ => [.v true (.str d), .v true (.int .i64 x), .v true (.bool b)]) w1 (o := by repeat' first|exact c1|trivial|constructor) (k := ?_)
      exact fun a w h => Rel.keep [14, 15, 16, 6] [6] h
     ·obtain ⟨rfl, rfl, rfl⟩ := c0 h
      refine zs1 h ?_
      exact Holds.condF rfl (Holds.skip fun a w h => Rel.keep [14, 15, 16, 6] [6] h)
    ·intro σ hσ
     refine Holds.from hσ ?_
     have a1 : t1.size + (#[(101 : UInt8)]).size ≤ 9223372036854775807 := by show t1.size + 1 ≤ _; omega
     have a2 : t1.size + (#[(101 : UInt8)]).size + t2.size ≤ 9223372036854775807 := by show t1.size + 1 + _ ≤ _; omega
     clear c0 c1 hZ hS l2 l3
     refine zd3 [] (ρ := fun y => if y = 58 then [.v true (.str t1)] else if y = 61 then [.v true (.str t2)] else [.v true (.str s)]) (an a1 <| a2) (o := by repeat' first|exact c2|exact c3|exact c4|trivial|constructor) (k := ?_)
     exact Holds.ret (RetOk.vs rfl (by exact ⟨⟨rfl, id⟩, ⟨rfl, id⟩, ⟨rfl, id⟩, trivial⟩) rfl)
  ·obtain ⟨rfl, rfl⟩ := hE hE0
   refine zs1 hE0 ?_
   refine Holds.condT rfl ?_
   refine zs0 ?_
   exact Holds.ret (RetOk.vs rfl (by exact ⟨⟨rfl, id⟩, ⟨rfl, id⟩, ⟨rfl, id⟩, trivial⟩) rfl)
end Go.Proofs.YtlpolbeikangpaaGreatDoor.L
