/-
  Uf
-/
import Derived.Test.YtjmclobbfabnpaaQ2
set_option linter.unusedSimpArgs false
set_option linter.unusedVariables false
/-
  The law FastPoints: products of polynomials, and the walk.
-/
namespace Go.Proofs.Ytjmclobbfabnpaa.L
open Go Go.RowKit Go.Proofs

/-- The product of polynomials, gathered term by term. -/
def pstep (zs ws L : List Int) (i k : Nat) : List Int := L.set (i + k) (L.getD (i + k) 0 + zs.getD i 0 * ws.getD k 0)
def prow (zs ws L : List Int) (i : Nat) : Nat → List Int
  | 0 => L
  | k + 1 => pstep zs ws (prow zs ws L i k) i k
def prows (zs ws : List Int) : Nat → List Int
  | 0 => [0, 0, 0, 0, 0]
  | i + 1 => prow zs ws (prows zs ws i) i ws.length
theorem pstep_len (zs ws L : List Int) (i k : Nat) : (pstep zs ws L i k).length = L.length := by rw [pstep, List.length_set]
theorem prow_len (zs ws L : List Int) (i : Nat) : ∀ k, (prow zs ws L i k).length = L.length
  | 0 => rfl
  | k + 1 => by rw [prow, pstep_len, prow_len zs ws L i k]
theorem prows_len (zs ws : List Int) : ∀ i, (prows zs ws i).length = 5
  | 0 => rfl
  | i + 1 => by rw [prows, prow_len, prows_len zs ws i]

def bndL (L : List Int) (C : Nat) : Prop := ∀ m, (L.getD m 0).natAbs ≤ C
theorem getD_lt {zs : List Int} {B i : Nat} (hB : 0 < B) (h : ∀ z ∈ zs, z.natAbs < B) : (zs.getD i 0).natAbs < B := by
  rw [List.getD_eq_getElem?_getD]
  cases hi : zs[i]? with
  | none => exact hB
  | some z => exact h z (List.mem_of_getElem? hi)
theorem pstep_bnd {zs ws L : List Int} {i k B C : Nat} (hB : 0 < B) (hz : ∀ z ∈ zs, z.natAbs < B) (hw : ∀ z ∈ ws, z.natAbs < B) (h : bndL L C) : bndL (pstep zs ws L i k) (C + B * B) := fun m => by
  unfold pstep
  rw [List.getD_eq_getElem?_getD, List.getElem?_set]
  have h1 := h m
  rw [List.getD_eq_getElem?_getD] at h1
  split
  · split
    · have h2 := h (i + k)
      have h3 : (zs.getD i 0 * ws.getD k 0).natAbs ≤ B * B := by
        rw [Int.natAbs_mul]
        exact Nat.le_of_lt (Nat.mul_lt_mul'' (getD_lt hB hz) (getD_lt hB hw))
      show (L.getD (i + k) 0 + zs.getD i 0 * ws.getD k 0).natAbs ≤ _
      generalize zs.getD i 0 * ws.getD k 0 = t at h3 ⊢
      omega
    · exact Nat.zero_le _
  · omega
theorem prow_bnd {zs ws L : List Int} {i B C : Nat} (hB : 0 < B) (hz : ∀ z ∈ zs, z.natAbs < B) (hw : ∀ z ∈ ws, z.natAbs < B) (h : bndL L C) : ∀ k, bndL (prow zs ws L i k) (C + k * (B * B))
  | 0 => by rw [Nat.zero_mul]; exact h
  | k + 1 => by
    have := pstep_bnd (i := i) (k := k) hB hz hw (prow_bnd (i := i) hB hz hw h k)
    rw [prow, Nat.succ_mul, ← Nat.add_assoc]
    exact this
theorem prows_bnd {zs ws : List Int} {B : Nat} (hB : 0 < B) (hz : ∀ z ∈ zs, z.natAbs < B) (hw : ∀ z ∈ ws, z.natAbs < B) (hl : ws.length ≤ 3) : ∀ i, bndL (prows zs ws i) (i * (3 * (B * B)))
  | 0 => fun m => by
    match m with
    | 0 | 1 | 2 | 3 | 4 => exact Nat.zero_le _
    | _ + 5 => exact Nat.zero_le _
  | i + 1 => by
    have := prow_bnd (i := i) hB hz hw (prows_bnd hB hz hw hl i) ws.length
    rw [prows, Nat.succ_mul]
    intro m
    have h1 := this m
    have h2 : ws.length * (B * B) ≤ 3 * (B * B) := Nat.mul_le_mul_right _ hl
    omega

def convL (a0 a1 a2 b0 b1 b2 : Int) : List Int := [a0 * b0, a0 * b1 + a1 * b0, a0 * b2 + a1 * b1 + a2 * b0, a1 * b2 + a2 * b1, a2 * b2]
theorem prows_all {zs ws : List Int} (hz : zs.length ≤ 3) (hw : ws.length ≤ 3) : prows zs ws zs.length = convL (zs.getD 0 0) (zs.getD 1 0) (zs.getD 2 0) (ws.getD 0 0) (ws.getD 1 0) (ws.getD 2 0) := by
  have two : ∀ {l : List Int}, l.length ≤ 3 → l = [] ∨ (∃ a, l = [a]) ∨ (∃ a b, l = [a, b]) ∨ ∃ a b c, l = [a, b, c] := fun {l} h => by
    match l, h with
    | [], _ => exact .inl rfl
    | [a], _ => exact .inr (.inl ⟨a, rfl⟩)
    | [a, b], _ => exact .inr (.inr (.inl ⟨a, b, rfl⟩))
    | [a, b, c], _ => exact .inr (.inr (.inr ⟨a, b, c, rfl⟩))
  rcases two hz with rfl | ⟨a, rfl⟩ | ⟨a, b, rfl⟩ | ⟨a, b, c, rfl⟩ <;> rcases two hw with rfl | ⟨d, rfl⟩ | ⟨d, e, rfl⟩ | ⟨d, e, f, rfl⟩ <;>
    simp [prows, prow, pstep, convL, List.set]
  all_goals first | omega | (refine ⟨?_, ?_⟩ <;> omega) | skip

theorem horn_few {t : Int} {zs : List Int} (h : zs.length ≤ 3) : hornZ t zs = zs.getD 0 0 + zs.getD 1 0 * t + zs.getD 2 0 * (t * t) := by
  match zs, h with
  | [], _ => simp [hornZ]
  | [a], _ => simp [hornZ]
  | [a, b], _ => simp [hornZ]; omega
  | [a, b, c], _ =>
    show ((0 * t + c) * t + b) * t + a = a + b * t + c * (t * t)
    grind
theorem fives_mul {zs ws : List Int} (hz : zs.length ≤ 3) (hw : ws.length ≤ 3) : ∃ c0 c1 c2 c3 c4, convL (zs.getD 0 0) (zs.getD 1 0) (zs.getD 2 0) (ws.getD 0 0) (ws.getD 1 0) (ws.getD 2 0) = [c0, c1, c2, c3, c4] ∧
    zs.getD 0 0 * ws.getD 0 0 = c0 ∧ hornZ 1 zs * hornZ 1 ws = c0 + c1 + c2 + c3 + c4 ∧ hornZ (-1) zs * hornZ (-1) ws = c0 - c1 + c2 - c3 + c4 ∧ hornZ 2 zs * hornZ 2 ws = c0 + 2 * c1 + 4 * c2 + 8 * c3 + 16 * c4 ∧ zs.getD 2 0 * ws.getD 2 0 = c4 := by
  refine ⟨_, _, _, _, _, rfl, rfl, ?_, ?_, ?_, rfl⟩ <;> rw [horn_few hz, horn_few hw] <;> grind
theorem outI_get {A : List Int} {n k : Nat} (hA : A.length = n) (hk : k < n) : (A.take k ++ List.replicate (n - k) 0)[k]? = some 0 := by
  rw [List.getElem?_append_right (by rw [List.length_take]; omega), List.length_take, Nat.min_eq_left (by omega), Nat.sub_self, List.getElem?_replicate, if_pos (by omega)]
theorem outI_set {A : List Int} {n k : Nat} (hA : A.length = n) (hk : k < n) : (A.take k ++ List.replicate (n - k) 0).set k (A.getD k 0) = A.take (k + 1) ++ List.replicate (n - (k + 1)) 0 := by
  rw [List.set_append_right _ _ (by rw [List.length_take]; omega), List.length_take, Nat.min_eq_left (by omega), Nat.sub_self, show n - k = n - (k + 1) + 1 from by omega, List.replicate_succ, List.set_cons_zero, List.take_add_one, get_mapI (by omega), List.append_assoc]
  rfl
theorem offZ {L : List Int} {k : Nat} (h : k ≤ L.length) : V.off (L.map fun z => pV (zp z)) k = k * 2 := off_all (fun x hx => by
  obtain ⟨z, _, rfl⟩ := List.mem_map.1 hx
  rfl) (by rw [List.length_map]; exact h)
theorem outI_len {A : List Int} {n k : Nat} (hA : A.length = n) (hk : k ≤ n) : (A.take k ++ List.replicate (n - k) 0).length = n := by rw [List.length_append, List.length_take, List.length_replicate]; omega
end Go.Proofs.Ytjmclobbfabnpaa.L
