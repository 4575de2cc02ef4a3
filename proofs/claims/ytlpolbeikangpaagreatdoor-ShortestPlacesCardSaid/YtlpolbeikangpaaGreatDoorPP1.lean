/-
  La Glt Gl Lb Lc Ld Le Lf Lg Lh Li Lj Lk Ll Lm
-/
import Derived.CallsIn
import Derived.Below
import Derived.Laws.Cells
import Derived.Laws.AppendOwn
import Derived.Laws.CopyRow
import Derived.Laws.IdiomCopy
import Derived.WalkKit
import Derived.RangeFuncOwn
import Derived.RangeFuncLeaves
import Derived.Laws.Entries
import Derived.Laws.Concat
import Derived.Laws.IdiomStrings
import Derived.Great.BuildSlice
import Derived.Laws.MakeOwn
set_option linter.unusedSimpArgs false
set_option linter.unusedVariables false
set_option maxRecDepth 100000
namespace Go.Proofs.YtlpolbeikangpaaGreatDoor.L
open Go Go.RowKit
inductive V where
 | int (k : IntKind) (n : Int)
 | bool (b : Bool)
 | str (s : ByteArray)
 | sl (sz : Nat) (xs : List V)
 | agg (fs : List V)
 | niface
 | iface (t : TypeId) (x : V)
 | nfun
 | fnv (f : FuncId)
instance : Inhabited V := ⟨.nfun⟩
mutual
def V.size : V → Nat
 | .agg fs => V.sizes fs
 | _ => 1
def V.sizes : List V → Nat
 | [] => 0
 | x :: r => x.size + V.sizes r
end
def V.toVal : V → List Value → Value
 | .agg _, cs => .agg cs.toArray
 | _, cs => cs.headD undef
mutual
def Rep (w : World) (ok : Nat → Prop) : V → List Value → Prop
 | .int k n, cs => cs = [.int k n]
 | .bool b, cs => cs = [.bool b]
 | .str s, cs => cs = [.string s]
 | .sl sz xs, cs => (xs = [] ∧ ∃ A c, cs = [.slice A 0 c]) ∨ ∃ b o c, xs.length ≤ c ∧ ok b ∧ cs = [.slice (some ⟨b, o, none⟩) xs.length c] ∧ RepRow w ok b sz o xs
 | .agg fs, cs => RepL w ok fs cs
 | .niface, cs => cs = [.nilIface]
 | .iface t x, cs => ∃ c, Rep w ok x c ∧ cs = [.iface t (x.toVal c)]
 | .nfun, cs => cs = [.nilFunc]
 | .fnv f, cs => cs = [.func (.func f) #[] #[]]
def RepL (w : World) (ok : Nat → Prop) : List V → List Value → Prop
 | [], cs => cs = []
 | x :: r, cs => ∃ a b, cs = a ++ b ∧ Rep w ok x a ∧ RepL w ok r b
def RepRow (w : World) (ok : Nat → Prop) (b sz : Nat) : Nat → List V → Prop
 | _, [] => True
 | o, x :: r => (∃ a, a.length = sz ∧ (∀ j, j < sz → w.cell? ⟨b, o + j, none⟩ = a[j]?) ∧ Rep w ok x a) ∧ RepRow w ok b sz (o + sz) r
end
def V.flat : V → Bool
 | .int _ _ => true
 | .bool _ => true
 | .str _ => true
 | .niface => true
 | .nfun => true
 | .fnv _ => true
 | _ => false
theorem V.flat_rep {ok ok' : Nat → Prop} {x : V} {cs : List Value} {w : World} (hx : x.flat = true) (hr : Rep w ok x cs) : Rep w ok' x cs := by
 cases x <;> simp only [V.flat] at hx <;> first | (rw [Rep] at hr ⊢; exact hr) | cases hx
section
variable {w w' : World} {ok ok' : Nat → Prop}
mutual
theorem Rep.length : ∀ {x : V} {cs : List Value}, Rep w ok x cs → cs.length = x.size
 | .int _ _, _, h => by rw [Rep] at h; subst h; rfl
 | .bool _, _, h => by rw [Rep] at h; subst h; rfl
 | .str _, _, h => by rw [Rep] at h; subst h; rfl
 | .sl _ _, _, h => by
   rw [Rep] at h
   rcases h with ⟨_, A, c, rfl⟩ | ⟨b, o, c, _, _, rfl, _⟩ <;> rfl
 | .agg fs, _, h => by rw [Rep] at h; rw [V.size]; exact RepL.length h
 | .niface, _, h => by rw [Rep] at h; subst h; rfl
 | .iface _ _, _, h => by rw [Rep] at h; obtain ⟨c, _, rfl⟩ := h; rfl
 | .nfun, _, h => by rw [Rep] at h; subst h; rfl
 | .fnv _, _, h => by rw [Rep] at h; subst h; rfl
theorem RepL.length : ∀ {fs : List V} {cs : List Value}, RepL w ok fs cs → cs.length = V.sizes fs
 | [], _, h => by rw [RepL] at h; subst h; rfl
 | x :: r, _, h => by
   rw [RepL] at h
   obtain ⟨a, b, rfl, h1, h2⟩ := h
   rw [V.sizes, List.length_append, Rep.length h1, RepL.length h2]
end
mutual
theorem Rep.mono (hc : ∀ b o v, ok b → w.cell? ⟨b, o, none⟩ = some v → w'.cell? ⟨b, o, none⟩ = some v) (hk : ∀ b, ok b → ok' b) : ∀ {x : V} {cs : List Value}, Rep w ok x cs → Rep w' ok' x cs
 | .int _ _, _, h => by rw [Rep] at h ⊢; exact h
 | .bool _, _, h => by rw [Rep] at h ⊢; exact h
 | .str _, _, h => by rw [Rep] at h ⊢; exact h
 | .sl _ _, _, h => by
   rw [Rep] at h ⊢
   rcases h with h | ⟨b, o, c, h1, h2, h3, h4⟩
   ·exact .inl h
   ·exact .inr ⟨b, o, c, h1, hk b h2, h3, RepRow.mono hc hk h2 h4⟩
 | .agg fs, _, h => by rw [Rep] at h ⊢; exact RepL.mono hc hk h
 | .niface, _, h => by rw [Rep] at h ⊢; exact h
 | .iface _ _, _, h => by rw [Rep] at h ⊢; obtain ⟨c, h1, h2⟩ := h; exact ⟨c, Rep.mono hc hk h1, h2⟩
 | .nfun, _, h => by rw [Rep] at h ⊢; exact h
 | .fnv _, _, h => by rw [Rep] at h ⊢; exact h
theorem RepL.mono (hc : ∀ b o v, ok b → w.cell? ⟨b, o, none⟩ = some v → w'.cell? ⟨b, o, none⟩ = some v) (hk : ∀ b, ok b → ok' b) : ∀ {fs : List V} {cs : List Value}, RepL w ok fs cs → RepL w' ok' fs cs
 | [], _, h => by rw [RepL] at h ⊢; exact h
 | x :: r, _, h => by
   rw [RepL] at h ⊢
   obtain ⟨a, b, h0, h1, h2⟩ := h
   exact ⟨a, b, h0, Rep.mono hc hk h1, RepL.mono hc hk h2⟩
theorem RepRow.mono (hc : ∀ b o v, ok b → w.cell? ⟨b, o, none⟩ = some v → w'.cell? ⟨b, o, none⟩ = some v) (hk : ∀ b, ok b → ok' b) {b sz : Nat} (hb : ok b) : ∀ {o : Nat} {xs : List V}, RepRow w ok b sz o xs → RepRow w' ok' b sz o xs
 | _, [], _ => by rw [RepRow]; trivial
 | o, x :: r, h => by
   rw [RepRow] at h ⊢
   obtain ⟨⟨a, h0, h1, h2⟩, h3⟩ := h
   refine ⟨⟨a, h0, fun j hj => ?_, Rep.mono hc hk h2⟩, RepRow.mono hc hk hb h3⟩
   have h4 := h1 j hj
   have h5 : j < a.length := by omega
   rw [List.getElem?_eq_getElem h5] at h4 ⊢
   exact hc _ _ _ hb h4
end
mutual
theorem Rep.one : ∀ {x : V} {cs : List Value}, Rep w ok x cs → ∀ c ∈ cs, c.oneCell' = true
 | .int _ _, _, h => by rw [Rep] at h; subst h; simp [Value.oneCell']
 | .bool _, _, h => by rw [Rep] at h; subst h; simp [Value.oneCell']
 | .str _, _, h => by rw [Rep] at h; subst h; simp [Value.oneCell']
 | .sl _ _, _, h => by
   rw [Rep] at h
   rcases h with ⟨_, A, c, rfl⟩ | ⟨b, o, c, _, _, rfl, _⟩ <;> simp [Value.oneCell']
 | .agg fs, _, h => by rw [Rep] at h; exact RepL.one h
 | .niface, _, h => by rw [Rep] at h; subst h; simp [Value.oneCell']
 | .iface _ _, _, h => by rw [Rep] at h; obtain ⟨c, _, rfl⟩ := h; simp [Value.oneCell']
 | .nfun, _, h => by rw [Rep] at h; subst h; simp [Value.oneCell']
 | .fnv _, _, h => by rw [Rep] at h; subst h; simp [Value.oneCell']
theorem RepL.one : ∀ {fs : List V} {cs : List Value}, RepL w ok fs cs → ∀ c ∈ cs, c.oneCell' = true
 | [], _, h => by rw [RepL] at h; subst h; simp
 | x :: r, _, h => by
   rw [RepL] at h
   obtain ⟨a, b, rfl, h1, h2⟩ := h
   intro c hc
   rcases List.mem_append.1 hc with h3 | h3
   ·exact Rep.one h1 c h3
   ·exact RepL.one h2 c h3
end
theorem Rep.cells {x : V} {cs : List Value} (h : Rep w ok x cs) : (x.toVal cs).cells = cs.toArray := by
 cases x with
 | agg fs => rfl
 | sl sz xs => rw [Rep] at h; rcases h with ⟨_, A, c, rfl⟩ | ⟨b, o, c, _, _, rfl, _⟩ <;> rfl
 | iface t y => rw [Rep] at h; obtain ⟨c, _, rfl⟩ := h; rfl
 | _ => rw [Rep] at h; subst h; rfl
theorem RepRow.get {b sz : Nat} : ∀ {o : Nat} {xs : List V} {i : Nat} {x : V}, RepRow w ok b sz o xs → xs[i]? = some x →
 ∃ a, a.length = sz ∧ (∀ j, j < sz → w.cell? ⟨b, o + i * sz + j, none⟩ = a[j]?) ∧ Rep w ok x a
 | _, [], _, _, _, hx => by simp at hx
 | o, y :: r, 0, x, h, hx => by
   rw [RepRow] at h
   simp only [List.getElem?_cons_zero, Option.some.injEq] at hx
   subst hx
   simpa using h.1
 | o, y :: r, i + 1, x, h, hx => by
   rw [RepRow] at h
   rw [List.getElem?_cons_succ] at hx
   obtain ⟨a, h1, h2, h3⟩ := RepRow.get h.2 hx
   refine ⟨a, h1, fun j hj => ?_, h3⟩
   rw [← h2 j hj, show o + (i + 1) * sz + j = o + sz + i * sz + j from by rw [Nat.succ_mul]; omega]
theorem RepRow.mk {b sz : Nat} : ∀ {o : Nat} {xs : List V}, (∀ i x, xs[i]? = some x → ∃ a, a.length = sz ∧ (∀ j, j < sz → w.cell? ⟨b, o + i * sz + j, none⟩ = a[j]?) ∧ Rep w ok x a) → RepRow w ok b sz o xs
 | _, [], _ => by rw [RepRow]; trivial
 | o, y :: r, h => by
   rw [RepRow]
   refine ⟨by simpa using h 0 y rfl, RepRow.mk fun i x hx => ?_⟩
   obtain ⟨a, h1, h2, h3⟩ := h (i + 1) x (by simpa using hx)
   refine ⟨a, h1, fun j hj => ?_, h3⟩
   rw [← h2 j hj, show o + (i + 1) * sz + j = o + sz + i * sz + j from by rw [Nat.succ_mul]; omega]
theorem RepRow.drop {b sz o : Nat} {xs : List V} (h : RepRow w ok b sz o xs) (l : Nat) : RepRow w ok b sz (o + l * sz) (xs.drop l) := by
 refine RepRow.mk fun i x hx => ?_
 rw [List.getElem?_drop] at hx
 obtain ⟨a, h1, h2, h3⟩ := RepRow.get h hx
 refine ⟨a, h1, fun j hj => ?_, h3⟩
 rw [← h2 j hj, Nat.add_mul, show o + l * sz + i * sz + j = o + (l * sz + i * sz) + j from by omega]
theorem RepRow.take {b sz o : Nat} {xs : List V} (h : RepRow w ok b sz o xs) (l : Nat) : RepRow w ok b sz o (xs.take l) := by
 refine RepRow.mk fun i x hx => ?_
 refine RepRow.get h ?_
 rw [List.getElem?_take] at hx
 split at hx
 ·exact hx
 ·cases hx
def V.off : List V → Nat → Nat
 | [], _ => 0
 | _ :: _, 0 => 0
 | x :: r, j + 1 => x.size + V.off r j
theorem RepL.get : ∀ {fs : List V} {cs : List Value} {j : Nat} {x : V}, RepL w ok fs cs → fs[j]? = some x →
 ∃ p a q, cs = p ++ a ++ q ∧ p.length = V.off fs j ∧ Rep w ok x a
 | [], _, _, _, _, hx => by simp at hx
 | y :: r, _, 0, x, h, hx => by
   rw [RepL] at h
   obtain ⟨a, b, rfl, h1, h2⟩ := h
   simp only [List.getElem?_cons_zero, Option.some.injEq] at hx
   subst hx
   exact ⟨[], a, b, by simp, rfl, h1⟩
 | y :: r, _, j + 1, x, h, hx => by
   rw [RepL] at h
   obtain ⟨a, b, rfl, h1, h2⟩ := h
   rw [List.getElem?_cons_succ] at hx
   obtain ⟨p, a', q, rfl, h3, h4⟩ := RepL.get h2 hx
   exact ⟨a ++ p, a', q, by simp, by rw [List.length_append, h3, Rep.length h1, V.off], h4⟩
theorem RepL.set : ∀ {fs : List V} {cs : List Value} {j : Nat} {x y : V} {p a q a' : List Value}, RepL w ok fs cs → fs[j]? = some x → cs = p ++ a ++ q → p.length = V.off fs j → a.length = x.size → Rep w ok y a' →
 RepL w ok (fs.set j y) (p ++ a' ++ q)
 | [], _, _, _, _, _, _, _, _, _, hx, _, _, _, _ => by simp at hx
 | z :: r, _, 0, x, y, p, a, q, a', h, hx, hcs, hp, ha, hy => by
   rw [RepL] at h
   obtain ⟨a0, b0, rfl, h1, h2⟩ := h
   simp only [List.getElem?_cons_zero, Option.some.injEq] at hx
   subst hx
   rw [V.off] at hp
   have hp' : p = [] := List.eq_nil_of_length_eq_zero hp
   subst hp'
   simp only [List.nil_append] at hcs ⊢
   have hl : a0.length = a.length := by rw [Rep.length h1, ha]
   obtain ⟨rfl, rfl⟩ := List.append_inj hcs hl
   simp only [List.set_cons_zero]
   rw [RepL]
   exact ⟨a', b0, rfl, hy, h2⟩
 | z :: r, _, j + 1, x, y, p, a, q, a', h, hx, hcs, hp, ha, hy => by
   rw [RepL] at h
   obtain ⟨a0, b0, rfl, h1, h2⟩ := h
   rw [List.getElem?_cons_succ] at hx
   rw [V.off] at hp
   have hl0 := Rep.length h1
   obtain ⟨p', rfl⟩ : ∃ p', p = a0 ++ p' := by
    have h3 : a0 <+: p ++ (a ++ q) := ⟨b0, by rw [← List.append_assoc]; exact hcs⟩
    rcases List.prefix_or_prefix_of_prefix h3 ⟨a ++ q, rfl⟩ with h4 | h4
    ·obtain ⟨t, ht⟩ := h4; exact ⟨t, ht.symm⟩
    ·obtain ⟨t, ht⟩ := h4
     have : t = [] := by
      have := congrArg List.length ht
      rw [List.length_append] at this
      exact List.eq_nil_of_length_eq_zero (by omega)
     subst this
     exact ⟨[], by simpa using ht⟩
   simp only [List.append_assoc, List.append_cancel_left_eq] at hcs
   simp only [List.set_cons_succ]
   rw [RepL]
   refine ⟨a0, p' ++ a' ++ q, by simp, h1, RepL.set h2 hx (by simpa using hcs) ?_ ha hy⟩
   rw [List.length_append] at hp
   omega
end
end Go.Proofs.YtlpolbeikangpaaGreatDoor.L
namespace Go.Proofs.YtlpolbeikangpaaGreatDoor.L
def moreV : V := .agg [.fnv 311, .fnv 312, .fnv 313, .fnv 314, .fnv 315]
def bruijnV : V := .agg [.int .u8 0, .int .u8 1, .int .u8 56, .int .u8 2, .int .u8 57, .int .u8 49, .int .u8 28, .int .u8 3, .int .u8 61, .int .u8 58, .int .u8 42, .int .u8 50, .int .u8 38, .int .u8 29, .int .u8 17, .int .u8 4, .int .u8 62, .int .u8 47, .int .u8 59, .int .u8 36, .int .u8 45, .int .u8 43, .int .u8 51, .int .u8 22, .int .u8 53, .int .u8 39, .int .u8 33, .int .u8 30, .int .u8 24, .int .u8 18, .int .u8 12, .int .u8 5, .int .u8 63, .int .u8 55, .int .u8 48, .int .u8 27, .int .u8 60, .int .u8 41, .int .u8 37, .int .u8 16, .int .u8 46, .int .u8 35, .int .u8 44, .int .u8 21, .int .u8 52, .int .u8 32, .int .u8 23, .int .u8 11, .int .u8 54, .int .u8 26, .int .u8 40, .int .u8 15, .int .u8 34, .int .u8 20, .int .u8 31, .int .u8 10, .int .u8 25, .int .u8 14, .int .u8 19, .int .u8 9, .int .u8 13, .int .u8 8, .int .u8 7, .int .u8 6]
def pow10V : V := .agg [.int .u64 1, .int .u64 10, .int .u64 100, .int .u64 1000, .int .u64 10000, .int .u64 100000, .int .u64 1000000, .int .u64 10000000, .int .u64 100000000, .int .u64 1000000000, .int .u64 10000000000, .int .u64 100000000000, .int .u64 1000000000000, .int .u64 10000000000000, .int .u64 100000000000000, .int .u64 1000000000000000, .int .u64 10000000000000000, .int .u64 100000000000000000, .int .u64 1000000000000000000, .int .u64 10000000000000000000]
def GLOB : List (Nat × V) := [(0, moreV), (3, bruijnV), (7, pow10V)]
end Go.Proofs.YtlpolbeikangpaaGreatDoor.L
namespace Go.Proofs.YtlpolbeikangpaaGreatDoor.L
open Go Go.RowKit
def isG (b : Nat) : Prop := ∃ x, (b, x) ∈ GLOB
def GL (w : World) : Prop := ∀ p ∈ GLOB, p.1 < w.heap.size ∧ ∃ cs, Rep w (fun b => b < w.heap.size ∧ isG b) p.2 cs ∧ ∃ t f, w.heap[p.1]? = some (.cells cs.toArray t f)
theorem gl_cell {w : World} {g : Nat} {cs : List Value} {t : TypeId} {f : Nat × Nat} (h : w.heap[g]? = some (.cells cs.toArray t f)) (j : Nat) : w.cell? ⟨g, j, none⟩ = cs[j]? := by
 simp [World.cell?, h]
def lookG : List (Nat × V) → Nat → Option V
 | [], _ => none
 | p :: r, g => if p.1 = g then some p.2 else lookG r g
theorem lookG_mem : ∀ {l : List (Nat × V)} {g : Nat} {x : V}, lookG l g = some x → (g, x) ∈ l
 | [], _, _, h => by cases h
 | p :: r, g, x, h => by
   rw [lookG] at h
   split at h
   ·next he => cases h; subst he; exact List.mem_cons_self
   ·exact List.mem_cons_of_mem _ (lookG_mem h)
theorem GL.below {n : Nat} {w w' : World} (h : GL w) (hb : Below n w w') (hn : w.heap.size ≤ n) : GL w' := fun p hp => by
 obtain ⟨h1, cs, h2, h3⟩ := h p hp
 have hc : ∀ b o v, b < w.heap.size → w.cell? ⟨b, o, none⟩ = some v → w'.cell? ⟨b, o, none⟩ = some v := fun b o v hlt hv => by
  rw [← hv]
  exact World.cell?_of_block (w := w) (a := ⟨b, o, none⟩) (hb.block b (by omega))
 obtain ⟨t, f, h3⟩ := h3
 exact ⟨Nat.lt_of_lt_of_le h1 hb.size, cs, Rep.mono (fun b o v hb' hv => hc b o v hb'.1 hv) (fun b hb' => ⟨Nat.lt_of_lt_of_le hb'.1 hb.size, hb'.2⟩) h2, t, f, (hb.block p.1 (by omega)).trans h3⟩
theorem isG_lt {w : World} (h : GL w) {b : Nat} (hb : isG b) : b < w.heap.size := by
 obtain ⟨x, hx⟩ := hb
 exact (h _ hx).1
inductive AV where
 | v (nw : Bool) (x : V)
 | nil
 | own (s off len : Nat)
 | ptr (s i : Nat) (path : List Nat) (off : Nat)
 | el (nw : Bool) (x : V)
 | tup (xs : List AV)
 | fn (f : FuncId) (caps : List AV)
 | knot (nw : Bool) (f : FuncId) (x : V)
 | yld (b : Nat)
 | mth (m : String) (x : AV)
 | emp (isNil : Bool)
 | bsl (s n : Nat)
 | undef
instance : Inhabited AV := ⟨.undef⟩
inductive Blk where
 | buf (e : TypeId) (sz : Nat) (nw : Bool) (xs : List V)
 | box (e : TypeId) (x : AV)
 | dead
instance : Inhabited Blk := ⟨.dead⟩
abbrev Sites := Nat → Option (Nat × Nat)
structure Cx where
 B : Nat
 O : Nat → Prop
def okOf (cx : Cx) (N : Nat) (μ : Sites) (nw : Bool) (b : Nat) : Prop :=
 b < N ∧ (∀ s c, μ s ≠ some (b, c)) ∧ (cx.B ≤ b ∨ nw = false ∧ (cx.O b ∨ isG b))
mutual
def AV.ment (s : Nat) : AV → Bool
 | .own s' _ _ => s' == s
 | .ptr s' _ _ _ => s' == s
 | .bsl s' _ => s' == s
 | .tup xs => AV.ments s xs
 | .fn _ xs => AV.ments s xs
 | .mth _ x => x.ment s
 | _ => false
def AV.ments (s : Nat) : List AV → Bool
 | [] => false
 | x :: r => x.ment s || AV.ments s r
end
def AV.isV : AV → Bool
 | .v _ _ => true
 | _ => false
def Blk.ment (s : Nat) : Blk → Bool
 | .box _ x => x.ment s
 | _ => false
mutual
def RepA (cx : Cx) (w : World) (μ : Sites) (mem : Nat → Blk) : AV → Value → Prop
 | .v nw x, val => ∃ cs, Rep w (okOf cx w.heap.size μ nw) x cs ∧ val = x.toVal cs
 | .nil, val => val = .slice none 0 0
 | .own s off len, val => match mem s with
   | .buf _ sz _ xs => (∃ b cap, μ s = some (b, cap) ∧ off + len ≤ xs.length ∧ val = .slice (some ⟨b, off * sz, none⟩) len (cap - off)) ∨
      (μ s = none ∧ xs = [] ∧ off = 0 ∧ len = 0 ∧ val = .slice none 0 0)
   | _ => True
 | .ptr s i _ off, val => match mem s with
   | .buf _ sz _ _ => ∃ b cap, μ s = some (b, cap) ∧ val = .pointer (some ⟨b, i * sz + off, none⟩)
   | .box _ _ => ∃ b cap, μ s = some (b, cap) ∧ val = .pointer (some ⟨b, off, none⟩)
   | .dead => True
 | .el nw x, val => ∃ b o cs, okOf cx w.heap.size μ nw b ∧ val = .pointer (some ⟨b, o, none⟩) ∧ Rep w (okOf cx w.heap.size μ nw) x cs ∧ ∀ j, j < cs.length → w.cell? ⟨b, o + j, none⟩ = cs[j]?
 | .tup xs, val => ∃ vs : List Value, val = .tuple vs.toArray ∧ RepAL cx w μ mem xs vs
 | .fn f xs, val => ∃ vs : List Value, val = .func (.func f) #[] vs.toArray ∧ RepAL cx w μ mem xs vs
 | .knot nw f x, val => ∃ b o b' o' cs, okOf cx w.heap.size μ nw b ∧ val = .pointer (some ⟨b, o, none⟩) ∧ w.cell? ⟨b, o, none⟩ = some (.func (.func f) #[] #[.pointer (some ⟨b', o', none⟩), val]) ∧
    okOf cx w.heap.size μ nw b' ∧ Rep w (okOf cx w.heap.size μ nw) x cs ∧ ∀ j, j < cs.length → w.cell? ⟨b', o' + j, none⟩ = cs[j]?
 | .yld b, val => val = .func (.yield b) #[] #[]
 | .mth m x, val => ∃ v, val = .func (.method m) #[v] #[] ∧ RepA cx w μ mem x v
 | .emp b, val => ∃ A c, val = .slice A 0 c ∧ A.isNone = b
 | .bsl s n, val => match mem s with
   | .box _ _ => ∃ b cap, μ s = some (b, cap) ∧ val = .slice (some ⟨b, 0, none⟩) n n
   | _ => True
 | .undef, _ => True
def RepAL (cx : Cx) (w : World) (μ : Sites) (mem : Nat → Blk) : List AV → List Value → Prop
 | [], vs => vs = []
 | x :: r, vs => ∃ v vr, vs = v :: vr ∧ RepA cx w μ mem x v ∧ RepAL cx w μ mem r vr
end
def RepB (cx : Cx) (w : World) (μ : Sites) (mem : Nat → Blk) (s : Nat) : Blk → Prop
 | .dead => μ s = none
 | .buf e sz nw xs => (μ s = none ∧ xs = []) ∨ ∃ b cap cur, μ s = some (b, cap) ∧ w.heap[b]? = some (.cells cur e (0, 0)) ∧ xs.length ≤ cap ∧ cap ≤ maxLen ∧ cur.size = cap * sz ∧
    RepRow w (okOf cx w.heap.size μ nw) b sz 0 xs
 | .box e x => ∃ b cap cur val, μ s = some (b, cap) ∧ w.heap[b]? = some (.cells cur e (0, 0)) ∧ RepA cx w μ mem x val ∧ cur = val.cells ∧ (x.isV = false → val.oneCell' = true)
structure SitesOk (cx : Cx) (w : World) (μ : Sites) : Prop where
 lo : ∀ s b c, μ s = some (b, c) → cx.B ≤ b ∧ b < w.heap.size
 inj : ∀ s s' b c c', μ s = some (b, c) → μ s' = some (b, c') → s = s'
structure St where
 nt : Nat
 env : List (Nat × AV)
 mem : List (Nat × Blk)
 root : List (AV × Value) := []
 fix : List (Nat × Obj) := []
 defs : List Nat := []
def look {α : Type} [Inhabited α] : List (Nat × α) → Nat → α
 | [], _ => default
 | p :: r, t => if p.1 = t then p.2 else look r t
def St.get (σ : St) (t : Nat) : AV := look σ.env t
def St.at (σ : St) (s : Nat) : Blk := look σ.mem s
structure RelM (cx : Cx) (w0 : World) (σ : St) (tmps : Array Value) (w : World) (μ : Sites) : Prop where
 below : Below w0.heap.size w0 w
 hB : w0.heap.size = cx.B
 gl : GL w0
 size : tmps.size = σ.nt
 sites : SitesOk cx w μ
 mem : ∀ s, RepB cx w μ σ.at s (σ.at s)
 env : ∀ t, RepA cx w μ σ.at (σ.get t) (tmps.getD t undef)
 roots : ∀ p ∈ σ.root, RepA cx w μ σ.at p.1 p.2
 fix : ∀ p ∈ σ.fix, w.heap[p.1]? = some p.2 ∧ p.2.isCells = false
def DefOk (B : Nat) (fix : List (Nat × Obj)) (Ds : List Nat) (ds : List Deferred) : Prop :=
 Ds.Nodup ∧ ds = Ds.map (fun D => { target := .collected D, args := #[] }) ∧ ∀ D ∈ Ds, B ≤ D ∧ (D, Obj.deferred (some [])) ∈ fix
theorem DefOk.nil {B : Nat} {fix : List (Nat × Obj)} : DefOk B fix [] [] := ⟨List.nodup_nil, rfl, fun _ h => by cases h⟩
theorem RelM.glw {cx : Cx} {w0 w : World} {σ : St} {tmps : Array Value} {μ : Sites} (h : RelM cx w0 σ tmps w μ) : GL w := h.gl.below h.below (Nat.le_refl _)
def Rel (cx : Cx) (w0 : World) (σ : St) (a : Act) (w : World) : Prop := DefOk cx.B σ.fix σ.defs a.defers ∧ ∃ μ, RelM cx w0 σ a.tmps w μ
structure Goes (w : World) (μ : Sites) (w' : World) (μ' : Sites) : Prop where
 size : w.heap.size ≤ w'.heap.size
 cell : ∀ b o v, (∀ s c, μ s ≠ some (b, c)) → w.cell? ⟨b, o, none⟩ = some v → w'.cell? ⟨b, o, none⟩ = some v
 blocks : ∀ s b c, μ' s = some (b, c) → (∃ s' c', μ s' = some (b, c')) ∨ w.heap.size ≤ b
 other : ∀ (b : Nat) (o : Obj), w.heap[b]? = some o → o.isCells = false → w'.heap[b]? = some o
structure GoesC (w : World) (μ : Sites) (w' : World) (μ' : Sites) : Prop where
 size : w.heap.size ≤ w'.heap.size
 cell : ∀ b o v, (∀ s c, μ s ≠ some (b, c)) → w.cell? ⟨b, o, none⟩ = some v → w'.cell? ⟨b, o, none⟩ = some v
 blocks : ∀ s b c, μ' s = some (b, c) → (∃ s' c', μ s' = some (b, c')) ∨ w.heap.size ≤ b
theorem Goes.c {w : World} {μ : Sites} {w' : World} {μ' : Sites} (h : Goes w μ w' μ') : GoesC w μ w' μ' := ⟨h.size, h.cell, h.blocks⟩
instance {w : World} {μ : Sites} {w' : World} {μ' : Sites} : CoeOut (Goes w μ w' μ') (GoesC w μ w' μ') := ⟨Goes.c⟩
section
variable {cx : Cx} {w w' : World} {μ μ' : Sites} {mem mem' : Nat → Blk}
theorem okOf_goes (h : GoesC w μ w' μ') {nw : Bool} {b : Nat} (hb : okOf cx w.heap.size μ nw b) : okOf cx w'.heap.size μ' nw b := by
 refine ⟨Nat.lt_of_lt_of_le hb.1 h.size, fun s c hs => ?_, hb.2.2⟩
 rcases h.blocks s b c hs with ⟨s', c', h1⟩ | h1
 ·exact hb.2.1 s' c' h1
 ·exact absurd hb.1 (by omega)
theorem okOf_weak {N : Nat} {nw nw' : Bool} (hn : nw' = true → nw = true) {b : Nat} (hb : okOf cx N μ nw b) : okOf cx N μ nw' b :=
 ⟨hb.1, hb.2.1, hb.2.2.imp id fun h => ⟨by cases nw' <;> simp_all, h.2⟩⟩
theorem Rep.goes (h : GoesC w μ w' μ') {nw : Bool} {x : V} {cs : List Value} (hr : Rep w (okOf cx w.heap.size μ nw) x cs) : Rep w' (okOf cx w'.heap.size μ' nw) x cs :=
 Rep.mono (fun b o v hb hc => h.cell b o v hb.2.1 hc) (fun _ hb => okOf_goes h hb) hr
theorem Rep.weak {N : Nat} {nw nw' : Bool} (hn : nw' = true → nw = true) {x : V} {cs : List Value} (hr : Rep w (okOf cx N μ nw) x cs) : Rep w (okOf cx N μ nw') x cs :=
 Rep.mono (fun _ _ _ _ hc => hc) (fun _ hb => okOf_weak hn hb) hr
theorem Rep.up {N : Nat} {nw : Bool} {x : V} {cs : List Value} (hr : Rep w (okOf cx N μ nw) x cs) : Rep w (okOf cx N μ (nw || x.flat)) x cs := by
 cases hf : x.flat with
 | true => exact V.flat_rep hf hr
 | false => rw [Bool.or_false]; exact hr
def Blk.fits : Blk → Blk → Prop
 | _, .dead => True
 | .buf _ sz _ xs, .buf _ sz' _ xs' => sz' = sz ∧ xs'.length = xs.length
 | .box _ _, .box _ _ => True
 | _, _ => False
theorem Blk.fits_refl (b : Blk) : b.fits b := by cases b <;> simp [Blk.fits]
mutual
theorem RepA.goes (h : GoesC w μ w' μ') : ∀ {x : AV} {val : Value}, (∀ s, x.ment s = true → mem' s = .dead ∨ (μ' s = μ s ∧ (mem s).fits (mem' s))) → RepA cx w μ mem x val → RepA cx w' μ' mem' x val
 | .v nw x, val, hm, hr => by
   rw [RepA] at hr ⊢
   obtain ⟨cs, h1, h2⟩ := hr
   exact ⟨cs, Rep.goes h h1, h2⟩
 | .nil, val, hm, hr => by rw [RepA] at hr ⊢; exact hr
 | .own s off len, val, hm, hr => by
   rw [RepA] at hr ⊢
   rcases hm s (by simp [AV.ment]) with hd | ⟨he, hf⟩
   ·rw [hd]; trivial
   ·cases h1 : mem s <;> cases h2 : mem' s <;> simp only [h1, h2, Blk.fits] at hr hf ⊢
    obtain ⟨rfl, hl⟩ := hf
    rcases hr with ⟨b, cap, h3, h4, h5⟩ | ⟨h3, h4, h5, h6, h7⟩
    ·exact .inl ⟨b, cap, he.trans h3, by omega, h5⟩
    ·refine .inr ⟨he.trans h3, ?_, h5, h6, h7⟩
     rw [h4] at hl
     exact List.eq_nil_of_length_eq_zero hl
 | .ptr s i path off, val, hm, hr => by
   rw [RepA] at hr ⊢
   rcases hm s (by simp [AV.ment]) with hd | ⟨he, hf⟩
   ·rw [hd]; trivial
   ·cases h1 : mem s <;> cases h2 : mem' s <;> simp only [h1, h2, Blk.fits] at hr hf ⊢
    ·obtain ⟨b, cap, h3, h4⟩ := hr
     obtain ⟨rfl, hl⟩ := hf
     exact ⟨b, cap, he.trans h3, h4⟩
    ·obtain ⟨b, cap, h3, h4⟩ := hr
     exact ⟨b, cap, he.trans h3, h4⟩
 | .el nw x, val, hm, hr => by
   rw [RepA] at hr ⊢
   obtain ⟨b, o, cs, h1, h2, h3, h4⟩ := hr
   refine ⟨b, o, cs, okOf_goes h h1, h2, Rep.goes h h3, fun j hj => ?_⟩
   have h5 := h4 j hj
   rw [List.getElem?_eq_getElem hj] at h5 ⊢
   exact h.cell _ _ _ h1.2.1 h5
 | .tup xs, val, hm, hr => by
   rw [RepA] at hr ⊢
   obtain ⟨vs, h1, h2⟩ := hr
   exact ⟨vs, h1, RepAL.goes h (fun s hs => hm s (by rw [AV.ment]; exact hs)) h2⟩
 | .fn f xs, val, hm, hr => by
   rw [RepA] at hr ⊢
   obtain ⟨vs, h1, h2⟩ := hr
   exact ⟨vs, h1, RepAL.goes h (fun s hs => hm s (by rw [AV.ment]; exact hs)) h2⟩
 | .knot nw f x, val, hm, hr => by
   rw [RepA] at hr ⊢
   obtain ⟨b, o, b', o', cs, h1, h2, h3, h4, h5, h6⟩ := hr
   refine ⟨b, o, b', o', cs, okOf_goes h h1, h2, h.cell _ _ _ h1.2.1 h3, okOf_goes h h4, Rep.goes h h5, fun j hj => ?_⟩
   have h7 := h6 j hj
   rw [List.getElem?_eq_getElem hj] at h7 ⊢
   exact h.cell _ _ _ h4.2.1 h7
 | .yld b, val, hm, hr => by rw [RepA] at hr ⊢; exact hr
 | .mth m x, val, hm, hr => by
   rw [RepA] at hr ⊢
   obtain ⟨v, h1, h2⟩ := hr
   exact ⟨v, h1, RepA.goes h (fun s hs => hm s (by rw [AV.ment]; exact hs)) h2⟩
 | .emp b, val, hm, hr => by rw [RepA] at hr ⊢; exact hr
 | .bsl s n, val, hm, hr => by
   rw [RepA] at hr ⊢
   rcases hm s (by simp [AV.ment]) with hd | ⟨he, hf⟩
   ·rw [hd]; trivial
   ·cases h1 : mem s <;> cases h2 : mem' s <;> simp only [h1, h2, Blk.fits] at hr hf ⊢
    obtain ⟨b, cap, h3, h4⟩ := hr
    exact ⟨b, cap, he.trans h3, h4⟩
 | .undef, val, hm, hr => by rw [RepA]; trivial
theorem RepAL.goes (h : GoesC w μ w' μ') : ∀ {xs : List AV} {vs : List Value}, (∀ s, AV.ments s xs = true → mem' s = .dead ∨ (μ' s = μ s ∧ (mem s).fits (mem' s))) → RepAL cx w μ mem xs vs → RepAL cx w' μ' mem' xs vs
 | [], vs, _, hr => by rw [RepAL] at hr ⊢; exact hr
 | x :: r, vs, hm, hr => by
   rw [RepAL] at hr ⊢
   obtain ⟨v, vr, h0, h1, h2⟩ := hr
   exact ⟨v, vr, h0, RepA.goes h (fun s hs => hm s (by rw [AV.ments, hs, Bool.true_or])) h1, RepAL.goes h (fun s hs => hm s (by rw [AV.ments, hs, Bool.or_true])) h2⟩
end
theorem RepRow.goes (h : GoesC w μ w' μ') {nw : Bool} {b sz : Nat} : ∀ {o : Nat} {xs : List V}, (∀ o v, w.cell? ⟨b, o, none⟩ = some v → w'.cell? ⟨b, o, none⟩ = some v) →
 RepRow w (okOf cx w.heap.size μ nw) b sz o xs → RepRow w' (okOf cx w'.heap.size μ' nw) b sz o xs
 | _, [], _, _ => by rw [RepRow]; trivial
 | o, x :: r, hc, hr => by
   rw [RepRow] at hr ⊢
   obtain ⟨⟨a, h1, h2, h3⟩, h4⟩ := hr
   refine ⟨⟨a, h1, fun j hj => ?_, Rep.goes h h3⟩, RepRow.goes h hc h4⟩
   have h5 := h2 j hj
   rw [List.getElem?_eq_getElem (by omega)] at h5 ⊢
   exact hc _ _ h5
theorem RepB.goes (h : GoesC w μ w' μ') {s : Nat} {x : Blk} (hm : ∀ t, x.ment t = true → mem' t = .dead ∨ (μ' t = μ t ∧ (mem t).fits (mem' t))) (hs : μ' s = μ s) (hb : ∀ b c, μ s = some (b, c) → w'.heap[b]? = w.heap[b]?)
 (hr : RepB cx w μ mem s x) : RepB cx w' μ' mem' s x := by
 cases x with
 | dead => exact hs.trans hr
 | buf e sz nw xs =>
   rcases hr with ⟨h1, h2⟩ | ⟨b, cap, cur, h1, h2, h3, h4, h5, h6⟩
   ·exact .inl ⟨hs.trans h1, h2⟩
   ·refine .inr ⟨b, cap, cur, hs.trans h1, (hb b cap h1).trans h2, h3, h4, h5, RepRow.goes h (fun o v hv => ?_) h6⟩
    rw [← hv]
    exact World.cell?_of_block (w := w) (a := ⟨b, o, none⟩) (hb b cap h1)
 | box e y =>
   obtain ⟨b, cap, cur, val, h1, h2, h3, h4⟩ := hr
   exact ⟨b, cap, cur, val, hs.trans h1, (hb b cap h1).trans h2, RepA.goes h hm h3, h4⟩
end
def tsz (P : Program) (t : TypeId) : Option Nat := (P.info? t).map (·.size)
def tby (P : Program) (t : TypeId) : Option Nat := (P.info? t).map (·.bytes)
def elt (P : Program) (t : TypeId) : Option TypeId := match P.underlying t with | some (.slice e) => some e | _ => none
def esz (P : Program) (t : TypeId) : Option Nat := (elt P t).bind (tsz P)
def ikd (P : Program) (t : TypeId) : Option IntKind := match P.underlying t with | some (.int k) => some k | _ => none
def aggT (P : Program) (t : TypeId) : Option Bool := (P.underlying t).map fun d => match d with | .struct _ | .array _ _ => true | _ => false
def fld (P : Program) (t : TypeId) (j : Nat) : Option (Nat × Nat × Bool) := match P.underlying t with
 | some (.struct fs) => match fs[j]? with
   | some f => match tsz P f.type, aggT P f.type with
     | some z, some g => some (f.offset, z, g)
     | _, _ => none
   | none => none
 | _ => none
def arrT (P : Program) (t : TypeId) : Option (Nat × Nat × Bool) := match P.underlying t with
 | some (.array n e) => match tsz P e, aggT P e with
   | some z, some g => some (n, z, g)
   | _, _ => none
 | _ => none
def boolT (P : Program) (t : TypeId) : Bool := match P.underlying t with | some .bool => true | _ => false
def ifcT (P : Program) (t : TypeId) : Option Bool := (P.underlying t).map fun d => match d with | .interface _ => true | _ => false
def V.isAgg : V → Bool
 | .agg _ => true
 | _ => false
def V.atP : List Nat → V → Option V
 | [], x => some x
 | j :: r, .agg fs => match fs[j]? with
   | some y => V.atP r y
   | none => none
 | _, _ => none
def V.offP : List Nat → V → Nat
 | j :: r, .agg fs => V.off fs j + (match fs[j]? with
   | some y => V.offP r y
   | none => 0)
 | _, _ => 0
def V.setP : List Nat → V → V → V
 | [], _, y => y
 | j :: r, .agg fs, y => .agg (match fs[j]? with
   | some z => fs.set j (V.setP r z y)
   | none => fs)
 | _, x, _ => x
section
variable {w : World} {ok : Nat → Prop}
theorem Rep.atP : ∀ {path : List Nat} {x y : V} {cs : List Value}, Rep w ok x cs → V.atP path x = some y → ∃ p c q, cs = p ++ c ++ q ∧ p.length = V.offP path x ∧ Rep w ok y c
 | [], x, y, cs, h, hy => by
   rw [V.atP, Option.some.injEq] at hy
   subst hy
   exact ⟨[], cs, [], by simp, by cases x <;> rfl, h⟩
 | j :: r, x, y, cs, h, hy => by
   cases x <;> simp only [V.atP] at hy <;> try cases hy
   rename_i fs
   cases hz : fs[j]? with
   | none => rw [hz] at hy; cases hy
   | some z =>
     rw [hz] at hy
     rw [Rep] at h
     obtain ⟨p, a, q, rfl, h1, h2⟩ := RepL.get h hz
     obtain ⟨p', c, q', rfl, h3, h4⟩ := Rep.atP h2 hy
     exact ⟨p ++ p', c, q' ++ q, by simp, by rw [List.length_append, h1, h3, V.offP, hz], h4⟩
theorem Rep.setP : ∀ {path : List Nat} {x y y' : V} {cs p c q c' : List Value}, Rep w ok x cs → V.atP path x = some y → cs = p ++ c ++ q → p.length = V.offP path x → c.length = y.size → Rep w ok y' c' → y'.size = y.size →
 Rep w ok (V.setP path x y') (p ++ c' ++ q) ∧ (V.setP path x y').size = x.size
 | [], x, y, y', cs, p, c, q, c', h, hy, hcs, hp, hc, h', hs => by
   rw [V.atP, Option.some.injEq] at hy
   subst hy
   have hp' : p = [] := List.eq_nil_of_length_eq_zero (by rw [hp]; cases x <;> rfl)
   subst hp'
   have hl := Rep.length h
   have hq : q = [] := by
    have := congrArg List.length hcs
    simp only [List.nil_append, List.length_append] at this
    exact List.eq_nil_of_length_eq_zero (by omega)
   subst hq
   rw [V.setP]
   exact ⟨by simpa using h', hs⟩
 | j :: r, x, y, y', cs, p, c, q, c', h, hy, hcs, hp, hc, h', hs => by
   cases x <;> simp only [V.atP] at hy <;> try cases hy
   rename_i fs
   cases hz : fs[j]? with
   | none => rw [hz] at hy; cases hy
   | some z =>
     rw [hz] at hy
     have h0 := h
     rw [Rep] at h
     obtain ⟨p1, a, q1, he, h1, h2⟩ := RepL.get h hz
     obtain ⟨p2, c2, q2, rfl, h3, h4⟩ := Rep.atP h2 hy
     rw [V.offP, hz] at hp
     have hpl : p.length = (p1 ++ p2).length := by rw [List.length_append, hp, h1, h3]
     have e1 : p ++ (c ++ q) = (p1 ++ p2) ++ (c2 ++ (q2 ++ q1)) := by rw [← List.append_assoc, ← hcs, he]; simp
     obtain ⟨rfl, e2⟩ := List.append_inj e1 hpl
     obtain ⟨rfl, rfl⟩ := List.append_inj e2 (by rw [hc, Rep.length h4])
     have ih := Rep.setP h2 hy rfl h3 hc h' hs
     rw [V.setP, hz, Rep]
     refine ⟨?_, ?_⟩
     ·have := RepL.set (y := V.setP r z y') h hz he h1 (Rep.length h2) ih.1
      simpa using this
     ·have := RepL.length (RepL.set (y := V.setP r z y') h hz he h1 (Rep.length h2) ih.1)
      rw [V.size, ← this, ← Rep.length h0, he]
      have e3 := Rep.length ih.1
      rw [ih.2, ← Rep.length h2] at e3
      simp only [List.length_append] at e3 ⊢
      omega
end
section
variable {P : Program} {w : World}
theorem addr_add (b o n : Nat) : (⟨b, o, none⟩ : Addr).add n = ⟨b, o + n, none⟩ := by unfold Addr.add; split <;> simp_all
theorem r_size {t : TypeId} {n : Nat} (h : tsz P t = some n) : (sizeOf t).run P w = .ok n w := by
 unfold tsz at h
 cases hi : P.info? t with
 | none => rw [hi] at h; cases h
 | some i => rw [hi] at h; cases h; simp [sizeOf, typeInfo, hi]
theorem r_agg {t : TypeId} {b : Bool} (h : aggT P t = some b) : (isAgg t).run P w = .ok b w := by
 unfold aggT at h
 cases hd : P.underlying t with
 | none => rw [hd] at h; cases h
 | some d =>
   rw [hd] at h
   simp only [Option.map_some, Option.some.injEq] at h
   subst h
   simp only [isAgg, Sem.run_bind, run_underlying hd, Result.andThen_ok]
   cases d <;> rfl
theorem r_loadVar {t : TypeId} {y : V} {c : List Value} {b o : Nat} {ok : Nat → Prop} (hs : tsz P t = some y.size) (hg : aggT P t = some y.isAgg) (hr : Rep w ok y c)
 (hc : ∀ j, j < c.length → w.cell? ⟨b, o + j, none⟩ = c[j]?) : (loadVar t ⟨b, o, none⟩).run P w = .ok (y.toVal c) w := by
 have hl := Rep.length hr
 simp only [loadVar, Sem.run_bind, r_agg hg, Result.andThen_ok]
 have hcs : (loadCells ⟨b, o, none⟩ c.length).run P w = .ok c.toArray w := run_loadCells_list w ⟨b, o, none⟩ c (fun j v hv => by
  have hj := (List.getElem?_eq_some_iff.1 hv).1
  rw [addr_add, hc j hj, hv])
 by_cases hy : y.isAgg = true
 ·obtain ⟨fs, rfl⟩ : ∃ fs, y = .agg fs := by cases y <;> first | exact ⟨_, rfl⟩ | cases hy
  simp only [hy, if_true, Sem.run_bind, r_size hs, Result.andThen_ok, ← hl, hcs]
  rfl
 ·have h1 : y.size = 1 := by cases y <;> first | rfl | (exact absurd rfl hy)
  have hl1 : c.length = 1 := by rw [hl, h1]
  obtain ⟨v, rfl⟩ : ∃ v, c = [v] := List.length_eq_one_iff.1 hl1
  have hv : w.cell? ⟨b, o, none⟩ = some v := by simpa using hc 0 (by simp)
  simp only [hy, if_false, run_load, hv, Bool.false_eq_true]
  cases y <;> first | rfl | (exact absurd rfl hy)
theorem r_part {t : TypeId} {y : V} {p c q : List Value} {ok : Nat → Prop} (hs : tsz P t = some y.size) (hg : aggT P t = some y.isAgg) (hr : Rep w ok y c) :
 (part t (p ++ c ++ q).toArray p.length).run P w = .ok (y.toVal c) w := by
 have hl := Rep.length hr
 simp only [part, Sem.run_bind, r_agg hg, Result.andThen_ok]
 by_cases hy : y.isAgg = true
 ·obtain ⟨fs, rfl⟩ : ∃ fs, y = .agg fs := by cases y <;> first | exact ⟨_, rfl⟩ | cases hy
  simp only [hy, if_true, Sem.run_bind, r_size hs, Result.andThen_ok, ← hl, Sem.run_pure]
  simp [V.toVal]
 ·have h1 : y.size = 1 := by cases y <;> first | rfl | (exact absurd rfl hy)
  have hl1 : c.length = 1 := by rw [hl, h1]
  obtain ⟨v, rfl⟩ : ∃ v, c = [v] := List.length_eq_one_iff.1 hl1
  simp only [hy, if_false, Bool.false_eq_true]
  simp
  cases y <;> first | rfl | (exact absurd rfl hy)
end
structure Px (P : Program) where
 zt : TypeId → Option AV
 mt : TypeId → String → Option FuncId
 fz : Nat → Bool
 mok : ∀ t m f, mt t m = some f → ∀ (v : Value) (w : World), (method (P.types.size + Made.depth) t v m).run P w = .ok (f, v) w
 zok : ∀ t x, zt t = some x → ∃ i z, P.info? t = some i ∧ i.zero = some z ∧ z.cells.size = i.size ∧ (x.isV = false → z.oneCell' = true) ∧ ∀ cx w μ mem, RepA cx w μ mem x z
structure Tab where
 zt : TypeId → Option AV
 mt : TypeId → String → Option FuncId
 fz : Nat → Bool
def Px.tab {P : Program} (p : Px P) : Tab := ⟨p.zt, p.mt, p.fz⟩
def constA : Value → AV
 | .int k n => .v true (.int k n)
 | .bool b => .v true (.bool b)
 | .string s => .v true (.str s)
 | .slice none 0 0 => .nil
 | .nilIface => .v true .niface
 | .nilFunc => .v true .nfun
 | _ => .undef
def St.opv (σ : St) : Operand → AV
 | .tmp t => σ.get t
 | .const v => constA v
 | .func f => .fn f []
 | .global g => match lookG GLOB g with | some x => .el false x | none => .undef
def bitI (op : BinOp) (k : IntKind) (x y : Int) : Int :=
 let a := BitVec.ofInt k.bits x
 let b := BitVec.ofInt k.bits y
 k.wrap (match op with
  | .and => a &&& b
  | .or => a ||| b
  | .xor => a ^^^ b
  | _ => a &&& ~~~b).toNat
def binI (op : BinOp) (k k' : IntKind) (x y : Int) : Option V :=
 match op with
 | .shl => if y < 0 then none else some (.int k (k.wrap (x * 2 ^ min y.toNat k.bits)))
 | .shr => if y < 0 then none else some (.int k (x.fdiv (2 ^ min y.toNat k.bits)))
 | op => if k = k' then (match op with
   | .add => some (.int k (k.wrap (x + y)))
   | .sub => some (.int k (k.wrap (x - y)))
   | .mul => some (.int k (k.wrap (x * y)))
   | .quo => if y = 0 then none else some (.int k (k.wrap (x.tdiv y)))
   | .rem => if y = 0 then none else some (.int k (x.tmod y))
   | .and => some (.int k (bitI .and k x y))
   | .or => some (.int k (bitI .or k x y))
   | .xor => some (.int k (bitI .xor k x y))
   | .andNot => some (.int k (bitI .andNot k x y))
   | .eql => some (.bool (decide (x = y)))
   | .neq => some (.bool (!decide (x = y)))
   | .lss => some (.bool (decide (x < y)))
   | .leq => some (.bool (decide (x ≤ y)))
   | .gtr => some (.bool (decide (y < x)))
   | .geq => some (.bool (decide (y ≤ x)))
   | _ => none) else none
def nilA (P : Program) (op : BinOp) (t : TypeId) (b : Bool) : Option AV :=
 if (elt P t).isSome = true then (match op with
  | .eql => some (.v true (.bool b))
  | .neq => some (.v true (.bool !b))
  | _ => none) else none
def pairT (P : Program) (t : TypeId) : Bool := match P.underlying t with
 | some (.struct fs) => match fs.toList with
   | [f, g] => f.name != "_" && g.name != "_" && decide (f.offset = 0) && decide (g.offset = 1) && (ikd P f.type).isSome && (ikd P g.type).isSome && !P.stoodInHeld t && !(P.eqGuardType P.depth t) &&
      decide (tsz P f.type = some 1) && decide (tsz P g.type = some 1) && decide (aggT P f.type = some false) && decide (aggT P g.type = some false)
   | _ => false
 | _ => false
def binA (P : Program) (op : BinOp) (t : TypeId) : AV → AV → Option AV
 | .v _ (.int k x), .v _ (.int k' y) => (binI op k k' x y).map (.v true)
 | .v _ (.bool x), .v _ (.bool y) => match op with
   | .eql => if boolT P t then some (.v true (.bool (x == y))) else none
   | .neq => if boolT P t then some (.v true (.bool (!(x == y)))) else none
   | _ => none
 | .v _ (.agg [.int k a, .int l b]), .v _ (.agg [.int k' c, .int l' d]) => if pairT P t = true ∧ k = k' ∧ l = l' then (match op with
   | .eql => some (.v true (.bool (decide (a = c) && decide (b = d))))
   | .neq => some (.v true (.bool !(decide (a = c) && decide (b = d))))
   | _ => none) else none
 | .v _ (.str a), .v _ (.str b) => match op with
   | .eql => some (.v true (.bool (a.toList == b.toList)))
   | .neq => some (.v true (.bool !(a.toList == b.toList)))
   | .add => if a.size + b.size ≤ 9223372036854775807 then some (.v true (.str (a ++ b))) else none
   | _ => none
 | .nil, .nil => nilA P op t true
 | .emp b, .nil => nilA P op t b
 | .v _ (.sl _ (_ :: _)), .nil => nilA P op t false
 | _, _ => none
def unA (op : UnOp) : AV → Option AV
 | .v _ (.int k x) => match op with
   | .neg => some (.v true (.int k (k.wrap (0 - x))))
   | .xor => some (.v true (.int k (bitI .xor k (if k.signed then -1 else k.max) x)))
   | _ => none
 | .v _ (.bool b) => match op with
   | .not => some (.v true (.bool !b))
   | _ => none
 | _ => none
section
variable {P : Program} {cx : Cx} {w : World} {μ : Sites} {mem : Nat → Blk}
theorem repA_int {nw : Bool} {k : IntKind} {n : Int} {val : Value} : RepA cx w μ mem (.v nw (.int k n)) val ↔ val = .int k n := by
 simp [RepA, Rep, V.toVal]
theorem repA_bool {nw : Bool} {b : Bool} {val : Value} : RepA cx w μ mem (.v nw (.bool b)) val ↔ val = .bool b := by
 simp [RepA, Rep, V.toVal]
theorem repA_str {nw : Bool} {s : ByteArray} {val : Value} : RepA cx w μ mem (.v nw (.str s)) val ↔ val = .string s := by
 simp [RepA, Rep, V.toVal]
theorem repA_niface {nw : Bool} {val : Value} : RepA cx w μ mem (.v nw .niface) val ↔ val = .nilIface := by
 simp [RepA, Rep, V.toVal]
theorem repA_nfun {nw : Bool} {val : Value} : RepA cx w μ mem (.v nw .nfun) val ↔ val = .nilFunc := by
 simp [RepA, Rep, V.toVal]
theorem repA_nil {val : Value} : RepA cx w μ mem .nil val ↔ val = .slice none 0 0 := by simp [RepA]
theorem constA_ok (v : Value) : RepA cx w μ mem (constA v) v := by
 unfold constA
 split <;> first | exact repA_int.2 rfl | exact repA_bool.2 rfl | exact repA_str.2 rfl | exact repA_nil.2 rfl | exact repA_niface.2 rfl | exact repA_nfun.2 rfl | (rw [RepA]; trivial)
theorem binI_ok {op : BinOp} {k k' : IntKind} {x y : Int} {r : V} (t : TypeId) (h : binI op k k' x y = some r) :
 ∃ v, (binOp op t (.int k x) (.int k' y)).run P w = .ok v w ∧ Rep w (okOf cx w.heap.size μ true) r [v] ∧ r.toVal [v] = v := by
 unfold binI at h
 cases op
 case shl =>
  simp only at h
  split at h <;> cases h
  rename_i hy
  exact ⟨_, by simp [binOp, Op.shift, hy]; rfl, by simp [Rep], rfl⟩
 case shr =>
  simp only at h
  split at h <;> cases h
  rename_i hy
  exact ⟨_, by simp [binOp, Op.shift, hy]; rfl, by simp [Rep], rfl⟩
 all_goals
  simp only at h
  split at h
  next hk =>
   subst hk
   first
   | (split at h
      ·cases h
      ·next hy =>
       cases h
       exact ⟨_, by simp [binOp, Op.intDiv, hy]; rfl, by simp [Rep], rfl⟩)
   | (cases h
      exact ⟨_, by simp only [binOp, ne_eq, not_true_eq_false, if_false]; rfl, by rw [Rep]; try rfl, rfl⟩)
  next => cases h
end
def fitsT (P : Program) (t : TypeId) (y : V) : Prop := tsz P t = some y.size ∧ aggT P t = some y.isAgg
instance (P : Program) (t : TypeId) (y : V) : Decidable (fitsT P t y) := by unfold fitsT; infer_instance
def partA (P : Program) (t : TypeId) (nw : Bool) (x : V) (path : List Nat) (off : Nat) : Option AV :=
 match V.atP path x with
 | some y => if V.offP path x = off ∧ fitsT P t y then some (.v (nw || y.flat) y) else none
 | none => none
def loadA (P : Program) (at_ : Nat → Blk) (t : TypeId) : AV → Option AV
 | .ptr s i path off => match at_ s with
   | .buf _ _ nw xs => match xs[i]? with
     | some x => partA P t nw x path off
     | none => none
   | .box _ (.v nw x) => partA P t nw x path off
   | .box _ X => if path = [] ∧ off = 0 ∧ tsz P t = some 1 ∧ aggT P t = some false then some X else none
   | .dead => none
 | .el nw y => if fitsT P t y then some (.v (nw || y.flat) y) else none
 | .knot nw f x => if aggT P t = some false then some (.fn f [.el nw x, .knot nw f x]) else none
 | _ => none
def liveB : Blk → Bool
 | .dead => false
 | _ => true
def fieldAddrA (P : Program) (at_ : Nat → Blk) (t : TypeId) (j : Nat) : AV → Option AV
 | .ptr s i path off => if liveB (at_ s) = true then (match fld P t j with
   | some (o, z, _) => if z ≠ 0 then some (.ptr s i (path ++ [j]) (off + o)) else none
   | none => none) else none
 | .el nw (.agg fs) => match fs[j]? with
   | some y => (match fld P t j with
     | some (o, z, _) => if z ≠ 0 ∧ o = V.off fs j then some (.el nw y) else none
     | none => none)
   | none => none
 | _ => none
def fieldA (P : Program) (t : TypeId) (j : Nat) : AV → Option AV
 | .v nw (.agg fs) => match fs[j]? with
   | some y => if fld P t j = some (V.off fs j, y.size, y.isAgg) then some (.v (nw || y.flat) y) else none
   | none => none
 | _ => none
def indexAddrA (P : Program) (at_ : Nat → Blk) (t : TypeId) : AV → AV → Option AV
 | .v nw (.sl sz xs), .v _ (.int _ n) => if esz P t = some sz ∧ 0 ≤ n ∧ n < xs.length then (xs[n.toNat]?).map (.el nw) else none
 | .own s off len, .v _ (.int _ n) => match at_ s with
   | .buf _ sz _ _ => if esz P t = some sz ∧ 0 ≤ n ∧ n < len then some (.ptr s (off + n.toNat) [] 0) else none
   | _ => none
 | .ptr s i path off, .v _ (.int _ n) => if liveB (at_ s) = true then (match arrT P t with
   | some (len, z, _) => if 0 ≤ n ∧ n < len then some (.ptr s i (path ++ [n.toNat]) (off + n.toNat * z)) else none
   | none => none) else none
 | .el nw (.agg fs), .v _ (.int _ n) => match fs[n.toNat]? with
   | some y => (match arrT P t with
     | some (len, z, _) => if 0 ≤ n ∧ n < len ∧ V.off fs n.toNat = n.toNat * z then some (.el nw y) else none
     | none => none)
   | none => none
 | _, _ => none
def strT (P : Program) (t : TypeId) : Bool := match P.underlying t with | some .string => true | _ => false
def indexA (P : Program) (t : TypeId) : AV → AV → Option AV
 | .v nw (.agg fs), .v _ (.int _ n) => match fs[n.toNat]? with
   | some y => (match arrT P t with
     | some (len, z, g) => if 0 ≤ n ∧ n < len ∧ V.off fs n.toNat = n.toNat * z ∧ y.size = z ∧ y.isAgg = g then some (.v (nw || y.flat) y) else none
     | none => none)
   | none => none
 | .v _ (.str s), .v _ (.int _ n) => if strT P t = true ∧ 0 ≤ n then (match s[n.toNat]? with
   | some b => some (.v true (.int .u8 b.toNat))
   | none => none) else none
 | _, _ => none
def boundA (d : Nat) : Option AV → Option Int
 | none => some d
 | some (.v _ (.int _ n)) => some n
 | _ => none
def sliceA (P : Program) (at_ : Nat → Blk) (t : TypeId) (x : AV) (lo hi mx : Option AV) : Option AV :=
 match x with
 | .v nw (.sl sz xs) => match boundA 0 lo, boundA xs.length hi, boundA xs.length mx with
   | some l, some h, some m => if esz P t = some sz ∧ 0 ≤ l ∧ l ≤ h ∧ h ≤ m ∧ m ≤ xs.length ∧ (mx.isSome = true → hi.isSome = true) then some (.v nw (.sl sz ((xs.take h.toNat).drop l.toNat))) else none
   | _, _, _ => none
 | .own s off len => match at_ s, boundA 0 lo, boundA len hi, mx with
   | .buf _ sz _ _, some l, some h, none => if esz P t = some sz ∧ 0 ≤ l ∧ l ≤ h ∧ h ≤ len ∧ (l = 0 ∨ l < h) then some (.own s (off + l.toNat) (h - l).toNat) else none
   | _, _, _, _ => none
 | .nil => match boundA 0 lo, boundA 0 hi, mx with
   | some l, some h, none => if l = 0 ∧ h = 0 ∧ (esz P t).isSome = true then some .nil else none
   | _, _, _ => none
 | .ptr s _ path off => match at_ s, arrT P t, lo, hi, mx with
   | .box _ _, some (n, _, _), none, none, none => if path = [] ∧ off = 0 then some (.bsl s n) else none
   | _, _, _, _, _ => none
 | .v _ (.str s) => match boundA 0 lo, boundA s.size hi, mx with
   | some l, some h, none => if strT P t = true ∧ 0 ≤ l ∧ l ≤ h ∧ h ≤ s.size then some (.v true (.str (s.extract l.toNat h.toNat))) else none
   | _, _, _ => none
 | _ => none
def lenA (P : Program) (at_ : Nat → Blk) (t : TypeId) : AV → Option AV
 | .v _ (.sl _ xs) => if (elt P t).isSome = true then some (.v true (.int .i64 xs.length)) else none
 | .own s _ len => match at_ s with
   | .buf _ _ _ _ => if (elt P t).isSome = true then some (.v true (.int .i64 len)) else none
   | _ => none
 | .nil => if (elt P t).isSome = true then some (.v true (.int .i64 0)) else none
 | .emp _ => if (elt P t).isSome = true then some (.v true (.int .i64 0)) else none
 | .v _ (.str s) => if strT P t = true then some (.v true (.int .i64 s.size)) else none
 | _ => none
def arrA (P : Program) (t : TypeId) : AV → Option AV
 | .v nw (.sl sz xs) => match arrT P t with
   | some (n, z, _) => if z = sz ∧ n ≤ xs.length ∧ 0 < n then some (.el nw (.agg (xs.take n))) else none
   | none => none
 | _ => none
def bytesV : List V → Option (List UInt8)
 | [] => some []
 | .int .u8 n :: r => if 0 ≤ n ∧ n < 256 then (bytesV r).map (UInt8.ofNat n.toNat :: ·) else none
 | _ => none
def u8T (P : Program) (t : TypeId) : Bool := match elt P t with
 | some e => (match P.underlying e with | some (.int .u8) => true | _ => false)
 | none => false
def strA (P : Program) (at_ : Nat → Blk) (src dst : TypeId) (X : AV) : Option AV :=
 if u8T P src = true ∧ strT P dst = true then (match X with
  | .own s off len => (match at_ s with
    | .buf _ 1 _ xs => (bytesV ((xs.drop off).take len)).map fun l => .v true (.str ⟨l.toArray⟩)
    | _ => none)
  | .nil => some (.v true (.str ⟨#[]⟩))
  | .v _ (.sl 1 xs) => (bytesV xs).map fun l => .v true (.str ⟨l.toArray⟩)
  | _ => none) else none
def minA : List AV → Option AV
 | [.v _ (.int k x), .v _ (.int _ y)] => some (.v true (.int k (if y < x then y else x)))
 | _ => none
def maxA : List AV → Option AV
 | [.v _ (.int k x), .v _ (.int _ y)] => some (.v true (.int k (if x < y then y else x)))
 | [.v _ (.int k x), .v _ (.int _ y), .v _ (.int _ z)] => some (.v true (.int k (if (if x < y then y else x) < z then z else (if x < y then y else x))))
 | _ => none
def AV.isPtr : AV → Bool
 | .ptr _ _ _ _ => true
 | .el _ _ => true
 | _ => false
def coreA (P : Program) (at_ : Nat → Blk) (g : Operand → AV) : Op → Option AV
 | .move x => some (g x)
 | .assign x => some (g x)
 | .pick c x y => match g c with
   | .v _ (.bool t) => some (bif t then g x else g y)
   | _ => none
 | .binOp op t x y _ => binA P op t (g x) (g y)
 | .unOp op _ x => unA op (g x)
 | .convert src dst x => match g x, ikd P dst, (P.underlying src).isSome with
   | .v _ (.int _ n), some k, true => some (.v true (.int k (k.wrap n)))
   | X, _, _ => strA P at_ src dst X
 | .extract x j => match g x with
   | .tup xs => xs[j]?
   | _ => none
 | .load t p => loadA P at_ t (g p)
 | .fieldAddr t x j => fieldAddrA P at_ t j (g x)
 | .field t x j => fieldA P t j (g x)
 | .indexAddr t x i => indexAddrA P at_ t (g x) (g i)
 | .index t x i => indexA P t (g x) (g i)
 | .slice t x lo hi mx => sliceA P at_ t (g x) (lo.map g) (hi.map g) (mx.map g)
 | .sliceToArrayPointer t x => arrA P t (g x)
 | .makeInterface t x => match g x, ifcT P t with
   | .v nw y, some false => some (.v nw (.iface t y))
   | _, _ => none
 | .nilCheck x => match g x with
   | .ptr s i p o => if liveB (at_ s) = true then some (.ptr s i p o) else none
   | .el nw y => some (.el nw y)
   | .v nw (.iface t y) => some (.v nw (.iface t y))
   | _ => none
 | .call c => match c.callee with
   | .builtin .len => match c.args.toList, c.argTypes.toList with
     | [x], [t] => lenA P at_ t (g x)
     | _, _ => none
   | .builtin .min => minA (c.args.toList.map g)
   | .builtin .max => maxA (c.args.toList.map g)
   | _ => none
 | _ => none
section
variable {P : Program} {cx : Cx} {w : World} {μ : Sites} {at_ : Nat → Blk} {e : Operand → Value} {o : Oper}
theorem r_equal_bool {t : TypeId} {a b : Bool} (hu : P.underlying t = some .bool) : (Op.equal t (.bool a) (.bool b)).run P w = .ok (a == b) w := by
 show (Op.equalIn (9999 + 1) t _ _).run P w = _
 rw [Op.equalIn]
 simp only [Sem.run_bind, run_underlying hu, Result.andThen_ok, Sem.run_pure]
theorem r_equal_nil {t el : TypeId} {A : Option Addr} {n c : Nat} (hu : P.underlying t = some (.slice el)) : (Op.equal t (.slice A n c) (.slice none 0 0)).run P w = .ok A.isNone w := by
 show (Op.equalIn (9999 + 1) t _ _).run P w = _
 rw [Op.equalIn]
 cases A <;> simp only [Sem.run_bind, run_underlying hu, Result.andThen_ok, Sem.run_pure, Option.isNone_none, Option.isNone_some]
theorem x_nil {op : BinOp} {t yt : TypeId} {x y : Operand} {Z : AV} {b : Bool} {A : Option Addr} {n c : Nat} (ho : o.op = .binOp op t x y yt) (h : nilA P op t b = some Z) (hx : e x = .slice A n c) (hy : e y = .slice none 0 0) (hb : b = A.isNone) :
 ∃ v, (execOp e o).run P w = .ok (.value v) w ∧ RepA cx w μ at_ Z v := by
 unfold nilA at h
 split at h
 ·next he =>
  obtain ⟨el, he⟩ := Option.isSome_iff_exists.1 he
  have hu : P.underlying t = some (.slice el) := by
   unfold elt at he
   split at he
   ·cases he; assumption
   ·cases he
  have hq : ∀ op, (op = .eql ∨ op = .neq) → (eqGuard op t x y (.slice A n c) (.slice none 0 0)).run P w = .ok () w := by
   intro op hop
   unfold eqGuard
   rcases hop with rfl | rfl <;> simp
  split at h
  ·cases h
   refine ⟨.bool b, ?_, repA_bool.2 rfl⟩
   simp only [execOp, ho, hx, hy]
   rw [Sem.run_bind, Sem.run_bind, hq .eql (.inl rfl), Result.andThen_ok]
   simp only [binOp, Sem.run_bind, r_equal_nil hu, Result.andThen_ok, Sem.run_pure, hb]
  ·cases h
   refine ⟨.bool !b, ?_, repA_bool.2 rfl⟩
   simp only [execOp, ho, hx, hy]
   rw [Sem.run_bind, Sem.run_bind, hq .neq (.inr rfl), Result.andThen_ok]
   simp only [binOp, Sem.run_bind, r_equal_nil hu, Result.andThen_ok, Sem.run_pure, hb]
  ·cases h
 ·cases h
theorem pair_info {t : TypeId} (h : pairT P t = true) : ∃ f g, P.underlying t = some (.struct #[f, g]) ∧ f.name ≠ "_" ∧ g.name ≠ "_" ∧ f.offset = 0 ∧ g.offset = 1 ∧ (∃ k, P.underlying f.type = some (.int k)) ∧ (∃ k, P.underlying g.type = some (.int k)) ∧ P.stoodInHeld t = false ∧ P.eqGuardType P.depth t = false ∧
 aggT P f.type = some false ∧ aggT P g.type = some false := by
 unfold pairT at h
 split at h
 ·next fs hu =>
  split at h
  ·next f g hfs =>
   simp only [Bool.and_eq_true, decide_eq_true_eq, Bool.not_eq_true', bne_iff_ne] at h
   obtain ⟨⟨⟨⟨⟨⟨⟨⟨⟨⟨⟨h1, h2⟩, h3⟩, h4⟩, h5⟩, h6⟩, h7⟩, h8⟩, h9⟩, h10⟩, h11⟩, h12⟩ := h
   have ik : ∀ u, (ikd P u).isSome = true → ∃ k, P.underlying u = some (.int k) := fun u hu => by
    unfold ikd at hu
    split at hu
    ·exact ⟨_, by assumption⟩
    ·cases hu
   exact ⟨f, g, by rw [hu, ← hfs], h1, h2, h3, h4, ik _ h5, ik _ h6, h7, h8, h11, h12⟩
  ·cases h
 ·cases h
theorem r_equal_int {t : TypeId} {k : IntKind} {d : Nat} {k0 : IntKind} {a b : Int} (hu : P.underlying t = some (.int k0)) : (Op.equalIn (d + 1) t (.int k a) (.int k b)).run P w = .ok (a == b) w := by
 rw [Op.equalIn]
 simp only [Sem.run_bind, run_underlying hu, Result.andThen_ok, if_true, Sem.run_pure]
theorem r_equal_pair {t : TypeId} {k l : IntKind} {a b c d : Int} (h : pairT P t = true) : (Op.equal t (.agg #[.int k a, .int l b]) (.agg #[.int k c, .int l d])).run P w = .ok (decide (a = c) && decide (b = d)) w := by
 obtain ⟨f, g, hu, h1, h2, h3, h4, ⟨k1, h5⟩, ⟨k2, h6⟩, h7, h8, h9, h10⟩ := pair_info h
 have p1 : ∀ (x y : Value), (part f.type #[x, y] 0).run P w = .ok x w := fun x y => by
  simp only [part, Sem.run_bind, r_agg h9, Result.andThen_ok]
  rfl
 have p2 : ∀ (x y : Value), (part g.type #[x, y] 1).run P w = .ok y w := fun x y => by
  simp only [part, Sem.run_bind, r_agg h10, Result.andThen_ok]
  rfl
 show (Op.equalIn (9999 + 1) t _ _).run P w = _
 rw [Op.equalIn]
 simp only [Sem.run_bind, run_underlying hu, Result.andThen_ok, run_program, h7, Bool.false_eq_true, if_false]
 simp [h1, h2, h3, h4, Sem.run_bind, p1, p2, r_equal_int (d := 9998) h5, r_equal_int (d := 9998) h6, Result.andThen]
 by_cases hac : a = c
 ·rw [if_pos hac]
  by_cases hbd : b = d
  ·simp [Sem.run_bind, p2, r_equal_int (d := 9998) h6, Result.andThen, hac, hbd]
  ·simp [Sem.run_bind, p2, r_equal_int (d := 9998) h6, Result.andThen, hac, hbd]
 ·rw [if_neg hac]
  simp [hac]
theorem x_bin {op : BinOp} {t yt : TypeId} {x y : Operand} {X Y Z : AV} (ho : o.op = .binOp op t x y yt) (h : binA P op t X Y = some Z) (hx : RepA cx w μ at_ X (e x)) (hy : RepA cx w μ at_ Y (e y)) :
 ∃ v, (execOp e o).run P w = .ok (.value v) w ∧ RepA cx w μ at_ Z v := by
 unfold binA at h
 split at h
 ·next k a _ k' b =>
  rw [repA_int] at hx hy
  simp only [Option.map_eq_some_iff] at h
  obtain ⟨r, h1, rfl⟩ := h
  obtain ⟨v, h2, h3, h4⟩ := binI_ok (P := P) (cx := cx) (w := w) (μ := μ) t h1
  refine ⟨v, ?_, by rw [RepA]; exact ⟨[v], h3, h4.symm⟩⟩
  simp only [execOp, ho, hx, hy]
  rw [Sem.run_bind, Sem.run_bind]
  have hg : (eqGuard op t x y (.int k a) (.int k' b)).run P w = .ok () w := by
   unfold eqGuard
   cases op <;> simp
  rw [hg, Result.andThen_ok, h2]
  rfl
 ·next a _ b =>
  rw [repA_bool] at hx hy
  have key : ∀ op, boolT P t = true → (op = .eql ∨ op = .neq) → (eqGuard op t x y (.bool a) (.bool b)).run P w = .ok () w ∧
   (binOp op t (.bool a) (.bool b)).run P w = .ok (.bool (if op = .eql then (a == b) else !(a == b))) w := by
   intro op hb hop
   have hu : P.underlying t = some .bool := by
    unfold boolT at hb
    split at hb
    ·assumption
    ·cases hb
   refine ⟨by unfold eqGuard; rcases hop with rfl | rfl <;> simp, ?_⟩
   rcases hop with rfl | rfl
   ·simp only [binOp, Sem.run_bind, r_equal_bool hu, Result.andThen_ok, Sem.run_pure, if_true]
   ·simp only [binOp, Sem.run_bind, r_equal_bool hu, Result.andThen_ok, Sem.run_pure]
    rfl
  split at h
  ·split at h <;> cases h
   rename_i hb
   obtain ⟨h1, h2⟩ := key .eql hb (.inl rfl)
   refine ⟨_, ?_, repA_bool.2 rfl⟩
   simp only [execOp, ho, hx, hy]
   rw [Sem.run_bind, Sem.run_bind, h1, Result.andThen_ok, h2]
   rfl
  ·split at h <;> cases h
   rename_i hb
   obtain ⟨h1, h2⟩ := key .neq hb (.inr rfl)
   refine ⟨_, ?_, repA_bool.2 rfl⟩
   simp only [execOp, ho, hx, hy]
   rw [Sem.run_bind, Sem.run_bind, h1, Result.andThen_ok, h2]
   rfl
  ·cases h
 ·next nw k a l b nw' k' c l' d =>
  split at h
  ·next hc =>
   obtain ⟨hp, rfl, rfl⟩ := hc
   have two : ∀ {nw : Bool} {k l : IntKind} {a b : Int} {v : Value}, RepA cx w μ at_ (.v nw (.agg [.int k a, .int l b])) v → v = .agg #[.int k a, .int l b] := fun h => by
    rw [RepA] at h
    obtain ⟨cs, g1, rfl⟩ := h
    rw [Rep, RepL] at g1
    obtain ⟨x1, r1, rfl, g2, g3⟩ := g1
    rw [RepL] at g3
    obtain ⟨x2, r2, rfl, g4, g5⟩ := g3
    rw [RepL] at g5
    subst g5
    rw [Rep] at g2 g4
    subst g2; subst g4
    rfl
   have hg : ∀ op, (eqGuard op t x y (.agg #[.int k a, .int l b]) (.agg #[.int k c, .int l d])).run P w = .ok () w := by
    intro op
    obtain ⟨f, g, _, _, _, _, _, _, _, _, h8, _⟩ := pair_info hp
    unfold eqGuard
    cases op <;> simp [run_program, h8, Sem.run_bind, Result.andThen]
   split at h
   ·cases h
    refine ⟨_, ?_, repA_bool.2 rfl⟩
    simp only [execOp, ho, two hx, two hy]
    rw [Sem.run_bind, Sem.run_bind, hg .eql, Result.andThen_ok]
    simp only [binOp, Sem.run_bind, r_equal_pair hp, Result.andThen_ok, Sem.run_pure]
   ·cases h
    refine ⟨_, ?_, repA_bool.2 rfl⟩
    simp only [execOp, ho, two hx, two hy]
    rw [Sem.run_bind, Sem.run_bind, hg .neq, Result.andThen_ok]
    simp only [binOp, Sem.run_bind, r_equal_pair hp, Result.andThen_ok, Sem.run_pure]
   ·cases h
  ·cases h
 ·next a _ b =>
  rw [repA_str] at hx hy
  have hg : (eqGuard op t x y (.string a) (.string b)).run P w = .ok () w := by
   unfold eqGuard
   cases op <;> simp
  split at h
  ·cases h
   exact ⟨_, by simp only [execOp, ho, hx, hy]; rw [Sem.run_bind, Sem.run_bind, hg, Result.andThen_ok]; simp [binOp, Op.stringOp], repA_bool.2 rfl⟩
  ·cases h
   exact ⟨_, by simp only [execOp, ho, hx, hy]; rw [Sem.run_bind, Sem.run_bind, hg, Result.andThen_ok]; simp [binOp, Op.stringOp], repA_bool.2 rfl⟩
  ·split at h <;> cases h
   rename_i hs
   exact ⟨_, by simp only [execOp, ho, hx, hy]; rw [Sem.run_bind, Sem.run_bind, hg, Result.andThen_ok]; simp only [binOp, run_string_add_sum w a b hs, Sem.run_bind, Result.andThen_ok, Sem.run_pure], repA_str.2 rfl⟩
  ·cases h
 ·rw [repA_nil] at hx hy
  exact x_nil ho h hx hy rfl
 ·rw [repA_nil] at hy
  rw [RepA] at hx
  obtain ⟨A, c, hx, hb⟩ := hx
  exact x_nil ho h hx hy hb.symm
 ·rw [repA_nil] at hy
  rw [RepA] at hx
  obtain ⟨cs, g1, g2⟩ := hx
  rw [Rep] at g1
  rcases g1 with ⟨g1, _⟩ | ⟨b, o0, c, k1, k2, rfl, k3⟩
  ·cases g1
  ·exact x_nil ho h g2 hy rfl
 ·cases h
theorem x_un {op : UnOp} {t : TypeId} {x : Operand} {X Z : AV} (ho : o.op = .unOp op t x) (h : unA op X = some Z) (hx : RepA cx w μ at_ X (e x)) :
 ∃ v, (execOp e o).run P w = .ok (.value v) w ∧ RepA cx w μ at_ Z v := by
 unfold unA at h
 split at h
 ·rw [repA_int] at hx
  split at h <;> cases h
  ·exact ⟨_, by simp only [execOp, ho, hx, Op.unary, Op.intArith, Sem.run_bind, Sem.run_pure, Result.andThen_ok]; try rfl, repA_int.2 rfl⟩
  ·exact ⟨_, by simp only [execOp, ho, hx, Op.unary, Op.intBits, Sem.run_bind, Sem.run_pure, Result.andThen_ok]; try rfl, repA_int.2 rfl⟩
 ·rw [repA_bool] at hx
  split at h <;> cases h
  exact ⟨_, by simp only [execOp, ho, hx, Op.unary, Sem.run_bind, Sem.run_pure, Result.andThen_ok]; try rfl, repA_bool.2 rfl⟩
 ·cases h
theorem x_part {t : TypeId} {nw : Bool} {x : V} {path : List Nat} {off b o0 : Nat} {cs : List Value} {Z : AV} (h : partA P t nw x path off = some Z) (hr : Rep w (okOf cx w.heap.size μ nw) x cs)
 (hc : ∀ j, j < cs.length → w.cell? ⟨b, o0 + j, none⟩ = cs[j]?) : ∃ v, (loadVar t ⟨b, o0 + off, none⟩).run P w = .ok v w ∧ RepA cx w μ at_ Z v := by
 unfold partA at h
 split at h
 ·next y hy =>
  split at h <;> cases h
  rename_i hh
  obtain ⟨p, c, q, rfl, h1, h2⟩ := Rep.atP hr hy
  refine ⟨y.toVal c, r_loadVar hh.2.1 hh.2.2 h2 (fun j hj => ?_), by rw [RepA]; exact ⟨c, Rep.up h2, rfl⟩⟩
  rw [← hh.1, ← h1, Nat.add_assoc, hc (p.length + j) (by simp; omega), List.append_assoc, List.getElem?_append_right (by omega), List.getElem?_append_left (by omega)]
  congr 1
  omega
 ·cases h
theorem r_loadA {t : TypeId} {val0 : Value} {X Z : AV} (hm : ∀ s, RepB cx w μ at_ s (at_ s)) (h : loadA P at_ t X = some Z) (hx : RepA cx w μ at_ X val0) :
 ∃ v, (∃ ad, val0 = .pointer (some ad) ∧ (loadVar t ad).run P w = .ok v w) ∧ RepA cx w μ at_ Z v := by
 have key : ∀ (b o0 : Nat) v, val0 = .pointer (some ⟨b, o0, none⟩) → (loadVar t ⟨b, o0, none⟩).run P w = .ok v w → ∃ ad, val0 = .pointer (some ad) ∧ (loadVar t ad).run P w = .ok v w := by
  intro b o0 v he hl
  exact ⟨_, he, hl⟩
 unfold loadA at h
 split at h
 ·next s i path off =>
  have hs := hm s
  rw [RepA] at hx
  split at h
  ·next ety sz nw xs hat =>
   rw [hat] at hx hs
   obtain ⟨b, cap, h1, h2⟩ := hx
   cases hxi : xs[i]? with
   | none => rw [hxi] at h; cases h
   | some y =>
     rw [hxi] at h
     rcases hs with ⟨h3, h4⟩ | ⟨b', cap', cur, h3, h4, h5, h6, h7, h8⟩
     ·rw [h4] at hxi; simp at hxi
     ·rw [h1] at h3
      cases h3
      obtain ⟨a, g1, g2, g3⟩ := RepRow.get h8 hxi
      obtain ⟨v, k1, k2⟩ := x_part (P := P) (at_ := at_) (o0 := i * sz) h g3 (fun j hj => by rw [← g2 j (by omega)]; congr 2; omega)
      exact ⟨v, key _ _ _ h2 k1, k2⟩
  ·next ety nw y hat =>
   rw [hat] at hx hs
   obtain ⟨b, cap, h1, h2⟩ := hx
   obtain ⟨b', cap', cur, val, h3, h4, h5, h6, _⟩ := hs
   rw [h1] at h3
   cases h3
   rw [RepA] at h5
   obtain ⟨cs, g1, rfl⟩ := h5
   have hcur : cur = cs.toArray := by rw [h6, Rep.cells g1]
   obtain ⟨v, k1, k2⟩ := x_part (P := P) (at_ := at_) (o0 := 0) (b := b) h g1 (fun j hj => by simp [World.cell?, h4, hcur])
   rw [Nat.zero_add] at k1
   exact ⟨v, key _ _ _ h2 k1, k2⟩
  ·next ety X' hX hat =>
   rw [hat] at hx hs
   obtain ⟨b, cap, h1, h2⟩ := hx
   obtain ⟨b', cap', cur, val, h3, h4, h5, h6, h7⟩ := hs
   rw [h1] at h3
   cases h3
   split at h <;> cases h
   rename_i hh
   obtain ⟨rfl, rfl, hz, hg⟩ := hh
   have h8 := h7 (by cases Z <;> first | rfl | (exact absurd rfl (hX _ _)))
   have hcur : cur = #[val] := by
    rw [h6]
    cases val <;> first | rfl | (simp [Value.oneCell'] at h8)
   have hcell : w.cell? ⟨b, 0, none⟩ = some val := by simp [World.cell?, h4, hcur]
   exact ⟨val, key _ _ _ h2 (by simp only [loadVar, Sem.run_bind, r_agg hg, Result.andThen_ok, Bool.false_eq_true, if_false, run_load, hcell]), h5⟩
  ·cases h
 ·next nw y =>
  rw [RepA] at hx
  obtain ⟨b, o0, cs, h1, h2, h3, h4⟩ := hx
  split at h <;> cases h
  rename_i hh
  exact ⟨_, key _ _ _ h2 (r_loadVar hh.1 hh.2 h3 h4), by rw [RepA]; exact ⟨cs, Rep.up h3, rfl⟩⟩
 ·next nw f x =>
  rw [RepA] at hx
  obtain ⟨b, o0, b', o', cs, h1, h2, h3, h4, h5, h6⟩ := hx
  split at h <;> cases h
  rename_i hg
  refine ⟨.func (.func f) #[] #[.pointer (some ⟨b', o', none⟩), val0], key _ _ _ h2 (by simp only [loadVar, Sem.run_bind, r_agg hg, Result.andThen_ok, Bool.false_eq_true, if_false, run_load, h3]), ?_⟩
  rw [RepA]
  refine ⟨[.pointer (some ⟨b', o', none⟩), val0], rfl, ?_⟩
  rw [RepAL]
  refine ⟨_, _, rfl, by rw [RepA]; exact ⟨b', o', cs, h4, rfl, h5, h6⟩, ?_⟩
  rw [RepAL]
  refine ⟨_, _, rfl, by rw [RepA]; exact ⟨b, o0, b', o', cs, h1, h2, h3, h4, h5, h6⟩, by rw [RepAL]⟩
 ·cases h
theorem x_load {t : TypeId} {x : Operand} {X Z : AV} (hm : ∀ s, RepB cx w μ at_ s (at_ s)) (ho : o.op = .load t x) (h : loadA P at_ t X = some Z) (hx : RepA cx w μ at_ X (e x)) :
 ∃ v, (execOp e o).run P w = .ok (.value v) w ∧ RepA cx w μ at_ Z v := by
 obtain ⟨v, ⟨ad, h1, h2⟩, h3⟩ := r_loadA hm h hx
 exact ⟨v, by simp only [execOp, ho, h1, Instr.loadAt, Instr.sureAddr, Sem.run_bind, Sem.run_pure, Result.andThen_ok, h2], h3⟩
end
section
variable {P : Program} {cx : Cx} {w : World} {μ : Sites} {at_ : Nat → Blk} {e : Operand → Value} {o : Oper}
theorem fld_info {t : TypeId} {j a z : Nat} {g : Bool} (h : fld P t j = some (a, z, g)) : ∃ fs f, P.underlying t = some (.struct fs) ∧ fs[j]? = some f ∧ f.offset = a ∧ tsz P f.type = some z ∧ aggT P f.type = some g := by
 unfold fld at h
 split at h
 ·next fs hu =>
  split at h
  ·next f hf =>
   split at h
   ·next z' g' hz hg =>
    cases h
    exact ⟨fs, f, hu, hf, rfl, hz, hg⟩
   ·cases h
  ·cases h
 ·cases h
theorem arr_info {t : TypeId} {n z : Nat} {g : Bool} (h : arrT P t = some (n, z, g)) : ∃ el, P.underlying t = some (.array n el) ∧ tsz P el = some z ∧ aggT P el = some g := by
 unfold arrT at h
 split at h
 ·next n' el hu =>
  split at h
  ·next z' g' hz hg =>
   cases h
   exact ⟨el, hu, hz, hg⟩
  ·cases h
 ·cases h
theorem esz_info {t : TypeId} {z : Nat} (h : esz P t = some z) : ∃ el, P.underlying t = some (.slice el) ∧ tsz P el = some z := by
 unfold esz elt at h
 split at h
 ·next el hu => exact ⟨el, hu, h⟩
 ·cases h
theorem elt_info {t : TypeId} (h : (elt P t).isSome = true) : ∃ el, P.underlying t = some (.slice el) := by
 unfold elt at h
 split at h
 ·next el hu => exact ⟨el, hu⟩
 ·cases h
theorem x_fieldAddr {t : TypeId} {x : Operand} {j : Nat} {X Z : AV} (ho : o.op = .fieldAddr t x j) (h : fieldAddrA P at_ t j X = some Z) (hx : RepA cx w μ at_ X (e x)) :
 ∃ v, (execOp e o).run P w = .ok (.value v) w ∧ RepA cx w μ at_ Z v := by
 have key : ∀ (b o0 a z : Nat) (g : Bool), e x = .pointer (some ⟨b, o0, none⟩) → fld P t j = some (a, z, g) → z ≠ 0 → (execOp e o).run P w = .ok (.value (.pointer (some ⟨b, o0 + a, none⟩))) w := by
  intro b o0 a z g he hf hz
  obtain ⟨fs, f, h1, h2, h3, h4, _⟩ := fld_info hf
  simp only [execOp, ho, he, Instr.fieldAt, Instr.sureAddr, fieldPlace, Sem.run_bind, Sem.run_pure, Result.andThen_ok, run_underlying h1, h2, r_size h4, Sem.run_ite, if_neg hz, addr_add, h3]
 unfold fieldAddrA at h
 split at h
 ·next s i path off =>
  split at h
  ·next hl =>
   split at h
   ·next a z g hf =>
    split at h <;> cases h
    rename_i hz
    rw [RepA] at hx
    cases hat : at_ s with
    | dead => rw [hat] at hl; cases hl
    | buf ety sz nw xs =>
      rw [hat] at hx
      obtain ⟨b, cap, h1, h2⟩ := hx
      refine ⟨_, key _ _ _ _ _ h2 hf hz, ?_⟩
      rw [RepA, hat]
      exact ⟨b, cap, h1, by rw [Nat.add_assoc]⟩
    | box ety X =>
      rw [hat] at hx
      obtain ⟨b, cap, h1, h2⟩ := hx
      refine ⟨_, key _ _ _ _ _ h2 hf hz, ?_⟩
      rw [RepA, hat]
      exact ⟨b, cap, h1, rfl⟩
   ·cases h
  ·cases h
 ·next nw fs =>
  split at h
  ·next y hy =>
   split at h
   ·next a z g hf =>
    split at h <;> cases h
    rename_i hz
    rw [RepA] at hx
    obtain ⟨b, o0, cs, h1, h2, h3, h4⟩ := hx
    refine ⟨_, key _ _ _ _ _ h2 hf hz.1, ?_⟩
    rw [Rep] at h3
    obtain ⟨p, a', q, rfl, g1, g2⟩ := RepL.get h3 hy
    rw [RepA]
    refine ⟨b, o0 + a, a', h1, rfl, g2, fun j' hj => ?_⟩
    rw [hz.2, ← g1, Nat.add_assoc, h4 (p.length + j') (by simp; omega), List.append_assoc, List.getElem?_append_right (by omega), List.getElem?_append_left (by omega)]
    congr 1
    omega
   ·cases h
  ·cases h
 ·cases h
theorem x_field {t : TypeId} {x : Operand} {j : Nat} {X Z : AV} (ho : o.op = .field t x j) (h : fieldA P t j X = some Z) (hx : RepA cx w μ at_ X (e x)) :
 ∃ v, (execOp e o).run P w = .ok (.value v) w ∧ RepA cx w μ at_ Z v := by
 unfold fieldA at h
 split at h
 ·next nw fs =>
  split at h
  ·next y hy =>
   split at h <;> cases h
   rename_i hf
   obtain ⟨fs', f, h1, h2, h3, h4, h5⟩ := fld_info hf
   rw [RepA] at hx
   obtain ⟨cs, g1, g2⟩ := hx
   rw [Rep] at g1
   obtain ⟨p, a, q, rfl, k1, k2⟩ := RepL.get g1 hy
   refine ⟨y.toVal a, ?_, by rw [RepA]; exact ⟨a, Rep.up k2, rfl⟩⟩
   have := r_part (P := P) (w := w) (p := p) (q := q) h4 h5 k2
   simp only [execOp, ho, g2, V.toVal, Instr.field, asAgg, Sem.run_bind, Sem.run_pure, Result.andThen_ok, run_underlying h1, h2, h3, ← k1, this]
  ·cases h
 ·cases h
theorem x_indexAddr {t : TypeId} {x i : Operand} {X I Z : AV} (ho : o.op = .indexAddr t x i) (h : indexAddrA P at_ t X I = some Z) (hx : RepA cx w μ at_ X (e x)) (hi : RepA cx w μ at_ I (e i)) :
 ∃ v, (execOp e o).run P w = .ok (.value v) w ∧ RepA cx w μ at_ Z v := by
 unfold indexAddrA at h
 split at h
 ·next nw sz xs _ k n =>
  rw [repA_int] at hi
  split at h
  ·next hh =>
   obtain ⟨h1, h2, h3⟩ := hh
   obtain ⟨el, hu, hz⟩ := esz_info h1
   simp only [Option.map_eq_some_iff] at h
   obtain ⟨y, hy, rfl⟩ := h
   rw [RepA] at hx
   obtain ⟨cs, g1, g2⟩ := hx
   rw [Rep] at g1
   rcases g1 with ⟨rfl, _⟩ | ⟨b, o0, c, k1, k2, rfl, k3⟩
   ·simp at hy
   ·obtain ⟨a, m1, m2, m3⟩ := RepRow.get k3 hy
    refine ⟨.pointer (some ⟨b, o0 + n.toNat * sz, none⟩), ?_, ?_⟩
    ·simp only [execOp, ho, g2, hi, V.toVal, List.headD_cons, Instr.indexAt, asIntOf, Sem.run_bind, Sem.run_pure, Result.andThen_ok, run_underlying hu, Sem.run_ite, if_pos (And.intro h2 h3), r_size hz, addr_add]
    ·rw [RepA]
     refine ⟨b, o0 + n.toNat * sz, a, k2, rfl, m3, fun j hj => by rw [m2 j (by omega)]⟩
  ·cases h
 ·next s off len _ k n =>
  rw [repA_int] at hi
  split at h
  ·next ety sz nw xs hat =>
   split at h <;> cases h
   rename_i hh
   obtain ⟨h1, h2, h3⟩ := hh
   obtain ⟨el, hu, hz⟩ := esz_info h1
   rw [RepA, hat] at hx
   rcases hx with ⟨b, cap, g1, g2, g3⟩ | ⟨_, _, _, g4, _⟩
   ·refine ⟨.pointer (some ⟨b, off * sz + n.toNat * sz, none⟩), ?_, ?_⟩
    ·simp only [execOp, ho, g3, hi, Instr.indexAt, asIntOf, Sem.run_bind, Sem.run_pure, Result.andThen_ok, run_underlying hu, Sem.run_ite, if_pos (And.intro h2 h3), r_size hz, addr_add]
    ·rw [RepA, hat]
     exact ⟨b, cap, g1, by rw [Nat.add_mul, Nat.add_zero]⟩
   ·subst g4; omega
  ·cases h
 ·next s i' path off _ k n =>
  rw [repA_int] at hi
  split at h
  ·next hl =>
   split at h
   ·next len z g hf =>
    split at h <;> cases h
    rename_i hh
    obtain ⟨el, hu, hz, _⟩ := arr_info hf
    have key : ∀ (b o0 : Nat), e x = .pointer (some ⟨b, o0, none⟩) → (execOp e o).run P w = .ok (.value (.pointer (some ⟨b, o0 + n.toNat * z, none⟩))) w := by
     intro b o0 he
     simp only [execOp, ho, he, hi, Instr.indexAt, Instr.sureAddr, asIntOf, Sem.run_bind, Sem.run_pure, Result.andThen_ok, run_underlying hu, Sem.run_ite, if_pos hh, r_size hz, addr_add]
    rw [RepA] at hx
    cases hat : at_ s with
    | dead => rw [hat] at hl; cases hl
    | buf ety sz nw xs =>
      rw [hat] at hx
      obtain ⟨b, cap, h1, h2⟩ := hx
      refine ⟨_, key _ _ h2, ?_⟩
      rw [RepA, hat]
      exact ⟨b, cap, h1, by rw [Nat.add_assoc]⟩
    | box ety X =>
      rw [hat] at hx
      obtain ⟨b, cap, h1, h2⟩ := hx
      refine ⟨_, key _ _ h2, ?_⟩
      rw [RepA, hat]
      exact ⟨b, cap, h1, rfl⟩
   ·cases h
  ·cases h
 ·next nw fs _ k n =>
  rw [repA_int] at hi
  split at h
  ·next y hy =>
   split at h
   ·next len z g hf =>
    split at h <;> cases h
    rename_i hh
    obtain ⟨h1, h2, h3⟩ := hh
    obtain ⟨el, hu, hz, _⟩ := arr_info hf
    rw [RepA] at hx
    obtain ⟨b, o0, cs, k1, k2, k3, k4⟩ := hx
    rw [Rep] at k3
    obtain ⟨p, a, q, rfl, m1, m2⟩ := RepL.get k3 hy
    refine ⟨.pointer (some ⟨b, o0 + n.toNat * z, none⟩), ?_, ?_⟩
    ·simp only [execOp, ho, k2, hi, Instr.indexAt, Instr.sureAddr, asIntOf, Sem.run_bind, Sem.run_pure, Result.andThen_ok, run_underlying hu, Sem.run_ite, if_pos (And.intro h1 h2), r_size hz, addr_add]
    ·rw [RepA]
     refine ⟨b, o0 + n.toNat * z, a, k1, rfl, m2, fun j hj => ?_⟩
     rw [← h3, ← m1, Nat.add_assoc, k4 (p.length + j) (by simp; omega), List.append_assoc, List.getElem?_append_right (by omega), List.getElem?_append_left (by omega)]
     congr 1
     omega
   ·cases h
  ·cases h
 ·cases h
theorem x_index {t : TypeId} {x i : Operand} {X I Z : AV} (ho : o.op = .index t x i) (h : indexA P t X I = some Z) (hx : RepA cx w μ at_ X (e x)) (hi : RepA cx w μ at_ I (e i)) :
 ∃ v, (execOp e o).run P w = .ok (.value v) w ∧ RepA cx w μ at_ Z v := by
 unfold indexA at h
 split at h
 ·next nw fs _ k n =>
  rw [repA_int] at hi
  split at h
  ·next y hy =>
   split at h
   ·next len z g hf =>
    split at h <;> cases h
    rename_i hh
    obtain ⟨h1, h2, h3, h4, h5⟩ := hh
    obtain ⟨el, hu, hz, hg⟩ := arr_info hf
    rw [RepA] at hx
    obtain ⟨cs, g1, g2⟩ := hx
    rw [Rep] at g1
    obtain ⟨p, a, q, rfl, k1, k2⟩ := RepL.get g1 hy
    refine ⟨y.toVal a, ?_, by rw [RepA]; exact ⟨a, Rep.up k2, rfl⟩⟩
    have := r_part (P := P) (w := w) (p := p) (q := q) (by rw [hz, h4]) (by rw [hg, h5]) k2
    simp only [execOp, ho, g2, hi, V.toVal, Instr.index, asIntOf, Sem.run_bind, Sem.run_pure, Result.andThen_ok, run_underlying hu, Sem.run_ite, if_pos (And.intro h1 h2), r_size hz, ← h3, ← k1, this]
   ·cases h
  ·cases h
 ·next nw s _ k n =>
  rw [repA_int] at hi
  rw [repA_str] at hx
  split at h
  ·next hh =>
   obtain ⟨h1, h2⟩ := hh
   have hu : P.underlying t = some .string := by
    unfold strT at h1
    split at h1
    ·assumption
    ·cases h1
   split at h <;> cases h
   next b hb =>
   refine ⟨_, ?_, repA_int.2 rfl⟩
   simp only [execOp, ho, hx, hi, Instr.index, asIntOf, Sem.run_bind, Sem.run_pure, Result.andThen_ok, run_underlying hu, if_pos h2, hb]
  ·cases h
 ·cases h
theorem x_len {t : TypeId} {x : Operand} {X Z : AV} (ho : o.op = .call { callee := .builtin .len, args := #[x], argTypes := #[t] }) (h : lenA P at_ t X = some Z) (hx : RepA cx w μ at_ X (e x)) :
 ∃ v, (execOp e o).run P w = .ok (.value v) w ∧ RepA cx w μ at_ Z v := by
 have key : ∀ (d : TypeDesc) (n : Nat), P.underlying t = some d → (Builtin.len_ #[t] o.type #[e x]).run P w = .ok (goInt n) w → (execOp e o).run P w = .ok (.value (.int .i64 n)) w := by
  intro d n _ hr
  simp only [execOp, ho, resolve, invoke, builtin, Sem.run_bind, Sem.run_pure, Result.andThen_ok]
  simp only [List.map_toArray, List.map_cons, List.map_nil, hr, Result.andThen_ok]
  rfl
 unfold lenA at h
 split at h
 ·next nw sz xs =>
  split at h <;> cases h
  rename_i hh
  obtain ⟨el, hu⟩ := elt_info hh
  rw [RepA] at hx
  obtain ⟨cs, g1, g2⟩ := hx
  rw [Rep] at g1
  refine ⟨_, key _ xs.length hu ?_, repA_int.2 rfl⟩
  rcases g1 with ⟨rfl, A, c, rfl⟩ | ⟨b, o0, c, k1, k2, rfl, k3⟩ <;> simp [Builtin.len_, g2, V.toVal, run_underlying hu]
 ·next s off len =>
  split at h
  ·next ety sz nw xs hat =>
   split at h <;> cases h
   rename_i hh
   obtain ⟨el, hu⟩ := elt_info hh
   rw [RepA, hat] at hx
   refine ⟨_, key _ len hu ?_, repA_int.2 rfl⟩
   rcases hx with ⟨b, cap, g1, g2, g3⟩ | ⟨_, _, _, rfl, g3⟩ <;> simp [Builtin.len_, g3, run_underlying hu]
  ·cases h
 ·split at h <;> cases h
  rename_i hh
  obtain ⟨el, hu⟩ := elt_info hh
  rw [repA_nil] at hx
  exact ⟨_, key _ 0 hu (by simp [Builtin.len_, hx, run_underlying hu]), repA_int.2 rfl⟩
 ·split at h <;> cases h
  rename_i hh
  obtain ⟨el, hu⟩ := elt_info hh
  rw [RepA] at hx
  obtain ⟨A, c, hx, _⟩ := hx
  exact ⟨_, key _ 0 hu (by simp [Builtin.len_, hx, run_underlying hu]), repA_int.2 rfl⟩
 ·next nw s =>
  split at h <;> cases h
  rename_i hh
  have hu : P.underlying t = some .string := by
   unfold strT at hh
   split at hh
   ·assumption
   ·cases hh
  rw [repA_str] at hx
  exact ⟨_, key _ s.size hu (by simp [Builtin.len_, hx, run_underlying hu]), repA_int.2 rfl⟩
 ·cases h
theorem x_min {args : Array Operand} {ats : Array TypeId} {Z : AV} {g : Operand → AV} (ho : o.op = .call { callee := .builtin .min, args := args, argTypes := ats }) (h : minA (args.toList.map g) = some Z) (hx : ∀ x, RepA cx w μ at_ (g x) (e x)) :
 ∃ v, (execOp e o).run P w = .ok (.value v) w ∧ RepA cx w μ at_ Z v := by
 obtain ⟨args⟩ := args
 cases args with
 | nil => cases h
 | cons x r =>
   cases r with
   | nil => simp only [List.map_cons, List.map_nil] at h; unfold minA at h; split at h <;> simp_all
   | cons y r =>
     cases r with
     | cons z r => simp only [List.map_cons] at h; unfold minA at h; split at h <;> simp_all
     | nil =>
       simp only [List.map_cons, List.map_nil] at h
       unfold minA at h
       split at h
       ·next n1 k a n2 k' b he =>
        simp only [List.cons.injEq, and_true] at he
        have hx1 := hx x
        have hx2 := hx y
        rw [he.1, repA_int] at hx1
        rw [he.2, repA_int] at hx2
        cases h
        refine ⟨_, ?_, repA_int.2 rfl⟩
        simp [execOp, ho, resolve, invoke, builtin, Builtin.min_, hx1, hx2, Builtin.min2]
       ·cases h
theorem x_max {args : Array Operand} {ats : Array TypeId} {Z : AV} {g : Operand → AV} (ho : o.op = .call { callee := .builtin .max, args := args, argTypes := ats }) (h : maxA (args.toList.map g) = some Z) (hx : ∀ x, RepA cx w μ at_ (g x) (e x)) :
 ∃ v, (execOp e o).run P w = .ok (.value v) w ∧ RepA cx w μ at_ Z v := by
 obtain ⟨args⟩ := args
 simp only at h
 unfold maxA at h
 split at h
 ·next n1 k a n2 k' b he =>
  cases h
  rcases args with _ | ⟨x, _ | ⟨y, _ | ⟨z, r⟩⟩⟩
  ·simp at he
  ·simp at he
  ·simp only [List.map_cons, List.map_nil, List.cons.injEq, and_true] at he
   have hx1 := hx x
   have hx2 := hx y
   rw [he.1, repA_int] at hx1
   rw [he.2, repA_int] at hx2
   refine ⟨_, ?_, repA_int.2 rfl⟩
   simp [execOp, ho, resolve, invoke, builtin, Builtin.max_, hx1, hx2, Builtin.max2]
  ·simp at he
 ·next n1 k a n2 k' b n3 k3 d he =>
  cases h
  rcases args with _ | ⟨x, _ | ⟨y, _ | ⟨z, _ | ⟨u, r⟩⟩⟩⟩
  ·simp at he
  ·simp at he
  ·simp at he
  ·simp only [List.map_cons, List.map_nil, List.cons.injEq, and_true] at he
   have hx1 := hx x
   have hx2 := hx y
   have hx3 := hx z
   rw [he.1, repA_int] at hx1
   rw [he.2.1, repA_int] at hx2
   rw [he.2.2, repA_int] at hx3
   refine ⟨_, ?_, repA_int.2 rfl⟩
   simp [execOp, ho, resolve, invoke, builtin, Builtin.max_, hx1, hx2, hx3, Builtin.max2]
  ·simp at he
 ·cases h
theorem r_bound {k : IntKind} {n : Int} {y : Nat} {c : BoundsCode} (h0 : 0 ≤ n) (h1 : n ≤ y) : (Instr.sliceBound (.int k n) y c).run P w = .ok n.toNat w := by
 simp only [Instr.sliceBound, asIntOf, Sem.run_bind, Sem.run_pure, Result.andThen_ok, Sem.run_ite, if_pos (And.intro h0 h1)]
theorem r_bounds {len cap : Nat} {lo hi mx : Option Operand} {l h m : Int} {g : Operand → AV} {b : Bool} (hg : ∀ x, RepA cx w μ at_ (g x) (e x)) (hl : boundA 0 (lo.map g) = some l) (hh : boundA len (hi.map g) = some h)
 (hm : boundA len (mx.map g) = some m) (h0 : 0 ≤ l) (h1 : l ≤ h) (h2 : h ≤ m) (h3 : m ≤ len) (h4 : mx.isSome = true → hi.isSome = true) (hc : len ≤ cap) :
 ∃ m' : Nat, (Instr.sliceBounds b len cap (lo.map e) (hi.map e) (mx.map e)).run P w = .ok (l.toNat, h.toNat, m') w ∧ h.toNat ≤ m' ∧ m' ≤ cap ∧ (mx = none → m' = cap) := by
 have bo : ∀ (x : Option Operand) d n, boundA d (x.map g) = some n → (x = none ∧ n = (d : Int)) ∨ ∃ k y, x = some y ∧ e y = .int k n := by
  intro x d n hx
  cases x with
  | none => simp [boundA] at hx; exact .inl ⟨rfl, hx.symm⟩
  | some y =>
    simp only [Option.map_some] at hx
    unfold boundA at hx
    split at hx
    ·next he => cases he
    ·next nw k a he =>
     cases hx
     have := hg y
     rw [Option.some.inj he, repA_int] at this
     exact .inr ⟨k, y, rfl, this⟩
    ·cases hx
 have e1 := bo _ _ _ hl
 have e2 := bo _ _ _ hh
 have e3 := bo _ _ _ hm
 have t1 : l.toNat ≤ h.toNat := by omega
 rcases e3 with ⟨rfl, rfl⟩ | ⟨k3, y3, rfl, e3⟩
 ·refine ⟨cap, ?_, by omega, Nat.le_refl _, fun _ => rfl⟩
  rcases e2 with ⟨rfl, rfl⟩ | ⟨k2, y2, rfl, e2⟩ <;> rcases e1 with ⟨rfl, rfl⟩ | ⟨k1, y1, rfl, e1⟩
  ·simp [Instr.sliceBounds]
  ·simp [Instr.sliceBounds, e1, r_bound (P := P) (w := w) h0 h1]
  ·have := r_bound (P := P) (w := w) (k := k2) (n := h) (y := cap) (c := if b then .sliceAcap else .sliceAlen) (by omega) (by omega)
   simp [Instr.sliceBounds, e2, this]
  ·have g1 := r_bound (P := P) (w := w) (k := k2) (n := h) (y := cap) (c := if b then .sliceAcap else .sliceAlen) (by omega) (by omega)
   have g2 := r_bound (P := P) (w := w) (k := k1) (n := l) (y := h.toNat) (c := .sliceB) h0 (by omega)
   simp [Instr.sliceBounds, e1, e2, g1, g2]
 ·rcases e2 with ⟨rfl, _⟩ | ⟨k2, y2, rfl, e2⟩
  ·simp at h4
  ·refine ⟨m.toNat, ?_, by omega, by omega, fun h => by cases h⟩
   have g3 := r_bound (P := P) (w := w) (k := k3) (n := m) (y := cap) (c := if b then .slice3Acap else .slice3Alen) (by omega) (by omega)
   have g2 := r_bound (P := P) (w := w) (k := k2) (n := h) (y := m.toNat) (c := .slice3B) (by omega) (by omega)
   rcases e1 with ⟨rfl, rfl⟩ | ⟨k1, y1, rfl, e1⟩
   ·simp [Instr.sliceBounds, e3, e2, g3, g2]
   ·have g1 := r_bound (P := P) (w := w) (k := k1) (n := l) (y := h.toNat) (c := .slice3C) h0 (by omega)
    simp [Instr.sliceBounds, e3, e2, e1, g3, g2, g1]
end
section
variable {P : Program} {cx : Cx} {w : World} {μ : Sites} {at_ : Nat → Blk} {e : Operand → Value} {o : Oper}
theorem x_slice {t : TypeId} {x : Operand} {lo hi mx : Option Operand} {Z : AV} {g : Operand → AV} (hm : ∀ s, RepB cx w μ at_ s (at_ s)) (ho : o.op = .slice t x lo hi mx)
 (h : sliceA P at_ t (g x) (lo.map g) (hi.map g) (mx.map g) = some Z) (hg : ∀ x, RepA cx w μ at_ (g x) (e x)) :
 ∃ v, (execOp e o).run P w = .ok (.value v) w ∧ RepA cx w μ at_ Z v := by
 have hx := hg x
 have key : ∀ (el : TypeId) (A : Option Addr) (len cap l h' m sz : Nat), P.underlying t = some (.slice el) → tsz P el = some sz → e x = .slice A len cap →
  (Instr.sliceBounds true len cap (lo.map e) (hi.map e) (mx.map e)).run P w = .ok (l, h', m) w →
  (execOp e o).run P w = .ok (.value (.slice (if m = l then A else A.map (·.add (l * sz))) (h' - l) (m - l))) w := by
  intro el A len cap l h' m sz hu hz he hb
  simp only [execOp, ho, he, Instr.sliceAt, Instr.slice, Sem.run_bind, Sem.run_pure, Result.andThen_ok, run_underlying hu, hb, r_size hz]
 unfold sliceA at h
 split at h
 ·next nw sz xs hgx =>
  rw [hgx] at hx
  split at h
  ·next l h' m hl hh hm' =>
   split at h <;> cases h
   rename_i hc
   obtain ⟨h1, h2, h3, h4, h5, h6⟩ := hc
   obtain ⟨el, hu, hz⟩ := esz_info h1
   rw [RepA] at hx
   obtain ⟨cs, g1, g2⟩ := hx
   rw [Rep] at g1
   have h6' : mx.isSome = true → hi.isSome = true := by simpa using h6
   rcases g1 with ⟨rfl, A, c, rfl⟩ | ⟨b, o0, c, k1, k2, rfl, k3⟩
   ·obtain ⟨m', r1, r2, r3, r4⟩ := r_bounds (P := P) (cap := c) (b := true) hg hl hh hm' h2 h3 h4 h5 h6' (by simp)
    refine ⟨_, key el A 0 c _ _ m' sz hu hz (by rw [g2]; rfl) r1, ?_⟩
    rw [RepA]
    refine ⟨[_], ?_, rfl⟩
    rw [Rep]
    have : h'.toNat - l.toNat = 0 := by simp at h5; omega
    refine .inl ⟨by simp, ?_⟩
    rw [this]
    exact ⟨_, _, rfl⟩
   ·obtain ⟨m', r1, r2, r3, r4⟩ := r_bounds (P := P) (cap := c) (b := true) hg hl hh hm' h2 h3 h4 h5 h6' k1
    refine ⟨_, key el _ _ c _ _ m' sz hu hz (by rw [g2]; rfl) r1, ?_⟩
    rw [RepA]
    refine ⟨[_], ?_, rfl⟩
    rw [Rep]
    have hlen : ((xs.take h'.toNat).drop l.toNat).length = h'.toNat - l.toNat := by simp; omega
    by_cases hml : m' = l.toNat
    ·have : h'.toNat - l.toNat = 0 := by omega
     refine .inl ⟨List.eq_nil_of_length_eq_zero (by omega), ?_⟩
     rw [this]
     exact ⟨_, _, rfl⟩
    ·refine .inr ⟨b, o0 + l.toNat * sz, m' - l.toNat, by omega, k2, ?_, RepRow.drop (RepRow.take k3 _) _⟩
     rw [if_neg hml, hlen]
     simp [addr_add]
  ·cases h
 ·next s off len hgx =>
  rw [hgx] at hx
  split at h
  ·next ety sz nw xs l h' hat hl hh hmx =>
   split at h <;> cases h
   rename_i hc
   obtain ⟨h1, h2, h3, h4, h5⟩ := hc
   obtain ⟨el, hu, hz⟩ := esz_info h1
   have hmx' : mx = none := by simpa using hmx
   subst hmx'
   rw [RepA, hat] at hx
   have hs := hm s
   rw [hat] at hs
   rcases hx with ⟨b, cap, g1, g2, g3⟩ | ⟨g1, rfl, rfl, rfl, g3⟩
   ·have hcap : xs.length ≤ cap := by
     rcases hs with ⟨q, _⟩ | ⟨b', cap', cur, q1, q2, q3, _⟩
     ·rw [g1] at q; cases q
     ·rw [g1] at q1; cases q1; exact q3
    obtain ⟨m', r1, r2, r3, r4⟩ := r_bounds (P := P) (mx := none) (m := (len : Int)) (b := true) (cap := cap - off) hg hl hh rfl h2 h3 h4 (Int.le_refl _) (by simp) (by omega)
    have hm' := r4 rfl
    subst hm'
    refine ⟨_, key el _ len (cap - off) _ _ _ sz hu hz g3 r1, ?_⟩
    rw [RepA, hat]
    refine .inl ⟨b, cap, g1, by omega, ?_⟩
    by_cases hml : cap - off = l.toNat
    ·have hl0 : l = 0 := by rcases h5 with h5 | h5 <;> omega
     subst hl0
     rw [if_pos hml]
     simp
    ·rw [if_neg hml]
     simp only [Option.map_some, addr_add, Value.slice.injEq, Option.some.injEq, Addr.mk.injEq, true_and, and_true]
     refine ⟨by rw [Nat.add_mul], by omega, by omega⟩
   ·have hl0 : l = 0 := by omega
    have hh0 : h' = 0 := by omega
    subst hl0; subst hh0
    obtain ⟨m', r1, r2, r3, r4⟩ := r_bounds (P := P) (mx := none) (m := 0) (b := true) (cap := 0) hg hl hh rfl h2 h3 (by omega) (Int.le_refl _) (by simp) (by omega)
    have hm' := r4 rfl
    subst hm'
    refine ⟨_, key el _ 0 0 _ _ _ sz hu hz g3 r1, ?_⟩
    rw [RepA, hat]
    exact .inr ⟨g1, rfl, rfl, by simp, by simp⟩
  ·cases h
 ·next hgx =>
  rw [hgx, repA_nil] at hx
  split at h
  ·next l h' hl hh hmx =>
   split at h <;> cases h
   rename_i hc
   obtain ⟨rfl, rfl, h3⟩ := hc
   obtain ⟨z, h3⟩ := Option.isSome_iff_exists.1 h3
   obtain ⟨el, hu, hz⟩ := esz_info h3
   have hmx' : mx = none := by simpa using hmx
   subst hmx'
   obtain ⟨m', r1, r2, r3, r4⟩ := r_bounds (P := P) (mx := none) (len := 0) (m := 0) (b := true) (cap := 0) hg hl hh rfl (Int.le_refl _) (Int.le_refl _) (Int.le_refl _) (Int.le_refl _) (by simp) (Nat.le_refl _)
   have hm' := r4 rfl
   subst hm'
   refine ⟨.slice none 0 0, ?_, repA_nil.2 rfl⟩
   simp only [execOp, ho, hx, Instr.sliceAt, Instr.slice, Sem.run_bind, Sem.run_pure, Result.andThen_ok, run_underlying hu, r1, r_size hz]
   rfl
  ·cases h
 ·next s i path off hgx =>
  rw [hgx] at hx
  split at h
  ·next ety X n z ag hat hf hlo hhi hmx =>
   split at h <;> cases h
   rename_i hc
   obtain ⟨rfl, rfl⟩ := hc
   have hlo' : lo = none := by simpa using hlo
   have hhi' : hi = none := by simpa using hhi
   have hmx' : mx = none := by simpa using hmx
   subst hlo'; subst hhi'; subst hmx'
   obtain ⟨el, hu, hz, _⟩ := arr_info hf
   rw [RepA, hat] at hx
   obtain ⟨b, cap, g1, g2⟩ := hx
   refine ⟨.slice (some ⟨b, 0, none⟩) n n, ?_, by rw [RepA, hat]; exact ⟨b, cap, g1, rfl⟩⟩
   simp only [execOp, ho, g2, Instr.sliceAt, Instr.sureAddr, Instr.sliceBounds, Option.map_none, Sem.run_bind, Sem.run_pure, Result.andThen_ok, run_underlying hu, r_size hz, Nat.zero_mul, addr_add, Nat.add_zero, Nat.sub_zero, ite_self]
  ·cases h
 ·next nw s hgx =>
  rw [hgx, repA_str] at hx
  split at h
  ·next l h' hl hh hmx =>
   split at h <;> cases h
   rename_i hc
   obtain ⟨h1, h2, h3, h4⟩ := hc
   have hu : P.underlying t = some .string := by
    unfold strT at h1
    split at h1
    ·assumption
    ·cases h1
   have hmx' : mx = none := by simpa using hmx
   subst hmx'
   obtain ⟨m', r1, r2, r3, r4⟩ := r_bounds (P := P) (mx := none) (len := s.size) (m := (s.size : Int)) (b := false) (cap := s.size) hg hl hh rfl h2 h3 h4 (Int.le_refl _) (by simp) (Nat.le_refl _)
   refine ⟨.string (s.extract l.toNat h'.toNat), ?_, repA_str.2 rfl⟩
   simp only [Option.map_none] at r1
   simp only [execOp, ho, hx, Instr.sliceAt, Instr.slice, Option.map_none, Option.isSome_none, Bool.false_eq_true, if_false, Sem.run_bind, Sem.run_pure, Result.andThen_ok, run_underlying hu, r1]
  ·cases h
 ·cases h
theorem RepRow.agg {ok : Nat → Prop} {b sz : Nat} : ∀ {xs : List V} {o0 : Nat}, RepRow w ok b sz o0 xs → ∃ cs, RepL w ok xs cs ∧ ∀ j, j < cs.length → w.cell? ⟨b, o0 + j, none⟩ = cs[j]?
 | [], o0, _ => ⟨[], by rw [RepL], fun j hj => by simp at hj⟩
 | x :: r, o0, h => by
   rw [RepRow] at h
   obtain ⟨⟨a, h1, h2, h3⟩, h4⟩ := h
   obtain ⟨cs, k1, k2⟩ := RepRow.agg h4
   refine ⟨a ++ cs, by rw [RepL]; exact ⟨a, cs, rfl, h3, k1⟩, fun j hj => ?_⟩
   rw [List.length_append] at hj
   rcases Nat.lt_or_ge j a.length with hja | hja
   ·rw [List.getElem?_append_left hja]
    exact h2 j (by omega)
   ·rw [List.getElem?_append_right hja, ← k2 (j - a.length) (by omega)]
    congr 2
    omega
theorem bytesV_row {ok : Nat → Prop} {b : Nat} : ∀ {xs : List V} {l : List UInt8} {o0 : Nat}, bytesV xs = some l → RepRow w ok b 1 o0 xs → l.length = xs.length ∧ ∀ j (hj : j < l.length), w.cell? ⟨b, o0 + j, none⟩ = some (.int .u8 (l[j].toNat : Int))
 | [], l, o0, h, _ => by
   rw [bytesV] at h
   cases h
   exact ⟨rfl, fun j hj => by simp at hj⟩
 | x :: r, l, o0, h, hr => by
   cases x with
   | int k n =>
     cases k <;> simp only [bytesV] at h <;> try cases h
     split at h
     ·next hn =>
      simp only [Option.map_eq_some_iff] at h
      obtain ⟨q, h1, rfl⟩ := h
      rw [RepRow] at hr
      obtain ⟨⟨a, m1, m2, m3⟩, m4⟩ := hr
      obtain ⟨k1, k2⟩ := bytesV_row h1 m4
      rw [Rep] at m3
      subst m3
      refine ⟨by simp [k1], fun j hj => ?_⟩
      rcases j with _ | j
      ·have := m2 0 (by omega)
       rw [this]
       have e : ((UInt8.ofNat n.toNat).toNat : Int) = n := by
        rw [UInt8.toNat_ofNat']
        omega
       show some (Value.int .u8 n) = some (Value.int .u8 ((UInt8.ofNat n.toNat).toNat : Int))
       rw [e]
      ·have := k2 j (by simpa using hj)
       rw [show o0 + (j + 1) = o0 + 1 + j from by omega, this]
       simp
     ·cases h
   | _ => simp [bytesV] at h
theorem x_str {src dst : TypeId} {x : Operand} {X Z : AV} (hm : ∀ s, RepB cx w μ at_ s (at_ s)) (ho : o.op = .convert src dst x) (h : strA P at_ src dst X = some Z) (hx : RepA cx w μ at_ X (e x)) :
 ∃ v, (execOp e o).run P w = .ok (.value v) w ∧ RepA cx w μ at_ Z v := by
 unfold strA at h
 split at h
 ·next hh =>
  obtain ⟨h1, h2⟩ := hh
  obtain ⟨el, hu, he⟩ : ∃ el, P.underlying src = some (.slice el) ∧ P.underlying el = some (.int .u8) := by
   unfold u8T at h1
   split at h1
   ·next el hel =>
    split at h1
    ·next hu8 =>
     refine ⟨el, ?_, hu8⟩
     unfold elt at hel
     split at hel
     ·cases hel; assumption
     ·cases hel
    ·cases h1
   ·cases h1
  have hd : P.underlying dst = some .string := by
   unfold strT at h2
   split at h2
   ·assumption
   ·cases h2
  have key : ∀ (v : Value) (s : ByteArray), e x = v → (convert src dst v).run P w = .ok (.string s) w → ∃ v, (execOp e o).run P w = .ok (.value v) w ∧ RepA cx w μ at_ (.v true (.str s)) v := fun v s hv hc =>
   ⟨_, by simp only [execOp, ho, hv, Sem.run_bind, hc, Result.andThen_ok, Sem.run_pure], repA_str.2 rfl⟩
  have none_ok : ∀ c, (convert src dst (.slice none 0 c)).run P w = .ok (.string ⟨#[]⟩) w := fun c => by
   rw [run_convert_bytes_string w src dst el none 0 c hu he hd]
   simp [Conv.bytesToString]
   rfl
  have row : ∀ (b o0 cap : Nat) (ok : Nat → Prop) (xs : List V) (l : List UInt8), bytesV xs = some l → RepRow w ok b 1 o0 xs → (convert src dst (.slice (some ⟨b, o0, none⟩) xs.length cap)).run P w = .ok (.string ⟨l.toArray⟩) w := fun b o0 cap ok xs l hl hr => by
   obtain ⟨k1, k2⟩ := bytesV_row hl hr
   rw [← k1]
   exact run_convert_bytes_back w src dst el ⟨b, o0, none⟩ cap l hu he hd fun j hj => by rw [addr_add]; exact k2 j hj
  have emp : ∀ (A : Option Addr) (c : Nat), (convert src dst (.slice A 0 c)).run P w = .ok (.string ⟨#[]⟩) w := fun A c => by
   cases A with
   | none => exact none_ok c
   | some a => exact run_convert_bytes_back w src dst el a c [] hu he hd fun j hj => by simp at hj
  split at h
  ·next s off len =>
   split at h
   ·next ety nw xs hat =>
    simp only [Option.map_eq_some_iff] at h
    obtain ⟨l, hl, rfl⟩ := h
    rw [RepA, hat] at hx
    have hs := hm s
    rw [hat] at hs
    rcases hx with ⟨b, cap, g1, g2, g3⟩ | ⟨g1, rfl, rfl, rfl, g3⟩
    ·rcases hs with ⟨q, _⟩ | ⟨b', cap', cur, q1, q2, q3, q4, q5, q6⟩
     ·rw [g1] at q; cases q
     ·rw [g1] at q1; cases q1
      have hrow := RepRow.take (RepRow.drop q6 off) len
      have := row b _ (cap - off) _ _ l hl hrow
      rw [show ((xs.drop off).take len).length = len from by simp; omega, Nat.zero_add] at this
      exact key _ _ g3 this
    ·simp only [List.drop_nil, List.take_nil, bytesV] at hl
     cases hl
     exact key _ _ g3 (none_ok 0)
   ·cases h
  ·cases h
   rw [repA_nil] at hx
   exact key _ _ hx (none_ok 0)
  ·next nw xs =>
   simp only [Option.map_eq_some_iff] at h
   obtain ⟨l, hl, rfl⟩ := h
   rw [RepA] at hx
   obtain ⟨cs, g1, g2⟩ := hx
   rw [Rep] at g1
   rcases g1 with ⟨rfl, A, c, rfl⟩ | ⟨b, o0, c, k1, k2, rfl, k3⟩
   ·rw [bytesV] at hl
    cases hl
    exact key _ _ g2 (emp A c)
   ·exact key _ _ g2 (row b o0 c _ xs l hl k3)
  ·cases h
 ·cases h
theorem x_arr {t : TypeId} {x : Operand} {X Z : AV} (ho : o.op = .sliceToArrayPointer t x) (h : arrA P t X = some Z) (hx : RepA cx w μ at_ X (e x)) :
 ∃ v, (execOp e o).run P w = .ok (.value v) w ∧ RepA cx w μ at_ Z v := by
 unfold arrA at h
 split at h
 ·next nw sz xs =>
  split at h
  ·next n z ag hf =>
   split at h <;> cases h
   rename_i hc
   obtain ⟨rfl, h2, h3⟩ := hc
   obtain ⟨el, hu, hz, _⟩ := arr_info hf
   rw [RepA] at hx
   obtain ⟨cs, g1, g2⟩ := hx
   rw [Rep] at g1
   rcases g1 with ⟨rfl, _⟩ | ⟨b, o0, c, k1, k2, rfl, k3⟩
   ·simp at h2; omega
   ·obtain ⟨ds, m1, m2⟩ := RepRow.agg (RepRow.take k3 n)
    refine ⟨.pointer (some ⟨b, o0, none⟩), ?_, ?_⟩
    ·simp only [execOp, ho, g2, V.toVal, List.headD_cons, Instr.arrayAt, Sem.run_bind, Sem.run_pure, Result.andThen_ok, run_underlying hu, Sem.run_ite, if_neg (show ¬ xs.length < n by omega)]
    ·rw [RepA]
     exact ⟨b, o0, ds, k2, rfl, by rw [Rep]; exact m1, m2⟩
  ·cases h
 ·cases h
theorem coreA_ok {g : Operand → AV} {Z : AV} (hm : ∀ s, RepB cx w μ at_ s (at_ s)) (hg : ∀ x, RepA cx w μ at_ (g x) (e x)) (h : coreA P at_ g o.op = some Z) :
 ∃ v, (execOp e o).run P w = .ok (.value v) w ∧ RepA cx w μ at_ Z v := by
 cases ho : o.op <;> rw [ho] at h <;> simp only [coreA] at h <;> try cases h
 ·exact ⟨_, by simp only [execOp, ho]; rfl, hg _⟩
 ·exact ⟨_, by simp only [execOp, ho]; rfl, hg _⟩
 ·next c x y =>
  split at h <;> cases h
  rename_i nw t hc
  have h1 := hg c
  rw [hc, repA_bool] at h1
  cases t
  ·exact ⟨_, by simp only [execOp, ho, h1, asBool, Sem.run_bind, Sem.run_pure, Result.andThen_ok, Bool.false_eq_true, if_false]; try rfl, hg _⟩
  ·exact ⟨_, by simp only [execOp, ho, h1, asBool, Sem.run_bind, Sem.run_pure, Result.andThen_ok, if_true]; try rfl, hg _⟩
 ·exact x_load hm ho h (hg _)
 ·next x =>
  have h1 := hg x
  split at h
  ·next s i p off hx =>
   split at h <;> cases h
   rename_i hl
   rw [hx] at h1
   refine ⟨e x, ?_, h1⟩
   rw [RepA] at h1
   cases hat : at_ s with
   | dead => rw [hat] at hl; cases hl
   | buf _ _ _ _ => rw [hat] at h1; obtain ⟨b, cap, _, h2⟩ := h1; simp only [execOp, ho, h2, Sem.run_pure]
   | box _ _ => rw [hat] at h1; obtain ⟨b, cap, _, h2⟩ := h1; simp only [execOp, ho, h2, Sem.run_pure]
  ·next nw y hx =>
   cases h
   rw [hx] at h1
   refine ⟨e x, ?_, h1⟩
   rw [RepA] at h1
   obtain ⟨b, o0, cs, _, h2, _⟩ := h1
   simp only [execOp, ho, h2, Sem.run_pure]
  ·next nw t y hx =>
   cases h
   rw [hx] at h1
   refine ⟨e x, ?_, h1⟩
   rw [RepA] at h1
   obtain ⟨cs, h2, h3⟩ := h1
   rw [Rep] at h2
   obtain ⟨c, _, rfl⟩ := h2
   simp only [execOp, ho, h3, V.toVal, List.headD_cons, Sem.run_pure]
  ·cases h
 ·exact x_bin ho h (hg _) (hg _)
 ·exact x_un ho h (hg _)
 ·next src dst x =>
  split at h
  ·next nw k' n k h1 h2 h3 =>
   cases h
   have h4 := hg x
   rw [h1, repA_int] at h4
   obtain ⟨d, hd⟩ := Option.isSome_iff_exists.1 h3
   have hu : P.underlying dst = some (.int k) := by
    unfold ikd at h2
    split at h2
    ·cases h2; assumption
    ·cases h2
   refine ⟨_, ?_, repA_int.2 rfl⟩
   simp only [execOp, ho, h4, convert, Sem.run_bind, Sem.run_pure, Result.andThen_ok, run_underlying hd, run_underlying hu, Conv.intToInt]
  ·exact x_str hm ho h (hg _)
 ·exact x_arr ho h (hg _)
 ·next t x =>
  split at h <;> cases h
  rename_i nw y h1 h2
  have h3 := hg x
  rw [h1, RepA] at h3
  obtain ⟨cs, h4, h5⟩ := h3
  unfold ifcT at h2
  cases hu : P.underlying t with
  | none => rw [hu] at h2; cases h2
  | some d =>
    rw [hu] at h2
    refine ⟨.iface t (e x), ?_, ?_⟩
    ·simp only [execOp, ho, Instr.makeInterface, Sem.run_bind, run_underlying hu, Result.andThen_ok]
     cases d <;> first | rfl | (simp at h2)
    ·rw [RepA]
     exact ⟨[.iface t (e x)], by rw [Rep]; exact ⟨cs, h4, by rw [h5]⟩, rfl⟩
 ·exact x_slice hm ho h hg
 ·exact x_fieldAddr ho h (hg _)
 ·exact x_field ho h (hg _)
 ·exact x_indexAddr ho h (hg _) (hg _)
 ·exact x_index ho h (hg _) (hg _)
 ·next x j =>
  split at h
  ·next xs hx =>
   have h1 := hg x
   rw [hx, RepA] at h1
   obtain ⟨vs, h2, h3⟩ := h1
   have key : ∀ (xs : List AV) (vs : List Value) (j : Nat), RepAL cx w μ at_ xs vs → xs[j]? = some Z → ∃ v, vs[j]? = some v ∧ RepA cx w μ at_ Z v := by
    intro xs
    induction xs with
    | nil => intro vs j _ hj; simp at hj
    | cons y r ih =>
      intro vs j hr hj
      rw [RepAL] at hr
      obtain ⟨v, vr, rfl, k1, k2⟩ := hr
      cases j with
      | zero => simp at hj; subst hj; exact ⟨v, rfl, k1⟩
      | succ j => simpa using ih vr j k2 (by simpa using hj)
   obtain ⟨v, h4, h5⟩ := key _ _ _ h3 h
   refine ⟨v, ?_, h5⟩
   simp only [execOp, ho, h2, Instr.extract, Sem.run_bind, List.getElem?_toArray, h4, Sem.run_pure, Result.andThen_ok]
  ·cases h
 ·next c =>
  obtain ⟨callee, args, ats⟩ := c
  split at h
  ·next hc =>
   simp only at hc
   subst hc
   split at h
   ·next x t h1 h2 =>
    obtain ⟨args⟩ := args
    obtain ⟨ats⟩ := ats
    simp only at h1 h2
    subst h1; subst h2
    exact x_len ho h (hg _)
   ·cases h
  ·next hc =>
   simp only at hc
   subst hc
   exact x_min ho h hg
  ·next hc =>
   simp only at hc
   subst hc
   exact x_max ho h hg
  ·cases h
end
def St.upd (σ : St) (ms : List (Nat × Blk)) : St := { σ with mem := ms ++ σ.mem }
def St.set (σ : St) (d : Nat) (x : AV) : St := { σ with env := (d, x) :: σ.env }
def St.put (σ : St) (d : Option Nat) (x : AV) : St := match d with
 | some d => σ.set d x
 | none => σ
def St.freshB (σ : St) (s : Nat) : Bool := σ.env.all (fun p => !p.2.ment s) && σ.mem.all (fun p => !p.2.ment s) && σ.root.all (fun p => !p.1.ment s)
structure St.Fresh (σ : St) (s : Nat) : Prop where
 env : ∀ t, (σ.get t).ment s = false
 mem : ∀ s', (σ.at s').ment s = false
 root : ∀ p ∈ σ.root, p.1.ment s = false
theorem look_all {α : Type} [Inhabited α] (p : α → Bool) (hd : p default = true) : ∀ {l : List (Nat × α)} (t : Nat), l.all (fun x => p x.2) = true → p (look l t) = true
 | [], t, _ => by rw [look]; exact hd
 | x :: r, t, h => by
   rw [List.all_cons, Bool.and_eq_true] at h
   rw [look]
   split
   ·exact h.1
   ·exact look_all p hd t h.2
theorem St.fresh_of {σ : St} {s : Nat} (h : σ.freshB s = true) : σ.Fresh s := by
 unfold St.freshB at h
 rw [Bool.and_eq_true, Bool.and_eq_true] at h
 exact ⟨fun t => by simpa [St.get] using look_all (fun x : AV => !x.ment s) (by simp [default, AV.ment]) t h.1.1, fun t => by simpa [St.at] using look_all (fun x : Blk => !x.ment s) (by simp [default, Blk.ment]) t h.1.2, fun p hp => by simpa using List.all_eq_true.1 h.2 p hp⟩
theorem look_append {α : Type} [Inhabited α] : ∀ {l l' : List (Nat × α)} {t : Nat}, (∀ p ∈ l, p.1 ≠ t) → look (l ++ l') t = look l' t
 | [], _, _, _ => rfl
 | x :: r, l', t, h => by
   rw [List.cons_append, look, if_neg (h x (by simp)), look_append (fun p hp => h p (by simp [hp]))]
section
variable {P : Program} {cx : Cx} {w0 w w' : World} {σ : St} {tmps : Array Value} {μ μ' : Sites}
theorem RelM.put (h : RelM cx w0 σ tmps w μ) {d : Nat} {x : AV} {v : Value} (hd : d < σ.nt) (hx : RepA cx w μ σ.at x v) : RelM cx w0 (σ.set d x) (tmps.setIfInBounds d v) w μ where
 below := h.below
 hB := h.hB
 gl := h.gl
 size := by rw [Array.size_setIfInBounds]; exact h.size
 sites := h.sites
 mem := h.mem
 roots := h.roots
 fix := h.fix
 env := fun t => by
  have hsz := h.size
  show RepA cx w μ σ.at (look ((d, x) :: σ.env) t) _
  rw [look]
  by_cases ht : d = t
  ·subst ht
   rw [if_pos rfl]
   rw [Array.getD_eq_getD_getElem?, Array.getElem?_setIfInBounds_self_of_lt (by omega)]
   exact hx
  ·rw [if_neg ht]
   rw [Array.getD_eq_getD_getElem?, Array.getElem?_setIfInBounds_ne ht, ← Array.getD_eq_getD_getElem?]
   exact h.env t
theorem RelM.next (h : RelM cx w0 σ tmps w μ) {ms : List (Nat × Blk)} (hG : Goes w μ w' μ') (hb : Below w0.heap.size w0 w') (hs : SitesOk cx w' μ')
 (hmem : ∀ s, ((σ.upd ms).at s = σ.at s ∧ μ' s = μ s ∧ ∀ b c, μ s = some (b, c) → w'.heap[b]? = w.heap[b]?) ∨ RepB cx w' μ' (σ.upd ms).at s ((σ.upd ms).at s))
 (hfit : ∀ s, (σ.upd ms).at s = .dead ∨ (μ' s = μ s ∧ (σ.at s).fits ((σ.upd ms).at s)) ∨ σ.Fresh s) : RelM cx w0 (σ.upd ms) tmps w' μ' where
 below := hb
 hB := h.hB
 gl := h.gl
 size := h.size
 sites := hs
 mem := fun s => by
  rcases hmem s with ⟨h1, h2, h3⟩ | h1
  ·rw [h1]
   refine RepB.goes hG (fun t ht => ?_) h2 h3 (h.mem s)
   rcases hfit t with h4 | h4 | h4
   ·exact .inl h4
   ·exact .inr h4
   ·rw [h4.mem s] at ht; cases ht
  ·exact h1
 roots := fun p hp => by
  refine RepA.goes hG (fun s ht => ?_) (h.roots p hp)
  rcases hfit s with h4 | h4 | h4
  ·exact .inl h4
  ·exact .inr h4
  ·rw [h4.root p hp] at ht; cases ht
 fix := fun p hp => ⟨hG.other _ _ (h.fix p hp).1 (h.fix p hp).2, (h.fix p hp).2⟩
 env := fun t => by
  refine RepA.goes hG (fun s ht => ?_) (h.env t)
  rcases hfit s with h4 | h4 | h4
  ·exact .inl h4
  ·exact .inr h4
  ·have := h4.env t
   rw [show (σ.upd ms).get t = σ.get t from rfl] at ht
   rw [this] at ht; cases ht
theorem RepA.later {ms : List (Nat × Blk)} (hG : Goes w μ w' μ') (hfit : ∀ s, (σ.upd ms).at s = .dead ∨ (μ' s = μ s ∧ (σ.at s).fits ((σ.upd ms).at s)) ∨ σ.Fresh s) {x : AV} {v : Value}
 (hx : ∀ s, σ.Fresh s → x.ment s = false) (h : RepA cx w μ σ.at x v) : RepA cx w' μ' (σ.upd ms).at x v := by
 refine RepA.goes hG (fun s ht => ?_) h
 rcases hfit s with h4 | h4 | h4
 ·exact .inl h4
 ·exact .inr h4
 ·rw [hx s h4] at ht; cases ht
theorem RelM.grow (h : RelM cx w0 σ tmps w μ) (hb : Below w.heap.size w w') : RelM cx w0 σ tmps w' μ := by
 have hG : Goes w μ w' μ := ⟨hb.size, fun b o v _ hv => by
  rw [← hv]
  have : b < w.heap.size := by
   have : w.heap[b]? ≠ none := fun hn => by simp [World.cell?, hn] at hv
   exact Nat.lt_of_not_le fun hle => this (Array.getElem?_eq_none hle)
  exact World.cell?_of_block (w := w) (a := ⟨b, o, none⟩) (hb.block b this), fun s b c hs => .inl ⟨s, c, hs⟩, fun b o hb' _ => (hb.block b (Array.getElem?_eq_some_iff.1 hb').1).trans hb'⟩
 have := h.next (ms := []) (w' := w') (μ' := μ) hG (h.below.trans (hb.mono h.below.size)) ⟨fun s b c hs => ⟨(h.sites.lo s b c hs).1, Nat.lt_of_lt_of_le (h.sites.lo s b c hs).2 hb.size⟩, h.sites.inj⟩
  (fun s => .inl ⟨rfl, rfl, fun b c hs => hb.block b (h.sites.lo s b c hs).2⟩) (fun s => .inr (.inl ⟨rfl, Blk.fits_refl _⟩))
 exact this
def upS (μ : Sites) (s : Nat) (x : Option (Nat × Nat)) : Sites := fun t => if t = s then x else μ t
theorem Goes.alloc {s cap : Nat} (o : Obj) : Goes w μ (w.alloc o) (upS μ s (some (w.heap.size, cap))) where
 size := by simp
 cell := fun b o' v _ hv => by
  rw [← hv]
  exact World.cell?_alloc_old _ _ _ (fun hn => by simp [World.cell?, show b = w.heap.size from hn] at hv)
 blocks := fun s' b c hs => by
  unfold upS at hs
  split at hs
  ·cases hs; exact .inr (Nat.le_refl _)
  ·exact .inl ⟨s', c, hs⟩
 other := fun b o' hb _ => (Below.heap_alloc w o b (Array.getElem?_eq_some_iff.1 hb).1).trans hb
theorem SitesOk.alloc (h : SitesOk cx w μ) (hB : cx.B ≤ w.heap.size) {s cap : Nat} (o : Obj) : SitesOk cx (w.alloc o) (upS μ s (some (w.heap.size, cap))) where
 lo := fun s' b c hs => by
  unfold upS at hs
  split at hs
  ·cases hs; exact ⟨hB, by simp⟩
  ·have := h.lo s' b c hs; exact ⟨this.1, by simp; omega⟩
 inj := fun s1 s2 b c c' h1 h2 => by
  unfold upS at h1 h2
  split at h1 <;> split at h2
  ·next e1 e2 => rw [e1, e2]
  ·cases h1; have := (h.lo _ _ _ h2).2; omega
  ·cases h2; have := (h.lo _ _ _ h1).2; omega
  ·exact h.inj s1 s2 b c c' h1 h2
theorem St.at_upd_one {s t : Nat} {b : Blk} : (σ.upd [(s, b)]).at t = if s = t then b else σ.at t := rfl
theorem RelM.fresh (h : RelM cx w0 σ tmps w μ) {s cap : Nat} {blk : Blk} {cur : Array Value} {e : TypeId} (hf : σ.Fresh s)
 (hb : Goes w μ (w.alloc (.cells cur e)) (upS μ s (some (w.heap.size, cap))) → RepB cx (w.alloc (.cells cur e)) (upS μ s (some (w.heap.size, cap))) (σ.upd [(s, blk)]).at s blk) :
 RelM cx w0 (σ.upd [(s, blk)]) tmps (w.alloc (.cells cur e)) (upS μ s (some (w.heap.size, cap))) := by
 have hB : cx.B ≤ w.heap.size := by rw [← h.hB]; exact h.below.size
 have hG := Goes.alloc (w := w) (μ := μ) (s := s) (cap := cap) (.cells cur e)
 refine h.next hG (h.below.alloc h.below.size _) (h.sites.alloc hB _) (fun t => ?_) (fun t => ?_)
 ·by_cases ht : s = t
  ·subst ht
   right
   rw [St.at_upd_one, if_pos rfl]
   exact hb hG
  ·left
   rw [St.at_upd_one, if_neg ht]
   refine ⟨rfl, by unfold upS; rw [if_neg (Ne.symm ht)], fun b c hs => ?_⟩
   exact Below.heap_alloc _ _ _ (h.sites.lo t b c hs).2
 ·by_cases ht : s = t
  ·subst ht; exact .inr (.inr hf)
  ·refine .inr (.inl ⟨by unfold upS; rw [if_neg (Ne.symm ht)], ?_⟩)
   rw [St.at_upd_one, if_neg ht]
   exact Blk.fits_refl _
end
def RepF (w : World) (ok : Nat → Prop) (sz : Nat) : List V → List Value → Prop
 | [], cs => cs = []
 | x :: r, cs => ∃ a b, cs = a ++ b ∧ a.length = sz ∧ Rep w ok x a ∧ RepF w ok sz r b
section
variable {w w' : World} {ok ok' : Nat → Prop} {sz : Nat}
theorem RepF.length : ∀ {xs : List V} {cs : List Value}, RepF w ok sz xs cs → cs.length = xs.length * sz
 | [], _, h => by rw [RepF] at h; subst h; simp
 | x :: r, _, h => by
   rw [RepF] at h
   obtain ⟨a, b, rfl, h1, _, h3⟩ := h
   rw [List.length_append, h1, RepF.length h3, List.length_cons, Nat.succ_mul]
   omega
theorem RepF.one : ∀ {xs : List V} {cs : List Value}, RepF w ok sz xs cs → ∀ c ∈ cs, c.oneCell' = true
 | [], _, h => by rw [RepF] at h; subst h; simp
 | x :: r, _, h => by
   rw [RepF] at h
   obtain ⟨a, b, rfl, _, h2, h3⟩ := h
   intro c hc
   rcases List.mem_append.1 hc with h4 | h4
   ·exact Rep.one h2 c h4
   ·exact RepF.one h3 c h4
theorem RepF.map (hm : ∀ {x : V} {a : List Value}, Rep w ok x a → Rep w' ok' x a) : ∀ {xs : List V} {cs : List Value}, RepF w ok sz xs cs → RepF w' ok' sz xs cs
 | [], _, h => by rw [RepF] at h ⊢; exact h
 | x :: r, _, h => by
   rw [RepF] at h ⊢
   obtain ⟨a, b, h0, h1, h2, h3⟩ := h
   exact ⟨a, b, h0, h1, hm h2, RepF.map hm h3⟩
theorem RepF.append : ∀ {xs ys : List V} {cs ds : List Value}, RepF w ok sz xs cs → RepF w ok sz ys ds → RepF w ok sz (xs ++ ys) (cs ++ ds)
 | [], _, _, _, h, k => by rw [RepF] at h; subst h; exact k
 | x :: r, _, _, _, h, k => by
   rw [RepF] at h
   obtain ⟨a, b, rfl, h1, h2, h3⟩ := h
   rw [List.cons_append, RepF]
   exact ⟨a, b ++ _, by rw [List.append_assoc], h1, h2, RepF.append h3 k⟩
theorem RepF.split : ∀ {xs ys : List V} {cs : List Value}, RepF w ok sz (xs ++ ys) cs → ∃ a b, cs = a ++ b ∧ RepF w ok sz xs a ∧ RepF w ok sz ys b
 | [], ys, cs, h => ⟨[], cs, rfl, by rw [RepF], h⟩
 | x :: r, ys, cs, h => by
   rw [List.cons_append, RepF] at h
   obtain ⟨a, b, rfl, h1, h2, h3⟩ := h
   obtain ⟨a', b', rfl, h4, h5⟩ := RepF.split h3
   refine ⟨a ++ a', b', by rw [List.append_assoc], ?_, h5⟩
   rw [RepF]
   exact ⟨a, a', rfl, h1, h2, h4⟩
theorem RepF.row {b : Nat} : ∀ {xs : List V} {cs : List Value} {o : Nat}, RepF w ok sz xs cs → (∀ j, j < cs.length → w.cell? ⟨b, o + j, none⟩ = cs[j]?) → RepRow w ok b sz o xs
 | [], _, _, _, _ => by rw [RepRow]; trivial
 | x :: r, _, o, h, hc => by
   rw [RepF] at h
   obtain ⟨a, d, rfl, h1, h2, h3⟩ := h
   rw [RepRow]
   refine ⟨⟨a, h1, fun j hj => ?_, h2⟩, RepF.row h3 fun j hj => ?_⟩
   ·rw [hc j (by simp; omega), List.getElem?_append_left (by omega)]
   ·have := hc (sz + j) (by simp; omega)
    rw [List.getElem?_append_right (by omega), ← Nat.add_assoc] at this
    rw [this]
    congr 1
    omega
theorem RepRow.flat {b : Nat} : ∀ {xs : List V} {o : Nat}, RepRow w ok b sz o xs → ∃ cs, RepF w ok sz xs cs ∧ ∀ j, j < cs.length → w.cell? ⟨b, o + j, none⟩ = cs[j]?
 | [], o, _ => ⟨[], by rw [RepF], fun j hj => by simp at hj⟩
 | x :: r, o, h => by
   rw [RepRow] at h
   obtain ⟨⟨a, h1, h2, h3⟩, h4⟩ := h
   obtain ⟨cs, k1, k2⟩ := RepRow.flat h4
   refine ⟨a ++ cs, by rw [RepF]; exact ⟨a, cs, rfl, h1, h3, k1⟩, fun j hj => ?_⟩
   by_cases hj' : j < sz
   ·rw [h2 j hj', List.getElem?_append_left (by omega)]
   ·rw [List.getElem?_append_right (by omega), ← k2 (j - a.length) (by simp at hj; omega)]
    congr 2
    omega
theorem RepF.replicate {x : V} {a : List Value} (ha : a.length = sz) (hr : Rep w ok x a) : ∀ (n : Nat), RepF w ok sz (List.replicate n x) ((List.replicate n a).flatten)
 | 0 => by simp [RepF]
 | n + 1 => by
   rw [List.replicate_succ, RepF]
   exact ⟨a, _, by rw [List.replicate_succ, List.flatten_cons], ha, hr, RepF.replicate ha hr n⟩
end
theorem toVal_cells {w : World} {ok : Nat → Prop} {x : V} {cs : List Value} (h : Rep w ok x cs) : (x.toVal cs).cells.toList = cs := by rw [Rep.cells h]
def partsA (P : Program) (e : TypeId) (sz : Nat) (g : Operand → AV) : Nat → List (Nat × Operand) → Option (Bool × List V)
 | _, [] => some (true, [])
 | k, (i, x) :: r => if i = k then (match partsA P e sz g (k + 1) r with
   | some (nw', ys) => (match g x with
     | .v nw y => if y.size = sz then some (nw && nw', y :: ys) else none
     | .nil => (match esz P e with
       | some z => if sz = 1 then some (nw', .sl z [] :: ys) else none
       | none => none)
     | _ => none)
   | none => none) else none
section
variable {P : Program} {cx : Cx} {w0 w : World} {σ : St} {tmps : Array Value} {μ : Sites} {e : Operand → Value} {o : Oper} {g : Operand → AV}
theorem parts_ok {ety : TypeId} {sz : Nat} : ∀ {k : Nat} {ps : List (Nat × Operand)} {nw : Bool} {ys : List V} {mem : Nat → Blk}, partsA P ety sz g k ps = some (nw, ys) → (∀ x, RepA cx w μ mem (g x) (e x)) →
 ps.length = ys.length ∧ (ps.map fun p => (p.1, e p.2)) = ((ps.map fun p => e p.2).zipIdx k).map (fun x => (x.2, x.1)) ∧ (∀ v ∈ ps.map (fun p => e p.2), v.cells.size = sz) ∧
 RepF w (okOf cx w.heap.size μ nw) sz ys ((ps.map fun p => e p.2).flatMap fun v => v.cells.toList)
 | k, [], nw, ys, mem, h, hg => by
   rw [partsA] at h
   cases h
   exact ⟨rfl, rfl, by simp, by simp [RepF]⟩
 | k, (i, x) :: r, nw, ys, mem, h, hg => by
   rw [partsA] at h
   split at h
   ·next hi =>
    subst hi
    split at h
    ·next nw' zs hr =>
     obtain ⟨h1, h2, h3, h4⟩ := parts_ok hr hg
     have hx := hg x
     split at h
     ·next nw1 y hy =>
      split at h <;> cases h
      rename_i hs
      rw [hy, RepA] at hx
      obtain ⟨cs, k1, k2⟩ := hx
      have hl := Rep.length k1
      refine ⟨by simp [h1], by simp only [List.map_cons, List.zipIdx_cons, h2], ?_, ?_⟩
      ·intro v hv
       rw [List.map_cons, List.mem_cons] at hv
       rcases hv with rfl | hv
       ·rw [k2, Rep.cells k1]; simp; omega
       ·exact h3 v hv
      ·rw [List.map_cons, List.flatMap_cons, RepF]
       refine ⟨cs, _, by rw [k2, toVal_cells k1], by omega, Rep.weak (fun hn => ?_) k1, RepF.map (fun h => Rep.weak (fun hn => ?_) h) h4⟩
       ·rw [Bool.and_eq_true] at hn; exact hn.1
       ·rw [Bool.and_eq_true] at hn; exact hn.2
     ·next hy =>
      split at h
      ·next z hz =>
       split at h <;> cases h
       rename_i hs
       rw [hy, repA_nil] at hx
       refine ⟨by simp [h1], by simp only [List.map_cons, List.zipIdx_cons, h2], ?_, ?_⟩
       ·intro v hv
        rw [List.map_cons, List.mem_cons] at hv
        rcases hv with rfl | hv
        ·rw [hx, hs]; rfl
        ·exact h3 v hv
       ·rw [List.map_cons, List.flatMap_cons, RepF]
        refine ⟨[.slice none 0 0], _, by rw [hx]; rfl, by rw [hs]; rfl, ?_, h4⟩
        rw [Rep]
        exact .inl ⟨rfl, _, _, rfl⟩
      ·cases h
     ·cases h
    ·cases h
   ·cases h
theorem x_newVar {d : Nat} {ety : TypeId} {X : AV} {val : Value} (h : RelM cx w0 σ tmps w μ) (hf : σ.Fresh d) (hX : ∀ s, σ.Fresh s → X.ment s = false) (hx : RepA cx w μ σ.at X val) (h1 : X.isV = false → val.oneCell' = true) :
 ∃ μ', RelM cx w0 (σ.upd [(d, .box ety X)]) tmps (w.alloc (.cells val.cells ety)) μ' ∧ RepA cx (w.alloc (.cells val.cells ety)) μ' (σ.upd [(d, .box ety X)]).at (.ptr d 0 [] 0) (.pointer (some ⟨w.heap.size, 0, none⟩)) := by
 refine ⟨_, h.fresh (cap := 1) hf fun hG => ?_, ?_⟩
 ·refine ⟨w.heap.size, 1, val.cells, val, by unfold upS; rw [if_pos rfl], heap_alloc_new w _, RepA.later (σ := σ) hG (fun s => ?_) hX hx, rfl, h1⟩
  by_cases hs : d = s
  ·subst hs; exact .inr (.inr hf)
  ·refine .inr (.inl ⟨by unfold upS; rw [if_neg (Ne.symm hs)], ?_⟩)
   rw [St.at_upd_one, if_neg hs]
   exact Blk.fits_refl _
 ·rw [RepA, St.at_upd_one, if_pos rfl]
  exact ⟨w.heap.size, 1, by unfold upS; rw [if_pos rfl], rfl⟩
theorem x_newRow {d : Nat} {ety : TypeId} {sz : Nat} {nw : Bool} {xs : List V} {cur : Array Value} {cs rest : List Value} {cap : Nat} (h : RelM cx w0 σ tmps w μ) (hf : σ.Fresh d) (hr : RepF w (okOf cx w.heap.size μ nw) sz xs cs)
 (hcur : cur.toList = cs ++ rest) (hcap : cur.size = cap * sz) (hle : xs.length ≤ cap) (hm : cap ≤ maxLen) :
 ∃ μ', RelM cx w0 (σ.upd [(d, .buf ety sz nw xs)]) tmps (w.alloc (.cells cur ety)) μ' ∧ RepA cx (w.alloc (.cells cur ety)) μ' (σ.upd [(d, .buf ety sz nw xs)]).at (.own d 0 xs.length) (.slice (some ⟨w.heap.size, 0, none⟩) xs.length cap) := by
 refine ⟨_, h.fresh (cap := cap) hf fun hG => ?_, ?_⟩
 ·refine .inr ⟨w.heap.size, cap, cur, by unfold upS; rw [if_pos rfl], heap_alloc_new w _, hle, hm, hcap, RepF.row (RepF.map (fun h => Rep.goes hG h) hr) fun j hj => ?_⟩
  rw [Nat.zero_add, World.cell?_alloc_mark, ← Array.getElem?_toList, hcur, List.getElem?_append_left hj]
 ·rw [RepA, St.at_upd_one, if_pos rfl]
  exact .inl ⟨w.heap.size, cap, by unfold upS; rw [if_pos rfl], by omega, by simp⟩
theorem x_newVal {ety : TypeId} {sz : Nat} {nw : Bool} {xs : List V} {cur : Array Value} {cs : List Value} (h : RelM cx w0 σ tmps w μ) (hr : RepF w (okOf cx w.heap.size μ nw) sz xs cs) (hcur : cur.toList = cs) :
 RelM cx w0 σ tmps (w.alloc (.cells cur ety)) μ ∧ RepA cx (w.alloc (.cells cur ety)) μ σ.at (.v nw (.sl sz xs)) (.slice (some ⟨w.heap.size, 0, none⟩) xs.length xs.length) := by
 have hb := (Below.refl w.heap.size w).alloc (Nat.le_refl _) (.cells cur ety)
 have hG : Goes w μ (w.alloc (.cells cur ety)) μ := ⟨hb.size, fun b o v _ hv => by
  rw [← hv]
  have : b < w.heap.size := by
   have : w.heap[b]? ≠ none := fun hn => by simp [World.cell?, hn] at hv
   exact Nat.lt_of_not_le fun hle => this (Array.getElem?_eq_none hle)
  exact World.cell?_of_block (w := w) (a := ⟨b, o, none⟩) (hb.block b this), fun s b c hs => .inl ⟨s, c, hs⟩, fun b o ho _ => (hb.block b (Array.getElem?_eq_some_iff.1 ho).1).trans ho⟩
 refine ⟨h.grow hb, ?_⟩
 rw [RepA]
 refine ⟨[.slice (some ⟨w.heap.size, 0, none⟩) xs.length xs.length], ?_, rfl⟩
 rw [Rep]
 have hB : cx.B ≤ w.heap.size := by rw [← h.hB]; exact h.below.size
 refine .inr ⟨w.heap.size, 0, xs.length, Nat.le_refl _, ⟨by rw [World.size_alloc]; omega, fun s c hs => ?_, .inl hB⟩, rfl, RepF.row (RepF.map (fun h => Rep.goes hG h) hr) fun j hj => ?_⟩
 ·exact absurd (h.sites.lo s _ c hs).2 (by omega)
 ·rw [Nat.zero_add, World.cell?_alloc_mark, ← Array.getElem?_toList, hcur]
theorem RelM.drew (h : RelM cx w0 σ tmps w μ) : RelM cx w0 σ tmps w.drew μ := h.grow ((Below.refl _ _).drew)
theorem made_flat {z : Array Value} : ∀ {n : Nat}, (madeCells z (n * z.size)).toList = (List.replicate n z.toList).flatten
 | 0 => by simp [madeCells]
 | n + 1 => by
   have h1 : (List.range z.size).map (fun k => z[k % z.size]!) = z.toList := by
    apply List.ext_getElem?
    intro k
    by_cases hk : k < z.size
    ·simp [hk, Nat.mod_eq_of_lt hk]
    ·simp [hk]
   have h2 := made_flat (z := z) (n := n)
   simp only [madeCells, Array.toList_map, Array.toList_range] at h2 ⊢
   rw [show (n + 1) * z.size = z.size + n * z.size from by rw [Nat.succ_mul]; omega, List.range_add, List.map_append, h1, List.replicate_succ, List.flatten_cons, ← h2, List.map_map]
   congr 1
   apply List.map_congr_left
   intro k _
   simp [Nat.add_mod_left]
end
def boxOk (at_ : Nat → Blk) : AV → Bool
 | .v _ _ => true
 | .nil => true
 | .own s _ _ => match at_ s with
   | .buf _ _ _ _ => true
   | _ => false
 | .ptr s _ _ _ => liveB (at_ s)
 | .el _ _ => true
 | .fn _ _ => true
 | .knot _ _ _ => true
 | _ => false
theorem boxOk_one {cx : Cx} {w : World} {μ : Sites} {at_ : Nat → Blk} {X : AV} {v : Value} (hb : boxOk at_ X = true) (h : RepA cx w μ at_ X v) (hX : X.isV = false) : v.oneCell' = true := by
 cases X <;> simp only [boxOk, AV.isV] at hb hX <;> try cases hb
 ·cases hX
 ·rw [RepA] at h; subst h; rfl
 ·next s off len =>
  rw [RepA] at h
  split at hb
  ·next hat => rw [hat] at h; rcases h with ⟨b, cap, _, _, rfl⟩ | ⟨_, _, _, _, rfl⟩ <;> rfl
  ·cases hb
 ·next s i p off =>
  rw [RepA] at h
  cases hat : at_ s with
  | dead => rw [hat] at hb; cases hb
  | buf _ _ _ _ => rw [hat] at h; obtain ⟨b, cap, _, rfl⟩ := h; rfl
  | box _ _ => rw [hat] at h; obtain ⟨b, cap, _, rfl⟩ := h; rfl
 ·rw [RepA] at h; obtain ⟨b, o, cs, _, rfl, _⟩ := h; rfl
 ·rw [RepA] at h; obtain ⟨vs, rfl, _⟩ := h; rfl
 ·rw [RepA] at h; obtain ⟨b, o, b', o', cs, _, rfl, _⟩ := h; rfl
section
variable {P : Program} {cx : Cx} {w0 w : World} {σ : St} {tmps : Array Value} {μ : Sites} {e : Operand → Value} {o : Oper} {g : Operand → AV} {d : Nat} {Px : Px P}
def Ends (cx : Cx) (w0 : World) (σ' : St) (tmps : Array Value) (X : AV) (P : Program) (e : Operand → Value) (o : Oper) (w : World) : Prop :=
 ∃ v w' μ', (execOp e o).run P w = .ok (.value v) w' ∧ RelM cx w0 σ' tmps w' μ' ∧ RepA cx w' μ' σ'.at X v
theorem x_alloc {t : TypeId} {X : AV} (h : RelM cx w0 σ tmps w μ) (hf : σ.Fresh d) (ho : o.op = .alloc t) (hz : Px.zt t = some X) (hX : ∀ s, X.ment s = false) :
 Ends cx w0 (σ.upd [(d, .box t X)]) tmps (.ptr d 0 [] 0) P e o w := by
 obtain ⟨i, z, h1, h2, h3, h4, h5⟩ := Px.zok t X hz
 obtain ⟨μ', k1, k2⟩ := x_newVar (ety := t) h hf (fun s _ => hX s) (h5 cx w μ σ.at) h4
 refine ⟨_, _, μ', ?_, k1, k2⟩
 simp [execOp, ho, Instr.alloc, zeroValue, typeInfo, h1, h2, newVar, newRow]
theorem x_box {t : TypeId} {x : Operand} (h : RelM cx w0 σ tmps w μ) (hf : σ.Fresh d) (ho : o.op = .box t x) (hx : RepA cx w μ σ.at (g x) (e x)) (hb : boxOk σ.at (g x) = true) (hX : ∀ s, σ.Fresh s → (g x).ment s = false) :
 Ends cx w0 (σ.upd [(d, .box t (g x))]) tmps (.ptr d 0 [] 0) P e o w := by
 obtain ⟨μ', k1, k2⟩ := x_newVar (ety := t) h hf hX hx (boxOk_one hb hx)
 refine ⟨_, _, μ', ?_, k1, k2⟩
 simp [execOp, ho, Instr.box, newVar, newRow]
theorem x_buildSlice {t el : TypeId} {n sz : Nat} {parts : Array (Nat × Operand)} {nw : Bool} {xs : List V} {zX : AV} (h : RelM cx w0 σ tmps w μ) (hf : σ.Fresh d) (ho : o.op = .buildSlice t n parts)
 (hel : elt P t = some el) (hsz : tsz P el = some sz) (hz : Px.zt el = some zX) (hp : partsA P el sz g 0 parts.toList = some (nw, xs)) (hn : xs.length = n) (hs : 0 < sz) (h24 : n * sz ≤ 16777216) (hg : ∀ x, RepA cx w μ σ.at (g x) (e x)) :
 Ends cx w0 (σ.upd [(d, .buf el sz nw xs)]) tmps (.own d 0 n) P e o w := by
 subst hn
 have hu : P.underlying t = some (.slice el) := by
  unfold elt at hel
  split at hel
  ·cases hel; assumption
  ·cases hel
 obtain ⟨i, z, h1, h2, h3, h4, h5⟩ := Px.zok el zX hz
 have hi : i.size = sz := by unfold tsz at hsz; rw [h1] at hsz; simpa using hsz
 obtain ⟨p1, p2, p3, p4⟩ := parts_ok hp hg
 have hlen := RepF.length p4
 obtain ⟨μ', k1, k2⟩ := x_newRow (d := d) (ety := el) (cur := ((parts.toList.map fun p => e p.2).flatMap fun v => v.cells.toList).toArray) (rest := []) (cap := xs.length) h hf p4 (by simp) (by simpa using hlen) (Nat.le_refl _) (by simp only [maxLen]; have := Nat.le_mul_of_pos_right xs.length hs; omega)
 refine ⟨_, _, μ', ?_, k1, k2⟩
 by_cases h0 : xs.length = 0
 ·have hp0 : parts.toList = [] := List.eq_nil_of_length_eq_zero (by omega)
  have hp0' : parts = #[] := by cases parts; simpa using hp0
  subst hp0'
  simp [execOp, ho, Instr.buildSlice, run_underlying hu, r_size hsz, h0, Instr.fill, newRow, Array.range_zero']
 ·have hpos : ¬ xs.length * i.size = 0 := by rw [hi]; exact Nat.mul_ne_zero h0 (by omega)
  have hfill : Instr.fill (fun j => some (j * i.size, i.size)) ((Array.range (xs.length * i.size)).map (z.cells[· % z.cells.size]!)) (parts.map fun (i, x) => (i, e x)).toList = some ((parts.toList.map fun p => e p.2).flatMap fun v => v.cells.toList).toArray := by
   have e1 : (parts.map fun (i, x) => (i, e x)).toList = ((parts.toList.map fun p => e p.2).zipIdx 0).map (fun x => (x.2, x.1)) := by rw [Array.toList_map]; exact p2
   rw [e1]
   exact Great.fill_whole (by omega) _ _ (fun v hv => by rw [hi]; exact p3 v hv) (by simp [p1])
  have := run_buildSlice w t el xs.length (parts.map fun (i, x) => (i, e x)) _ i z hu h1 h2 (by rw [hi]; omega) hpos hfill
  simp only [execOp, ho, Sem.run_bind, this, Result.andThen_ok]
  rfl
theorem x_buildSliceV {t el : TypeId} {n sz : Nat} {parts : Array (Nat × Operand)} {nw : Bool} {xs : List V} {zX : AV} (h : RelM cx w0 σ tmps w μ) (ho : o.op = .buildSlice t n parts)
 (hel : elt P t = some el) (hsz : tsz P el = some sz) (hz : Px.zt el = some zX) (hp : partsA P el sz g 0 parts.toList = some (nw, xs)) (hn : xs.length = n) (hs : 0 < sz) (h24 : n * sz ≤ 16777216) (hg : ∀ x, RepA cx w μ σ.at (g x) (e x)) :
 Ends cx w0 σ tmps (.v nw (.sl sz xs)) P e o w := by
 subst hn
 have hu : P.underlying t = some (.slice el) := by
  unfold elt at hel
  split at hel
  ·cases hel; assumption
  ·cases hel
 obtain ⟨i, z, h1, h2, h3, h4, h5⟩ := Px.zok el zX hz
 have hi : i.size = sz := by unfold tsz at hsz; rw [h1] at hsz; simpa using hsz
 obtain ⟨p1, p2, p3, p4⟩ := parts_ok hp hg
 have hlen := RepF.length p4
 obtain ⟨k1, k2⟩ := x_newVal (ety := el) (cur := ((parts.toList.map fun p => e p.2).flatMap fun v => v.cells.toList).toArray) h p4 (by simp)
 refine ⟨_, _, μ, ?_, k1, k2⟩
 by_cases h0 : xs.length = 0
 ·have hp0 : parts.toList = [] := List.eq_nil_of_length_eq_zero (by omega)
  have hp0' : parts = #[] := by cases parts; simpa using hp0
  subst hp0'
  simp [execOp, ho, Instr.buildSlice, run_underlying hu, r_size hsz, h0, Instr.fill, newRow, Array.range_zero']
 ·have hpos : ¬ xs.length * i.size = 0 := by rw [hi]; exact Nat.mul_ne_zero h0 (by omega)
  have hfill : Instr.fill (fun j => some (j * i.size, i.size)) ((Array.range (xs.length * i.size)).map (z.cells[· % z.cells.size]!)) (parts.map fun (i, x) => (i, e x)).toList = some ((parts.toList.map fun p => e p.2).flatMap fun v => v.cells.toList).toArray := by
   have e1 : (parts.map fun (i, x) => (i, e x)).toList = ((parts.toList.map fun p => e p.2).zipIdx 0).map (fun x => (x.2, x.1)) := by rw [Array.toList_map]; exact p2
   rw [e1]
   exact Great.fill_whole (by omega) _ _ (fun v hv => by rw [hi]; exact p3 v hv) (by simp [p1])
  have := run_buildSlice w t el xs.length (parts.map fun (i, x) => (i, e x)) _ i z hu h1 h2 (by rw [hi]; omega) hpos hfill
  simp only [execOp, ho, Sem.run_bind, this, Result.andThen_ok]
  rfl
theorem x_makeSlice {t el : TypeId} {l c : Operand} {sz by_ : Nat} {k1 k2 : IntKind} {nl nc : Int} {n1 n2 : Bool} {zx : V} (h : RelM cx w0 σ tmps w μ) (hf : σ.Fresh d) (ho : o.op = .makeSlice t l c)
 (hel : elt P t = some el) (hsz : tsz P el = some sz) (hby : tby P el = some by_) (hz : Px.zt el = some (.v true zx)) (hl : g l = .v n1 (.int k1 nl)) (hc : g c = .v n2 (.int k2 nc)) (h0 : 0 ≤ nl) (hlc : nl ≤ nc) (hb : (by_ : Int) * nc ≤ 281474976710656) (h63 : nc ≤ 9223372036854775807)
 (hg : ∀ x, RepA cx w μ σ.at (g x) (e x)) :
 Ends cx w0 (σ.upd [(d, .buf el sz true (List.replicate nl.toNat zx))]) tmps (.own d 0 nl.toNat) P e o w := by
 have hu : P.underlying t = some (.slice el) := by
  unfold elt at hel
  split at hel
  ·cases hel; assumption
  ·cases hel
 obtain ⟨i, z, h1, h2, h3, h4, h5⟩ := Px.zok el _ hz
 have hi : i.size = sz := by unfold tsz at hsz; rw [h1] at hsz; simpa using hsz
 have hbi : i.bytes = by_ := by unfold tby at hby; rw [h1] at hby; simpa using hby
 have e1 := hg l
 have e2 := hg c
 rw [hl, repA_int] at e1
 rw [hc, repA_int] at e2
 have hr := run_make (P := P) w t el i z hu h1 h2 k1 k2 nl nc h0 hlc (by rw [hbi]; exact hb) h63
 have h6 := h5 cx w μ σ.at
 rw [RepA] at h6
 obtain ⟨cs, q1, q2⟩ := h6
 have hcs : z.cells.toList = cs := by rw [q2]; exact toVal_cells q1
 have hzs : z.cells.size = sz := by rw [h3, hi]
 have hcl : cs.length = sz := by rw [← hcs, Array.length_toList, hzs]
 have hflat : (madeCells z.cells (nc.toNat * i.size)).toList = (List.replicate nl.toNat cs).flatten ++ (List.replicate (nc.toNat - nl.toNat) cs).flatten := by
  rw [← h3, made_flat, hcs, ← List.flatten_append, List.replicate_append_replicate]
  congr 2
  omega
 obtain ⟨μ', m1, m2⟩ := x_newRow (d := d) (ety := el) (cur := madeCells z.cells (nc.toNat * i.size)) (cap := nc.toNat) h hf (RepF.replicate hcl q1 nl.toNat) hflat (by rw [size_madeCells, hi]) (by simp; omega) (by simp only [maxLen]; omega)
 rw [List.length_replicate] at m2
 refine ⟨_, _, μ', ?_, m1, m2⟩
 simp only [execOp, ho, Sem.run_bind, e1, e2, hr, Result.andThen_ok]
 rfl
end
section
variable {P : Program} {cx : Cx} {w0 w : World} {σ : St} {tmps : Array Value} {μ : Sites}
theorem Goes.setRow {s b cap : Nat} (hs : μ s = some (b, cap)) (cs : Array Value) (hc : ∃ cur e f, w.heap[b]? = some (.cells cur e f)) : Goes w μ (w.setRow b cs) μ where
 size := by simp
 cell := fun b' o v hb hv => by
  rw [← hv]
  refine World.cell?_of_block (w := w) (a := ⟨b', o, none⟩) (setRow_other w b b' cs fun he => ?_)
  exact hb s cap (by rw [hs, he])
 blocks := fun s' b' c hs' => .inl ⟨s', c, hs'⟩
 other := fun b' o ho hn => (setRow_other w b b' cs fun he => by
  subst he
  obtain ⟨cur, e, f, hc⟩ := hc
  rw [hc] at ho
  cases ho
  cases hn).trans ho
theorem RelM.write (h : RelM cx w0 σ tmps w μ) {s b cap : Nat} {cs : Array Value} {blk : Blk} (hs : μ s = some (b, cap)) (hf : (σ.at s).fits blk)
 (hb : Goes w μ (w.setRow b cs) μ → RepB cx (w.setRow b cs) μ (σ.upd [(s, blk)]).at s blk) : RelM cx w0 (σ.upd [(s, blk)]) tmps (w.setRow b cs) μ := by
 have hG := Goes.setRow (w := w) (μ := μ) hs cs (by
  have hm := h.mem s
  cases hat : σ.at s with
  | dead => rw [hat] at hm; rw [show μ s = none from hm] at hs; cases hs
  | buf e z nw xs =>
    rw [hat] at hm
    rcases hm with ⟨h1, _⟩ | ⟨b', cap', cur, h1, h2, _⟩
    ·rw [h1] at hs; cases hs
    ·rw [h1] at hs; cases hs; exact ⟨_, _, _, h2⟩
  | box e x =>
    rw [hat] at hm
    obtain ⟨b', cap', cur, val, h1, h2, _⟩ := hm
    rw [h1] at hs; cases hs; exact ⟨_, _, _, h2⟩)
 have hlo := h.sites.lo s b cap hs
 refine h.next hG ?_ ⟨fun s' b' c hs' => ?_, h.sites.inj⟩ (fun t => ?_) (fun t => ?_)
 ·refine h.below.trans ⟨rfl, rfl, rfl, by simp, fun k hk => setRow_other w b k cs ?_⟩
  rw [h.hB] at hk
  omega
 ·have := h.sites.lo s' b' c hs'
  exact ⟨this.1, by simpa using this.2⟩
 ·by_cases ht : s = t
  ·subst ht
   right
   rw [St.at_upd_one, if_pos rfl]
   exact hb hG
  ·left
   rw [St.at_upd_one, if_neg ht]
   refine ⟨rfl, rfl, fun b' c hs' => setRow_other w b b' cs fun he => ?_⟩
   subst he
   exact ht (h.sites.inj s t b' cap c hs hs')
 ·right; left
  refine ⟨rfl, ?_⟩
  rw [St.at_upd_one]
  split
  ·next ht => subst ht; exact hf
  ·exact Blk.fits_refl _
theorem cells_split {cs : List Value} {i n : Nat} (h : i + n ≤ cs.length) : ∃ p a q, cs = p ++ a ++ q ∧ p.length = i ∧ a.length = n :=
 ⟨cs.take i, (cs.drop i).take n, (cs.drop i).drop n, by rw [List.append_assoc, List.take_append_drop, List.take_append_drop], by simp; omega, by simp; omega⟩
theorem RepF.set {ok : Nat → Prop} {sz : Nat} : ∀ {xs : List V} {cs p a q a' : List Value} {i : Nat} {y : V}, RepF w ok sz xs cs → cs = p ++ a ++ q → p.length = i * sz → a.length = sz → i < xs.length → a'.length = sz → Rep w ok y a' → RepF w ok sz (xs.set i y) (p ++ a' ++ q)
 | [], _, _, _, _, _, _, _, _, _, _, _, hi, _, _ => by simp at hi
 | x :: r, cs, p, a, q, a', 0, y, h, hcs, hp, ha, hi, ha', hy => by
   rw [RepF] at h
   obtain ⟨a0, b0, rfl, h1, h2, h3⟩ := h
   have : p = [] := List.eq_nil_of_length_eq_zero (by simpa using hp)
   subst this
   rw [List.nil_append] at hcs ⊢
   obtain ⟨rfl, rfl⟩ := List.append_inj hcs (by omega)
   rw [List.set_cons_zero, RepF]
   exact ⟨a', b0, rfl, ha', hy, h3⟩
 | x :: r, cs, p, a, q, a', i + 1, y, h, hcs, hp, ha, hi, ha', hy => by
   rw [RepF] at h
   obtain ⟨a0, b0, rfl, h1, h2, h3⟩ := h
   rw [Nat.succ_mul] at hp
   obtain ⟨p', rfl⟩ : ∃ p', p = a0 ++ p' := by
    refine ⟨p.drop sz, ?_⟩
    have h4 : a0 = p.take sz := by
     have := congrArg (List.take sz) hcs
     rw [List.take_append_of_le_length (by omega), List.append_assoc, List.take_append_of_le_length (by omega), List.take_of_length_le (by omega)] at this
     exact this
    rw [h4, List.take_append_drop]
   rw [List.append_assoc, List.append_assoc, List.append_cancel_left_eq, ← List.append_assoc] at hcs
   rw [List.set_cons_succ, RepF]
   refine ⟨a0, p' ++ a' ++ q, by simp, h1, h2, RepF.set h3 hcs ?_ ha (by simpa using hi) ha' hy⟩
   rw [List.length_append] at hp
   omega
def storeV (P : Program) (t : TypeId) : AV → Option (Bool × V)
 | .v nw y => if fitsT P t y then some (nw, y) else none
 | .nil => match esz P t with
   | some z => if tsz P t = some 1 then some (true, .sl z []) else none
   | none => none
 | _ => none
def storeA (P : Program) (at_ : Nat → Blk) (t : TypeId) (p x : AV) : Option (Nat × Blk) :=
 match p with
 | .ptr s i path off => match at_ s with
   | .buf e sz nw xs => match xs[i]?, storeV P t x with
     | some x0, some (nw', y) => (match V.atP path x0 with
       | some y0 => if V.offP path x0 = off ∧ y.size = y0.size then some (s, .buf e sz (nw && nw') (xs.set i (V.setP path x0 y))) else none
       | none => none)
     | _, _ => none
   | .box e (.v nw x0) => match storeV P t x with
     | some (nw', y) => (match V.atP path x0 with
       | some y0 => if V.offP path x0 = off ∧ y.size = y0.size then some (s, .box e (.v (nw && nw') (V.setP path x0 y))) else none
       | none => none)
     | none => if path = [] ∧ off = 0 ∧ x0.size = 1 ∧ tsz P t = some 1 ∧ boxOk at_ x = true ∧ x.isV = false then some (s, .box e x) else none
   | .box e _ => if path = [] ∧ off = 0 ∧ tsz P t = some 1 ∧ boxOk at_ x = true then (match x with
     | .v nw y => if y.isAgg = false then some (s, .box e (.v nw y)) else none
     | x => some (s, .box e x)) else none
   | .dead => none
 | _ => none
theorem r_store {t : TypeId} {b o0 : Nat} {ety : TypeId} {cur : Array Value} {val : Value} (hs : tsz P t = some val.cells.size) (hg : w.heap[b]? = some (.cells cur ety (0, 0))) (hl : o0 + val.cells.size ≤ cur.size) (h1 : ∀ c ∈ val.cells.toList, c.oneCell' = true) :
 (storeVar t ⟨b, o0, none⟩ val).run P w = .ok () (w.setRow b (cur.toList.take o0 ++ val.cells.toList ++ cur.toList.drop (o0 + val.cells.size)).toArray) := by
 have := run_storeCells_at P b o0 ety val.cells.toList 0 cur w hg (by simpa using hl) h1
 simp only [Nat.add_zero, Array.length_toList] at this
 simp only [storeVar, Sem.run_bind, r_size hs, Result.andThen_ok, ne_eq, not_true_eq_false, if_false]
 exact this
theorem storeV_ok {t : TypeId} {x : AV} {val : Value} {nw : Bool} {y : V} {mem : Nat → Blk} (h : storeV P t x = some (nw, y)) (hx : RepA cx w μ mem x val) :
 ∃ c, Rep w (okOf cx w.heap.size μ nw) y c ∧ val.cells.toList = c ∧ tsz P t = some val.cells.size := by
 unfold storeV at h
 split at h
 ·next nw y =>
  split at h <;> cases h
  rename_i hf
  rw [RepA] at hx
  obtain ⟨c, h1, h2⟩ := hx
  have h3 := toVal_cells h1
  refine ⟨c, h1, by rw [h2, h3], ?_⟩
  rw [hf.1, h2, ← Array.length_toList, h3, Rep.length h1]
 ·split at h
  ·next z hz =>
   split at h <;> cases h
   rename_i ht
   rw [repA_nil] at hx
   subst hx
   exact ⟨[.slice none 0 0], by rw [Rep]; exact .inl ⟨rfl, _, _, rfl⟩, rfl, ht⟩
  ·cases h
 ·cases h
theorem cells_one {v : Value} (h : v.oneCell' = true) : v.cells = #[v] := by cases v <;> first | rfl | (simp [Value.oneCell'] at h)
theorem Rep.single {w : World} {ok : Nat → Prop} {x : V} {cs : List Value} (hx : x.isAgg = false) (h : Rep w ok x cs) : (x.toVal cs).oneCell' = true := by
 have h1 := Rep.one h
 have h2 := Rep.length h
 have h3 : x.size = 1 := by cases x <;> first | rfl | cases hx
 rw [h3] at h2
 obtain ⟨c, rfl⟩ := List.length_eq_one_iff.1 h2
 have h4 : x.toVal [c] = c := by cases x <;> first | rfl | cases hx
 rw [h4]
 exact h1 c (by simp)
theorem x_store {e : Operand → Value} {o : Oper} {g : Operand → AV} {t : TypeId} {p x : Operand} {s : Nat} {blk : Blk} (h : RelM cx w0 σ tmps w μ) (ho : o.op = .store t p x) (hs : storeA P σ.at t (g p) (g x) = some (s, blk))
 (hg : ∀ x, RepA cx w μ σ.at (g x) (e x)) :
 ∃ w' μ', (execOp e o).run P w = .ok .skip w' ∧ RelM cx w0 (σ.upd [(s, blk)]) tmps w' μ' := by
 have key : ∀ (b o0 : Nat) w', e p = .pointer (some ⟨b, o0, none⟩) → (storeVar t ⟨b, o0, none⟩ (e x)).run P w = .ok () w' → (execOp e o).run P w = .ok .skip w' := by
  intro b o0 w' he hl
  simp only [execOp, ho, he, Instr.storeAt, Instr.sureAddr, Sem.run_bind, Sem.run_pure, Result.andThen_ok, hl]
 have hp := hg p
 have hx := hg x
 unfold storeA at hs
 split at hs
 ·next s' i path off hgp =>
  rw [hgp, RepA] at hp
  have hm := h.mem s'
  split at hs
  ·next ety sz nw xs hat =>
   rw [hat] at hp hm
   obtain ⟨b, cap, h1, h2⟩ := hp
   split at hs
   ·next x0 nw' y hx0 hy =>
    split at hs
    ·next y0 hy0 =>
     split at hs <;> cases hs
     rename_i hh
     rcases hm with ⟨q1, _⟩ | ⟨b', cap', cur, m1, m2, m3, m4, m5, m6⟩
     ·rw [h1] at q1; cases q1
     rw [h1] at m1
     cases m1
     obtain ⟨cs, f1, f2⟩ := RepRow.flat m6
     have hl := RepF.length f1
     have hi : i < xs.length := (List.getElem?_eq_some_iff.1 hx0).1
     have hle : i * sz + sz ≤ cs.length := by
      rw [hl, ← Nat.succ_mul]
      exact Nat.mul_le_mul_right _ hi
     obtain ⟨P1, A, Q1, rfl, hP, hA⟩ := cells_split hle
     obtain ⟨a, g1, g2, g3⟩ := RepRow.get m6 hx0
     have hAa : A = a := by
      apply List.ext_getElem?
      intro j
      by_cases hj : j < sz
      ·rw [← g2 j hj]
       have := f2 (i * sz + j) (by omega)
       rw [List.append_assoc, List.getElem?_append_right (by omega), List.getElem?_append_left (by omega)] at this
       rw [show i * sz + j - P1.length = j from by omega] at this
       rw [← this]
       congr 2
       omega
      ·rw [List.getElem?_eq_none (by omega), List.getElem?_eq_none (by omega)]
     subst hAa
     obtain ⟨pp, c, qq, rfl, d1, d2⟩ := Rep.atP g3 hy0
     obtain ⟨c', v1, v2, v3⟩ := storeV_ok (P := P) hy hx
     have hc' := Rep.length v1
     have hc := Rep.length d2
     have hcur : cur.toList = (P1 ++ (pp ++ c ++ qq) ++ Q1) ++ cur.toList.drop (P1 ++ (pp ++ c ++ qq) ++ Q1).length := by
      rw [← List.take_append_drop (P1 ++ (pp ++ c ++ qq) ++ Q1).length cur.toList]
      congr 1
      ·apply List.ext_getElem?
       intro j
       rw [List.getElem?_take]
       split
       ·next hj =>
        rw [← f2 j hj, Nat.zero_add]
        simp [World.cell?, m2]
       ·next hj => rw [List.getElem?_eq_none (by omega)]
      ·simp
     have hval : (e x).cells.size = c'.length := by rw [← v2, Array.length_toList]
     have hcs : xs.length * sz ≤ cur.size := by rw [m5]; exact Nat.mul_le_mul_right _ m3
     simp only [List.length_append] at hl hle hA hP
     have hrun := r_store (P := P) (t := t) (b := b) (o0 := i * sz + off) (val := e x) v3 m2 (by rw [hval]; omega) (by rw [v2]; exact Rep.one v1)
     have hnew : cur.toList.take (i * sz + off) ++ (e x).cells.toList ++ cur.toList.drop (i * sz + off + (e x).cells.size) = (P1 ++ (pp ++ c' ++ qq) ++ Q1) ++ cur.toList.drop (P1 ++ (pp ++ c ++ qq) ++ Q1).length := by
      have t1 : cur.toList.take (i * sz + off) = P1 ++ pp := by
       rw [hcur, show P1 ++ (pp ++ c ++ qq) ++ Q1 = (P1 ++ pp) ++ (c ++ qq ++ Q1) from by simp, List.append_assoc]
       rw [List.take_append_of_le_length (by simp; omega), List.take_of_length_le (by simp; omega)]
      have t2 : cur.toList.drop (i * sz + off + (e x).cells.size) = qq ++ Q1 ++ cur.toList.drop (P1 ++ (pp ++ c ++ qq) ++ Q1).length := by
       conv => lhs; rw [hcur]
       rw [show P1 ++ (pp ++ c ++ qq) ++ Q1 ++ cur.toList.drop (P1 ++ (pp ++ c ++ qq) ++ Q1).length = (P1 ++ pp ++ c) ++ (qq ++ Q1 ++ cur.toList.drop (P1 ++ (pp ++ c ++ qq) ++ Q1).length) from by simp]
       rw [List.drop_append_of_le_length (by simp; omega), List.drop_of_length_le (by simp; omega), List.nil_append]
      rw [t1, t2, v2]
      simp
     rw [hnew] at hrun
     refine ⟨_, μ, key _ _ _ h2 hrun, h.write h1 (by rw [hat]; exact ⟨rfl, by simp⟩) fun hG => ?_⟩
     have hwk : ∀ {x : V} {a : List Value}, Rep w (okOf cx w.heap.size μ nw) x a → Rep w (okOf cx w.heap.size μ (nw && nw')) x a := fun h => Rep.weak (fun hn => by rw [Bool.and_eq_true] at hn; exact hn.1) h
     have hset := Rep.setP (hwk g3) hy0 rfl d1 hc (Rep.weak (nw' := nw && nw') (fun hn => by rw [Bool.and_eq_true] at hn; exact hn.2) v1) hh.2
     have hF := RepF.set (RepF.map hwk f1) rfl hP (by simp only [List.length_append]; omega) hi (by simp only [List.length_append] at g1 ⊢; omega) hset.1
     refine .inr ⟨b, cap, _, h1, setRow_heap w b cur _ ety _ m2, by simpa using m3, m4, ?_, RepF.row (RepF.map (fun h => Rep.goes hG h) hF) fun j hj => ?_⟩
     ·have := congrArg List.length hcur
      simp only [List.length_append, Array.length_toList, List.length_drop, List.size_toArray] at this ⊢
      omega
     ·rw [Nat.zero_add, cell_setRow_same w b j cur _ ety _ m2, List.getElem?_toArray, List.getElem?_append_left hj]
    ·cases hs
   ·cases hs
  ·next ety nw x0 hat =>
   rw [hat] at hp hm
   obtain ⟨b, cap, h1, h2⟩ := hp
   obtain ⟨b', cap', cur, val0, m1, m2, m3, m4, m5⟩ := hm
   rw [h1] at m1
   cases m1
   rw [RepA] at m3
   obtain ⟨cs, f1, rfl⟩ := m3
   have hcur : cur.toList = cs := by rw [m4, toVal_cells f1]
   have hsz : cur.size = cs.length := by rw [← Array.length_toList, hcur]
   split at hs
   ·next nw' y hy =>
    split at hs
    ·next y0 hy0 =>
     split at hs <;> cases hs
     rename_i hh
     obtain ⟨pp, c, qq, rfl, d1, d2⟩ := Rep.atP f1 hy0
     obtain ⟨c', v1, v2, v3⟩ := storeV_ok (P := P) hy hx
     have hc' := Rep.length v1
     have hc := Rep.length d2
     have hval : (e x).cells.size = c'.length := by rw [← v2, Array.length_toList]
     simp only [List.length_append] at hsz
     have hrun := r_store (P := P) (t := t) (b := b) (o0 := off) (val := e x) v3 m2 (by rw [hval]; omega) (by rw [v2]; exact Rep.one v1)
     have hnew : cur.toList.take off ++ (e x).cells.toList ++ cur.toList.drop (off + (e x).cells.size) = pp ++ c' ++ qq := by
      rw [hcur, v2, hval, List.append_assoc pp c qq, List.take_append_of_le_length (by omega), List.take_of_length_le (by omega), ← List.append_assoc pp c qq]
      rw [List.drop_append_of_le_length (by simp; omega), List.drop_of_length_le (by simp; omega), List.nil_append]
     rw [hnew] at hrun
     have hset := Rep.setP (Rep.weak (nw' := nw && nw') (fun hn => by rw [Bool.and_eq_true] at hn; exact hn.1) f1) hy0 rfl d1 hc (Rep.weak (nw' := nw && nw') (fun hn => by rw [Bool.and_eq_true] at hn; exact hn.2) v1) hh.2
     refine ⟨_, μ, key _ _ _ h2 hrun, h.write h1 (by rw [hat]; trivial) fun hG => ?_⟩
     refine ⟨b, cap, _, (V.setP path x0 y).toVal (pp ++ c' ++ qq), h1, setRow_heap w b cur _ ety _ m2, ?_, ?_, fun hv => by cases hv⟩
     ·rw [RepA]
      exact ⟨_, Rep.goes hG hset.1, rfl⟩
     ·rw [Rep.cells hset.1]
    ·cases hs
   ·split at hs <;> cases hs
    rename_i hh
    obtain ⟨rfl, rfl, k1, k2, k3, k4⟩ := hh
    have h1c := boxOk_one k3 hx k4
    have hrun := r_store (P := P) (t := t) (b := b) (o0 := 0) (val := e x) (by rw [k2, cells_one h1c]; rfl) m2 (by rw [hsz, Rep.length f1, k1, cells_one h1c]; simp) (by rw [cells_one h1c]; simpa using h1c)
    have hnew : cur.toList.take 0 ++ (e x).cells.toList ++ cur.toList.drop (0 + (e x).cells.size) = (e x).cells.toList := by
     rw [List.take_zero, List.nil_append, List.drop_of_length_le (by rw [hcur, Rep.length f1, k1, cells_one h1c]; simp), List.append_nil]
    rw [hnew] at hrun
    refine ⟨_, μ, key _ _ _ h2 hrun, h.write h1 (by rw [hat]; trivial) fun hG => ?_⟩
    refine ⟨b, cap, _, e x, h1, setRow_heap w b cur _ ety _ m2, RepA.goes hG (fun s'' hs'' => .inr ⟨rfl, ?_⟩) hx, by simp, fun _ => h1c⟩
    rw [St.at_upd_one]
    split
    ·next hh => subst hh; rw [hat]; trivial
    ·exact Blk.fits_refl _
  ·next ety X hX hat =>
   rw [hat] at hp hm
   obtain ⟨b, cap, h1, h2⟩ := hp
   obtain ⟨b', cap', cur, val0, m1, m2, m3, m4, m5⟩ := hm
   rw [h1] at m1
   cases m1
   have h0c := m5 (by cases X <;> first | rfl | (exact absurd rfl (hX _ _)))
   rw [cells_one h0c] at m4
   split at hs
   ·next hh =>
    obtain ⟨rfl, rfl, k2, k3⟩ := hh
    have fin : ∀ blk', blk' = .box ety (g x) → (e x).oneCell' = true → ((g x).isV = false → (e x).oneCell' = true) → ∃ w' μ', (execOp e o).run P w = .ok .skip w' ∧ RelM cx w0 (σ.upd [(s', blk')]) tmps w' μ' := by
     rintro _ rfl h1c _
     have hrun := r_store (P := P) (t := t) (b := b) (o0 := 0) (val := e x) (by rw [k2, cells_one h1c]; rfl) m2 (by rw [m4, cells_one h1c]; simp) (by rw [cells_one h1c]; simpa using h1c)
     have hnew : cur.toList.take 0 ++ (e x).cells.toList ++ cur.toList.drop (0 + (e x).cells.size) = (e x).cells.toList := by
      rw [List.take_zero, List.nil_append, List.drop_of_length_le (by rw [m4, cells_one h1c]; simp), List.append_nil]
     rw [hnew] at hrun
     refine ⟨_, μ, key _ _ _ h2 hrun, h.write h1 (by rw [hat]; trivial) fun hG => ?_⟩
     refine ⟨b, cap, _, e x, h1, setRow_heap w b cur _ ety _ m2, RepA.goes hG (fun s'' hs'' => .inr ⟨rfl, ?_⟩) hx, by simp, fun _ => h1c⟩
     rw [St.at_upd_one]
     split
     ·next hh => subst hh; rw [hat]; trivial
     ·exact Blk.fits_refl _
    split at hs
    ·next nw y hgx =>
     split at hs <;> cases hs
     rename_i hy1
     refine fin _ (by rw [hgx]) ?_ (fun hv => by rw [hgx] at hv; cases hv)
     rw [hgx, RepA] at hx
     obtain ⟨cs, f1, f2⟩ := hx
     rw [f2]
     exact Rep.single hy1 f1
    ·cases hs
     exact fin _ rfl (boxOk_one k3 hx (by
      next hn => cases hgv : g x <;> first | rfl | (exact absurd hgv (hn _ _)))) (fun hv => boxOk_one k3 hx hv)
   ·cases hs
  ·cases hs
 ·cases hs
end
section
variable {P : Program} {cx : Cx} {w0 w : World} {σ : St} {tmps : Array Value} {μ : Sites}
def srcA (at_ : Nat → Blk) (sz : Nat) : AV → Option (Bool × List V)
 | .v nw (.sl z ys) => if z = sz then some (nw || ys.all V.flat, ys) else none
 | .nil => some (true, [])
 | .emp _ => some (true, [])
 | .own s off len => match at_ s with
   | .buf _ z nw xs => if z = sz then some (nw, (xs.drop off).take len) else none
   | _ => none
 | _ => none
theorem RepF.up {N : Nat} {nw : Bool} {sz : Nat} : ∀ {ys : List V} {cs : List Value}, RepF w (okOf cx N μ nw) sz ys cs → RepF w (okOf cx N μ (nw || ys.all V.flat)) sz ys cs := by
 intro ys cs h
 cases hf : ys.all V.flat with
 | false => rw [Bool.or_false]; exact h
 | true =>
   have : ∀ {ys : List V} {cs : List Value}, ys.all V.flat = true → RepF w (okOf cx N μ nw) sz ys cs → RepF w (okOf cx N μ true) sz ys cs := by
    intro ys
    induction ys with
    | nil => intro cs _ h; rw [RepF] at h ⊢; exact h
    | cons x r ih =>
      intro cs hf h
      rw [List.all_cons, Bool.and_eq_true] at hf
      rw [RepF] at h ⊢
      obtain ⟨a, b, h0, h1, h2, h3⟩ := h
      exact ⟨a, b, h0, h1, V.flat_rep hf.1 h2, ih hf.2 h3⟩
   rw [Bool.or_true]
   exact this hf h
theorem src_ok {sz : Nat} {X : AV} {v : Value} {nw : Bool} {ys : List V} (h : RelM cx w0 σ tmps w μ) (hs : srcA σ.at sz X = some (nw, ys)) (hx : RepA cx w μ σ.at X v) :
 ∃ A c cs, v = .slice A ys.length c ∧ RepF w (okOf cx w.heap.size μ nw) sz ys cs ∧ (ys ≠ [] → ∃ a, A = some a ∧ ∀ j u, cs[j]? = some u → w.cell? (a.add j) = some u) := by
 unfold srcA at hs
 split at hs
 ·next nw z zs =>
  split at hs <;> cases hs
  rename_i hz
  subst hz
  rw [RepA] at hx
  obtain ⟨cs, h1, rfl⟩ := hx
  rw [Rep] at h1
  rcases h1 with ⟨rfl, A, c, rfl⟩ | ⟨b, o, c, h2, h3, rfl, h4⟩
  ·exact ⟨A, c, [], rfl, by rw [RepF], fun h => absurd rfl h⟩
  ·obtain ⟨cs, k1, k2⟩ := RepRow.flat h4
   refine ⟨_, c, cs, rfl, RepF.up k1, fun _ => ⟨_, rfl, fun j u hu => ?_⟩⟩
   rw [addr_add, k2 j (List.getElem?_eq_some_iff.1 hu).1, hu]
 ·cases hs
  rw [repA_nil] at hx
  exact ⟨none, 0, [], hx, by rw [RepF], fun h => absurd rfl h⟩
 ·cases hs
  rw [RepA] at hx
  obtain ⟨A, c, hx, _⟩ := hx
  exact ⟨A, c, [], hx, by rw [RepF], fun h => absurd rfl h⟩
 ·next s off len =>
  split at hs
  ·next ety z nw' xs hat =>
   split at hs <;> cases hs
   rename_i hz
   subst hz
   rw [RepA, hat] at hx
   have hm := h.mem s
   rw [hat] at hm
   rcases hx with ⟨b, cap, g1, g2, g3⟩ | ⟨g1, rfl, rfl, rfl, g3⟩
   ·rcases hm with ⟨q1, _⟩ | ⟨b', cap', cur, m1, m2, m3, m4, m5, m6⟩
    ·rw [g1] at q1; cases q1
    rw [g1] at m1
    cases m1
    have hr := RepRow.take (RepRow.drop m6 off) len
    obtain ⟨cs, k1, k2⟩ := RepRow.flat hr
    have hlen : ((xs.drop off).take len).length = len := by simp; omega
    refine ⟨_, cap - off, cs, by rw [g3, hlen], k1, fun _ => ⟨_, rfl, fun j u hu => ?_⟩⟩
    rw [addr_add, ← hu, ← k2 j (List.getElem?_eq_some_iff.1 hu).1, Nat.zero_add]
   ·exact ⟨none, 0, [], by rw [g3]; rfl, by rw [List.drop_nil, List.take_nil, RepF], fun h => absurd (by simp) h⟩
  ·cases hs
 ·cases hs
section runs
variable {t t' el el' ty : TypeId} {i : TypeInfo} {z : Value}
theorem r_append_same (ht : P.underlying t = some (.slice el)) (ht' : P.underlying t' = some (.slice el')) (hi : P.info? el = some i) {A B : Option Addr} {n cap c : Nat} (hn : n ≤ cap) :
 (Builtin.append_ #[t, t'] ty #[.slice B n cap, .slice A 0 c]).run P w = .ok (.slice B n cap) w := by
 cases A <;> cases B <;> simp [Builtin.append_, run_underlying ht, run_underlying ht', sizeOf, typeInfo, hi, Builtin.lenOf, hn, Builtin.firstCells, loadCells, loadCellsFrom, storeCells]
theorem r_append_room (ht : P.underlying t = some (.slice el)) (ht' : P.underlying t' = some (.slice el')) (hi : P.info? el = some i) {g sLen sCap : Nat} {cur : Array Value} (hg : w.heap[g]? = some (.cells cur el (0, 0)))
 {a : Addr} {m c : Nat} {news : List Value} (hl : news.length = m * i.size) (hnews : ∀ j u, news[j]? = some u → w.cell? (a.add j) = some u) (h1 : ∀ u ∈ news, u.oneCell' = true)
 (hroom : sLen + m ≤ sCap) (hfit : sLen * i.size + news.length ≤ cur.size) :
 (Builtin.append_ #[t, t'] ty #[.slice (some ⟨g, 0, none⟩) sLen sCap, .slice (some a) m c]).run P w =
   .ok (.slice (some ⟨g, 0, none⟩) (sLen + m) sCap) (w.setRow g (cur.toList.take (sLen * i.size) ++ news ++ cur.toList.drop (sLen * i.size + news.length)).toArray) := by
 have hf := run_firstCells_some (P := P) w i.size m a m c news hl hnews
 have hst := run_storeCells_at P g (sLen * i.size) el news 0 cur w hg (by simpa using hfit) h1
 simp only [Nat.add_zero] at hst
 simp [Builtin.append_, run_underlying ht, run_underlying ht', sizeOf, typeInfo, hi, Builtin.lenOf, hroom, hf, Addr.add_lit, hst]
theorem r_append_nil (ht : P.underlying t = some (.slice el)) (ht' : P.underlying t' = some (.slice el')) (hi : P.info? el = some i) (hz : i.zero = some z)
 {a : Addr} {n c : Nat} {news : List Value} (hl : news.length = n * i.size) (hnews : ∀ j v, news[j]? = some v → w.cell? (a.add j) = some v)
 (h0 : 0 < n) (h63 : (n : Int) ≤ 9223372036854775807) (h48 : n * i.bytes ≤ 281474976710656) :
 (Builtin.append_ #[t, t'] ty #[.slice none 0 0, .slice (some a) n c]).run P w =
   .ok (.slice (some ⟨w.heap.size, 0, none⟩) n (grownCap w n 0 el)) (w.drew.alloc (.cells (news.toArray ++ Builtin.zeroCells z.cells (grownCap w n 0 el - n)) el)) := by
 have hn : n ≠ 0 := by omega
 have h63' : ¬ (9223372036854775807 < (n : Int)) := by omega
 have h48' : ¬ (281474976710656 < Builtin.nextslicecap n 0 * i.bytes) := by rw [nextslicecap_zero h0]; omega
 have hf := run_firstCells_some (P := P) w.drew i.size n a n c news hl (by simpa using hnews)
 simp [Builtin.append_, run_underlying ht, run_underlying ht', sizeOf, typeInfo, zeroValue, hi, hz, Builtin.lenOf, Builtin.firstCells, hn, h63', h48', Question.forced, newRow, grownCap] at hf ⊢
 simp [hf]
theorem r_append_grow (ht : P.underlying t = some (.slice el)) (ht' : P.underlying t' = some (.slice el')) (hi : P.info? el = some i) (hz : i.zero = some z)
 {b : Addr} {sLen sCap : Nat} {olds : List Value} (hlo : olds.length = sLen * i.size) (holds : ∀ j v, olds[j]? = some v → w.cell? (b.add j) = some v)
 {a : Addr} {n c : Nat} {news : List Value} (hl : news.length = n * i.size) (hnews : ∀ j v, news[j]? = some v → w.cell? (a.add j) = some v)
 (hg : sCap < sLen + n) (h63 : ((sLen + n : Nat) : Int) ≤ 9223372036854775807) (hfit : Builtin.nextslicecap (sLen + n) sCap * i.bytes ≤ 281474976710656) :
 (Builtin.append_ #[t, t'] ty #[.slice (some b) sLen sCap, .slice (some a) n c]).run P w =
   .ok (.slice (some ⟨w.heap.size, 0, none⟩) (sLen + n) (grownCap w (sLen + n) sCap el))
    (w.drew.alloc (.cells (olds.toArray ++ news.toArray ++ Builtin.zeroCells z.cells (grownCap w (sLen + n) sCap el - (sLen + n))) el)) := by
 have hn : ¬ (sLen + n ≤ sCap) := by omega
 have h63' : ¬ (9223372036854775807 < ((sLen : Int) + (n : Int))) := by omega
 have hfit' : ¬ (281474976710656 < Builtin.nextslicecap (sLen + n) sCap * i.bytes) := by omega
 have hf := run_firstCells_some (P := P) w.drew i.size n a n c news hl (by simpa using hnews)
 have hf2 := run_firstCells_some (P := P) w.drew i.size sLen b sLen sCap olds hlo (by simpa using holds)
 simp [Builtin.append_, run_underlying ht, run_underlying ht', sizeOf, typeInfo, zeroValue, hi, hz, Builtin.lenOf, hn, h63', hfit', Question.forced, newRow, grownCap] at hf hf2 ⊢
 simp [hf, hf2]
 congr 2
 apply Array.toList_inj.1
 simp
end runs
theorem RelM.swap {w' : World} {s d : Nat} {blk : Blk} {x : Option (Nat × Nat)} (h : RelM cx w0 σ tmps w μ) (hf : σ.Fresh d)
 (hx : ∀ b c, x = some (b, c) → (∃ c', μ s = some (b, c')) ∨ (w.heap.size ≤ b ∧ b < w'.heap.size))
 (hcell : ∀ b o v, (∀ s c, μ s ≠ some (b, c)) → w.cell? ⟨b, o, none⟩ = some v → w'.cell? ⟨b, o, none⟩ = some v) (hb : Below w0.heap.size w w') (hsize : w.heap.size ≤ w'.heap.size)
 (hoth : ∀ (b : Nat) (o : Obj), w.heap[b]? = some o → o.isCells = false → w'.heap[b]? = some o) (hheap : ∀ t b c, t ≠ s → μ t = some (b, c) → w'.heap[b]? = w.heap[b]?)
 (hblk : Goes w μ w' (upS (upS μ s none) d x) → RepB cx w' (upS (upS μ s none) d x) (σ.upd [(d, blk), (s, .dead)]).at d blk) :
 RelM cx w0 (σ.upd [(d, blk), (s, .dead)]) tmps w' (upS (upS μ s none) d x) := by
 have at_eq : ∀ t, (σ.upd [(d, blk), (s, .dead)]).at t = if d = t then blk else if s = t then .dead else σ.at t := fun _ => rfl
 have hB : cx.B ≤ w.heap.size := by rw [← h.hB]; exact h.below.size
 have hup : ∀ t b c, upS (upS μ s none) d x t = some (b, c) → (t = d ∧ x = some (b, c)) ∨ (t ≠ d ∧ t ≠ s ∧ μ t = some (b, c)) := by
  intro t b c ht
  unfold upS at ht
  split at ht
  ·next h1 => exact .inl ⟨h1, ht⟩
  ·next h1 =>
   split at ht
   ·cases ht
   ·next h2 => exact .inr ⟨h1, h2, ht⟩
 have hG : Goes w μ w' (upS (upS μ s none) d x) := ⟨hsize, hcell, fun t b c ht => by
  rcases hup t b c ht with ⟨_, h1⟩ | ⟨_, _, h1⟩
  ·rcases hx b c h1 with ⟨c', h2⟩ | ⟨h2, _⟩
   ·exact .inl ⟨s, c', h2⟩
   ·exact .inr h2
  ·exact .inl ⟨t, c, h1⟩, hoth⟩
 refine h.next hG (h.below.trans hb) ⟨fun t b c ht => ?_, fun t1 t2 b c c' h1 h2 => ?_⟩ (fun t => ?_) (fun t => ?_)
 ·rcases hup t b c ht with ⟨_, h1⟩ | ⟨_, _, h1⟩
  ·rcases hx b c h1 with ⟨c', h2⟩ | ⟨h2, h3⟩
   ·have := h.sites.lo s b c' h2; omega
   ·omega
  ·have := h.sites.lo t b c h1; omega
 ·rcases hup t1 b c h1 with ⟨e1, k1⟩ | ⟨e1, e1', k1⟩ <;> rcases hup t2 b c' h2 with ⟨e2, k2⟩ | ⟨e2, e2', k2⟩
  ·rw [e1, e2]
  ·exfalso
   rcases hx b c k1 with ⟨c2, h3⟩ | ⟨h3, _⟩
   ·exact e2' (h.sites.inj t2 s b c' c2 k2 h3)
   ·have := h.sites.lo t2 b c' k2; omega
  ·exfalso
   rcases hx b c' k2 with ⟨c2, h3⟩ | ⟨h3, _⟩
   ·exact e1' (h.sites.inj t1 s b c c2 k1 h3)
   ·have := h.sites.lo t1 b c k1; omega
  ·exact h.sites.inj t1 t2 b c c' k1 k2
 ·by_cases hd : d = t
  ·subst hd
   right
   rw [at_eq, if_pos rfl]
   exact hblk hG
  ·by_cases hs : s = t
   ·subst hs
    right
    rw [at_eq, if_neg hd, if_pos rfl]
    show upS (upS μ s none) d x s = none
    unfold upS
    rw [if_neg (Ne.symm hd), if_pos rfl]
   ·left
    rw [at_eq, if_neg hd, if_neg hs]
    exact ⟨rfl, by unfold upS; rw [if_neg (Ne.symm hd), if_neg (Ne.symm hs)], fun b c hb => hheap t b c (Ne.symm hs) hb⟩
 ·by_cases hd : d = t
  ·subst hd; exact .inr (.inr hf)
  ·by_cases hs : s = t
   ·subst hs; left; rw [at_eq, if_neg hd, if_pos rfl]
   ·refine .inr (.inl ⟨by unfold upS; rw [if_neg (Ne.symm hd), if_neg (Ne.symm hs)], ?_⟩)
    rw [at_eq, if_neg hd, if_neg hs]
    exact Blk.fits_refl _
def appendA (P : Program) (at_ : Nat → Blk) (d : Nat) (t t' : TypeId) (x y : AV) : Option (AV × List (Nat × Blk)) :=
 match elt P t, elt P t' with
 | some el, some _ => (match tsz P el, tby P el with
   | some sz, some by_ => if 0 < sz then (match x with
     | .own s off len => (match at_ s with
       | .buf e z nw xs => (match srcA at_ sz y with
         | some (nw', ys) => if e = el ∧ z = sz ∧ off = 0 ∧ len = xs.length ∧ (xs.length + ys.length) * by_ ≤ 140737488355328 ∧ xs.length + ys.length ≤ 9223372036854775807 then
            some (.own d 0 (xs.length + ys.length), [(d, .buf el sz (nw && nw') (xs ++ ys)), (s, .dead)]) else none
         | none => none)
       | _ => none)
     | .nil => (match srcA at_ sz y with
       | some (nw', ys) => if ys.length * by_ ≤ 140737488355328 ∧ ys.length ≤ 9223372036854775807 then some (.own d 0 ys.length, [(d, .buf el sz nw' ys)]) else none
       | none => none)
     | _ => none) else none
   | _, _ => none)
 | _, _ => none
theorem elt_of {t el : TypeId} (h : elt P t = some el) : P.underlying t = some (.slice el) := by
 unfold elt at h
 split at h
 ·cases h; assumption
 ·cases h
theorem x_append {e : Operand → Value} {o : Oper} {g : Operand → AV} {t t' : TypeId} {x y : Operand} {X : AV} {ms : List (Nat × Blk)} {d : Nat} {el : TypeId} {zX : AV} {Px : Px P} (h : RelM cx w0 σ tmps w μ) (hf : σ.Fresh d)
 (ho : o.op = .call { callee := .builtin .append, args := #[x, y], argTypes := #[t, t'] }) (ha : appendA P σ.at d t t' (g x) (g y) = some (X, ms)) (hel : elt P t = some el) (hz : Px.zt el = some zX) (hg : ∀ x, RepA cx w μ σ.at (g x) (e x)) :
 Ends cx w0 (σ.upd ms) tmps X P e o w := by
 have key : ∀ v w', (Builtin.append_ #[t, t'] o.type #[e x, e y]).run P w = .ok v w' → (execOp e o).run P w = .ok (.value v) w' := by
  intro v w' hr
  simp only [execOp, ho, resolve, invoke, builtin, Sem.run_bind, Sem.run_pure, Result.andThen_ok, List.map_toArray, List.map_cons, List.map_nil, hr]
 have hx := hg x
 have hy := hg y
 unfold appendA at ha
 rw [hel] at ha
 cases hel' : elt P t' with
 | none => rw [hel'] at ha; cases ha
 | some el' =>
   rw [hel'] at ha
   simp only at ha
   have ht := elt_of hel
   have ht' := elt_of hel'
   obtain ⟨i, z, z1, z2, z3, z4, z5⟩ := Px.zok el zX hz
   split at ha
   ·next sz by_ hsz hby =>
    have hi : i.size = sz := by unfold tsz at hsz; rw [z1] at hsz; simpa using hsz
    have hbi : i.bytes = by_ := by unfold tby at hby; rw [z1] at hby; simpa using hby
    split at ha
    ·next hpos =>
     split at ha
     ·next s off len hgx =>
      rw [hgx] at hx
      split at ha
      ·next ety z' nw xs hat =>
       split at ha
       ·next nw' ys hsrc =>
        split at ha <;> cases ha
        rename_i hh
        obtain ⟨rfl, rfl, rfl, rfl, hb, h63⟩ := hh
        obtain ⟨A, c, cs, hyv, hF, hcells⟩ := src_ok h hsrc hy
        have hlc := RepF.length hF
        rw [RepA, hat] at hx
        have hm := h.mem s
        rw [hat] at hm
        have hw1 : ∀ {x : V} {a : List Value}, Rep w (okOf cx w.heap.size μ nw) x a → Rep w (okOf cx w.heap.size μ (nw && nw')) x a := fun h => Rep.weak (fun hn => by rw [Bool.and_eq_true] at hn; exact hn.1) h
        have hw2 : ∀ {x : V} {a : List Value}, Rep w (okOf cx w.heap.size μ nw') x a → Rep w (okOf cx w.heap.size μ (nw && nw')) x a := fun h => Rep.weak (fun hn => by rw [Bool.and_eq_true] at hn; exact hn.2) h
        by_cases hys : ys = []
        ·subst hys
         simp only [List.length_nil, Nat.add_zero, List.append_nil] at hyv ⊢
         rcases hx with ⟨b, cap, g1, g2, g3⟩ | ⟨g1, rfl, _, _, g3⟩
         ·rcases hm with ⟨q1, _⟩ | ⟨b', cap', cur, m1, m2, m3, m4, m5, m6⟩
          ·rw [g1] at q1; cases q1
          rw [g1] at m1
          cases m1
          simp only [Nat.zero_mul, Nat.sub_zero] at g3
          have hrun := r_append_same (P := P) (w := w) (ty := o.type) ht ht' z1 (A := A) (B := some ⟨b, 0, none⟩) (c := c) m3
          have hs := h.swap (w' := w) (s := s) (blk := .buf ety z' (nw && nw') xs) (x := some (b, cap)) hf (fun b' c' he => by cases he; exact .inl ⟨cap, g1⟩) (fun _ _ _ _ hv => hv) (Below.refl _ _) (Nat.le_refl _) (fun _ _ hv _ => hv) (fun _ _ _ _ _ => rfl)
           (fun hG => .inr ⟨b, cap, cur, by unfold upS; rw [if_pos rfl], m2, m3, m4, m5, RepRow.goes hG (fun _ _ hv => hv) (RepF.row (RepF.map hw1 (RepRow.flat m6).choose_spec.1) (RepRow.flat m6).choose_spec.2)⟩)
          refine ⟨_, w, _, key _ _ (by rw [g3, hyv]; exact hrun), hs, ?_⟩
          rw [RepA, show (σ.upd [(d, .buf ety z' (nw && nw') xs), (s, .dead)]).at d = .buf ety z' (nw && nw') xs from by show (if d = d then _ else _) = _; rw [if_pos rfl]]
          exact .inl ⟨b, cap, by unfold upS; rw [if_pos rfl], by omega, by simp⟩
         ·have hrun := r_append_same (P := P) (w := w) (ty := o.type) ht ht' z1 (A := A) (B := none) (n := 0) (cap := 0) (c := c) (Nat.le_refl _)
          have hs := h.swap (w' := w) (s := s) (blk := .buf ety z' (nw && nw') []) (x := none) hf (fun b' c' he => by cases he) (fun _ _ _ _ hv => hv) (Below.refl _ _) (Nat.le_refl _) (fun _ _ hv _ => hv) (fun _ _ _ _ _ => rfl)
           (fun hG => .inl ⟨by unfold upS; rw [if_pos rfl], rfl⟩)
          refine ⟨_, w, _, key _ _ (by rw [g3, hyv]; exact hrun), hs, ?_⟩
          rw [RepA, show (σ.upd [(d, .buf ety z' (nw && nw') []), (s, .dead)]).at d = .buf ety z' (nw && nw') [] from by show (if d = d then _ else _) = _; rw [if_pos rfl]]
          exact .inr ⟨by unfold upS; rw [if_pos rfl], rfl, rfl, rfl, rfl⟩
        ·obtain ⟨a, rfl, hnews⟩ := hcells hys
         have hyl : 0 < ys.length := List.length_pos_iff.2 hys
         have hatd : (σ.upd [(d, .buf ety z' (nw && nw') (xs ++ ys)), (s, .dead)]).at d = .buf ety z' (nw && nw') (xs ++ ys) := by show (if d = d then _ else _) = _; rw [if_pos rfl]
         have grown : ∀ (old : List Value) (n0 cp : Nat), RepF w (okOf cx w.heap.size μ nw) z' xs old → xs.length + ys.length ≤ grownCap w (xs.length + ys.length) cp ety →
          ∀ v w', v = Value.slice (some ⟨w.heap.size, 0, none⟩) (xs.length + ys.length) (grownCap w (xs.length + ys.length) cp ety) →
           w' = w.drew.alloc (.cells (old.toArray ++ cs.toArray ++ Builtin.zeroCells z.cells (grownCap w (xs.length + ys.length) cp ety - (xs.length + ys.length))) ety) →
           ∃ μ', RelM cx w0 (σ.upd [(d, .buf ety z' (nw && nw') (xs ++ ys)), (s, .dead)]) tmps w' μ' ∧ RepA cx w' μ' (σ.upd [(d, .buf ety z' (nw && nw') (xs ++ ys)), (s, .dead)]).at (.own d 0 (xs.length + ys.length)) v := by
          rintro old n0 cp hold hge v w' rfl rfl
          have hcm : grownCap w (xs.length + ys.length) cp ety ≤ maxLen := grownCap_le_maxLen w _ cp ety (by simp only [maxLen]; omega)
          have hlo := RepF.length hold
          have hFF : RepF w (okOf cx w.heap.size μ (nw && nw')) z' (xs ++ ys) (old ++ cs) := RepF.append (RepF.map hw1 hold) (RepF.map hw2 hF)
          have hs := h.swap (w' := w.drew.alloc (.cells (old.toArray ++ cs.toArray ++ Builtin.zeroCells z.cells (grownCap w (xs.length + ys.length) cp ety - (xs.length + ys.length))) ety)) (s := s) (blk := .buf ety z' (nw && nw') (xs ++ ys)) (x := some (w.heap.size, grownCap w (xs.length + ys.length) cp ety)) hf
           (fun b' c' he => by cases he; exact .inr ⟨Nat.le_refl _, by simp⟩)
           (fun b' o' v' _ hv => by
             rw [← hv]
             exact World.cell?_alloc_old _ _ _ (fun hn => by
              have : w.cell? ⟨b', o', none⟩ = none := by simp [World.cell?, show b' = w.heap.size from hn]
              rw [this] at hv; cases hv))
           (((Below.refl _ _).drew).alloc h.below.size _) (by simp) (fun b' o' ho _ => (Below.heap_alloc w.drew _ b' (Array.getElem?_eq_some_iff.1 ho).1).trans ho)
           (fun t' b' c' _ ht' => Below.heap_alloc w.drew _ _ (h.sites.lo t' b' c' ht').2)
           (fun hG => .inr ⟨w.heap.size, _, _, by unfold upS; rw [if_pos rfl], heap_alloc_new w.drew _, by rw [List.length_append]; exact hge, hcm, by
             simp only [Array.size_append, List.size_toArray, size_zeroCells, z3, hi, hlo, hlc, ← Nat.add_mul]
             congr 1
             omega, RepF.row (RepF.map (fun h => Rep.goes hG h) hFF) (fun j hj => by
              rw [Nat.zero_add]
              have := World.cell?_alloc_mark w.drew (old.toArray ++ cs.toArray ++ Builtin.zeroCells z.cells (grownCap w (xs.length + ys.length) cp ety - (xs.length + ys.length))) ety (0, 0) j
              rw [World.size_drew] at this
              rw [this, ← Array.getElem?_toList, Array.toList_append, Array.toList_append, List.getElem?_append_left (by simpa using hj)])⟩)
          refine ⟨_, hs, ?_⟩
          rw [RepA, hatd]
          exact .inl ⟨w.heap.size, _, by unfold upS; rw [if_pos rfl], by simp, by simp⟩
         rcases hx with ⟨b, cap, g1, g2, g3⟩ | ⟨g1, rfl, _, _, g3⟩
         ·rcases hm with ⟨q1, _⟩ | ⟨b', cap', cur, m1, m2, m3, m4, m5, m6⟩
          ·rw [g1] at q1; cases q1
          rw [g1] at m1
          cases m1
          simp only [Nat.zero_mul, Nat.sub_zero] at g3
          obtain ⟨old, f1, f2⟩ := RepRow.flat m6
          have hlo := RepF.length f1
          by_cases hroom : xs.length + ys.length ≤ cap
          ·have hfit : xs.length * z' + cs.length ≤ cur.size := by rw [hlc, m5, ← Nat.add_mul]; exact Nat.mul_le_mul_right _ hroom
           have hrun := r_append_room (P := P) (w := w) (ty := o.type) ht ht' z1 m2 (a := a) (m := ys.length) (c := c) (news := cs) (by rw [hi]; exact hlc) hnews (RepF.one hF) hroom (by rw [hi]; exact hfit)
           rw [hi] at hrun
           have hGs := Goes.setRow (w := w) (μ := μ) g1 (cur.toList.take (xs.length * z') ++ cs ++ cur.toList.drop (xs.length * z' + cs.length)).toArray ⟨_, _, _, m2⟩
           have htake : cur.toList.take (xs.length * z') = old := by
            apply List.ext_getElem?
            intro j
            rw [List.getElem?_take]
            split
            ·next hj =>
             have := f2 j (by omega)
             rw [Nat.zero_add] at this
             rw [← this]
             simp [World.cell?, m2]
            ·next hj => rw [List.getElem?_eq_none (by omega)]
           have hB := (h.sites.lo s b cap g1).1
           have hFF : RepF w (okOf cx w.heap.size μ (nw && nw')) z' (xs ++ ys) (old ++ cs) := RepF.append (RepF.map hw1 f1) (RepF.map hw2 hF)
           have hs := h.swap (w' := w.setRow b (cur.toList.take (xs.length * z') ++ cs ++ cur.toList.drop (xs.length * z' + cs.length)).toArray) (s := s) (blk := .buf ety z' (nw && nw') (xs ++ ys)) (x := some (b, cap)) hf
            (fun b' c' he => by cases he; exact .inl ⟨cap, g1⟩) hGs.cell ⟨rfl, rfl, rfl, by simp, fun k hk => setRow_other w b k _ (by rw [h.hB] at hk; omega)⟩ (by simp) hGs.other
            (fun t' b' c' hne ht' => setRow_other w b b' _ (fun he => hne (by subst he; exact h.sites.inj t' s b' c' cap ht' g1)))
            (fun hG => .inr ⟨b, cap, _, by unfold upS; rw [if_pos rfl], setRow_heap w b cur _ ety _ m2, by rw [List.length_append]; exact hroom, m4, by
              simp only [List.size_toArray, List.length_append, List.length_take, List.length_drop, Array.length_toList]
              omega, RepF.row (RepF.map (fun h => Rep.goes hG h) hFF) (fun j hj => by
               rw [Nat.zero_add, cell_setRow_same w b j cur _ ety _ m2, List.getElem?_toArray, htake, List.getElem?_append_left hj])⟩)
           refine ⟨_, _, _, key _ _ (by rw [g3, hyv]; exact hrun), hs, ?_⟩
           rw [RepA, hatd]
           exact .inl ⟨b, cap, by unfold upS; rw [if_pos rfl], by simp, by simp⟩
          ·have hrun := r_append_grow (P := P) (w := w) (ty := o.type) ht ht' z1 z2 (b := ⟨b, 0, none⟩) (sLen := xs.length) (sCap := cap) (olds := old) (by rw [hi]; exact hlo) (fun j u hu => by rw [addr_add, f2 j (List.getElem?_eq_some_iff.1 hu).1, hu]) (a := a) (n := ys.length) (c := c) (news := cs)
            (by rw [hi]; exact hlc) hnews (by omega) (by omega) (by rw [hbi]; exact growslice_fits (by omega) hb)
           obtain ⟨μ', k1, k2⟩ := grown old xs.length cap f1 (grownCap_ge _ _ _ _) _ _ rfl rfl
           exact ⟨_, _, μ', key _ _ (by rw [g3, hyv]; exact hrun), k1, k2⟩
         ·have hrun := r_append_nil (P := P) (w := w) (ty := o.type) ht ht' z1 z2 (a := a) (n := ys.length) (c := c) (news := cs) (by rw [hi]; exact hlc) hnews hyl (by simp at h63; omega) (by rw [hbi]; simp at hb; omega)
          obtain ⟨μ', k1, k2⟩ := grown [] 0 0 (by rw [RepF]) (grownCap_ge _ _ _ _) _ _ rfl rfl
          simp only [List.length_nil, Nat.zero_add] at k1 k2 ⊢
          exact ⟨_, _, μ', key _ _ (by rw [g3, hyv]; simpa using hrun), by simpa using k1, by simpa using k2⟩
       ·cases ha
      ·cases ha
     ·next hgx =>
      rw [hgx, repA_nil] at hx
      split at ha
      ·next nw' ys hsrc =>
       split at ha <;> cases ha
       rename_i hh
       obtain ⟨A, c, cs, hyv, hF, hcells⟩ := src_ok h hsrc hy
       have hlc := RepF.length hF
       by_cases hys : ys = []
       ·subst hys
        have hrun := r_append_same (P := P) (w := w) (ty := o.type) ht ht' z1 (A := A) (B := none) (n := 0) (cap := 0) (c := c) (Nat.le_refl _)
        have hG : Goes w μ w (upS μ d none) := ⟨Nat.le_refl _, fun _ _ _ _ hv => hv, fun t' b' c' hs => by
         unfold upS at hs
         split at hs
         ·cases hs
         ·exact .inl ⟨t', c', hs⟩, fun _ _ hv _ => hv⟩
        have hs := h.next (ms := [(d, .buf el sz nw' [])]) hG h.below ⟨fun t' b' c' hs => by
         unfold upS at hs
         split at hs
         ·cases hs
         ·exact h.sites.lo t' b' c' hs, fun t1 t2 b' c1 c2 h1 h2 => by
         unfold upS at h1 h2
         split at h1
         ·cases h1
         ·split at h2
          ·cases h2
          ·exact h.sites.inj t1 t2 b' c1 c2 h1 h2⟩
         (fun t' => by
           by_cases hd : d = t'
           ·subst hd; right; rw [St.at_upd_one, if_pos rfl]; exact .inl ⟨by unfold upS; rw [if_pos rfl], rfl⟩
           ·left; rw [St.at_upd_one, if_neg hd]; exact ⟨rfl, by unfold upS; rw [if_neg (Ne.symm hd)], fun _ _ _ => rfl⟩)
         (fun t' => by
           by_cases hd : d = t'
           ·subst hd; exact .inr (.inr hf)
           ·refine .inr (.inl ⟨by unfold upS; rw [if_neg (Ne.symm hd)], ?_⟩); rw [St.at_upd_one, if_neg hd]; exact Blk.fits_refl _)
        refine ⟨_, w, _, key _ _ (by rw [hx, hyv]; exact hrun), hs, ?_⟩
        rw [RepA, St.at_upd_one, if_pos rfl]
        exact .inr ⟨by unfold upS; rw [if_pos rfl], rfl, rfl, rfl, rfl⟩
       ·obtain ⟨a, rfl, hnews⟩ := hcells hys
        have hyl : 0 < ys.length := List.length_pos_iff.2 hys
        have hrun := r_append_nil (P := P) (w := w) (ty := o.type) ht ht' z1 z2 (a := a) (n := ys.length) (c := c) (news := cs) (by rw [hi]; exact hlc) hnews hyl (by omega) (by rw [hbi]; omega)
        have hge := grownCap_ge w ys.length 0 el
        have hFd : RepF w.drew (okOf cx w.drew.heap.size μ nw') sz ys cs := by
         refine RepF.map (w := w) (ok := okOf cx w.heap.size μ nw') ?_ hF
         intro x a hh
         exact Rep.mono (w := w) (w' := w.drew) (ok := okOf cx w.heap.size μ nw') (fun _ _ _ _ hv => hv) (fun _ hb => hb) hh
        obtain ⟨μ', k1, k2⟩ := x_newRow (d := d) (ety := el) (cur := cs.toArray ++ Builtin.zeroCells z.cells (grownCap w ys.length 0 el - ys.length)) (cs := cs) (rest := (Builtin.zeroCells z.cells (grownCap w ys.length 0 el - ys.length)).toList) (cap := grownCap w ys.length 0 el) h.drew hf
         hFd (by simp) (by
          simp only [Array.size_append, List.size_toArray, size_zeroCells, z3, hi, hlc, ← Nat.add_mul]
          congr 1
          omega) hge (grownCap_le_maxLen w _ 0 el (by simp only [maxLen]; omega))
        exact ⟨_, _, μ', key _ _ (by rw [hx, hyv]; exact hrun), k1, k2⟩
      ·cases ha
     ·cases ha
    ·cases ha
   ·cases ha
end
section
variable {P : Program} {cx : Cx} {w0 w : World} {σ : St} {tmps : Array Value} {μ : Sites}
def copyA (P : Program) (at_ : Nat → Blk) (t t' : TypeId) (x y : AV) : Option (AV × List (Nat × Blk)) :=
 match x with
 | .own s off len => (match at_ s with
   | .buf e sz nw xs => if esz P t = some sz ∧ (elt P t').isSome = true then (match srcA at_ sz y with
     | some (nw', ys) => some (.v true (.int .i64 (min ys.length len : Nat)), [(s, .buf e sz (nw && nw') (xs.take off ++ ys.take (min ys.length len) ++ xs.drop (off + min ys.length len)))])
     | none => none) else none
   | _ => none)
 | .bsl s n => (match at_ s with
   | .box e (.v nw (.agg fs)) => (match esz P t with
     | some sz => if fs.length = n ∧ (fs.all fun x => x.size == sz) = true ∧ (elt P t').isSome = true then (match srcA at_ sz y with
       | some (nw', ys) => some (.v true (.int .i64 (min ys.length n : Nat)), [(s, .box e (.v (nw && nw') (.agg (ys.take (min ys.length n) ++ fs.drop (min ys.length n)))))])
       | none => none) else none
     | none => none)
   | _ => none)
 | _ => none
theorem RepL.toF {w : World} {ok : Nat → Prop} {sz : Nat} : ∀ {xs : List V} {cs : List Value}, (∀ x ∈ xs, x.size = sz) → RepL w ok xs cs → RepF w ok sz xs cs
 | [], cs, _, h => by rw [RepL] at h; rw [RepF]; exact h
 | x :: r, cs, hz, h => by
   rw [RepL] at h
   obtain ⟨a, d, rfl, h2, h3⟩ := h
   rw [RepF]
   exact ⟨a, d, rfl, (Rep.length h2).trans (hz x (by simp)), h2, RepL.toF (fun y hy => hz y (by simp [hy])) h3⟩
theorem RepF.toL {w : World} {ok : Nat → Prop} {sz : Nat} : ∀ {xs : List V} {cs : List Value}, RepF w ok sz xs cs → RepL w ok xs cs
 | [], cs, h => by rw [RepF] at h; rw [RepL]; exact h
 | x :: r, cs, h => by
   rw [RepF] at h
   obtain ⟨a, d, rfl, _, h2, h3⟩ := h
   rw [RepL]
   exact ⟨a, d, rfl, h2, RepF.toL h3⟩
theorem x_copy {e : Operand → Value} {o : Oper} {g : Operand → AV} {t t' : TypeId} {x y : Operand} {X : AV} {ms : List (Nat × Blk)} (h : RelM cx w0 σ tmps w μ)
 (ho : o.op = .call { callee := .builtin .copy, args := #[x, y], argTypes := #[t, t'] }) (ha : copyA P σ.at t t' (g x) (g y) = some (X, ms)) (hg : ∀ x, RepA cx w μ σ.at (g x) (e x)) :
 Ends cx w0 (σ.upd ms) tmps X P e o w := by
 have key : ∀ v w', (Builtin.copy_ #[t, t'] o.type #[e x, e y]).run P w = .ok v w' → (execOp e o).run P w = .ok (.value v) w' := by
  intro v w' hr
  simp only [execOp, ho, resolve, invoke, builtin, Sem.run_bind, Sem.run_pure, Result.andThen_ok, List.map_toArray, List.map_cons, List.map_nil, hr]
 have hx := hg x
 have hy := hg y
 unfold copyA at ha
 split at ha
 ·next s off len hgx =>
  rw [hgx] at hx
  split at ha
  ·next ety sz nw xs hat =>
   split at ha
   ·next hh =>
    obtain ⟨h1, h2⟩ := hh
    obtain ⟨el, hu, hz⟩ := esz_info h1
    split at ha
    ·next nw' ys hsrc =>
     cases ha
     obtain ⟨A, c, cs, hyv, hF, hcells⟩ := src_ok h hsrc hy
     rw [RepA, hat] at hx
     have hm := h.mem s
     rw [hat] at hm
     have hw1 : ∀ {x : V} {a : List Value}, Rep w (okOf cx w.heap.size μ nw) x a → Rep w (okOf cx w.heap.size μ (nw && nw')) x a := fun h => Rep.weak (fun hn => by rw [Bool.and_eq_true] at hn; exact hn.1) h
     have hw2 : ∀ {x : V} {a : List Value}, Rep w (okOf cx w.heap.size μ nw') x a → Rep w (okOf cx w.heap.size μ (nw && nw')) x a := fun h => Rep.weak (fun hn => by rw [Bool.and_eq_true] at hn; exact hn.2) h
     by_cases hn : min ys.length len = 0
     ·have hrun : (Builtin.copy_ #[t, t'] o.type #[e x, e y]).run P w = .ok (.int .i64 0) w := by
       rcases hx with ⟨b, cap, g1, g2, g3⟩ | ⟨g1, _, _, rfl, g3⟩
       ·cases A <;> simp [Builtin.copy_, run_underlying hu, r_size hz, hyv, g3, Builtin.lenOf, hn, Builtin.firstCells, loadCells, loadCellsFrom, storeCells, goInt]
       ·cases A <;> simp [Builtin.copy_, run_underlying hu, r_size hz, hyv, g3, Builtin.lenOf, Builtin.firstCells, loadCells, loadCellsFrom, goInt]
      have hcont : xs.take off ++ ys.take (min ys.length len) ++ xs.drop (off + min ys.length len) = xs := by rw [hn]; simp
      rw [hcont, hn]
      refine ⟨_, w, μ, key _ _ hrun, ?_, repA_int.2 rfl⟩
      have hG : Goes w μ w μ := ⟨Nat.le_refl _, fun _ _ _ _ hv => hv, fun t' b' c' hs => .inl ⟨t', c', hs⟩, fun _ _ hv _ => hv⟩
      refine h.next hG h.below h.sites (fun t' => ?_) (fun t' => ?_)
      ·by_cases hd : s = t'
       ·subst hd
        right
        rw [St.at_upd_one, if_pos rfl]
        rcases hm with hm | ⟨b', cap', cur, m1, m2, m3, m4, m5, m6⟩
        ·exact .inl hm
        ·exact .inr ⟨b', cap', cur, m1, m2, m3, m4, m5, RepF.row (RepF.map hw1 (RepRow.flat m6).choose_spec.1) (RepRow.flat m6).choose_spec.2⟩
       ·left; rw [St.at_upd_one, if_neg hd]; exact ⟨rfl, rfl, fun _ _ _ => rfl⟩
      ·right; left
       rw [St.at_upd_one]
       refine ⟨rfl, ?_⟩
       split
       ·next hd => subst hd; rw [hat]; exact ⟨rfl, rfl⟩
       ·exact Blk.fits_refl _
     ·have hys : ys ≠ [] := fun h => hn (by rw [h]; simp)
      obtain ⟨a, rfl, hnews⟩ := hcells hys
      rcases hx with ⟨b, cap, g1, g2, g3⟩ | ⟨g1, _, _, rfl, g3⟩
      ·rcases hm with ⟨q1, _⟩ | ⟨b', cap', cur, m1, m2, m3, m4, m5, m6⟩
       ·rw [g1] at q1; cases q1
       rw [g1] at m1
       cases m1
       obtain ⟨k, hk⟩ : ∃ k, min ys.length len = k := ⟨_, rfl⟩
       rw [hk] at hn ⊢
       have hk1 : k ≤ ys.length := by omega
       have hk2 : k ≤ len := by omega
       obtain ⟨c1, c2, rfl, F1, F2⟩ := RepF.split (xs := ys.take k) (ys := ys.drop k) (by rw [List.take_append_drop]; exact hF)
       have l1 := RepF.length F1
       rw [List.length_take, Nat.min_eq_left hk1] at l1
       obtain ⟨old, f1, f2⟩ := RepRow.flat m6
       have hlo := RepF.length f1
       obtain ⟨o1, o23, rfl, G1, G23⟩ := RepF.split (xs := xs.take off) (ys := xs.drop off) (by rw [List.take_append_drop]; exact f1)
       obtain ⟨o2, o3, rfl, G2, G3⟩ := RepF.split (xs := (xs.drop off).take k) (ys := (xs.drop off).drop k) (by rw [List.take_append_drop]; exact G23)
       have e1 := RepF.length G1
       have e2 := RepF.length G2
       rw [List.length_take, Nat.min_eq_left (by omega)] at e1
       rw [List.length_take, List.length_drop, Nat.min_eq_left (by omega)] at e2
       have hcs : xs.length * sz ≤ cur.size := by rw [m5]; exact Nat.mul_le_mul_right _ m3
       simp only [List.length_append] at hlo
       have hfc : (Builtin.firstCells sz k (.slice (some a) ys.length c)).run P w = .ok c1.toArray w :=
        run_firstCells_some (P := P) w sz k a ys.length c c1 l1 (fun j v hj => hnews j v (by rw [List.getElem?_append_left (List.getElem?_eq_some_iff.1 hj).1]; exact hj))
       have hst := run_storeCells_at P b (off * sz) ety c1 0 cur w m2 (by omega) (RepF.one F1)
       simp only [Nat.add_zero] at hst
       have hrun : (Builtin.copy_ #[t, t'] o.type #[e x, e y]).run P w = .ok (.int .i64 k) (w.setRow b (cur.toList.take (off * sz) ++ c1 ++ cur.toList.drop (off * sz + c1.length)).toArray) := by
        have hk' : Nat.min ys.length len = k := hk
        simp [Builtin.copy_, run_underlying hu, r_size hz, hyv, g3, Builtin.lenOf, hk', hfc, hst, goInt]
       have hcur : cur.toList = (o1 ++ (o2 ++ o3)) ++ cur.toList.drop (o1 ++ (o2 ++ o3)).length := by
        rw [← List.take_append_drop (o1 ++ (o2 ++ o3)).length cur.toList]
        congr 1
        ·apply List.ext_getElem?
         intro j
         rw [List.getElem?_take]
         split
         ·next hj =>
          rw [← f2 j hj, Nat.zero_add]
          simp [World.cell?, m2]
         ·next hj => rw [List.getElem?_eq_none (by omega)]
        ·simp
       have hnew : cur.toList.take (off * sz) ++ c1 ++ cur.toList.drop (off * sz + c1.length) = (o1 ++ c1 ++ o3) ++ cur.toList.drop (o1 ++ (o2 ++ o3)).length := by
        have t1 : cur.toList.take (off * sz) = o1 := by
         rw [hcur, List.append_assoc, List.take_append_of_le_length (by omega), List.take_of_length_le (by omega)]
        have t2 : cur.toList.drop (off * sz + c1.length) = o3 ++ cur.toList.drop (o1 ++ (o2 ++ o3)).length := by
         conv => lhs; rw [hcur]
         rw [show o1 ++ (o2 ++ o3) ++ cur.toList.drop (o1 ++ (o2 ++ o3)).length = (o1 ++ o2) ++ (o3 ++ cur.toList.drop (o1 ++ (o2 ++ o3)).length) from by simp]
         rw [List.drop_append_of_le_length (by simp; omega), List.drop_of_length_le (by simp; omega), List.nil_append]
        rw [t1, t2]
        simp
       rw [hnew] at hrun
       have hFF : RepF w (okOf cx w.heap.size μ (nw && nw')) sz (xs.take off ++ ys.take k ++ xs.drop (off + k)) (o1 ++ c1 ++ o3) :=
        RepF.append (RepF.append (RepF.map hw1 G1) (RepF.map hw2 F1)) (RepF.map hw1 (by rw [List.drop_drop] at G3; exact G3))
       have hlen : (xs.take off ++ ys.take k ++ xs.drop (off + k)).length = xs.length := by simp; omega
       refine ⟨_, _, μ, key _ _ hrun, h.write g1 (by rw [hat]; exact ⟨rfl, hlen⟩) fun hG => ?_, repA_int.2 rfl⟩
       refine .inr ⟨b, cap, _, g1, setRow_heap w b cur _ ety _ m2, by rw [hlen]; exact m3, m4, ?_, RepF.row (RepF.map (fun h => Rep.goes hG h) hFF) fun j hj => ?_⟩
       ·have := congrArg List.length hcur
        simp only [List.length_append, Array.length_toList, List.length_drop, List.size_toArray] at this ⊢
        omega
       ·rw [Nat.zero_add, cell_setRow_same w b j cur _ ety _ m2, List.getElem?_toArray, List.getElem?_append_left hj]
      ·exfalso; apply hn; simp
    ·cases ha
   ·cases ha
  ·cases ha
 ·next s n hgx =>
  rw [hgx] at hx
  split at ha
  ·next ety nw fs hat =>
   split at ha
   ·next sz h1 =>
    split at ha
    ·next hh =>
     obtain ⟨hfl, hfz, _⟩ := hh
     obtain ⟨el, hu, hz⟩ := esz_info h1
     have hfz' : ∀ x ∈ fs, x.size = sz := fun x hx => by
      have := List.all_eq_true.1 hfz x hx
      simpa using this
     split at ha
     ·next nw' ys hsrc =>
      cases ha
      obtain ⟨A, c, cs, hyv, hF, hcells⟩ := src_ok h hsrc hy
      rw [RepA, hat] at hx
      obtain ⟨b, cap, g1, g3⟩ := hx
      have hm := h.mem s
      rw [hat] at hm
      obtain ⟨b', cap', cur, val, m1, m2, m3, m4, m5⟩ := hm
      rw [g1] at m1
      cases m1
      rw [RepA] at m3
      obtain ⟨fcs, r1, rfl⟩ := m3
      rw [Rep] at r1
      have hcur : cur = fcs.toArray := by rw [m4]; rfl
      have F0 := RepL.toF hfz' r1
      have hw1 : ∀ {x : V} {a : List Value}, Rep w (okOf cx w.heap.size μ nw) x a → Rep w (okOf cx w.heap.size μ (nw && nw')) x a := fun h => Rep.weak (fun hn => by rw [Bool.and_eq_true] at hn; exact hn.1) h
      have hw2 : ∀ {x : V} {a : List Value}, Rep w (okOf cx w.heap.size μ nw') x a → Rep w (okOf cx w.heap.size μ (nw && nw')) x a := fun h => Rep.weak (fun hn => by rw [Bool.and_eq_true] at hn; exact hn.2) h
      by_cases hn : min ys.length n = 0
      ·have hrun : (Builtin.copy_ #[t, t'] o.type #[e x, e y]).run P w = .ok (.int .i64 0) w := by
        cases A <;> simp [Builtin.copy_, run_underlying hu, r_size hz, hyv, g3, Builtin.lenOf, hn, Builtin.firstCells, loadCells, loadCellsFrom, storeCells, goInt]
       have hcont : ys.take (min ys.length n) ++ fs.drop (min ys.length n) = fs := by rw [hn]; simp
       rw [hcont, hn]
       refine ⟨_, w, μ, key _ _ hrun, ?_, repA_int.2 rfl⟩
       have hG : Goes w μ w μ := ⟨Nat.le_refl _, fun _ _ _ _ hv => hv, fun t' b' c' hs => .inl ⟨t', c', hs⟩, fun _ _ hv _ => hv⟩
       refine h.next hG h.below h.sites (fun t' => ?_) (fun t' => ?_)
       ·by_cases hd : s = t'
        ·subst hd
         right
         rw [St.at_upd_one, if_pos rfl]
         refine ⟨b, cap, cur, _, g1, m2, ?_, m4, fun h => by cases h⟩
         rw [RepA]
         refine ⟨fcs, ?_, rfl⟩
         rw [Rep]
         exact RepF.toL (RepF.map hw1 F0)
        ·left; rw [St.at_upd_one, if_neg hd]; exact ⟨rfl, rfl, fun _ _ _ => rfl⟩
       ·right; left
        rw [St.at_upd_one]
        refine ⟨rfl, ?_⟩
        split
        ·next hd => subst hd; rw [hat]; trivial
        ·exact Blk.fits_refl _
      ·have hys : ys ≠ [] := fun h => hn (by rw [h]; simp)
       obtain ⟨a, rfl, hnews⟩ := hcells hys
       obtain ⟨k, hk⟩ : ∃ k, min ys.length n = k := ⟨_, rfl⟩
       rw [hk] at hn ⊢
       have hk1 : k ≤ ys.length := by omega
       have hk2 : k ≤ n := by omega
       obtain ⟨c1, c2, rfl, F1, F2⟩ := RepF.split (xs := ys.take k) (ys := ys.drop k) (by rw [List.take_append_drop]; exact hF)
       have l1 := RepF.length F1
       rw [List.length_take, Nat.min_eq_left hk1] at l1
       obtain ⟨o1, o2, rfl, G1, G2⟩ := RepF.split (xs := fs.take k) (ys := fs.drop k) (by rw [List.take_append_drop]; exact F0)
       have e1 := RepF.length G1
       rw [List.length_take, Nat.min_eq_left (by omega)] at e1
       have hfc : (Builtin.firstCells sz k (.slice (some a) ys.length c)).run P w = .ok c1.toArray w :=
        run_firstCells_some (P := P) w sz k a ys.length c c1 l1 (fun j v hj => hnews j v (by rw [List.getElem?_append_left (List.getElem?_eq_some_iff.1 hj).1]; exact hj))
       have hst := run_storeCells_at P b 0 ety c1 0 cur w m2 (by rw [hcur]; simp; omega) (RepF.one F1)
       simp only [Nat.add_zero] at hst
       have hrun : (Builtin.copy_ #[t, t'] o.type #[e x, e y]).run P w = .ok (.int .i64 k) (w.setRow b (cur.toList.take 0 ++ c1 ++ cur.toList.drop (0 + c1.length)).toArray) := by
        have hk' : Nat.min ys.length n = k := hk
        simp [Builtin.copy_, run_underlying hu, r_size hz, hyv, g3, Builtin.lenOf, hk', hfc, hst, goInt]
       have hnew : cur.toList.take 0 ++ c1 ++ cur.toList.drop (0 + c1.length) = c1 ++ o2 := by
        rw [hcur, List.take_zero, List.nil_append, Nat.zero_add, List.drop_append_of_le_length (by omega), List.drop_of_length_le (by omega), List.nil_append]
       rw [hnew] at hrun
       refine ⟨_, _, μ, key _ _ hrun, h.write g1 (by rw [hat]; trivial) fun hG => ?_, repA_int.2 rfl⟩
       refine ⟨b, cap, _, (V.agg (ys.take k ++ fs.drop k)).toVal (c1 ++ o2), g1, setRow_heap w b cur _ ety _ m2, ?_, rfl, fun h => by cases h⟩
       rw [RepA]
       refine ⟨c1 ++ o2, ?_, rfl⟩
       rw [Rep]
       exact RepF.toL (RepF.map (fun h => Rep.goes hG h) (RepF.append (RepF.map hw2 F1) (RepF.map hw1 G2)))
     ·cases ha
    ·cases ha
   ·cases ha
  ·cases ha
 ·cases ha
def V.offs : Nat → List V → List (Nat × Nat)
 | _, [] => []
 | o, x :: r => (o, x.size) :: V.offs (o + x.size) r
theorem offs_get : ∀ {o : Nat} {fs : List V} {i : Nat} {x : V}, fs[i]? = some x → (V.offs o fs)[i]? = some (o + V.off fs i, x.size)
 | _, [], _, _, h => by simp at h
 | o, y :: r, 0, x, h => by simp at h; subst h; simp [V.offs, V.off]
 | o, y :: r, i + 1, x, h => by
   rw [List.getElem?_cons_succ] at h
   rw [V.offs, List.getElem?_cons_succ, offs_get h, V.off, Nat.add_assoc]
def plc (P : Program) (t : TypeId) : Option (List (Nat × Nat)) :=
 match P.underlying t with
 | some (.struct fs) => fs.toList.mapM (fun f => (P.info? f.type).map fun i => (f.offset, i.size))
 | some (.array n e) => (P.info? e).map fun i => (List.range n).map fun j => (j * i.size, i.size)
 | _ => none
def buildP (P : Program) (g : Operand → AV) : List V → List (Nat × Operand) → Option (Bool × List V)
 | fs, [] => some (true, fs)
 | fs, (i, x) :: r => match fs[i]? with
   | some z => (match g x with
     | .v nw y => if y.size = z.size then (match buildP P g (fs.set i y) r with
       | some (nw', l) => some (nw && nw', l)
       | none => none) else none
     | .nil => (match z with
       | .sl k [] => buildP P g (fs.set i (.sl k [])) r
       | _ => none)
     | _ => none)
   | none => none
def buildA (P : Program) (zt : TypeId → Option AV) (g : Operand → AV) (t : TypeId) (parts : List (Nat × Operand)) : Option AV :=
 match zt t with
 | some (.v true (.agg zs)) => if plc P t = some (V.offs 0 zs) then (buildP P g zs parts).map fun r => .v r.1 (.agg r.2) else none
 | _ => none
theorem fill_ok {e : Operand → Value} {g : Operand → AV} {place : Nat → Option (Nat × Nat)} {ofs : List (Nat × Nat)} (hpl : ∀ (i : Nat) p, ofs[i]? = some p → place i = some p) (hg : ∀ x, RepA cx w μ σ.at (g x) (e x)) :
 ∀ {parts : List (Nat × Operand)} {fs fs' : List V} {nw nw' : Bool} {cells : Array Value}, buildP P g fs parts = some (nw', fs') → V.offs 0 fs = ofs → RepL w (okOf cx w.heap.size μ nw) fs cells.toList →
  ∃ r, Instr.fill place cells (parts.map fun p => (p.1, e p.2)) = some r ∧ RepL w (okOf cx w.heap.size μ (nw && nw')) fs' r.toList
 | [], fs, fs', nw, nw', cells, h, ho, hr => by
   rw [buildP] at h
   cases h
   exact ⟨cells, rfl, RepL.mono (fun _ _ _ _ hv => hv) (fun _ hb => okOf_weak (by simp) hb) hr⟩
 | (i, x) :: r, fs, fs', nw, nw', cells, h, ho, hr => by
   rw [buildP] at h
   split at h
   ·next z hz =>
    have hx := hg x
    have one : ∀ (y : V) (nw1 : Bool) (c : List Value), Rep w (okOf cx w.heap.size μ nw1) y c → (e x).cells.toList = c → y.size = z.size → ∀ {nw2 : Bool} {l : List V}, buildP P g (fs.set i y) r = some (nw2, l) →
     ∃ r', Instr.fill place cells (((i, x) :: r).map fun p => (p.1, e p.2)) = some r' ∧ RepL w (okOf cx w.heap.size μ (nw && (nw1 && nw2))) l r'.toList := by
     intro y nw1 c hy hc hs nw2 l hb
     obtain ⟨p, a, q, hcs, h1, h2⟩ := RepL.get hr hz
     have hla := Rep.length h2
     have hlc := Rep.length hy
     have hsz : (e x).cells.size = z.size := by rw [← Array.length_toList, hc, hlc, hs]
     have hcl : cells.size = p.length + a.length + q.length := by rw [← Array.length_toList, hcs]; simp only [List.length_append]
     have hfold : ((e x).cells.zipIdx.foldl (fun cs (x : Value × Nat) => cs.setIfInBounds (V.off fs i + x.2) x.1) cells).toList = p ++ c ++ q := by
      obtain ⟨g1, g2⟩ := Great.foldl_set (V.off fs i) c 0 cells
      rw [← Array.foldl_toList, Array.toList_zipIdx, hc]
      apply List.ext_getElem?
      intro k
      rw [Array.getElem?_toList, g2 k]
      by_cases hk : V.off fs i + 0 ≤ k ∧ k < V.off fs i + 0 + c.length ∧ k < cells.size
      ·rw [if_pos hk, List.append_assoc, List.getElem?_append_right (by omega), List.getElem?_append_left (by omega)]
       congr 1
       omega
      ·rw [if_neg hk, ← Array.getElem?_toList, hcs]
       by_cases hk2 : k < p.length
       ·rw [List.append_assoc, List.append_assoc, List.getElem?_append_left hk2, List.getElem?_append_left hk2]
       ·rw [List.append_assoc, List.append_assoc, List.getElem?_append_right (by omega), List.getElem?_append_right (by omega)]
        by_cases hk3 : k - p.length < c.length
        ·exfalso; apply hk; omega
        ·rw [List.getElem?_append_right (by omega), List.getElem?_append_right (by omega)]
         congr 1
         omega
     have hset := RepL.set (w := w) (ok := okOf cx w.heap.size μ (nw && nw1)) (y := y) (a' := c) (RepL.mono (fun _ _ _ _ hv => hv) (fun _ hb => okOf_weak (by simp only [Bool.and_eq_true]; exact fun h => h.1) hb) hr) hz hcs h1 hla (Rep.weak (by simp only [Bool.and_eq_true]; exact fun h => h.2) hy)
     have ho' : V.offs 0 (fs.set i y) = ofs := by
      rw [← ho]
      have : ∀ (fs : List V) (i o : Nat), fs[i]? = some z → V.offs o (fs.set i y) = V.offs o fs := by
       intro fs
       induction fs with
       | nil => intro i o h; simp at h
       | cons u v ih =>
         intro i o h
         cases i with
         | zero => simp at h; subst h; rw [List.set_cons_zero, V.offs, V.offs, hs]
         | succ i => rw [List.getElem?_cons_succ] at h; rw [List.set_cons_succ, V.offs, V.offs, ih i _ h]
      exact this fs i 0 hz
     obtain ⟨r', k1, k2⟩ := fill_ok hpl hg hb ho' (cells := (e x).cells.zipIdx.foldl (fun cs (x : Value × Nat) => cs.setIfInBounds (V.off fs i + x.2) x.1) cells) (by rw [hfold]; exact hset)
     refine ⟨r', ?_, by rw [← Bool.and_assoc]; exact k2⟩
     rw [List.map_cons]
     unfold Instr.fill
     have hp : place i = some (V.off fs i, z.size) := hpl i _ (by rw [← ho]; have := offs_get (o := 0) hz; simpa using this)
     rw [hp]
     simp only
     rw [if_neg (by rw [hsz]; simp; omega)]
     exact k1
    split at h
    ·next nw1 y hgx =>
     split at h
     ·next hs =>
      split at h <;> cases h
      rename_i nw2 hb
      rw [hgx, RepA] at hx
      obtain ⟨c, h1, h2⟩ := hx
      exact one y nw1 c h1 (by rw [h2]; exact toVal_cells h1) hs hb
     ·cases h
    ·next hgx =>
     split at h
     ·next k =>
      rw [hgx, repA_nil] at hx
      have := one (.sl k []) true [.slice none 0 0] (by rw [Rep]; exact .inl ⟨rfl, _, _, rfl⟩) (by rw [hx]; rfl) rfl h
      simpa using this
     ·cases h
    ·cases h
   ·cases h
theorem x_build {e : Operand → Value} {o : Oper} {g : Operand → AV} {t : TypeId} {parts : Array (Nat × Operand)} {X : AV} {Px : Px P} (ho : o.op = .build t parts) (hb : buildA P Px.zt g t parts.toList = some X) (hg : ∀ x, RepA cx w μ σ.at (g x) (e x)) :
 ∃ v, (execOp e o).run P w = .ok (.value v) w ∧ RepA cx w μ σ.at X v := by
 unfold buildA at hb
 split at hb
 ·next zs hz =>
  split at hb
  ·next hp =>
   simp only [Option.map_eq_some_iff] at hb
   obtain ⟨⟨nw, fs⟩, h1, rfl⟩ := hb
   obtain ⟨i, z, z1, z2, z3, z4, z5⟩ := Px.zok t _ hz
   have h5 := z5 cx w μ σ.at
   rw [RepA] at h5
   obtain ⟨cs, h6, h7⟩ := h5
   have h8 : z.cells.toList = cs := by rw [h7]; exact toVal_cells h6
   rw [Rep] at h6
   have e1 : (parts.map fun (i, x) => (i, e x)).toList = parts.toList.map fun p => (p.1, e p.2) := by rw [Array.toList_map]
   unfold plc at hp
   split at hp
   ·next fds hu =>
    obtain ⟨r, k1, k2⟩ := fill_ok (P := P) (place := fun i => (V.offs 0 zs).toArray[i]?) (ofs := V.offs 0 zs) (fun i p h => by simpa using h) hg h1 rfl (cells := z.cells) (by rw [h8]; exact h6)
    have hbt : P.built t (parts.map fun (i, x) => (i, e x)).toList = some r := by
     unfold Program.built
     rw [z1, hu, e1]
     simp only [z2]
     rw [hp]
     exact k1
    refine ⟨.agg r, ?_, ?_⟩
    ·simp only [execOp, ho, Sem.run_bind, run_build w t _ r hbt, Result.andThen_ok]
     rfl
    ·rw [RepA]
     refine ⟨r.toList, by rw [Rep]; simpa using k2, rfl⟩
   ·next n el hu =>
    cases hie : P.info? el with
    | none => rw [hie] at hp; cases hp
    | some ie =>
      rw [hie] at hp
      simp only [Option.map_some, Option.some.injEq] at hp
      obtain ⟨r, k1, k2⟩ := fill_ok (P := P) (place := fun i => some (i * ie.size, ie.size)) (ofs := V.offs 0 zs) (fun i p h => by
       rw [← hp, List.getElem?_map] at h
       simp only [Option.map_eq_some_iff] at h
       obtain ⟨j, h2, h3⟩ := h
       have h4 := (List.getElem?_eq_some_iff.1 h2).2
       simp at h4
       subst h4
       rw [h3]) hg h1 rfl (cells := z.cells) (by rw [h8]; exact h6)
      have hbt : P.built t (parts.map fun (i, x) => (i, e x)).toList = some r := by
       unfold Program.built
       rw [z1, hu, e1]
       simp only [z2, hie]
       exact k1
      refine ⟨.agg r, ?_, ?_⟩
      ·simp only [execOp, ho, Sem.run_bind, run_build w t _ r hbt, Result.andThen_ok]
       rfl
      ·rw [RepA]
       refine ⟨r.toList, by rw [Rep]; simpa using k2, rfl⟩
   ·cases hp
  ·cases hb
 ·cases hb
end
end Go.Proofs.YtlpolbeikangpaaGreatDoor.L
