/-
  Lh Li Lj Lk Ll Lm
-/
import Derived.Test.YtobacemgcjnahaaGreatDoorG1
import Derived.Great.BuildSlice
import Derived.Laws.MakeOwn
set_option linter.unusedSimpArgs false
set_option linter.unusedVariables false
/-
  The abstract state goes on: temporaries are filled, blocks of the call's own come up, are written, fall away.
-/
namespace Go.Proofs.YtobacemgcjnahaaGreatDoor.L
open Go Go.RowKit

def St.upd (σ : St) (ms : List (Nat × Blk)) : St := { σ with mem := ms ++ σ.mem }
def St.set (σ : St) (d : Nat) (x : AV) : St := { σ with env := (d, x) :: σ.env }
def St.put (σ : St) (d : Option Nat) (x : AV) : St := match d with
  | some d => σ.set d x
  | none => σ

/-- No temporary and no block leads to block s. -/
def St.freshB (σ : St) (s : Nat) : Bool := σ.env.all (fun p => !p.2.ment s) && σ.mem.all (fun p => !p.2.ment s) && σ.root.all (fun p => !p.1.ment s)
structure St.Fresh (σ : St) (s : Nat) : Prop where
  env : ∀ t, (σ.get t).ment s = false
  mem : ∀ s', (σ.at s').ment s = false
  root : ∀ p ∈ σ.root, p.1.ment s = false

theorem look_all {α : Type} [Inhabited α] (p : α → Bool) (hd : p default = true) : ∀ {l : List (Nat × α)} (t : Nat), l.all (fun x => p x.2) = true → p (look l t) = true
  | [], t, _ => by rw [look]; exact hd
  | x :: r, t, h => by
    rw [List.all_cons, Bool.and_eq_true] at h
    rw [look]
    split
    · exact h.1
    · exact look_all p hd t h.2

theorem St.fresh_of {σ : St} {s : Nat} (h : σ.freshB s = true) : σ.Fresh s := by
  unfold St.freshB at h
  rw [Bool.and_eq_true, Bool.and_eq_true] at h
  exact ⟨fun t => by simpa [St.get] using look_all (fun x : AV => !x.ment s) (by simp [default, AV.ment]) t h.1.1, fun t => by simpa [St.at] using look_all (fun x : Blk => !x.ment s) (by simp [default, Blk.ment]) t h.1.2, fun p hp => by simpa using List.all_eq_true.1 h.2 p hp⟩

theorem look_append {α : Type} [Inhabited α] : ∀ {l l' : List (Nat × α)} {t : Nat}, (∀ p ∈ l, p.1 ≠ t) → look (l ++ l') t = look l' t
  | [], _, _, _ => rfl
  | x :: r, l', t, h => by
    rw [List.cons_append, look, if_neg (h x (by simp)), look_append (fun p hp => h p (by simp [hp]))]

section
variable {P : Program} {cx : Cx} {w0 w w' : World} {σ : St} {tmps : Array Value} {μ μ' : Sites}

theorem RelM.put (h : RelM cx w0 σ tmps w μ) {d : Nat} {x : AV} {v : Value} (hd : d < σ.nt) (hx : RepA cx w μ σ.at x v) : RelM cx w0 (σ.set d x) (tmps.setIfInBounds d v) w μ where
  below := h.below
  hB := h.hB
  gl := h.gl
  size := by rw [Array.size_setIfInBounds]; exact h.size
  sites := h.sites
  mem := h.mem
  roots := h.roots
  fix := h.fix
  env := fun t => by
    have hsz := h.size
    show RepA cx w μ σ.at (look ((d, x) :: σ.env) t) _
    rw [look]
    by_cases ht : d = t
    · subst ht
      rw [if_pos rfl]
      rw [Array.getD_eq_getD_getElem?, Array.getElem?_setIfInBounds_self_of_lt (by omega)]
      exact hx
    · rw [if_neg ht]
      rw [Array.getD_eq_getD_getElem?, Array.getElem?_setIfInBounds_ne ht, ← Array.getD_eq_getD_getElem?]
      exact h.env t

/-- The general step. -/
theorem RelM.next (h : RelM cx w0 σ tmps w μ) {ms : List (Nat × Blk)} (hG : Goes w μ w' μ') (hb : Below w0.heap.size w0 w') (hs : SitesOk cx w' μ')
    (hmem : ∀ s, ((σ.upd ms).at s = σ.at s ∧ μ' s = μ s ∧ ∀ b c, μ s = some (b, c) → w'.heap[b]? = w.heap[b]?) ∨ RepB cx w' μ' (σ.upd ms).at s ((σ.upd ms).at s))
    (hfit : ∀ s, (σ.upd ms).at s = .dead ∨ (μ' s = μ s ∧ (σ.at s).fits ((σ.upd ms).at s)) ∨ σ.Fresh s) : RelM cx w0 (σ.upd ms) tmps w' μ' where
  below := hb
  hB := h.hB
  gl := h.gl
  size := h.size
  sites := hs
  mem := fun s => by
    rcases hmem s with ⟨h1, h2, h3⟩ | h1
    · rw [h1]
      refine RepB.goes hG (fun t ht => ?_) h2 h3 (h.mem s)
      rcases hfit t with h4 | h4 | h4
      · exact .inl h4
      · exact .inr h4
      · rw [h4.mem s] at ht; cases ht
    · exact h1
  roots := fun p hp => by
    refine RepA.goes hG (fun s ht => ?_) (h.roots p hp)
    rcases hfit s with h4 | h4 | h4
    · exact .inl h4
    · exact .inr h4
    · rw [h4.root p hp] at ht; cases ht
  fix := fun p hp => ⟨hG.other _ _ (h.fix p hp).1 (h.fix p hp).2, (h.fix p hp).2⟩
  env := fun t => by
    refine RepA.goes hG (fun s ht => ?_) (h.env t)
    rcases hfit s with h4 | h4 | h4
    · exact .inl h4
    · exact .inr h4
    · have := h4.env t
      rw [show (σ.upd ms).get t = σ.get t from rfl] at ht
      rw [this] at ht; cases ht

/-- What leads to nothing that changed, read after the step. -/
theorem RepA.later {ms : List (Nat × Blk)} (hG : Goes w μ w' μ') (hfit : ∀ s, (σ.upd ms).at s = .dead ∨ (μ' s = μ s ∧ (σ.at s).fits ((σ.upd ms).at s)) ∨ σ.Fresh s) {x : AV} {v : Value}
    (hx : ∀ s, σ.Fresh s → x.ment s = false) (h : RepA cx w μ σ.at x v) : RepA cx w' μ' (σ.upd ms).at x v := by
  refine RepA.goes hG (fun s ht => ?_) h
  rcases hfit s with h4 | h4 | h4
  · exact .inl h4
  · exact .inr h4
  · rw [hx s h4] at ht; cases ht

/-- Only new memory, none of it the call's own: all stays. -/
theorem RelM.grow (h : RelM cx w0 σ tmps w μ) (hb : Below w.heap.size w w') : RelM cx w0 σ tmps w' μ := by
  have hG : Goes w μ w' μ := ⟨hb.size, fun b o v _ hv => by
    rw [← hv]
    have : b < w.heap.size := by
      have : w.heap[b]? ≠ none := fun hn => by simp [World.cell?, hn] at hv
      exact Nat.lt_of_not_le fun hle => this (Array.getElem?_eq_none hle)
    exact World.cell?_of_block (w := w) (a := ⟨b, o, none⟩) (hb.block b this), fun s b c hs => .inl ⟨s, c, hs⟩, fun b o hb' _ => (hb.block b (Array.getElem?_eq_some_iff.1 hb').1).trans hb'⟩
  have := h.next (ms := []) (w' := w') (μ' := μ) hG (h.below.trans (hb.mono h.below.size)) ⟨fun s b c hs => ⟨(h.sites.lo s b c hs).1, Nat.lt_of_lt_of_le (h.sites.lo s b c hs).2 hb.size⟩, h.sites.inj⟩
    (fun s => .inl ⟨rfl, rfl, fun b c hs => hb.block b (h.sites.lo s b c hs).2⟩) (fun s => .inr (.inl ⟨rfl, Blk.fits_refl _⟩))
  exact this

def upS (μ : Sites) (s : Nat) (x : Option (Nat × Nat)) : Sites := fun t => if t = s then x else μ t

theorem Goes.alloc {s cap : Nat} (o : Obj) : Goes w μ (w.alloc o) (upS μ s (some (w.heap.size, cap))) where
  size := by simp
  cell := fun b o' v _ hv => by
    rw [← hv]
    exact World.cell?_alloc_old _ _ _ (fun hn => by simp [World.cell?, show b = w.heap.size from hn] at hv)
  blocks := fun s' b c hs => by
    unfold upS at hs
    split at hs
    · cases hs; exact .inr (Nat.le_refl _)
    · exact .inl ⟨s', c, hs⟩
  other := fun b o' hb _ => (Below.heap_alloc w o b (Array.getElem?_eq_some_iff.1 hb).1).trans hb

theorem SitesOk.alloc (h : SitesOk cx w μ) (hB : cx.B ≤ w.heap.size) {s cap : Nat} (o : Obj) : SitesOk cx (w.alloc o) (upS μ s (some (w.heap.size, cap))) where
  lo := fun s' b c hs => by
    unfold upS at hs
    split at hs
    · cases hs; exact ⟨hB, by simp⟩
    · have := h.lo s' b c hs; exact ⟨this.1, by simp; omega⟩
  inj := fun s1 s2 b c c' h1 h2 => by
    unfold upS at h1 h2
    split at h1 <;> split at h2
    · next e1 e2 => rw [e1, e2]
    · cases h1; have := (h.lo _ _ _ h2).2; omega
    · cases h2; have := (h.lo _ _ _ h1).2; omega
    · exact h.inj s1 s2 b c c' h1 h2

theorem St.at_upd_one {s t : Nat} {b : Blk} : (σ.upd [(s, b)]).at t = if s = t then b else σ.at t := rfl

/-- A new block of the call's own. -/
theorem RelM.fresh (h : RelM cx w0 σ tmps w μ) {s cap : Nat} {blk : Blk} {cur : Array Value} {e : TypeId} (hf : σ.Fresh s)
    (hb : Goes w μ (w.alloc (.cells cur e)) (upS μ s (some (w.heap.size, cap))) → RepB cx (w.alloc (.cells cur e)) (upS μ s (some (w.heap.size, cap))) (σ.upd [(s, blk)]).at s blk) :
    RelM cx w0 (σ.upd [(s, blk)]) tmps (w.alloc (.cells cur e)) (upS μ s (some (w.heap.size, cap))) := by
  have hB : cx.B ≤ w.heap.size := by rw [← h.hB]; exact h.below.size
  have hG := Goes.alloc (w := w) (μ := μ) (s := s) (cap := cap) (.cells cur e)
  refine h.next hG (h.below.alloc h.below.size _) (h.sites.alloc hB _) (fun t => ?_) (fun t => ?_)
  · by_cases ht : s = t
    · subst ht
      right
      rw [St.at_upd_one, if_pos rfl]
      exact hb hG
    · left
      rw [St.at_upd_one, if_neg ht]
      refine ⟨rfl, by unfold upS; rw [if_neg (Ne.symm ht)], fun b c hs => ?_⟩
      exact Below.heap_alloc _ _ _ (h.sites.lo t b c hs).2
  · by_cases ht : s = t
    · subst ht; exact .inr (.inr hf)
    · refine .inr (.inl ⟨by unfold upS; rw [if_neg (Ne.symm ht)], ?_⟩)
      rw [St.at_upd_one, if_neg ht]
      exact Blk.fits_refl _
end
end Go.Proofs.YtobacemgcjnahaaGreatDoor.L
/-
  Rows told by their flat cells; new blocks: variables, literals, made rows.
-/
namespace Go.Proofs.YtobacemgcjnahaaGreatDoor.L
open Go Go.RowKit

/-- The cells of a row's elements, side by side. -/
def RepF (w : World) (ok : Nat → Prop) (sz : Nat) : List V → List Value → Prop
  | [], cs => cs = []
  | x :: r, cs => ∃ a b, cs = a ++ b ∧ a.length = sz ∧ Rep w ok x a ∧ RepF w ok sz r b

section
variable {w w' : World} {ok ok' : Nat → Prop} {sz : Nat}
theorem RepF.length : ∀ {xs : List V} {cs : List Value}, RepF w ok sz xs cs → cs.length = xs.length * sz
  | [], _, h => by rw [RepF] at h; subst h; simp
  | x :: r, _, h => by
    rw [RepF] at h
    obtain ⟨a, b, rfl, h1, _, h3⟩ := h
    rw [List.length_append, h1, RepF.length h3, List.length_cons, Nat.succ_mul]
    omega

theorem RepF.one : ∀ {xs : List V} {cs : List Value}, RepF w ok sz xs cs → ∀ c ∈ cs, c.oneCell' = true
  | [], _, h => by rw [RepF] at h; subst h; simp
  | x :: r, _, h => by
    rw [RepF] at h
    obtain ⟨a, b, rfl, _, h2, h3⟩ := h
    intro c hc
    rcases List.mem_append.1 hc with h4 | h4
    · exact Rep.one h2 c h4
    · exact RepF.one h3 c h4

theorem RepF.map (hm : ∀ {x : V} {a : List Value}, Rep w ok x a → Rep w' ok' x a) : ∀ {xs : List V} {cs : List Value}, RepF w ok sz xs cs → RepF w' ok' sz xs cs
  | [], _, h => by rw [RepF] at h ⊢; exact h
  | x :: r, _, h => by
    rw [RepF] at h ⊢
    obtain ⟨a, b, h0, h1, h2, h3⟩ := h
    exact ⟨a, b, h0, h1, hm h2, RepF.map hm h3⟩

theorem RepF.append : ∀ {xs ys : List V} {cs ds : List Value}, RepF w ok sz xs cs → RepF w ok sz ys ds → RepF w ok sz (xs ++ ys) (cs ++ ds)
  | [], _, _, _, h, k => by rw [RepF] at h; subst h; exact k
  | x :: r, _, _, _, h, k => by
    rw [RepF] at h
    obtain ⟨a, b, rfl, h1, h2, h3⟩ := h
    rw [List.cons_append, RepF]
    exact ⟨a, b ++ _, by rw [List.append_assoc], h1, h2, RepF.append h3 k⟩

theorem RepF.split : ∀ {xs ys : List V} {cs : List Value}, RepF w ok sz (xs ++ ys) cs → ∃ a b, cs = a ++ b ∧ RepF w ok sz xs a ∧ RepF w ok sz ys b
  | [], ys, cs, h => ⟨[], cs, rfl, by rw [RepF], h⟩
  | x :: r, ys, cs, h => by
    rw [List.cons_append, RepF] at h
    obtain ⟨a, b, rfl, h1, h2, h3⟩ := h
    obtain ⟨a', b', rfl, h4, h5⟩ := RepF.split h3
    refine ⟨a ++ a', b', by rw [List.append_assoc], ?_, h5⟩
    rw [RepF]
    exact ⟨a, a', rfl, h1, h2, h4⟩

theorem RepF.row {b : Nat} : ∀ {xs : List V} {cs : List Value} {o : Nat}, RepF w ok sz xs cs → (∀ j, j < cs.length → w.cell? ⟨b, o + j, none⟩ = cs[j]?) → RepRow w ok b sz o xs
  | [], _, _, _, _ => by rw [RepRow]; trivial
  | x :: r, _, o, h, hc => by
    rw [RepF] at h
    obtain ⟨a, d, rfl, h1, h2, h3⟩ := h
    rw [RepRow]
    refine ⟨⟨a, h1, fun j hj => ?_, h2⟩, RepF.row h3 fun j hj => ?_⟩
    · rw [hc j (by simp; omega), List.getElem?_append_left (by omega)]
    · have := hc (sz + j) (by simp; omega)
      rw [List.getElem?_append_right (by omega), ← Nat.add_assoc] at this
      rw [this]
      congr 1
      omega

theorem RepRow.flat {b : Nat} : ∀ {xs : List V} {o : Nat}, RepRow w ok b sz o xs → ∃ cs, RepF w ok sz xs cs ∧ ∀ j, j < cs.length → w.cell? ⟨b, o + j, none⟩ = cs[j]?
  | [], o, _ => ⟨[], by rw [RepF], fun j hj => by simp at hj⟩
  | x :: r, o, h => by
    rw [RepRow] at h
    obtain ⟨⟨a, h1, h2, h3⟩, h4⟩ := h
    obtain ⟨cs, k1, k2⟩ := RepRow.flat h4
    refine ⟨a ++ cs, by rw [RepF]; exact ⟨a, cs, rfl, h1, h3, k1⟩, fun j hj => ?_⟩
    by_cases hj' : j < sz
    · rw [h2 j hj', List.getElem?_append_left (by omega)]
    · rw [List.getElem?_append_right (by omega), ← k2 (j - a.length) (by simp at hj; omega)]
      congr 2
      omega

theorem RepF.replicate {x : V} {a : List Value} (ha : a.length = sz) (hr : Rep w ok x a) : ∀ (n : Nat), RepF w ok sz (List.replicate n x) ((List.replicate n a).flatten)
  | 0 => by simp [RepF]
  | n + 1 => by
    rw [List.replicate_succ, RepF]
    exact ⟨a, _, by rw [List.replicate_succ, List.flatten_cons], ha, hr, RepF.replicate ha hr n⟩
end

theorem toVal_cells {w : World} {ok : Nat → Prop} {x : V} {cs : List Value} (h : Rep w ok x cs) : (x.toVal cs).cells.toList = cs := by rw [Rep.cells h]

/-- Elements of a literal: each a value that nobody changes, of sz cells; the numbers rise by one. -/
def partsA (P : Program) (e : TypeId) (sz : Nat) (g : Operand → AV) : Nat → List (Nat × Operand) → Option (Bool × List V)
  | _, [] => some (true, [])
  | k, (i, x) :: r => if i = k then (match partsA P e sz g (k + 1) r with
    | some (nw', ys) => (match g x with
      | .v nw y => if y.size = sz then some (nw && nw', y :: ys) else none
      | .nil => (match esz P e with
        | some z => if sz = 1 then some (nw', .sl z [] :: ys) else none
        | none => none)
      | _ => none)
    | none => none) else none

section
variable {P : Program} {cx : Cx} {w0 w : World} {σ : St} {tmps : Array Value} {μ : Sites} {e : Operand → Value} {o : Oper} {g : Operand → AV}

theorem parts_ok {ety : TypeId} {sz : Nat} : ∀ {k : Nat} {ps : List (Nat × Operand)} {nw : Bool} {ys : List V} {mem : Nat → Blk}, partsA P ety sz g k ps = some (nw, ys) → (∀ x, RepA cx w μ mem (g x) (e x)) →
    ps.length = ys.length ∧ (ps.map fun p => (p.1, e p.2)) = ((ps.map fun p => e p.2).zipIdx k).map (fun x => (x.2, x.1)) ∧ (∀ v ∈ ps.map (fun p => e p.2), v.cells.size = sz) ∧
    RepF w (okOf cx w.heap.size μ nw) sz ys ((ps.map fun p => e p.2).flatMap fun v => v.cells.toList)
  | k, [], nw, ys, mem, h, hg => by
    rw [partsA] at h
    cases h
    exact ⟨rfl, rfl, by simp, by simp [RepF]⟩
  | k, (i, x) :: r, nw, ys, mem, h, hg => by
    rw [partsA] at h
    split at h
    · next hi =>
      subst hi
      split at h
      · next nw' zs hr =>
        obtain ⟨h1, h2, h3, h4⟩ := parts_ok hr hg
        have hx := hg x
        split at h
        · next nw1 y hy =>
          split at h <;> cases h
          rename_i hs
          rw [hy, RepA] at hx
          obtain ⟨cs, k1, k2⟩ := hx
          have hl := Rep.length k1
          refine ⟨by simp [h1], by simp only [List.map_cons, List.zipIdx_cons, h2], ?_, ?_⟩
          · intro v hv
            rw [List.map_cons, List.mem_cons] at hv
            rcases hv with rfl | hv
            · rw [k2, Rep.cells k1]; simp; omega
            · exact h3 v hv
          · rw [List.map_cons, List.flatMap_cons, RepF]
            refine ⟨cs, _, by rw [k2, toVal_cells k1], by omega, Rep.weak (fun hn => ?_) k1, RepF.map (fun h => Rep.weak (fun hn => ?_) h) h4⟩
            · rw [Bool.and_eq_true] at hn; exact hn.1
            · rw [Bool.and_eq_true] at hn; exact hn.2
        · next hy =>
          split at h
          · next z hz =>
            split at h <;> cases h
            rename_i hs
            rw [hy, repA_nil] at hx
            refine ⟨by simp [h1], by simp only [List.map_cons, List.zipIdx_cons, h2], ?_, ?_⟩
            · intro v hv
              rw [List.map_cons, List.mem_cons] at hv
              rcases hv with rfl | hv
              · rw [hx, hs]; rfl
              · exact h3 v hv
            · rw [List.map_cons, List.flatMap_cons, RepF]
              refine ⟨[.slice none 0 0], _, by rw [hx]; rfl, by rw [hs]; rfl, ?_, h4⟩
              rw [Rep]
              exact .inl ⟨rfl, _, _, rfl⟩
          · cases h
        · cases h
      · cases h
    · cases h

/-- A variable of its own. -/
theorem x_newVar {d : Nat} {ety : TypeId} {X : AV} {val : Value} (h : RelM cx w0 σ tmps w μ) (hf : σ.Fresh d) (hX : ∀ s, σ.Fresh s → X.ment s = false) (hx : RepA cx w μ σ.at X val) (h1 : X.isV = false → val.oneCell' = true) :
    ∃ μ', RelM cx w0 (σ.upd [(d, .box ety X)]) tmps (w.alloc (.cells val.cells ety)) μ' ∧ RepA cx (w.alloc (.cells val.cells ety)) μ' (σ.upd [(d, .box ety X)]).at (.ptr d 0 [] 0) (.pointer (some ⟨w.heap.size, 0, none⟩)) := by
  refine ⟨_, h.fresh (cap := 1) hf fun hG => ?_, ?_⟩
  · refine ⟨w.heap.size, 1, val.cells, val, by unfold upS; rw [if_pos rfl], heap_alloc_new w _, RepA.later (σ := σ) hG (fun s => ?_) hX hx, rfl, h1⟩
    by_cases hs : d = s
    · subst hs; exact .inr (.inr hf)
    · refine .inr (.inl ⟨by unfold upS; rw [if_neg (Ne.symm hs)], ?_⟩)
      rw [St.at_upd_one, if_neg hs]
      exact Blk.fits_refl _
  · rw [RepA, St.at_upd_one, if_pos rfl]
    exact ⟨w.heap.size, 1, by unfold upS; rw [if_pos rfl], rfl⟩

/-- A row of its own, its cells told flat. -/
theorem x_newRow {d : Nat} {ety : TypeId} {sz : Nat} {nw : Bool} {xs : List V} {cur : Array Value} {cs rest : List Value} {cap : Nat} (h : RelM cx w0 σ tmps w μ) (hf : σ.Fresh d) (hr : RepF w (okOf cx w.heap.size μ nw) sz xs cs)
    (hcur : cur.toList = cs ++ rest) (hcap : cur.size = cap * sz) (hle : xs.length ≤ cap) (hm : cap ≤ maxLen) :
    ∃ μ', RelM cx w0 (σ.upd [(d, .buf ety sz nw xs)]) tmps (w.alloc (.cells cur ety)) μ' ∧ RepA cx (w.alloc (.cells cur ety)) μ' (σ.upd [(d, .buf ety sz nw xs)]).at (.own d 0 xs.length) (.slice (some ⟨w.heap.size, 0, none⟩) xs.length cap) := by
  refine ⟨_, h.fresh (cap := cap) hf fun hG => ?_, ?_⟩
  · refine .inr ⟨w.heap.size, cap, cur, by unfold upS; rw [if_pos rfl], heap_alloc_new w _, hle, hm, hcap, RepF.row (RepF.map (fun h => Rep.goes hG h) hr) fun j hj => ?_⟩
    rw [Nat.zero_add, World.cell?_alloc_mark, ← Array.getElem?_toList, hcur, List.getElem?_append_left hj]
  · rw [RepA, St.at_upd_one, if_pos rfl]
    exact .inl ⟨w.heap.size, cap, by unfold upS; rw [if_pos rfl], by omega, by simp⟩

/-- A row that nobody ever writes. -/
theorem x_newVal {ety : TypeId} {sz : Nat} {nw : Bool} {xs : List V} {cur : Array Value} {cs : List Value} (h : RelM cx w0 σ tmps w μ) (hr : RepF w (okOf cx w.heap.size μ nw) sz xs cs) (hcur : cur.toList = cs) :
    RelM cx w0 σ tmps (w.alloc (.cells cur ety)) μ ∧ RepA cx (w.alloc (.cells cur ety)) μ σ.at (.v nw (.sl sz xs)) (.slice (some ⟨w.heap.size, 0, none⟩) xs.length xs.length) := by
  have hb := (Below.refl w.heap.size w).alloc (Nat.le_refl _) (.cells cur ety)
  have hG : Goes w μ (w.alloc (.cells cur ety)) μ := ⟨hb.size, fun b o v _ hv => by
    rw [← hv]
    have : b < w.heap.size := by
      have : w.heap[b]? ≠ none := fun hn => by simp [World.cell?, hn] at hv
      exact Nat.lt_of_not_le fun hle => this (Array.getElem?_eq_none hle)
    exact World.cell?_of_block (w := w) (a := ⟨b, o, none⟩) (hb.block b this), fun s b c hs => .inl ⟨s, c, hs⟩, fun b o ho _ => (hb.block b (Array.getElem?_eq_some_iff.1 ho).1).trans ho⟩
  refine ⟨h.grow hb, ?_⟩
  rw [RepA]
  refine ⟨[.slice (some ⟨w.heap.size, 0, none⟩) xs.length xs.length], ?_, rfl⟩
  rw [Rep]
  have hB : cx.B ≤ w.heap.size := by rw [← h.hB]; exact h.below.size
  refine .inr ⟨w.heap.size, 0, xs.length, Nat.le_refl _, ⟨by rw [World.size_alloc]; omega, fun s c hs => ?_, .inl hB⟩, rfl, RepF.row (RepF.map (fun h => Rep.goes hG h) hr) fun j hj => ?_⟩
  · exact absurd (h.sites.lo s _ c hs).2 (by omega)
  · rw [Nat.zero_add, World.cell?_alloc_mark, ← Array.getElem?_toList, hcur]

theorem RelM.drew (h : RelM cx w0 σ tmps w μ) : RelM cx w0 σ tmps w.drew μ := h.grow ((Below.refl _ _).drew)

theorem made_flat {z : Array Value} : ∀ {n : Nat}, (madeCells z (n * z.size)).toList = (List.replicate n z.toList).flatten
  | 0 => by simp [madeCells]
  | n + 1 => by
    have h1 : (List.range z.size).map (fun k => z[k % z.size]!) = z.toList := by
      apply List.ext_getElem?
      intro k
      by_cases hk : k < z.size
      · simp [hk, Nat.mod_eq_of_lt hk]
      · simp [hk]
    have h2 := made_flat (z := z) (n := n)
    simp only [madeCells, Array.toList_map, Array.toList_range] at h2 ⊢
    rw [show (n + 1) * z.size = z.size + n * z.size from by rw [Nat.succ_mul]; omega, List.range_add, List.map_append, h1, List.replicate_succ, List.flatten_cons, ← h2, List.map_map]
    congr 1
    apply List.map_congr_left
    intro k _
    simp [Nat.add_mod_left]
end
end Go.Proofs.YtobacemgcjnahaaGreatDoor.L
/-
  Operations that make blocks or write them: the machine's runs.
-/
namespace Go.Proofs.YtobacemgcjnahaaGreatDoor.L
open Go Go.RowKit

/-- May a variable hold it? -/
def boxOk (at_ : Nat → Blk) : AV → Bool
  | .v _ _ => true
  | .nil => true
  | .own s _ _ => match at_ s with
    | .buf _ _ _ _ => true
    | _ => false
  | .ptr s _ _ _ => liveB (at_ s)
  | .el _ _ => true
  | .fn _ _ => true
  | .knot _ _ _ => true
  | _ => false

theorem boxOk_one {cx : Cx} {w : World} {μ : Sites} {at_ : Nat → Blk} {X : AV} {v : Value} (hb : boxOk at_ X = true) (h : RepA cx w μ at_ X v) (hX : X.isV = false) : v.oneCell' = true := by
  cases X <;> simp only [boxOk, AV.isV] at hb hX <;> try cases hb
  · cases hX
  · rw [RepA] at h; subst h; rfl
  · next s off len =>
    rw [RepA] at h
    split at hb
    · next hat => rw [hat] at h; rcases h with ⟨b, cap, _, _, rfl⟩ | ⟨_, _, _, _, rfl⟩ <;> rfl
    · cases hb
  · next s i p off =>
    rw [RepA] at h
    cases hat : at_ s with
    | dead => rw [hat] at hb; cases hb
    | buf _ _ _ _ => rw [hat] at h; obtain ⟨b, cap, _, rfl⟩ := h; rfl
    | box _ _ => rw [hat] at h; obtain ⟨b, cap, _, rfl⟩ := h; rfl
  · rw [RepA] at h; obtain ⟨b, o, cs, _, rfl, _⟩ := h; rfl
  · rw [RepA] at h; obtain ⟨vs, rfl, _⟩ := h; rfl
  · rw [RepA] at h; obtain ⟨b, o, b', o', cs, _, rfl, _⟩ := h; rfl

section
variable {P : Program} {cx : Cx} {w0 w : World} {σ : St} {tmps : Array Value} {μ : Sites} {e : Operand → Value} {o : Oper} {g : Operand → AV} {d : Nat} {Px : Px P}

/-- How a step of an operation that makes or writes memory ends. -/
def Ends (cx : Cx) (w0 : World) (σ' : St) (tmps : Array Value) (X : AV) (P : Program) (e : Operand → Value) (o : Oper) (w : World) : Prop :=
  ∃ v w' μ', (execOp e o).run P w = .ok (.value v) w' ∧ RelM cx w0 σ' tmps w' μ' ∧ RepA cx w' μ' σ'.at X v

theorem x_alloc {t : TypeId} {X : AV} (h : RelM cx w0 σ tmps w μ) (hf : σ.Fresh d) (ho : o.op = .alloc t) (hz : Px.zt t = some X) (hX : ∀ s, X.ment s = false) :
    Ends cx w0 (σ.upd [(d, .box t X)]) tmps (.ptr d 0 [] 0) P e o w := by
  obtain ⟨i, z, h1, h2, h3, h4, h5⟩ := Px.zok t X hz
  obtain ⟨μ', k1, k2⟩ := x_newVar (ety := t) h hf (fun s _ => hX s) (h5 cx w μ σ.at) h4
  refine ⟨_, _, μ', ?_, k1, k2⟩
  simp [execOp, ho, Instr.alloc, zeroValue, typeInfo, h1, h2, newVar, newRow]

theorem x_box {t : TypeId} {x : Operand} (h : RelM cx w0 σ tmps w μ) (hf : σ.Fresh d) (ho : o.op = .box t x) (hx : RepA cx w μ σ.at (g x) (e x)) (hb : boxOk σ.at (g x) = true) (hX : ∀ s, σ.Fresh s → (g x).ment s = false) :
    Ends cx w0 (σ.upd [(d, .box t (g x))]) tmps (.ptr d 0 [] 0) P e o w := by
  obtain ⟨μ', k1, k2⟩ := x_newVar (ety := t) h hf hX hx (boxOk_one hb hx)
  refine ⟨_, _, μ', ?_, k1, k2⟩
  simp [execOp, ho, Instr.box, newVar, newRow]

theorem x_buildSlice {t el : TypeId} {n sz : Nat} {parts : Array (Nat × Operand)} {nw : Bool} {xs : List V} {zX : AV} (h : RelM cx w0 σ tmps w μ) (hf : σ.Fresh d) (ho : o.op = .buildSlice t n parts)
    (hel : elt P t = some el) (hsz : tsz P el = some sz) (hz : Px.zt el = some zX) (hp : partsA P el sz g 0 parts.toList = some (nw, xs)) (hn : xs.length = n) (hs : 0 < sz) (h24 : n * sz ≤ 16777216) (hg : ∀ x, RepA cx w μ σ.at (g x) (e x)) :
    Ends cx w0 (σ.upd [(d, .buf el sz nw xs)]) tmps (.own d 0 n) P e o w := by
  subst hn
  have hu : P.underlying t = some (.slice el) := by
    unfold elt at hel
    split at hel
    · cases hel; assumption
    · cases hel
  obtain ⟨i, z, h1, h2, h3, h4, h5⟩ := Px.zok el zX hz
  have hi : i.size = sz := by unfold tsz at hsz; rw [h1] at hsz; simpa using hsz
  obtain ⟨p1, p2, p3, p4⟩ := parts_ok hp hg
  have hlen := RepF.length p4
  obtain ⟨μ', k1, k2⟩ := x_newRow (d := d) (ety := el) (cur := ((parts.toList.map fun p => e p.2).flatMap fun v => v.cells.toList).toArray) (rest := []) (cap := xs.length) h hf p4 (by simp) (by simpa using hlen) (Nat.le_refl _) (by simp only [maxLen]; have := Nat.le_mul_of_pos_right xs.length hs; omega)
  refine ⟨_, _, μ', ?_, k1, k2⟩
  by_cases h0 : xs.length = 0
  · have hp0 : parts.toList = [] := List.eq_nil_of_length_eq_zero (by omega)
    have hp0' : parts = #[] := by cases parts; simpa using hp0
    subst hp0'
    simp [execOp, ho, Instr.buildSlice, run_underlying hu, r_size hsz, h0, Instr.fill, newRow, Array.range_zero']
  · have hpos : ¬ xs.length * i.size = 0 := by rw [hi]; exact Nat.mul_ne_zero h0 (by omega)
    have hfill : Instr.fill (fun j => some (j * i.size, i.size)) ((Array.range (xs.length * i.size)).map (z.cells[· % z.cells.size]!)) (parts.map fun (i, x) => (i, e x)).toList = some ((parts.toList.map fun p => e p.2).flatMap fun v => v.cells.toList).toArray := by
      have e1 : (parts.map fun (i, x) => (i, e x)).toList = ((parts.toList.map fun p => e p.2).zipIdx 0).map (fun x => (x.2, x.1)) := by rw [Array.toList_map]; exact p2
      rw [e1]
      exact Great.fill_whole (by omega) _ _ (fun v hv => by rw [hi]; exact p3 v hv) (by simp [p1])
    have := run_buildSlice w t el xs.length (parts.map fun (i, x) => (i, e x)) _ i z hu h1 h2 (by rw [hi]; omega) hpos hfill
    simp only [execOp, ho, Sem.run_bind, this, Result.andThen_ok]
    rfl

theorem x_buildSliceV {t el : TypeId} {n sz : Nat} {parts : Array (Nat × Operand)} {nw : Bool} {xs : List V} {zX : AV} (h : RelM cx w0 σ tmps w μ) (ho : o.op = .buildSlice t n parts)
    (hel : elt P t = some el) (hsz : tsz P el = some sz) (hz : Px.zt el = some zX) (hp : partsA P el sz g 0 parts.toList = some (nw, xs)) (hn : xs.length = n) (hs : 0 < sz) (h24 : n * sz ≤ 16777216) (hg : ∀ x, RepA cx w μ σ.at (g x) (e x)) :
    Ends cx w0 σ tmps (.v nw (.sl sz xs)) P e o w := by
  subst hn
  have hu : P.underlying t = some (.slice el) := by
    unfold elt at hel
    split at hel
    · cases hel; assumption
    · cases hel
  obtain ⟨i, z, h1, h2, h3, h4, h5⟩ := Px.zok el zX hz
  have hi : i.size = sz := by unfold tsz at hsz; rw [h1] at hsz; simpa using hsz
  obtain ⟨p1, p2, p3, p4⟩ := parts_ok hp hg
  have hlen := RepF.length p4
  obtain ⟨k1, k2⟩ := x_newVal (ety := el) (cur := ((parts.toList.map fun p => e p.2).flatMap fun v => v.cells.toList).toArray) h p4 (by simp)
  refine ⟨_, _, μ, ?_, k1, k2⟩
  by_cases h0 : xs.length = 0
  · have hp0 : parts.toList = [] := List.eq_nil_of_length_eq_zero (by omega)
    have hp0' : parts = #[] := by cases parts; simpa using hp0
    subst hp0'
    simp [execOp, ho, Instr.buildSlice, run_underlying hu, r_size hsz, h0, Instr.fill, newRow, Array.range_zero']
  · have hpos : ¬ xs.length * i.size = 0 := by rw [hi]; exact Nat.mul_ne_zero h0 (by omega)
    have hfill : Instr.fill (fun j => some (j * i.size, i.size)) ((Array.range (xs.length * i.size)).map (z.cells[· % z.cells.size]!)) (parts.map fun (i, x) => (i, e x)).toList = some ((parts.toList.map fun p => e p.2).flatMap fun v => v.cells.toList).toArray := by
      have e1 : (parts.map fun (i, x) => (i, e x)).toList = ((parts.toList.map fun p => e p.2).zipIdx 0).map (fun x => (x.2, x.1)) := by rw [Array.toList_map]; exact p2
      rw [e1]
      exact Great.fill_whole (by omega) _ _ (fun v hv => by rw [hi]; exact p3 v hv) (by simp [p1])
    have := run_buildSlice w t el xs.length (parts.map fun (i, x) => (i, e x)) _ i z hu h1 h2 (by rw [hi]; omega) hpos hfill
    simp only [execOp, ho, Sem.run_bind, this, Result.andThen_ok]
    rfl

theorem x_makeSlice {t el : TypeId} {l c : Operand} {sz by_ : Nat} {k1 k2 : IntKind} {nl nc : Int} {n1 n2 : Bool} {zx : V} (h : RelM cx w0 σ tmps w μ) (hf : σ.Fresh d) (ho : o.op = .makeSlice t l c)
    (hel : elt P t = some el) (hsz : tsz P el = some sz) (hby : tby P el = some by_) (hz : Px.zt el = some (.v true zx)) (hl : g l = .v n1 (.int k1 nl)) (hc : g c = .v n2 (.int k2 nc)) (h0 : 0 ≤ nl) (hlc : nl ≤ nc) (hb : (by_ : Int) * nc ≤ 281474976710656) (h63 : nc ≤ 9223372036854775807)
    (hg : ∀ x, RepA cx w μ σ.at (g x) (e x)) :
    Ends cx w0 (σ.upd [(d, .buf el sz true (List.replicate nl.toNat zx))]) tmps (.own d 0 nl.toNat) P e o w := by
  have hu : P.underlying t = some (.slice el) := by
    unfold elt at hel
    split at hel
    · cases hel; assumption
    · cases hel
  obtain ⟨i, z, h1, h2, h3, h4, h5⟩ := Px.zok el _ hz
  have hi : i.size = sz := by unfold tsz at hsz; rw [h1] at hsz; simpa using hsz
  have hbi : i.bytes = by_ := by unfold tby at hby; rw [h1] at hby; simpa using hby
  have e1 := hg l
  have e2 := hg c
  rw [hl, repA_int] at e1
  rw [hc, repA_int] at e2
  have hr := run_make (P := P) w t el i z hu h1 h2 k1 k2 nl nc h0 hlc (by rw [hbi]; exact hb) h63
  have h6 := h5 cx w μ σ.at
  rw [RepA] at h6
  obtain ⟨cs, q1, q2⟩ := h6
  have hcs : z.cells.toList = cs := by rw [q2]; exact toVal_cells q1
  have hzs : z.cells.size = sz := by rw [h3, hi]
  have hcl : cs.length = sz := by rw [← hcs, Array.length_toList, hzs]
  have hflat : (madeCells z.cells (nc.toNat * i.size)).toList = (List.replicate nl.toNat cs).flatten ++ (List.replicate (nc.toNat - nl.toNat) cs).flatten := by
    rw [← h3, made_flat, hcs, ← List.flatten_append, List.replicate_append_replicate]
    congr 2
    omega
  obtain ⟨μ', m1, m2⟩ := x_newRow (d := d) (ety := el) (cur := madeCells z.cells (nc.toNat * i.size)) (cap := nc.toNat) h hf (RepF.replicate hcl q1 nl.toNat) hflat (by rw [size_madeCells, hi]) (by simp; omega) (by simp only [maxLen]; omega)
  rw [List.length_replicate] at m2
  refine ⟨_, _, μ', ?_, m1, m2⟩
  simp only [execOp, ho, Sem.run_bind, e1, e2, hr, Result.andThen_ok]
  rfl
end
end Go.Proofs.YtobacemgcjnahaaGreatDoor.L
/-
  Stores and copies into blocks of the call's own.
-/
namespace Go.Proofs.YtobacemgcjnahaaGreatDoor.L
open Go Go.RowKit

section
variable {P : Program} {cx : Cx} {w0 w : World} {σ : St} {tmps : Array Value} {μ : Sites}

theorem Goes.setRow {s b cap : Nat} (hs : μ s = some (b, cap)) (cs : Array Value) (hc : ∃ cur e f, w.heap[b]? = some (.cells cur e f)) : Goes w μ (w.setRow b cs) μ where
  size := by simp
  cell := fun b' o v hb hv => by
    rw [← hv]
    refine World.cell?_of_block (w := w) (a := ⟨b', o, none⟩) (setRow_other w b b' cs fun he => ?_)
    exact hb s cap (by rw [hs, he])
  blocks := fun s' b' c hs' => .inl ⟨s', c, hs'⟩
  other := fun b' o ho hn => (setRow_other w b b' cs fun he => by
    subst he
    obtain ⟨cur, e, f, hc⟩ := hc
    rw [hc] at ho
    cases ho
    cases hn).trans ho

/-- A block of the call's own is written: it reads otherwise, all else as before. -/
theorem RelM.write (h : RelM cx w0 σ tmps w μ) {s b cap : Nat} {cs : Array Value} {blk : Blk} (hs : μ s = some (b, cap)) (hf : (σ.at s).fits blk)
    (hb : Goes w μ (w.setRow b cs) μ → RepB cx (w.setRow b cs) μ (σ.upd [(s, blk)]).at s blk) : RelM cx w0 (σ.upd [(s, blk)]) tmps (w.setRow b cs) μ := by
  have hG := Goes.setRow (w := w) (μ := μ) hs cs (by
    have hm := h.mem s
    cases hat : σ.at s with
    | dead => rw [hat] at hm; rw [show μ s = none from hm] at hs; cases hs
    | buf e z nw xs =>
      rw [hat] at hm
      rcases hm with ⟨h1, _⟩ | ⟨b', cap', cur, h1, h2, _⟩
      · rw [h1] at hs; cases hs
      · rw [h1] at hs; cases hs; exact ⟨_, _, _, h2⟩
    | box e x =>
      rw [hat] at hm
      obtain ⟨b', cap', cur, val, h1, h2, _⟩ := hm
      rw [h1] at hs; cases hs; exact ⟨_, _, _, h2⟩)
  have hlo := h.sites.lo s b cap hs
  refine h.next hG ?_ ⟨fun s' b' c hs' => ?_, h.sites.inj⟩ (fun t => ?_) (fun t => ?_)
  · refine h.below.trans ⟨rfl, rfl, rfl, by simp, fun k hk => setRow_other w b k cs ?_⟩
    rw [h.hB] at hk
    omega
  · have := h.sites.lo s' b' c hs'
    exact ⟨this.1, by simpa using this.2⟩
  · by_cases ht : s = t
    · subst ht
      right
      rw [St.at_upd_one, if_pos rfl]
      exact hb hG
    · left
      rw [St.at_upd_one, if_neg ht]
      refine ⟨rfl, rfl, fun b' c hs' => setRow_other w b b' cs fun he => ?_⟩
      subst he
      exact ht (h.sites.inj s t b' cap c hs hs')
  · right; left
    refine ⟨rfl, ?_⟩
    rw [St.at_upd_one]
    split
    · next ht => subst ht; exact hf
    · exact Blk.fits_refl _

theorem cells_split {cs : List Value} {i n : Nat} (h : i + n ≤ cs.length) : ∃ p a q, cs = p ++ a ++ q ∧ p.length = i ∧ a.length = n :=
  ⟨cs.take i, (cs.drop i).take n, (cs.drop i).drop n, by rw [List.append_assoc, List.take_append_drop, List.take_append_drop], by simp; omega, by simp; omega⟩

theorem RepF.set {ok : Nat → Prop} {sz : Nat} : ∀ {xs : List V} {cs p a q a' : List Value} {i : Nat} {y : V}, RepF w ok sz xs cs → cs = p ++ a ++ q → p.length = i * sz → a.length = sz → i < xs.length → a'.length = sz → Rep w ok y a' → RepF w ok sz (xs.set i y) (p ++ a' ++ q)
  | [], _, _, _, _, _, _, _, _, _, _, _, hi, _, _ => by simp at hi
  | x :: r, cs, p, a, q, a', 0, y, h, hcs, hp, ha, hi, ha', hy => by
    rw [RepF] at h
    obtain ⟨a0, b0, rfl, h1, h2, h3⟩ := h
    have : p = [] := List.eq_nil_of_length_eq_zero (by simpa using hp)
    subst this
    rw [List.nil_append] at hcs ⊢
    obtain ⟨rfl, rfl⟩ := List.append_inj hcs (by omega)
    rw [List.set_cons_zero, RepF]
    exact ⟨a', b0, rfl, ha', hy, h3⟩
  | x :: r, cs, p, a, q, a', i + 1, y, h, hcs, hp, ha, hi, ha', hy => by
    rw [RepF] at h
    obtain ⟨a0, b0, rfl, h1, h2, h3⟩ := h
    rw [Nat.succ_mul] at hp
    obtain ⟨p', rfl⟩ : ∃ p', p = a0 ++ p' := by
      refine ⟨p.drop sz, ?_⟩
      have h4 : a0 = p.take sz := by
        have := congrArg (List.take sz) hcs
        rw [List.take_append_of_le_length (by omega), List.append_assoc, List.take_append_of_le_length (by omega), List.take_of_length_le (by omega)] at this
        exact this
      rw [h4, List.take_append_drop]
    rw [List.append_assoc, List.append_assoc, List.append_cancel_left_eq, ← List.append_assoc] at hcs
    rw [List.set_cons_succ, RepF]
    refine ⟨a0, p' ++ a' ++ q, by simp, h1, h2, RepF.set h3 hcs ?_ ha (by simpa using hi) ha' hy⟩
    rw [List.length_append] at hp
    omega

/-- The value that is stored. -/
def storeV (P : Program) (t : TypeId) : AV → Option (Bool × V)
  | .v nw y => if fitsT P t y then some (nw, y) else none
  | .nil => match esz P t with
    | some z => if tsz P t = some 1 then some (true, .sl z []) else none
    | none => none
  | _ => none

def storeA (P : Program) (at_ : Nat → Blk) (t : TypeId) (p x : AV) : Option (Nat × Blk) :=
  match p with
  | .ptr s i path off => match at_ s with
    | .buf e sz nw xs => match xs[i]?, storeV P t x with
      | some x0, some (nw', y) => (match V.atP path x0 with
        | some y0 => if V.offP path x0 = off ∧ y.size = y0.size then some (s, .buf e sz (nw && nw') (xs.set i (V.setP path x0 y))) else none
        | none => none)
      | _, _ => none
    | .box e (.v nw x0) => match storeV P t x with
      | some (nw', y) => (match V.atP path x0 with
        | some y0 => if V.offP path x0 = off ∧ y.size = y0.size then some (s, .box e (.v (nw && nw') (V.setP path x0 y))) else none
        | none => none)
      | none => if path = [] ∧ off = 0 ∧ x0.size = 1 ∧ tsz P t = some 1 ∧ boxOk at_ x = true ∧ x.isV = false then some (s, .box e x) else none
    | .box e _ => if path = [] ∧ off = 0 ∧ tsz P t = some 1 ∧ boxOk at_ x = true then (match x with
      | .v nw y => if y.isAgg = false then some (s, .box e (.v nw y)) else none
      | x => some (s, .box e x)) else none
    | .dead => none
  | _ => none

theorem r_store {t : TypeId} {b o0 : Nat} {ety : TypeId} {cur : Array Value} {val : Value} (hs : tsz P t = some val.cells.size) (hg : w.heap[b]? = some (.cells cur ety (0, 0))) (hl : o0 + val.cells.size ≤ cur.size) (h1 : ∀ c ∈ val.cells.toList, c.oneCell' = true) :
    (storeVar t ⟨b, o0, none⟩ val).run P w = .ok () (w.setRow b (cur.toList.take o0 ++ val.cells.toList ++ cur.toList.drop (o0 + val.cells.size)).toArray) := by
  have := run_storeCells_at P b o0 ety val.cells.toList 0 cur w hg (by simpa using hl) h1
  simp only [Nat.add_zero, Array.length_toList] at this
  simp only [storeVar, Sem.run_bind, r_size hs, Result.andThen_ok, ne_eq, not_true_eq_false, if_false]
  exact this

theorem storeV_ok {t : TypeId} {x : AV} {val : Value} {nw : Bool} {y : V} {mem : Nat → Blk} (h : storeV P t x = some (nw, y)) (hx : RepA cx w μ mem x val) :
    ∃ c, Rep w (okOf cx w.heap.size μ nw) y c ∧ val.cells.toList = c ∧ tsz P t = some val.cells.size := by
  unfold storeV at h
  split at h
  · next nw y =>
    split at h <;> cases h
    rename_i hf
    rw [RepA] at hx
    obtain ⟨c, h1, h2⟩ := hx
    have h3 := toVal_cells h1
    refine ⟨c, h1, by rw [h2, h3], ?_⟩
    rw [hf.1, h2, ← Array.length_toList, h3, Rep.length h1]
  · split at h
    · next z hz =>
      split at h <;> cases h
      rename_i ht
      rw [repA_nil] at hx
      subst hx
      exact ⟨[.slice none 0 0], by rw [Rep]; exact .inl ⟨rfl, _, _, rfl⟩, rfl, ht⟩
    · cases h
  · cases h

theorem cells_one {v : Value} (h : v.oneCell' = true) : v.cells = #[v] := by cases v <;> first | rfl | (simp [Value.oneCell'] at h)

theorem oneCells {w : World} {ok : Nat → Prop} {x : V} {cs : List Value} (h : Rep w ok x cs) : ∀ c ∈ (x.toVal cs).cells.toList, c.oneCell' = true := by
  rw [toVal_cells h]; exact Rep.one h

theorem Rep.single {w : World} {ok : Nat → Prop} {x : V} {cs : List Value} (hx : x.isAgg = false) (h : Rep w ok x cs) : (x.toVal cs).oneCell' = true := by
  have h1 := Rep.one h
  have h2 := Rep.length h
  have h3 : x.size = 1 := by cases x <;> first | rfl | cases hx
  rw [h3] at h2
  obtain ⟨c, rfl⟩ := List.length_eq_one_iff.1 h2
  have h4 : x.toVal [c] = c := by cases x <;> first | rfl | cases hx
  rw [h4]
  exact h1 c (by simp)

theorem RelM.pres {σ' : St} {w' : World} {μ' : Sites} (_ : RelM cx w0 σ tmps w μ) (h : RelM cx w0 σ' tmps w' μ') : RelM cx w0 σ' tmps w' μ' := h

theorem x_store {e : Operand → Value} {o : Oper} {g : Operand → AV} {t : TypeId} {p x : Operand} {s : Nat} {blk : Blk} (h : RelM cx w0 σ tmps w μ) (ho : o.op = .store t p x) (hs : storeA P σ.at t (g p) (g x) = some (s, blk))
    (hg : ∀ x, RepA cx w μ σ.at (g x) (e x)) :
    ∃ w' μ', (execOp e o).run P w = .ok .skip w' ∧ RelM cx w0 (σ.upd [(s, blk)]) tmps w' μ' := by
  have key : ∀ (b o0 : Nat) w', e p = .pointer (some ⟨b, o0, none⟩) → (storeVar t ⟨b, o0, none⟩ (e x)).run P w = .ok () w' → (execOp e o).run P w = .ok .skip w' := by
    intro b o0 w' he hl
    simp only [execOp, ho, he, Instr.storeAt, Instr.sureAddr, Sem.run_bind, Sem.run_pure, Result.andThen_ok, hl]
  have hp := hg p
  have hx := hg x
  unfold storeA at hs
  split at hs
  · next s' i path off hgp =>
    rw [hgp, RepA] at hp
    have hm := h.mem s'
    split at hs
    · next ety sz nw xs hat =>
      rw [hat] at hp hm
      obtain ⟨b, cap, h1, h2⟩ := hp
      split at hs
      · next x0 nw' y hx0 hy =>
        split at hs
        · next y0 hy0 =>
          split at hs <;> cases hs
          rename_i hh
          rcases hm with ⟨q1, _⟩ | ⟨b', cap', cur, m1, m2, m3, m4, m5, m6⟩
          · rw [h1] at q1; cases q1
          rw [h1] at m1
          cases m1
          obtain ⟨cs, f1, f2⟩ := RepRow.flat m6
          have hl := RepF.length f1
          have hi : i < xs.length := (List.getElem?_eq_some_iff.1 hx0).1
          have hle : i * sz + sz ≤ cs.length := by
            rw [hl, ← Nat.succ_mul]
            exact Nat.mul_le_mul_right _ hi
          obtain ⟨P1, A, Q1, rfl, hP, hA⟩ := cells_split hle
          -- the element's own cells
          obtain ⟨a, g1, g2, g3⟩ := RepRow.get m6 hx0
          have hAa : A = a := by
            apply List.ext_getElem?
            intro j
            by_cases hj : j < sz
            · rw [← g2 j hj]
              have := f2 (i * sz + j) (by omega)
              rw [List.append_assoc, List.getElem?_append_right (by omega), List.getElem?_append_left (by omega)] at this
              rw [show i * sz + j - P1.length = j from by omega] at this
              rw [← this]
              congr 2
              omega
            · rw [List.getElem?_eq_none (by omega), List.getElem?_eq_none (by omega)]
          subst hAa
          obtain ⟨pp, c, qq, rfl, d1, d2⟩ := Rep.atP g3 hy0
          obtain ⟨c', v1, v2, v3⟩ := storeV_ok (P := P) hy hx
          have hc' := Rep.length v1
          have hc := Rep.length d2
          have hcur : cur.toList = (P1 ++ (pp ++ c ++ qq) ++ Q1) ++ cur.toList.drop (P1 ++ (pp ++ c ++ qq) ++ Q1).length := by
            rw [← List.take_append_drop (P1 ++ (pp ++ c ++ qq) ++ Q1).length cur.toList]
            congr 1
            · apply List.ext_getElem?
              intro j
              rw [List.getElem?_take]
              split
              · next hj =>
                rw [← f2 j hj, Nat.zero_add]
                simp [World.cell?, m2]
              · next hj => rw [List.getElem?_eq_none (by omega)]
            · simp
          have hval : (e x).cells.size = c'.length := by rw [← v2, Array.length_toList]
          have hcs : xs.length * sz ≤ cur.size := by rw [m5]; exact Nat.mul_le_mul_right _ m3
          simp only [List.length_append] at hl hle hA hP
          have hrun := r_store (P := P) (t := t) (b := b) (o0 := i * sz + off) (val := e x) v3 m2 (by rw [hval]; omega) (by rw [v2]; exact Rep.one v1)
          have hnew : cur.toList.take (i * sz + off) ++ (e x).cells.toList ++ cur.toList.drop (i * sz + off + (e x).cells.size) = (P1 ++ (pp ++ c' ++ qq) ++ Q1) ++ cur.toList.drop (P1 ++ (pp ++ c ++ qq) ++ Q1).length := by
            have t1 : cur.toList.take (i * sz + off) = P1 ++ pp := by
              rw [hcur, show P1 ++ (pp ++ c ++ qq) ++ Q1 = (P1 ++ pp) ++ (c ++ qq ++ Q1) from by simp, List.append_assoc]
              rw [List.take_append_of_le_length (by simp; omega), List.take_of_length_le (by simp; omega)]
            have t2 : cur.toList.drop (i * sz + off + (e x).cells.size) = qq ++ Q1 ++ cur.toList.drop (P1 ++ (pp ++ c ++ qq) ++ Q1).length := by
              conv => lhs; rw [hcur]
              rw [show P1 ++ (pp ++ c ++ qq) ++ Q1 ++ cur.toList.drop (P1 ++ (pp ++ c ++ qq) ++ Q1).length = (P1 ++ pp ++ c) ++ (qq ++ Q1 ++ cur.toList.drop (P1 ++ (pp ++ c ++ qq) ++ Q1).length) from by simp]
              rw [List.drop_append_of_le_length (by simp; omega), List.drop_of_length_le (by simp; omega), List.nil_append]
            rw [t1, t2, v2]
            simp
          rw [hnew] at hrun
          refine ⟨_, μ, key _ _ _ h2 hrun, h.write h1 (by rw [hat]; exact ⟨rfl, by simp⟩) fun hG => ?_⟩
          have hwk : ∀ {x : V} {a : List Value}, Rep w (okOf cx w.heap.size μ nw) x a → Rep w (okOf cx w.heap.size μ (nw && nw')) x a := fun h => Rep.weak (fun hn => by rw [Bool.and_eq_true] at hn; exact hn.1) h
          have hset := Rep.setP (hwk g3) hy0 rfl d1 hc (Rep.weak (nw' := nw && nw') (fun hn => by rw [Bool.and_eq_true] at hn; exact hn.2) v1) hh.2
          have hF := RepF.set (RepF.map hwk f1) rfl hP (by simp only [List.length_append]; omega) hi (by simp only [List.length_append] at g1 ⊢; omega) hset.1
          refine .inr ⟨b, cap, _, h1, setRow_heap w b cur _ ety _ m2, by simpa using m3, m4, ?_, RepF.row (RepF.map (fun h => Rep.goes hG h) hF) fun j hj => ?_⟩
          · have := congrArg List.length hcur
            simp only [List.length_append, Array.length_toList, List.length_drop, List.size_toArray] at this ⊢
            omega
          · rw [Nat.zero_add, cell_setRow_same w b j cur _ ety _ m2, List.getElem?_toArray, List.getElem?_append_left hj]
        · cases hs
      · cases hs
    · next ety nw x0 hat =>
      rw [hat] at hp hm
      obtain ⟨b, cap, h1, h2⟩ := hp
      obtain ⟨b', cap', cur, val0, m1, m2, m3, m4, m5⟩ := hm
      rw [h1] at m1
      cases m1
      rw [RepA] at m3
      obtain ⟨cs, f1, rfl⟩ := m3
      have hcur : cur.toList = cs := by rw [m4, toVal_cells f1]
      have hsz : cur.size = cs.length := by rw [← Array.length_toList, hcur]
      split at hs
      · next nw' y hy =>
        split at hs
        · next y0 hy0 =>
          split at hs <;> cases hs
          rename_i hh
          obtain ⟨pp, c, qq, rfl, d1, d2⟩ := Rep.atP f1 hy0
          obtain ⟨c', v1, v2, v3⟩ := storeV_ok (P := P) hy hx
          have hc' := Rep.length v1
          have hc := Rep.length d2
          have hval : (e x).cells.size = c'.length := by rw [← v2, Array.length_toList]
          simp only [List.length_append] at hsz
          have hrun := r_store (P := P) (t := t) (b := b) (o0 := off) (val := e x) v3 m2 (by rw [hval]; omega) (by rw [v2]; exact Rep.one v1)
          have hnew : cur.toList.take off ++ (e x).cells.toList ++ cur.toList.drop (off + (e x).cells.size) = pp ++ c' ++ qq := by
            rw [hcur, v2, hval, List.append_assoc pp c qq, List.take_append_of_le_length (by omega), List.take_of_length_le (by omega), ← List.append_assoc pp c qq]
            rw [List.drop_append_of_le_length (by simp; omega), List.drop_of_length_le (by simp; omega), List.nil_append]
          rw [hnew] at hrun
          have hset := Rep.setP (Rep.weak (nw' := nw && nw') (fun hn => by rw [Bool.and_eq_true] at hn; exact hn.1) f1) hy0 rfl d1 hc (Rep.weak (nw' := nw && nw') (fun hn => by rw [Bool.and_eq_true] at hn; exact hn.2) v1) hh.2
          refine ⟨_, μ, key _ _ _ h2 hrun, h.write h1 (by rw [hat]; trivial) fun hG => ?_⟩
          refine ⟨b, cap, _, (V.setP path x0 y).toVal (pp ++ c' ++ qq), h1, setRow_heap w b cur _ ety _ m2, ?_, ?_, fun hv => by cases hv⟩
          · rw [RepA]
            exact ⟨_, Rep.goes hG hset.1, rfl⟩
          · rw [Rep.cells hset.1]
        · cases hs
      · split at hs <;> cases hs
        rename_i hh
        obtain ⟨rfl, rfl, k1, k2, k3, k4⟩ := hh
        have h1c := boxOk_one k3 hx k4
        have hrun := r_store (P := P) (t := t) (b := b) (o0 := 0) (val := e x) (by rw [k2, cells_one h1c]; rfl) m2 (by rw [hsz, Rep.length f1, k1, cells_one h1c]; simp) (by rw [cells_one h1c]; simpa using h1c)
        have hnew : cur.toList.take 0 ++ (e x).cells.toList ++ cur.toList.drop (0 + (e x).cells.size) = (e x).cells.toList := by
          rw [List.take_zero, List.nil_append, List.drop_of_length_le (by rw [hcur, Rep.length f1, k1, cells_one h1c]; simp), List.append_nil]
        rw [hnew] at hrun
        refine ⟨_, μ, key _ _ _ h2 hrun, h.write h1 (by rw [hat]; trivial) fun hG => ?_⟩
        refine ⟨b, cap, _, e x, h1, setRow_heap w b cur _ ety _ m2, RepA.goes hG (fun s'' hs'' => .inr ⟨rfl, ?_⟩) hx, by simp, fun _ => h1c⟩
        rw [St.at_upd_one]
        split
        · next hh => subst hh; rw [hat]; trivial
        · exact Blk.fits_refl _
    · next ety X hX hat =>
      rw [hat] at hp hm
      obtain ⟨b, cap, h1, h2⟩ := hp
      obtain ⟨b', cap', cur, val0, m1, m2, m3, m4, m5⟩ := hm
      rw [h1] at m1
      cases m1
      have h0c := m5 (by cases X <;> first | rfl | (exact absurd rfl (hX _ _)))
      rw [cells_one h0c] at m4
      split at hs
      · next hh =>
        obtain ⟨rfl, rfl, k2, k3⟩ := hh
        have fin : ∀ blk', blk' = .box ety (g x) → (e x).oneCell' = true → ((g x).isV = false → (e x).oneCell' = true) → ∃ w' μ', (execOp e o).run P w = .ok .skip w' ∧ RelM cx w0 (σ.upd [(s', blk')]) tmps w' μ' := by
          rintro _ rfl h1c _
          have hrun := r_store (P := P) (t := t) (b := b) (o0 := 0) (val := e x) (by rw [k2, cells_one h1c]; rfl) m2 (by rw [m4, cells_one h1c]; simp) (by rw [cells_one h1c]; simpa using h1c)
          have hnew : cur.toList.take 0 ++ (e x).cells.toList ++ cur.toList.drop (0 + (e x).cells.size) = (e x).cells.toList := by
            rw [List.take_zero, List.nil_append, List.drop_of_length_le (by rw [m4, cells_one h1c]; simp), List.append_nil]
          rw [hnew] at hrun
          refine ⟨_, μ, key _ _ _ h2 hrun, h.write h1 (by rw [hat]; trivial) fun hG => ?_⟩
          refine ⟨b, cap, _, e x, h1, setRow_heap w b cur _ ety _ m2, RepA.goes hG (fun s'' hs'' => .inr ⟨rfl, ?_⟩) hx, by simp, fun _ => h1c⟩
          rw [St.at_upd_one]
          split
          · next hh => subst hh; rw [hat]; trivial
          · exact Blk.fits_refl _
        split at hs
        · next nw y hgx =>
          split at hs <;> cases hs
          rename_i hy1
          refine fin _ (by rw [hgx]) ?_ (fun hv => by rw [hgx] at hv; cases hv)
          rw [hgx, RepA] at hx
          obtain ⟨cs, f1, f2⟩ := hx
          rw [f2]
          exact Rep.single hy1 f1
        · cases hs
          exact fin _ rfl (boxOk_one k3 hx (by
            next hn => cases hgv : g x <;> first | rfl | (exact absurd hgv (hn _ _)))) (fun hv => boxOk_one k3 hx hv)
      · cases hs
    · cases hs
  · cases hs
end
end Go.Proofs.YtobacemgcjnahaaGreatDoor.L
/-
  append and copy on rows of the call's own.
-/
namespace Go.Proofs.YtobacemgcjnahaaGreatDoor.L
open Go Go.RowKit

section
variable {P : Program} {cx : Cx} {w0 w : World} {σ : St} {tmps : Array Value} {μ : Sites}

/-- What is read off: a row's elements. -/
def srcA (at_ : Nat → Blk) (sz : Nat) : AV → Option (Bool × List V)
  | .v nw (.sl z ys) => if z = sz then some (nw || ys.all V.flat, ys) else none
  | .nil => some (true, [])
  | .emp _ => some (true, [])
  | .own s off len => match at_ s with
    | .buf _ z nw xs => if z = sz then some (nw, (xs.drop off).take len) else none
    | _ => none
  | _ => none

theorem RepF.up {N : Nat} {nw : Bool} {sz : Nat} : ∀ {ys : List V} {cs : List Value}, RepF w (okOf cx N μ nw) sz ys cs → RepF w (okOf cx N μ (nw || ys.all V.flat)) sz ys cs := by
  intro ys cs h
  cases hf : ys.all V.flat with
  | false => rw [Bool.or_false]; exact h
  | true =>
    have : ∀ {ys : List V} {cs : List Value}, ys.all V.flat = true → RepF w (okOf cx N μ nw) sz ys cs → RepF w (okOf cx N μ true) sz ys cs := by
      intro ys
      induction ys with
      | nil => intro cs _ h; rw [RepF] at h ⊢; exact h
      | cons x r ih =>
        intro cs hf h
        rw [List.all_cons, Bool.and_eq_true] at hf
        rw [RepF] at h ⊢
        obtain ⟨a, b, h0, h1, h2, h3⟩ := h
        exact ⟨a, b, h0, h1, V.flat_rep hf.1 h2, ih hf.2 h3⟩
    rw [Bool.or_true]
    exact this hf h

theorem src_ok {sz : Nat} {X : AV} {v : Value} {nw : Bool} {ys : List V} (h : RelM cx w0 σ tmps w μ) (hs : srcA σ.at sz X = some (nw, ys)) (hx : RepA cx w μ σ.at X v) :
    ∃ A c cs, v = .slice A ys.length c ∧ RepF w (okOf cx w.heap.size μ nw) sz ys cs ∧ (ys ≠ [] → ∃ a, A = some a ∧ ∀ j u, cs[j]? = some u → w.cell? (a.add j) = some u) := by
  unfold srcA at hs
  split at hs
  · next nw z zs =>
    split at hs <;> cases hs
    rename_i hz
    subst hz
    rw [RepA] at hx
    obtain ⟨cs, h1, rfl⟩ := hx
    rw [Rep] at h1
    rcases h1 with ⟨rfl, A, c, rfl⟩ | ⟨b, o, c, h2, h3, rfl, h4⟩
    · exact ⟨A, c, [], rfl, by rw [RepF], fun h => absurd rfl h⟩
    · obtain ⟨cs, k1, k2⟩ := RepRow.flat h4
      refine ⟨_, c, cs, rfl, RepF.up k1, fun _ => ⟨_, rfl, fun j u hu => ?_⟩⟩
      rw [addr_add, k2 j (List.getElem?_eq_some_iff.1 hu).1, hu]
  · cases hs
    rw [repA_nil] at hx
    exact ⟨none, 0, [], hx, by rw [RepF], fun h => absurd rfl h⟩
  · cases hs
    rw [RepA] at hx
    obtain ⟨A, c, hx, _⟩ := hx
    exact ⟨A, c, [], hx, by rw [RepF], fun h => absurd rfl h⟩
  · next s off len =>
    split at hs
    · next ety z nw' xs hat =>
      split at hs <;> cases hs
      rename_i hz
      subst hz
      rw [RepA, hat] at hx
      have hm := h.mem s
      rw [hat] at hm
      rcases hx with ⟨b, cap, g1, g2, g3⟩ | ⟨g1, rfl, rfl, rfl, g3⟩
      · rcases hm with ⟨q1, _⟩ | ⟨b', cap', cur, m1, m2, m3, m4, m5, m6⟩
        · rw [g1] at q1; cases q1
        rw [g1] at m1
        cases m1
        have hr := RepRow.take (RepRow.drop m6 off) len
        obtain ⟨cs, k1, k2⟩ := RepRow.flat hr
        have hlen : ((xs.drop off).take len).length = len := by simp; omega
        refine ⟨_, cap - off, cs, by rw [g3, hlen], k1, fun _ => ⟨_, rfl, fun j u hu => ?_⟩⟩
        rw [addr_add, ← hu, ← k2 j (List.getElem?_eq_some_iff.1 hu).1, Nat.zero_add]
      · exact ⟨none, 0, [], by rw [g3]; rfl, by rw [List.drop_nil, List.take_nil, RepF], fun h => absurd (by simp) h⟩
    · cases hs
  · cases hs

section runs
variable {t t' el el' ty : TypeId} {i : TypeInfo} {z : Value}

theorem r_append_same (ht : P.underlying t = some (.slice el)) (ht' : P.underlying t' = some (.slice el')) (hi : P.info? el = some i) {A B : Option Addr} {n cap c : Nat} (hn : n ≤ cap) :
    (Builtin.append_ #[t, t'] ty #[.slice B n cap, .slice A 0 c]).run P w = .ok (.slice B n cap) w := by
  cases A <;> cases B <;> simp [Builtin.append_, run_underlying ht, run_underlying ht', sizeOf, typeInfo, hi, Builtin.lenOf, hn, Builtin.firstCells, loadCells, loadCellsFrom, storeCells]

theorem r_append_room (ht : P.underlying t = some (.slice el)) (ht' : P.underlying t' = some (.slice el')) (hi : P.info? el = some i) {g sLen sCap : Nat} {cur : Array Value} (hg : w.heap[g]? = some (.cells cur el (0, 0)))
    {a : Addr} {m c : Nat} {news : List Value} (hl : news.length = m * i.size) (hnews : ∀ j u, news[j]? = some u → w.cell? (a.add j) = some u) (h1 : ∀ u ∈ news, u.oneCell' = true)
    (hroom : sLen + m ≤ sCap) (hfit : sLen * i.size + news.length ≤ cur.size) :
    (Builtin.append_ #[t, t'] ty #[.slice (some ⟨g, 0, none⟩) sLen sCap, .slice (some a) m c]).run P w =
      .ok (.slice (some ⟨g, 0, none⟩) (sLen + m) sCap) (w.setRow g (cur.toList.take (sLen * i.size) ++ news ++ cur.toList.drop (sLen * i.size + news.length)).toArray) := by
  have hf := run_firstCells_some (P := P) w i.size m a m c news hl hnews
  have hst := run_storeCells_at P g (sLen * i.size) el news 0 cur w hg (by simpa using hfit) h1
  simp only [Nat.add_zero] at hst
  simp [Builtin.append_, run_underlying ht, run_underlying ht', sizeOf, typeInfo, hi, Builtin.lenOf, hroom, hf, Addr.add_lit, hst]

theorem r_append_nil (ht : P.underlying t = some (.slice el)) (ht' : P.underlying t' = some (.slice el')) (hi : P.info? el = some i) (hz : i.zero = some z)
    {a : Addr} {n c : Nat} {news : List Value} (hl : news.length = n * i.size) (hnews : ∀ j v, news[j]? = some v → w.cell? (a.add j) = some v)
    (h0 : 0 < n) (h63 : (n : Int) ≤ 9223372036854775807) (h48 : n * i.bytes ≤ 281474976710656) :
    (Builtin.append_ #[t, t'] ty #[.slice none 0 0, .slice (some a) n c]).run P w =
      .ok (.slice (some ⟨w.heap.size, 0, none⟩) n (grownCap w n 0 el)) (w.drew.alloc (.cells (news.toArray ++ Builtin.zeroCells z.cells (grownCap w n 0 el - n)) el)) := by
  have hn : n ≠ 0 := by omega
  have h63' : ¬ (9223372036854775807 < (n : Int)) := by omega
  have h48' : ¬ (281474976710656 < Builtin.nextslicecap n 0 * i.bytes) := by rw [nextslicecap_zero h0]; omega
  have hf := run_firstCells_some (P := P) w.drew i.size n a n c news hl (by simpa using hnews)
  simp [Builtin.append_, run_underlying ht, run_underlying ht', sizeOf, typeInfo, zeroValue, hi, hz, Builtin.lenOf, Builtin.firstCells, hn, h63', h48', Question.forced, newRow, grownCap] at hf ⊢
  simp [hf]

theorem r_append_grow (ht : P.underlying t = some (.slice el)) (ht' : P.underlying t' = some (.slice el')) (hi : P.info? el = some i) (hz : i.zero = some z)
    {b : Addr} {sLen sCap : Nat} {olds : List Value} (hlo : olds.length = sLen * i.size) (holds : ∀ j v, olds[j]? = some v → w.cell? (b.add j) = some v)
    {a : Addr} {n c : Nat} {news : List Value} (hl : news.length = n * i.size) (hnews : ∀ j v, news[j]? = some v → w.cell? (a.add j) = some v)
    (hg : sCap < sLen + n) (h63 : ((sLen + n : Nat) : Int) ≤ 9223372036854775807) (hfit : Builtin.nextslicecap (sLen + n) sCap * i.bytes ≤ 281474976710656) :
    (Builtin.append_ #[t, t'] ty #[.slice (some b) sLen sCap, .slice (some a) n c]).run P w =
      .ok (.slice (some ⟨w.heap.size, 0, none⟩) (sLen + n) (grownCap w (sLen + n) sCap el))
        (w.drew.alloc (.cells (olds.toArray ++ news.toArray ++ Builtin.zeroCells z.cells (grownCap w (sLen + n) sCap el - (sLen + n))) el)) := by
  have hn : ¬ (sLen + n ≤ sCap) := by omega
  have h63' : ¬ (9223372036854775807 < ((sLen : Int) + (n : Int))) := by omega
  have hfit' : ¬ (281474976710656 < Builtin.nextslicecap (sLen + n) sCap * i.bytes) := by omega
  have hf := run_firstCells_some (P := P) w.drew i.size n a n c news hl (by simpa using hnews)
  have hf2 := run_firstCells_some (P := P) w.drew i.size sLen b sLen sCap olds hlo (by simpa using holds)
  simp [Builtin.append_, run_underlying ht, run_underlying ht', sizeOf, typeInfo, zeroValue, hi, hz, Builtin.lenOf, hn, h63', hfit', Question.forced, newRow, grownCap] at hf hf2 ⊢
  simp [hf, hf2]
  congr 2
  apply Array.toList_inj.1
  simp
end runs

/-- A row's place is taken over by another letter. -/
theorem RelM.swap {w' : World} {s d : Nat} {blk : Blk} {x : Option (Nat × Nat)} (h : RelM cx w0 σ tmps w μ) (hf : σ.Fresh d)
    (hx : ∀ b c, x = some (b, c) → (∃ c', μ s = some (b, c')) ∨ (w.heap.size ≤ b ∧ b < w'.heap.size))
    (hcell : ∀ b o v, (∀ s c, μ s ≠ some (b, c)) → w.cell? ⟨b, o, none⟩ = some v → w'.cell? ⟨b, o, none⟩ = some v) (hb : Below w0.heap.size w w') (hsize : w.heap.size ≤ w'.heap.size)
    (hoth : ∀ (b : Nat) (o : Obj), w.heap[b]? = some o → o.isCells = false → w'.heap[b]? = some o) (hheap : ∀ t b c, t ≠ s → μ t = some (b, c) → w'.heap[b]? = w.heap[b]?)
    (hblk : Goes w μ w' (upS (upS μ s none) d x) → RepB cx w' (upS (upS μ s none) d x) (σ.upd [(d, blk), (s, .dead)]).at d blk) :
    RelM cx w0 (σ.upd [(d, blk), (s, .dead)]) tmps w' (upS (upS μ s none) d x) := by
  have at_eq : ∀ t, (σ.upd [(d, blk), (s, .dead)]).at t = if d = t then blk else if s = t then .dead else σ.at t := fun _ => rfl
  have hB : cx.B ≤ w.heap.size := by rw [← h.hB]; exact h.below.size
  have hup : ∀ t b c, upS (upS μ s none) d x t = some (b, c) → (t = d ∧ x = some (b, c)) ∨ (t ≠ d ∧ t ≠ s ∧ μ t = some (b, c)) := by
    intro t b c ht
    unfold upS at ht
    split at ht
    · next h1 => exact .inl ⟨h1, ht⟩
    · next h1 =>
      split at ht
      · cases ht
      · next h2 => exact .inr ⟨h1, h2, ht⟩
  have hG : Goes w μ w' (upS (upS μ s none) d x) := ⟨hsize, hcell, fun t b c ht => by
    rcases hup t b c ht with ⟨_, h1⟩ | ⟨_, _, h1⟩
    · rcases hx b c h1 with ⟨c', h2⟩ | ⟨h2, _⟩
      · exact .inl ⟨s, c', h2⟩
      · exact .inr h2
    · exact .inl ⟨t, c, h1⟩, hoth⟩
  refine h.next hG (h.below.trans hb) ⟨fun t b c ht => ?_, fun t1 t2 b c c' h1 h2 => ?_⟩ (fun t => ?_) (fun t => ?_)
  · rcases hup t b c ht with ⟨_, h1⟩ | ⟨_, _, h1⟩
    · rcases hx b c h1 with ⟨c', h2⟩ | ⟨h2, h3⟩
      · have := h.sites.lo s b c' h2; omega
      · omega
    · have := h.sites.lo t b c h1; omega
  · rcases hup t1 b c h1 with ⟨e1, k1⟩ | ⟨e1, e1', k1⟩ <;> rcases hup t2 b c' h2 with ⟨e2, k2⟩ | ⟨e2, e2', k2⟩
    · rw [e1, e2]
    · exfalso
      rcases hx b c k1 with ⟨c2, h3⟩ | ⟨h3, _⟩
      · exact e2' (h.sites.inj t2 s b c' c2 k2 h3)
      · have := h.sites.lo t2 b c' k2; omega
    · exfalso
      rcases hx b c' k2 with ⟨c2, h3⟩ | ⟨h3, _⟩
      · exact e1' (h.sites.inj t1 s b c c2 k1 h3)
      · have := h.sites.lo t1 b c k1; omega
    · exact h.sites.inj t1 t2 b c c' k1 k2
  · by_cases hd : d = t
    · subst hd
      right
      rw [at_eq, if_pos rfl]
      exact hblk hG
    · by_cases hs : s = t
      · subst hs
        right
        rw [at_eq, if_neg hd, if_pos rfl]
        show upS (upS μ s none) d x s = none
        unfold upS
        rw [if_neg (Ne.symm hd), if_pos rfl]
      · left
        rw [at_eq, if_neg hd, if_neg hs]
        exact ⟨rfl, by unfold upS; rw [if_neg (Ne.symm hd), if_neg (Ne.symm hs)], fun b c hb => hheap t b c (Ne.symm hs) hb⟩
  · by_cases hd : d = t
    · subst hd; exact .inr (.inr hf)
    · by_cases hs : s = t
      · subst hs; left; rw [at_eq, if_neg hd, if_pos rfl]
      · refine .inr (.inl ⟨by unfold upS; rw [if_neg (Ne.symm hd), if_neg (Ne.symm hs)], ?_⟩)
        rw [at_eq, if_neg hd, if_neg hs]
        exact Blk.fits_refl _

def appendA (P : Program) (at_ : Nat → Blk) (d : Nat) (t t' : TypeId) (x y : AV) : Option (AV × List (Nat × Blk)) :=
  match elt P t, elt P t' with
  | some el, some _ => (match tsz P el, tby P el with
    | some sz, some by_ => if 0 < sz then (match x with
      | .own s off len => (match at_ s with
        | .buf e z nw xs => (match srcA at_ sz y with
          | some (nw', ys) => if e = el ∧ z = sz ∧ off = 0 ∧ len = xs.length ∧ (xs.length + ys.length) * by_ ≤ 140737488355328 ∧ xs.length + ys.length ≤ 9223372036854775807 then
              some (.own d 0 (xs.length + ys.length), [(d, .buf el sz (nw && nw') (xs ++ ys)), (s, .dead)]) else none
          | none => none)
        | _ => none)
      | .nil => (match srcA at_ sz y with
        | some (nw', ys) => if ys.length * by_ ≤ 140737488355328 ∧ ys.length ≤ 9223372036854775807 then some (.own d 0 ys.length, [(d, .buf el sz nw' ys)]) else none
        | none => none)
      | _ => none) else none
    | _, _ => none)
  | _, _ => none

theorem elt_of {t el : TypeId} (h : elt P t = some el) : P.underlying t = some (.slice el) := by
  unfold elt at h
  split at h
  · cases h; assumption
  · cases h

theorem x_append {e : Operand → Value} {o : Oper} {g : Operand → AV} {t t' : TypeId} {x y : Operand} {X : AV} {ms : List (Nat × Blk)} {d : Nat} {el : TypeId} {zX : AV} {Px : Px P} (h : RelM cx w0 σ tmps w μ) (hf : σ.Fresh d)
    (ho : o.op = .call { callee := .builtin .append, args := #[x, y], argTypes := #[t, t'] }) (ha : appendA P σ.at d t t' (g x) (g y) = some (X, ms)) (hel : elt P t = some el) (hz : Px.zt el = some zX) (hg : ∀ x, RepA cx w μ σ.at (g x) (e x)) :
    Ends cx w0 (σ.upd ms) tmps X P e o w := by
  have key : ∀ v w', (Builtin.append_ #[t, t'] o.type #[e x, e y]).run P w = .ok v w' → (execOp e o).run P w = .ok (.value v) w' := by
    intro v w' hr
    simp only [execOp, ho, resolve, invoke, builtin, Sem.run_bind, Sem.run_pure, Result.andThen_ok, List.map_toArray, List.map_cons, List.map_nil, hr]
  have hx := hg x
  have hy := hg y
  unfold appendA at ha
  rw [hel] at ha
  cases hel' : elt P t' with
  | none => rw [hel'] at ha; cases ha
  | some el' =>
    rw [hel'] at ha
    simp only at ha
    have ht := elt_of hel
    have ht' := elt_of hel'
    obtain ⟨i, z, z1, z2, z3, z4, z5⟩ := Px.zok el zX hz
    split at ha
    · next sz by_ hsz hby =>
      have hi : i.size = sz := by unfold tsz at hsz; rw [z1] at hsz; simpa using hsz
      have hbi : i.bytes = by_ := by unfold tby at hby; rw [z1] at hby; simpa using hby
      split at ha
      · next hpos =>
        split at ha
        · next s off len hgx =>
          rw [hgx] at hx
          split at ha
          · next ety z' nw xs hat =>
            split at ha
            · next nw' ys hsrc =>
              split at ha <;> cases ha
              rename_i hh
              obtain ⟨rfl, rfl, rfl, rfl, hb, h63⟩ := hh
              obtain ⟨A, c, cs, hyv, hF, hcells⟩ := src_ok h hsrc hy
              have hlc := RepF.length hF
              rw [RepA, hat] at hx
              have hm := h.mem s
              rw [hat] at hm
              have hw1 : ∀ {x : V} {a : List Value}, Rep w (okOf cx w.heap.size μ nw) x a → Rep w (okOf cx w.heap.size μ (nw && nw')) x a := fun h => Rep.weak (fun hn => by rw [Bool.and_eq_true] at hn; exact hn.1) h
              have hw2 : ∀ {x : V} {a : List Value}, Rep w (okOf cx w.heap.size μ nw') x a → Rep w (okOf cx w.heap.size μ (nw && nw')) x a := fun h => Rep.weak (fun hn => by rw [Bool.and_eq_true] at hn; exact hn.2) h
              by_cases hys : ys = []
              · subst hys
                simp only [List.length_nil, Nat.add_zero, List.append_nil] at hyv ⊢
                rcases hx with ⟨b, cap, g1, g2, g3⟩ | ⟨g1, rfl, _, _, g3⟩
                · rcases hm with ⟨q1, _⟩ | ⟨b', cap', cur, m1, m2, m3, m4, m5, m6⟩
                  · rw [g1] at q1; cases q1
                  rw [g1] at m1
                  cases m1
                  simp only [Nat.zero_mul, Nat.sub_zero] at g3
                  have hrun := r_append_same (P := P) (w := w) (ty := o.type) ht ht' z1 (A := A) (B := some ⟨b, 0, none⟩) (c := c) m3
                  have hs := h.swap (w' := w) (s := s) (blk := .buf ety z' (nw && nw') xs) (x := some (b, cap)) hf (fun b' c' he => by cases he; exact .inl ⟨cap, g1⟩) (fun _ _ _ _ hv => hv) (Below.refl _ _) (Nat.le_refl _) (fun _ _ hv _ => hv) (fun _ _ _ _ _ => rfl)
                    (fun hG => .inr ⟨b, cap, cur, by unfold upS; rw [if_pos rfl], m2, m3, m4, m5, RepRow.goes hG (fun _ _ hv => hv) (RepF.row (RepF.map hw1 (RepRow.flat m6).choose_spec.1) (RepRow.flat m6).choose_spec.2)⟩)
                  refine ⟨_, w, _, key _ _ (by rw [g3, hyv]; exact hrun), hs, ?_⟩
                  rw [RepA, show (σ.upd [(d, .buf ety z' (nw && nw') xs), (s, .dead)]).at d = .buf ety z' (nw && nw') xs from by show (if d = d then _ else _) = _; rw [if_pos rfl]]
                  exact .inl ⟨b, cap, by unfold upS; rw [if_pos rfl], by omega, by simp⟩
                · have hrun := r_append_same (P := P) (w := w) (ty := o.type) ht ht' z1 (A := A) (B := none) (n := 0) (cap := 0) (c := c) (Nat.le_refl _)
                  have hs := h.swap (w' := w) (s := s) (blk := .buf ety z' (nw && nw') []) (x := none) hf (fun b' c' he => by cases he) (fun _ _ _ _ hv => hv) (Below.refl _ _) (Nat.le_refl _) (fun _ _ hv _ => hv) (fun _ _ _ _ _ => rfl)
                    (fun hG => .inl ⟨by unfold upS; rw [if_pos rfl], rfl⟩)
                  refine ⟨_, w, _, key _ _ (by rw [g3, hyv]; exact hrun), hs, ?_⟩
                  rw [RepA, show (σ.upd [(d, .buf ety z' (nw && nw') []), (s, .dead)]).at d = .buf ety z' (nw && nw') [] from by show (if d = d then _ else _) = _; rw [if_pos rfl]]
                  exact .inr ⟨by unfold upS; rw [if_pos rfl], rfl, rfl, rfl, rfl⟩
              · obtain ⟨a, rfl, hnews⟩ := hcells hys
                have hyl : 0 < ys.length := List.length_pos_iff.2 hys
                have hatd : (σ.upd [(d, .buf ety z' (nw && nw') (xs ++ ys)), (s, .dead)]).at d = .buf ety z' (nw && nw') (xs ++ ys) := by show (if d = d then _ else _) = _; rw [if_pos rfl]
                -- a new row
                have grown : ∀ (old : List Value) (n0 cp : Nat), RepF w (okOf cx w.heap.size μ nw) z' xs old → xs.length + ys.length ≤ grownCap w (xs.length + ys.length) cp ety →
                    ∀ v w', v = Value.slice (some ⟨w.heap.size, 0, none⟩) (xs.length + ys.length) (grownCap w (xs.length + ys.length) cp ety) →
                      w' = w.drew.alloc (.cells (old.toArray ++ cs.toArray ++ Builtin.zeroCells z.cells (grownCap w (xs.length + ys.length) cp ety - (xs.length + ys.length))) ety) →
                      ∃ μ', RelM cx w0 (σ.upd [(d, .buf ety z' (nw && nw') (xs ++ ys)), (s, .dead)]) tmps w' μ' ∧ RepA cx w' μ' (σ.upd [(d, .buf ety z' (nw && nw') (xs ++ ys)), (s, .dead)]).at (.own d 0 (xs.length + ys.length)) v := by
                  rintro old n0 cp hold hge v w' rfl rfl
                  have hcm : grownCap w (xs.length + ys.length) cp ety ≤ maxLen := grownCap_le_maxLen w _ cp ety (by simp only [maxLen]; omega)
                  have hlo := RepF.length hold
                  have hFF : RepF w (okOf cx w.heap.size μ (nw && nw')) z' (xs ++ ys) (old ++ cs) := RepF.append (RepF.map hw1 hold) (RepF.map hw2 hF)
                  have hs := h.swap (w' := w.drew.alloc (.cells (old.toArray ++ cs.toArray ++ Builtin.zeroCells z.cells (grownCap w (xs.length + ys.length) cp ety - (xs.length + ys.length))) ety)) (s := s) (blk := .buf ety z' (nw && nw') (xs ++ ys)) (x := some (w.heap.size, grownCap w (xs.length + ys.length) cp ety)) hf
                    (fun b' c' he => by cases he; exact .inr ⟨Nat.le_refl _, by simp⟩)
                    (fun b' o' v' _ hv => by
                      rw [← hv]
                      exact World.cell?_alloc_old _ _ _ (fun hn => by
                        have : w.cell? ⟨b', o', none⟩ = none := by simp [World.cell?, show b' = w.heap.size from hn]
                        rw [this] at hv; cases hv))
                    (((Below.refl _ _).drew).alloc h.below.size _) (by simp) (fun b' o' ho _ => (Below.heap_alloc w.drew _ b' (Array.getElem?_eq_some_iff.1 ho).1).trans ho)
                    (fun t' b' c' _ ht' => Below.heap_alloc w.drew _ _ (h.sites.lo t' b' c' ht').2)
                    (fun hG => .inr ⟨w.heap.size, _, _, by unfold upS; rw [if_pos rfl], heap_alloc_new w.drew _, by rw [List.length_append]; exact hge, hcm, by
                      simp only [Array.size_append, List.size_toArray, size_zeroCells, z3, hi, hlo, hlc, ← Nat.add_mul]
                      congr 1
                      omega, RepF.row (RepF.map (fun h => Rep.goes hG h) hFF) (fun j hj => by
                        rw [Nat.zero_add]
                        have := World.cell?_alloc_mark w.drew (old.toArray ++ cs.toArray ++ Builtin.zeroCells z.cells (grownCap w (xs.length + ys.length) cp ety - (xs.length + ys.length))) ety (0, 0) j
                        rw [World.size_drew] at this
                        rw [this, ← Array.getElem?_toList, Array.toList_append, Array.toList_append, List.getElem?_append_left (by simpa using hj)])⟩)
                  refine ⟨_, hs, ?_⟩
                  rw [RepA, hatd]
                  exact .inl ⟨w.heap.size, _, by unfold upS; rw [if_pos rfl], by simp, by simp⟩
                rcases hx with ⟨b, cap, g1, g2, g3⟩ | ⟨g1, rfl, _, _, g3⟩
                · rcases hm with ⟨q1, _⟩ | ⟨b', cap', cur, m1, m2, m3, m4, m5, m6⟩
                  · rw [g1] at q1; cases q1
                  rw [g1] at m1
                  cases m1
                  simp only [Nat.zero_mul, Nat.sub_zero] at g3
                  obtain ⟨old, f1, f2⟩ := RepRow.flat m6
                  have hlo := RepF.length f1
                  by_cases hroom : xs.length + ys.length ≤ cap
                  · have hfit : xs.length * z' + cs.length ≤ cur.size := by rw [hlc, m5, ← Nat.add_mul]; exact Nat.mul_le_mul_right _ hroom
                    have hrun := r_append_room (P := P) (w := w) (ty := o.type) ht ht' z1 m2 (a := a) (m := ys.length) (c := c) (news := cs) (by rw [hi]; exact hlc) hnews (RepF.one hF) hroom (by rw [hi]; exact hfit)
                    rw [hi] at hrun
                    have hGs := Goes.setRow (w := w) (μ := μ) g1 (cur.toList.take (xs.length * z') ++ cs ++ cur.toList.drop (xs.length * z' + cs.length)).toArray ⟨_, _, _, m2⟩
                    have htake : cur.toList.take (xs.length * z') = old := by
                      apply List.ext_getElem?
                      intro j
                      rw [List.getElem?_take]
                      split
                      · next hj =>
                        have := f2 j (by omega)
                        rw [Nat.zero_add] at this
                        rw [← this]
                        simp [World.cell?, m2]
                      · next hj => rw [List.getElem?_eq_none (by omega)]
                    have hB := (h.sites.lo s b cap g1).1
                    have hFF : RepF w (okOf cx w.heap.size μ (nw && nw')) z' (xs ++ ys) (old ++ cs) := RepF.append (RepF.map hw1 f1) (RepF.map hw2 hF)
                    have hs := h.swap (w' := w.setRow b (cur.toList.take (xs.length * z') ++ cs ++ cur.toList.drop (xs.length * z' + cs.length)).toArray) (s := s) (blk := .buf ety z' (nw && nw') (xs ++ ys)) (x := some (b, cap)) hf
                      (fun b' c' he => by cases he; exact .inl ⟨cap, g1⟩) hGs.cell ⟨rfl, rfl, rfl, by simp, fun k hk => setRow_other w b k _ (by rw [h.hB] at hk; omega)⟩ (by simp) hGs.other
                      (fun t' b' c' hne ht' => setRow_other w b b' _ (fun he => hne (by subst he; exact h.sites.inj t' s b' c' cap ht' g1)))
                      (fun hG => .inr ⟨b, cap, _, by unfold upS; rw [if_pos rfl], setRow_heap w b cur _ ety _ m2, by rw [List.length_append]; exact hroom, m4, by
                        simp only [List.size_toArray, List.length_append, List.length_take, List.length_drop, Array.length_toList]
                        omega, RepF.row (RepF.map (fun h => Rep.goes hG h) hFF) (fun j hj => by
                          rw [Nat.zero_add, cell_setRow_same w b j cur _ ety _ m2, List.getElem?_toArray, htake, List.getElem?_append_left hj])⟩)
                    refine ⟨_, _, _, key _ _ (by rw [g3, hyv]; exact hrun), hs, ?_⟩
                    rw [RepA, hatd]
                    exact .inl ⟨b, cap, by unfold upS; rw [if_pos rfl], by simp, by simp⟩
                  · have hrun := r_append_grow (P := P) (w := w) (ty := o.type) ht ht' z1 z2 (b := ⟨b, 0, none⟩) (sLen := xs.length) (sCap := cap) (olds := old) (by rw [hi]; exact hlo) (fun j u hu => by rw [addr_add, f2 j (List.getElem?_eq_some_iff.1 hu).1, hu]) (a := a) (n := ys.length) (c := c) (news := cs)
                      (by rw [hi]; exact hlc) hnews (by omega) (by omega) (by rw [hbi]; exact growslice_fits (by omega) hb)
                    obtain ⟨μ', k1, k2⟩ := grown old xs.length cap f1 (grownCap_ge _ _ _ _) _ _ rfl rfl
                    exact ⟨_, _, μ', key _ _ (by rw [g3, hyv]; exact hrun), k1, k2⟩
                · have hrun := r_append_nil (P := P) (w := w) (ty := o.type) ht ht' z1 z2 (a := a) (n := ys.length) (c := c) (news := cs) (by rw [hi]; exact hlc) hnews hyl (by simp at h63; omega) (by rw [hbi]; simp at hb; omega)
                  obtain ⟨μ', k1, k2⟩ := grown [] 0 0 (by rw [RepF]) (grownCap_ge _ _ _ _) _ _ rfl rfl
                  simp only [List.length_nil, Nat.zero_add] at k1 k2 ⊢
                  exact ⟨_, _, μ', key _ _ (by rw [g3, hyv]; simpa using hrun), by simpa using k1, by simpa using k2⟩
            · cases ha
          · cases ha
        · next hgx =>
          rw [hgx, repA_nil] at hx
          split at ha
          · next nw' ys hsrc =>
            split at ha <;> cases ha
            rename_i hh
            obtain ⟨A, c, cs, hyv, hF, hcells⟩ := src_ok h hsrc hy
            have hlc := RepF.length hF
            by_cases hys : ys = []
            · subst hys
              have hrun := r_append_same (P := P) (w := w) (ty := o.type) ht ht' z1 (A := A) (B := none) (n := 0) (cap := 0) (c := c) (Nat.le_refl _)
              have hG : Goes w μ w (upS μ d none) := ⟨Nat.le_refl _, fun _ _ _ _ hv => hv, fun t' b' c' hs => by
                unfold upS at hs
                split at hs
                · cases hs
                · exact .inl ⟨t', c', hs⟩, fun _ _ hv _ => hv⟩
              have hs := h.next (ms := [(d, .buf el sz nw' [])]) hG h.below ⟨fun t' b' c' hs => by
                  unfold upS at hs
                  split at hs
                  · cases hs
                  · exact h.sites.lo t' b' c' hs, fun t1 t2 b' c1 c2 h1 h2 => by
                  unfold upS at h1 h2
                  split at h1
                  · cases h1
                  · split at h2
                    · cases h2
                    · exact h.sites.inj t1 t2 b' c1 c2 h1 h2⟩
                (fun t' => by
                  by_cases hd : d = t'
                  · subst hd; right; rw [St.at_upd_one, if_pos rfl]; exact .inl ⟨by unfold upS; rw [if_pos rfl], rfl⟩
                  · left; rw [St.at_upd_one, if_neg hd]; exact ⟨rfl, by unfold upS; rw [if_neg (Ne.symm hd)], fun _ _ _ => rfl⟩)
                (fun t' => by
                  by_cases hd : d = t'
                  · subst hd; exact .inr (.inr hf)
                  · refine .inr (.inl ⟨by unfold upS; rw [if_neg (Ne.symm hd)], ?_⟩); rw [St.at_upd_one, if_neg hd]; exact Blk.fits_refl _)
              refine ⟨_, w, _, key _ _ (by rw [hx, hyv]; exact hrun), hs, ?_⟩
              rw [RepA, St.at_upd_one, if_pos rfl]
              exact .inr ⟨by unfold upS; rw [if_pos rfl], rfl, rfl, rfl, rfl⟩
            · obtain ⟨a, rfl, hnews⟩ := hcells hys
              have hyl : 0 < ys.length := List.length_pos_iff.2 hys
              have hrun := r_append_nil (P := P) (w := w) (ty := o.type) ht ht' z1 z2 (a := a) (n := ys.length) (c := c) (news := cs) (by rw [hi]; exact hlc) hnews hyl (by omega) (by rw [hbi]; omega)
              have hge := grownCap_ge w ys.length 0 el
              have hFd : RepF w.drew (okOf cx w.drew.heap.size μ nw') sz ys cs := by
                refine RepF.map (w := w) (ok := okOf cx w.heap.size μ nw') ?_ hF
                intro x a hh
                exact Rep.mono (w := w) (w' := w.drew) (ok := okOf cx w.heap.size μ nw') (fun _ _ _ _ hv => hv) (fun _ hb => hb) hh
              obtain ⟨μ', k1, k2⟩ := x_newRow (d := d) (ety := el) (cur := cs.toArray ++ Builtin.zeroCells z.cells (grownCap w ys.length 0 el - ys.length)) (cs := cs) (rest := (Builtin.zeroCells z.cells (grownCap w ys.length 0 el - ys.length)).toList) (cap := grownCap w ys.length 0 el) h.drew hf
                hFd (by simp) (by
                  simp only [Array.size_append, List.size_toArray, size_zeroCells, z3, hi, hlc, ← Nat.add_mul]
                  congr 1
                  omega) hge (grownCap_le_maxLen w _ 0 el (by simp only [maxLen]; omega))
              exact ⟨_, _, μ', key _ _ (by rw [hx, hyv]; exact hrun), k1, k2⟩
          · cases ha
        · cases ha
      · cases ha
    · cases ha
end
end Go.Proofs.YtobacemgcjnahaaGreatDoor.L
/-
  copy; literals of structs and arrays.
-/
namespace Go.Proofs.YtobacemgcjnahaaGreatDoor.L
open Go Go.RowKit

section
variable {P : Program} {cx : Cx} {w0 w : World} {σ : St} {tmps : Array Value} {μ : Sites}

def copyA (P : Program) (at_ : Nat → Blk) (t t' : TypeId) (x y : AV) : Option (AV × List (Nat × Blk)) :=
  match x with
  | .own s off len => (match at_ s with
    | .buf e sz nw xs => if esz P t = some sz ∧ (elt P t').isSome = true then (match srcA at_ sz y with
      | some (nw', ys) => some (.v true (.int .i64 (min ys.length len : Nat)), [(s, .buf e sz (nw && nw') (xs.take off ++ ys.take (min ys.length len) ++ xs.drop (off + min ys.length len)))])
      | none => none) else none
    | _ => none)
  | .bsl s n => (match at_ s with
    | .box e (.v nw (.agg fs)) => (match esz P t with
      | some sz => if fs.length = n ∧ (fs.all fun x => x.size == sz) = true ∧ (elt P t').isSome = true then (match srcA at_ sz y with
        | some (nw', ys) => some (.v true (.int .i64 (min ys.length n : Nat)), [(s, .box e (.v (nw && nw') (.agg (ys.take (min ys.length n) ++ fs.drop (min ys.length n)))))])
        | none => none) else none
      | none => none)
    | _ => none)
  | _ => none

theorem RepL.toF {w : World} {ok : Nat → Prop} {sz : Nat} : ∀ {xs : List V} {cs : List Value}, (∀ x ∈ xs, x.size = sz) → RepL w ok xs cs → RepF w ok sz xs cs
  | [], cs, _, h => by rw [RepL] at h; rw [RepF]; exact h
  | x :: r, cs, hz, h => by
    rw [RepL] at h
    obtain ⟨a, d, rfl, h2, h3⟩ := h
    rw [RepF]
    exact ⟨a, d, rfl, (Rep.length h2).trans (hz x (by simp)), h2, RepL.toF (fun y hy => hz y (by simp [hy])) h3⟩
theorem RepF.toL {w : World} {ok : Nat → Prop} {sz : Nat} : ∀ {xs : List V} {cs : List Value}, RepF w ok sz xs cs → RepL w ok xs cs
  | [], cs, h => by rw [RepF] at h; rw [RepL]; exact h
  | x :: r, cs, h => by
    rw [RepF] at h
    obtain ⟨a, d, rfl, _, h2, h3⟩ := h
    rw [RepL]
    exact ⟨a, d, rfl, h2, RepF.toL h3⟩

theorem x_copy {e : Operand → Value} {o : Oper} {g : Operand → AV} {t t' : TypeId} {x y : Operand} {X : AV} {ms : List (Nat × Blk)} (h : RelM cx w0 σ tmps w μ)
    (ho : o.op = .call { callee := .builtin .copy, args := #[x, y], argTypes := #[t, t'] }) (ha : copyA P σ.at t t' (g x) (g y) = some (X, ms)) (hg : ∀ x, RepA cx w μ σ.at (g x) (e x)) :
    Ends cx w0 (σ.upd ms) tmps X P e o w := by
  have key : ∀ v w', (Builtin.copy_ #[t, t'] o.type #[e x, e y]).run P w = .ok v w' → (execOp e o).run P w = .ok (.value v) w' := by
    intro v w' hr
    simp only [execOp, ho, resolve, invoke, builtin, Sem.run_bind, Sem.run_pure, Result.andThen_ok, List.map_toArray, List.map_cons, List.map_nil, hr]
  have hx := hg x
  have hy := hg y
  unfold copyA at ha
  split at ha
  · next s off len hgx =>
    rw [hgx] at hx
    split at ha
    · next ety sz nw xs hat =>
      split at ha
      · next hh =>
        obtain ⟨h1, h2⟩ := hh
        obtain ⟨el, hu, hz⟩ := esz_info h1
        split at ha
        · next nw' ys hsrc =>
          cases ha
          obtain ⟨A, c, cs, hyv, hF, hcells⟩ := src_ok h hsrc hy
          rw [RepA, hat] at hx
          have hm := h.mem s
          rw [hat] at hm
          have hw1 : ∀ {x : V} {a : List Value}, Rep w (okOf cx w.heap.size μ nw) x a → Rep w (okOf cx w.heap.size μ (nw && nw')) x a := fun h => Rep.weak (fun hn => by rw [Bool.and_eq_true] at hn; exact hn.1) h
          have hw2 : ∀ {x : V} {a : List Value}, Rep w (okOf cx w.heap.size μ nw') x a → Rep w (okOf cx w.heap.size μ (nw && nw')) x a := fun h => Rep.weak (fun hn => by rw [Bool.and_eq_true] at hn; exact hn.2) h
          by_cases hn : min ys.length len = 0
          · have hrun : (Builtin.copy_ #[t, t'] o.type #[e x, e y]).run P w = .ok (.int .i64 0) w := by
              rcases hx with ⟨b, cap, g1, g2, g3⟩ | ⟨g1, _, _, rfl, g3⟩
              · cases A <;> simp [Builtin.copy_, run_underlying hu, r_size hz, hyv, g3, Builtin.lenOf, hn, Builtin.firstCells, loadCells, loadCellsFrom, storeCells, goInt]
              · cases A <;> simp [Builtin.copy_, run_underlying hu, r_size hz, hyv, g3, Builtin.lenOf, Builtin.firstCells, loadCells, loadCellsFrom, goInt]
            have hcont : xs.take off ++ ys.take (min ys.length len) ++ xs.drop (off + min ys.length len) = xs := by rw [hn]; simp
            rw [hcont, hn]
            refine ⟨_, w, μ, key _ _ hrun, ?_, repA_int.2 rfl⟩
            have hG : Goes w μ w μ := ⟨Nat.le_refl _, fun _ _ _ _ hv => hv, fun t' b' c' hs => .inl ⟨t', c', hs⟩, fun _ _ hv _ => hv⟩
            refine h.next hG h.below h.sites (fun t' => ?_) (fun t' => ?_)
            · by_cases hd : s = t'
              · subst hd
                right
                rw [St.at_upd_one, if_pos rfl]
                rcases hm with hm | ⟨b', cap', cur, m1, m2, m3, m4, m5, m6⟩
                · exact .inl hm
                · exact .inr ⟨b', cap', cur, m1, m2, m3, m4, m5, RepF.row (RepF.map hw1 (RepRow.flat m6).choose_spec.1) (RepRow.flat m6).choose_spec.2⟩
              · left; rw [St.at_upd_one, if_neg hd]; exact ⟨rfl, rfl, fun _ _ _ => rfl⟩
            · right; left
              rw [St.at_upd_one]
              refine ⟨rfl, ?_⟩
              split
              · next hd => subst hd; rw [hat]; exact ⟨rfl, rfl⟩
              · exact Blk.fits_refl _
          · have hys : ys ≠ [] := fun h => hn (by rw [h]; simp)
            obtain ⟨a, rfl, hnews⟩ := hcells hys
            rcases hx with ⟨b, cap, g1, g2, g3⟩ | ⟨g1, _, _, rfl, g3⟩
            · rcases hm with ⟨q1, _⟩ | ⟨b', cap', cur, m1, m2, m3, m4, m5, m6⟩
              · rw [g1] at q1; cases q1
              rw [g1] at m1
              cases m1
              obtain ⟨k, hk⟩ : ∃ k, min ys.length len = k := ⟨_, rfl⟩
              rw [hk] at hn ⊢
              have hk1 : k ≤ ys.length := by omega
              have hk2 : k ≤ len := by omega
              obtain ⟨c1, c2, rfl, F1, F2⟩ := RepF.split (xs := ys.take k) (ys := ys.drop k) (by rw [List.take_append_drop]; exact hF)
              have l1 := RepF.length F1
              rw [List.length_take, Nat.min_eq_left hk1] at l1
              obtain ⟨old, f1, f2⟩ := RepRow.flat m6
              have hlo := RepF.length f1
              obtain ⟨o1, o23, rfl, G1, G23⟩ := RepF.split (xs := xs.take off) (ys := xs.drop off) (by rw [List.take_append_drop]; exact f1)
              obtain ⟨o2, o3, rfl, G2, G3⟩ := RepF.split (xs := (xs.drop off).take k) (ys := (xs.drop off).drop k) (by rw [List.take_append_drop]; exact G23)
              have e1 := RepF.length G1
              have e2 := RepF.length G2
              rw [List.length_take, Nat.min_eq_left (by omega)] at e1
              rw [List.length_take, List.length_drop, Nat.min_eq_left (by omega)] at e2
              have hcs : xs.length * sz ≤ cur.size := by rw [m5]; exact Nat.mul_le_mul_right _ m3
              simp only [List.length_append] at hlo
              have hfc : (Builtin.firstCells sz k (.slice (some a) ys.length c)).run P w = .ok c1.toArray w :=
                run_firstCells_some (P := P) w sz k a ys.length c c1 l1 (fun j v hj => hnews j v (by rw [List.getElem?_append_left (List.getElem?_eq_some_iff.1 hj).1]; exact hj))
              have hst := run_storeCells_at P b (off * sz) ety c1 0 cur w m2 (by omega) (RepF.one F1)
              simp only [Nat.add_zero] at hst
              have hrun : (Builtin.copy_ #[t, t'] o.type #[e x, e y]).run P w = .ok (.int .i64 k) (w.setRow b (cur.toList.take (off * sz) ++ c1 ++ cur.toList.drop (off * sz + c1.length)).toArray) := by
                have hk' : Nat.min ys.length len = k := hk
                simp [Builtin.copy_, run_underlying hu, r_size hz, hyv, g3, Builtin.lenOf, hk', hfc, hst, goInt]
              have hcur : cur.toList = (o1 ++ (o2 ++ o3)) ++ cur.toList.drop (o1 ++ (o2 ++ o3)).length := by
                rw [← List.take_append_drop (o1 ++ (o2 ++ o3)).length cur.toList]
                congr 1
                · apply List.ext_getElem?
                  intro j
                  rw [List.getElem?_take]
                  split
                  · next hj =>
                    rw [← f2 j hj, Nat.zero_add]
                    simp [World.cell?, m2]
                  · next hj => rw [List.getElem?_eq_none (by omega)]
                · simp
              have hnew : cur.toList.take (off * sz) ++ c1 ++ cur.toList.drop (off * sz + c1.length) = (o1 ++ c1 ++ o3) ++ cur.toList.drop (o1 ++ (o2 ++ o3)).length := by
                have t1 : cur.toList.take (off * sz) = o1 := by
                  rw [hcur, List.append_assoc, List.take_append_of_le_length (by omega), List.take_of_length_le (by omega)]
                have t2 : cur.toList.drop (off * sz + c1.length) = o3 ++ cur.toList.drop (o1 ++ (o2 ++ o3)).length := by
                  conv => lhs; rw [hcur]
                  rw [show o1 ++ (o2 ++ o3) ++ cur.toList.drop (o1 ++ (o2 ++ o3)).length = (o1 ++ o2) ++ (o3 ++ cur.toList.drop (o1 ++ (o2 ++ o3)).length) from by simp]
                  rw [List.drop_append_of_le_length (by simp; omega), List.drop_of_length_le (by simp; omega), List.nil_append]
                rw [t1, t2]
                simp
              rw [hnew] at hrun
              have hFF : RepF w (okOf cx w.heap.size μ (nw && nw')) sz (xs.take off ++ ys.take k ++ xs.drop (off + k)) (o1 ++ c1 ++ o3) :=
                RepF.append (RepF.append (RepF.map hw1 G1) (RepF.map hw2 F1)) (RepF.map hw1 (by rw [List.drop_drop] at G3; exact G3))
              have hlen : (xs.take off ++ ys.take k ++ xs.drop (off + k)).length = xs.length := by simp; omega
              refine ⟨_, _, μ, key _ _ hrun, h.write g1 (by rw [hat]; exact ⟨rfl, hlen⟩) fun hG => ?_, repA_int.2 rfl⟩
              refine .inr ⟨b, cap, _, g1, setRow_heap w b cur _ ety _ m2, by rw [hlen]; exact m3, m4, ?_, RepF.row (RepF.map (fun h => Rep.goes hG h) hFF) fun j hj => ?_⟩
              · have := congrArg List.length hcur
                simp only [List.length_append, Array.length_toList, List.length_drop, List.size_toArray] at this ⊢
                omega
              · rw [Nat.zero_add, cell_setRow_same w b j cur _ ety _ m2, List.getElem?_toArray, List.getElem?_append_left hj]
            · exfalso; apply hn; simp
        · cases ha
      · cases ha
    · cases ha
  · next s n hgx =>
    rw [hgx] at hx
    split at ha
    · next ety nw fs hat =>
      split at ha
      · next sz h1 =>
        split at ha
        · next hh =>
          obtain ⟨hfl, hfz, _⟩ := hh
          obtain ⟨el, hu, hz⟩ := esz_info h1
          have hfz' : ∀ x ∈ fs, x.size = sz := fun x hx => by
            have := List.all_eq_true.1 hfz x hx
            simpa using this
          split at ha
          · next nw' ys hsrc =>
            cases ha
            obtain ⟨A, c, cs, hyv, hF, hcells⟩ := src_ok h hsrc hy
            rw [RepA, hat] at hx
            obtain ⟨b, cap, g1, g3⟩ := hx
            have hm := h.mem s
            rw [hat] at hm
            obtain ⟨b', cap', cur, val, m1, m2, m3, m4, m5⟩ := hm
            rw [g1] at m1
            cases m1
            rw [RepA] at m3
            obtain ⟨fcs, r1, rfl⟩ := m3
            rw [Rep] at r1
            have hcur : cur = fcs.toArray := by rw [m4]; rfl
            have F0 := RepL.toF hfz' r1
            have hw1 : ∀ {x : V} {a : List Value}, Rep w (okOf cx w.heap.size μ nw) x a → Rep w (okOf cx w.heap.size μ (nw && nw')) x a := fun h => Rep.weak (fun hn => by rw [Bool.and_eq_true] at hn; exact hn.1) h
            have hw2 : ∀ {x : V} {a : List Value}, Rep w (okOf cx w.heap.size μ nw') x a → Rep w (okOf cx w.heap.size μ (nw && nw')) x a := fun h => Rep.weak (fun hn => by rw [Bool.and_eq_true] at hn; exact hn.2) h
            by_cases hn : min ys.length n = 0
            · have hrun : (Builtin.copy_ #[t, t'] o.type #[e x, e y]).run P w = .ok (.int .i64 0) w := by
                cases A <;> simp [Builtin.copy_, run_underlying hu, r_size hz, hyv, g3, Builtin.lenOf, hn, Builtin.firstCells, loadCells, loadCellsFrom, storeCells, goInt]
              have hcont : ys.take (min ys.length n) ++ fs.drop (min ys.length n) = fs := by rw [hn]; simp
              rw [hcont, hn]
              refine ⟨_, w, μ, key _ _ hrun, ?_, repA_int.2 rfl⟩
              have hG : Goes w μ w μ := ⟨Nat.le_refl _, fun _ _ _ _ hv => hv, fun t' b' c' hs => .inl ⟨t', c', hs⟩, fun _ _ hv _ => hv⟩
              refine h.next hG h.below h.sites (fun t' => ?_) (fun t' => ?_)
              · by_cases hd : s = t'
                · subst hd
                  right
                  rw [St.at_upd_one, if_pos rfl]
                  refine ⟨b, cap, cur, _, g1, m2, ?_, m4, fun h => by cases h⟩
                  rw [RepA]
                  refine ⟨fcs, ?_, rfl⟩
                  rw [Rep]
                  exact RepF.toL (RepF.map hw1 F0)
                · left; rw [St.at_upd_one, if_neg hd]; exact ⟨rfl, rfl, fun _ _ _ => rfl⟩
              · right; left
                rw [St.at_upd_one]
                refine ⟨rfl, ?_⟩
                split
                · next hd => subst hd; rw [hat]; trivial
                · exact Blk.fits_refl _
            · have hys : ys ≠ [] := fun h => hn (by rw [h]; simp)
              obtain ⟨a, rfl, hnews⟩ := hcells hys
              obtain ⟨k, hk⟩ : ∃ k, min ys.length n = k := ⟨_, rfl⟩
              rw [hk] at hn ⊢
              have hk1 : k ≤ ys.length := by omega
              have hk2 : k ≤ n := by omega
              obtain ⟨c1, c2, rfl, F1, F2⟩ := RepF.split (xs := ys.take k) (ys := ys.drop k) (by rw [List.take_append_drop]; exact hF)
              have l1 := RepF.length F1
              rw [List.length_take, Nat.min_eq_left hk1] at l1
              obtain ⟨o1, o2, rfl, G1, G2⟩ := RepF.split (xs := fs.take k) (ys := fs.drop k) (by rw [List.take_append_drop]; exact F0)
              have e1 := RepF.length G1
              rw [List.length_take, Nat.min_eq_left (by omega)] at e1
              have hfc : (Builtin.firstCells sz k (.slice (some a) ys.length c)).run P w = .ok c1.toArray w :=
                run_firstCells_some (P := P) w sz k a ys.length c c1 l1 (fun j v hj => hnews j v (by rw [List.getElem?_append_left (List.getElem?_eq_some_iff.1 hj).1]; exact hj))
              have hst := run_storeCells_at P b 0 ety c1 0 cur w m2 (by rw [hcur]; simp; omega) (RepF.one F1)
              simp only [Nat.add_zero] at hst
              have hrun : (Builtin.copy_ #[t, t'] o.type #[e x, e y]).run P w = .ok (.int .i64 k) (w.setRow b (cur.toList.take 0 ++ c1 ++ cur.toList.drop (0 + c1.length)).toArray) := by
                have hk' : Nat.min ys.length n = k := hk
                simp [Builtin.copy_, run_underlying hu, r_size hz, hyv, g3, Builtin.lenOf, hk', hfc, hst, goInt]
              have hnew : cur.toList.take 0 ++ c1 ++ cur.toList.drop (0 + c1.length) = c1 ++ o2 := by
                rw [hcur, List.take_zero, List.nil_append, Nat.zero_add, List.drop_append_of_le_length (by omega), List.drop_of_length_le (by omega), List.nil_append]
              rw [hnew] at hrun
              refine ⟨_, _, μ, key _ _ hrun, h.write g1 (by rw [hat]; trivial) fun hG => ?_, repA_int.2 rfl⟩
              refine ⟨b, cap, _, (V.agg (ys.take k ++ fs.drop k)).toVal (c1 ++ o2), g1, setRow_heap w b cur _ ety _ m2, ?_, rfl, fun h => by cases h⟩
              rw [RepA]
              refine ⟨c1 ++ o2, ?_, rfl⟩
              rw [Rep]
              exact RepF.toL (RepF.map (fun h => Rep.goes hG h) (RepF.append (RepF.map hw2 F1) (RepF.map hw1 G2)))
          · cases ha
        · cases ha
      · cases ha
    · cases ha
  · cases ha

/-- Where the parts begin, and their cells. -/
def V.offs : Nat → List V → List (Nat × Nat)
  | _, [] => []
  | o, x :: r => (o, x.size) :: V.offs (o + x.size) r

theorem offs_get : ∀ {o : Nat} {fs : List V} {i : Nat} {x : V}, fs[i]? = some x → (V.offs o fs)[i]? = some (o + V.off fs i, x.size)
  | _, [], _, _, h => by simp at h
  | o, y :: r, 0, x, h => by simp at h; subst h; simp [V.offs, V.off]
  | o, y :: r, i + 1, x, h => by
    rw [List.getElem?_cons_succ] at h
    rw [V.offs, List.getElem?_cons_succ, offs_get h, V.off, Nat.add_assoc]

/-- A struct's or an array's parts, as the table of types has them. -/
def plc (P : Program) (t : TypeId) : Option (List (Nat × Nat)) :=
  match P.underlying t with
  | some (.struct fs) => fs.toList.mapM (fun f => (P.info? f.type).map fun i => (f.offset, i.size))
  | some (.array n e) => (P.info? e).map fun i => (List.range n).map fun j => (j * i.size, i.size)
  | _ => none

/-- The parts that a literal names. -/
def buildP (P : Program) (g : Operand → AV) : List V → List (Nat × Operand) → Option (Bool × List V)
  | fs, [] => some (true, fs)
  | fs, (i, x) :: r => match fs[i]? with
    | some z => (match g x with
      | .v nw y => if y.size = z.size then (match buildP P g (fs.set i y) r with
        | some (nw', l) => some (nw && nw', l)
        | none => none) else none
      | .nil => (match z with
        | .sl k [] => buildP P g (fs.set i (.sl k [])) r
        | _ => none)
      | _ => none)
    | none => none

def buildA (P : Program) (zt : TypeId → Option AV) (g : Operand → AV) (t : TypeId) (parts : List (Nat × Operand)) : Option AV :=
  match zt t with
  | some (.v true (.agg zs)) => if plc P t = some (V.offs 0 zs) then (buildP P g zs parts).map fun r => .v r.1 (.agg r.2) else none
  | _ => none

theorem fill_ok {e : Operand → Value} {g : Operand → AV} {place : Nat → Option (Nat × Nat)} {ofs : List (Nat × Nat)} (hpl : ∀ (i : Nat) p, ofs[i]? = some p → place i = some p) (hg : ∀ x, RepA cx w μ σ.at (g x) (e x)) :
    ∀ {parts : List (Nat × Operand)} {fs fs' : List V} {nw nw' : Bool} {cells : Array Value}, buildP P g fs parts = some (nw', fs') → V.offs 0 fs = ofs → RepL w (okOf cx w.heap.size μ nw) fs cells.toList →
      ∃ r, Instr.fill place cells (parts.map fun p => (p.1, e p.2)) = some r ∧ RepL w (okOf cx w.heap.size μ (nw && nw')) fs' r.toList
  | [], fs, fs', nw, nw', cells, h, ho, hr => by
    rw [buildP] at h
    cases h
    exact ⟨cells, rfl, RepL.mono (fun _ _ _ _ hv => hv) (fun _ hb => okOf_weak (by simp) hb) hr⟩
  | (i, x) :: r, fs, fs', nw, nw', cells, h, ho, hr => by
    rw [buildP] at h
    split at h
    · next z hz =>
      have hx := hg x
      -- one part
      have one : ∀ (y : V) (nw1 : Bool) (c : List Value), Rep w (okOf cx w.heap.size μ nw1) y c → (e x).cells.toList = c → y.size = z.size → ∀ {nw2 : Bool} {l : List V}, buildP P g (fs.set i y) r = some (nw2, l) →
          ∃ r', Instr.fill place cells (((i, x) :: r).map fun p => (p.1, e p.2)) = some r' ∧ RepL w (okOf cx w.heap.size μ (nw && (nw1 && nw2))) l r'.toList := by
        intro y nw1 c hy hc hs nw2 l hb
        obtain ⟨p, a, q, hcs, h1, h2⟩ := RepL.get hr hz
        have hla := Rep.length h2
        have hlc := Rep.length hy
        have hsz : (e x).cells.size = z.size := by rw [← Array.length_toList, hc, hlc, hs]
        have hcl : cells.size = p.length + a.length + q.length := by rw [← Array.length_toList, hcs]; simp only [List.length_append]
        have hfold : ((e x).cells.zipIdx.foldl (fun cs (x : Value × Nat) => cs.setIfInBounds (V.off fs i + x.2) x.1) cells).toList = p ++ c ++ q := by
          obtain ⟨g1, g2⟩ := Great.foldl_set (V.off fs i) c 0 cells
          rw [← Array.foldl_toList, Array.toList_zipIdx, hc]
          apply List.ext_getElem?
          intro k
          rw [Array.getElem?_toList, g2 k]
          by_cases hk : V.off fs i + 0 ≤ k ∧ k < V.off fs i + 0 + c.length ∧ k < cells.size
          · rw [if_pos hk, List.append_assoc, List.getElem?_append_right (by omega), List.getElem?_append_left (by omega)]
            congr 1
            omega
          · rw [if_neg hk, ← Array.getElem?_toList, hcs]
            by_cases hk2 : k < p.length
            · rw [List.append_assoc, List.append_assoc, List.getElem?_append_left hk2, List.getElem?_append_left hk2]
            · rw [List.append_assoc, List.append_assoc, List.getElem?_append_right (by omega), List.getElem?_append_right (by omega)]
              by_cases hk3 : k - p.length < c.length
              · exfalso; apply hk; omega
              · rw [List.getElem?_append_right (by omega), List.getElem?_append_right (by omega)]
                congr 1
                omega
        have hset := RepL.set (w := w) (ok := okOf cx w.heap.size μ (nw && nw1)) (y := y) (a' := c) (RepL.mono (fun _ _ _ _ hv => hv) (fun _ hb => okOf_weak (by simp only [Bool.and_eq_true]; exact fun h => h.1) hb) hr) hz hcs h1 hla (Rep.weak (by simp only [Bool.and_eq_true]; exact fun h => h.2) hy)
        have ho' : V.offs 0 (fs.set i y) = ofs := by
          rw [← ho]
          have : ∀ (fs : List V) (i o : Nat), fs[i]? = some z → V.offs o (fs.set i y) = V.offs o fs := by
            intro fs
            induction fs with
            | nil => intro i o h; simp at h
            | cons u v ih =>
              intro i o h
              cases i with
              | zero => simp at h; subst h; rw [List.set_cons_zero, V.offs, V.offs, hs]
              | succ i => rw [List.getElem?_cons_succ] at h; rw [List.set_cons_succ, V.offs, V.offs, ih i _ h]
          exact this fs i 0 hz
        obtain ⟨r', k1, k2⟩ := fill_ok hpl hg hb ho' (cells := (e x).cells.zipIdx.foldl (fun cs (x : Value × Nat) => cs.setIfInBounds (V.off fs i + x.2) x.1) cells) (by rw [hfold]; exact hset)
        refine ⟨r', ?_, by rw [← Bool.and_assoc]; exact k2⟩
        rw [List.map_cons]
        unfold Instr.fill
        have hp : place i = some (V.off fs i, z.size) := hpl i _ (by rw [← ho]; have := offs_get (o := 0) hz; simpa using this)
        rw [hp]
        simp only
        rw [if_neg (by rw [hsz]; simp; omega)]
        exact k1
      split at h
      · next nw1 y hgx =>
        split at h
        · next hs =>
          split at h <;> cases h
          rename_i nw2 hb
          rw [hgx, RepA] at hx
          obtain ⟨c, h1, h2⟩ := hx
          exact one y nw1 c h1 (by rw [h2]; exact toVal_cells h1) hs hb
        · cases h
      · next hgx =>
        split at h
        · next k =>
          rw [hgx, repA_nil] at hx
          have := one (.sl k []) true [.slice none 0 0] (by rw [Rep]; exact .inl ⟨rfl, _, _, rfl⟩) (by rw [hx]; rfl) rfl h
          simpa using this
        · cases h
      · cases h
    · cases h

theorem x_build {e : Operand → Value} {o : Oper} {g : Operand → AV} {t : TypeId} {parts : Array (Nat × Operand)} {X : AV} {Px : Px P} (ho : o.op = .build t parts) (hb : buildA P Px.zt g t parts.toList = some X) (hg : ∀ x, RepA cx w μ σ.at (g x) (e x)) :
    ∃ v, (execOp e o).run P w = .ok (.value v) w ∧ RepA cx w μ σ.at X v := by
  unfold buildA at hb
  split at hb
  · next zs hz =>
    split at hb
    · next hp =>
      simp only [Option.map_eq_some_iff] at hb
      obtain ⟨⟨nw, fs⟩, h1, rfl⟩ := hb
      obtain ⟨i, z, z1, z2, z3, z4, z5⟩ := Px.zok t _ hz
      have h5 := z5 cx w μ σ.at
      rw [RepA] at h5
      obtain ⟨cs, h6, h7⟩ := h5
      have h8 : z.cells.toList = cs := by rw [h7]; exact toVal_cells h6
      rw [Rep] at h6
      have e1 : (parts.map fun (i, x) => (i, e x)).toList = parts.toList.map fun p => (p.1, e p.2) := by rw [Array.toList_map]
      unfold plc at hp
      split at hp
      · next fds hu =>
        obtain ⟨r, k1, k2⟩ := fill_ok (P := P) (place := fun i => (V.offs 0 zs).toArray[i]?) (ofs := V.offs 0 zs) (fun i p h => by simpa using h) hg h1 rfl (cells := z.cells) (by rw [h8]; exact h6)
        have hbt : P.built t (parts.map fun (i, x) => (i, e x)).toList = some r := by
          unfold Program.built
          rw [z1, hu, e1]
          simp only [z2]
          rw [hp]
          exact k1
        refine ⟨.agg r, ?_, ?_⟩
        · simp only [execOp, ho, Sem.run_bind, run_build w t _ r hbt, Result.andThen_ok]
          rfl
        · rw [RepA]
          refine ⟨r.toList, by rw [Rep]; simpa using k2, rfl⟩
      · next n el hu =>
        cases hie : P.info? el with
        | none => rw [hie] at hp; cases hp
        | some ie =>
          rw [hie] at hp
          simp only [Option.map_some, Option.some.injEq] at hp
          obtain ⟨r, k1, k2⟩ := fill_ok (P := P) (place := fun i => some (i * ie.size, ie.size)) (ofs := V.offs 0 zs) (fun i p h => by
            rw [← hp, List.getElem?_map] at h
            simp only [Option.map_eq_some_iff] at h
            obtain ⟨j, h2, h3⟩ := h
            have h4 := (List.getElem?_eq_some_iff.1 h2).2
            simp at h4
            subst h4
            rw [h3]) hg h1 rfl (cells := z.cells) (by rw [h8]; exact h6)
          have hbt : P.built t (parts.map fun (i, x) => (i, e x)).toList = some r := by
            unfold Program.built
            rw [z1, hu, e1]
            simp only [z2, hie]
            exact k1
          refine ⟨.agg r, ?_, ?_⟩
          · simp only [execOp, ho, Sem.run_bind, run_build w t _ r hbt, Result.andThen_ok]
            rfl
          · rw [RepA]
            refine ⟨r.toList, by rw [Rep]; simpa using k2, rfl⟩
      · cases hp
    · cases hb
  · cases hb
end
end Go.Proofs.YtobacemgcjnahaaGreatDoor.L
