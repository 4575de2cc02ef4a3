/-
  Lze Lzf Lzg Lzh Lzi Lzj Lzk
-/
import Derived.Test.YtobacemgcjnahaaGreatDoorG4
import Derived.WideKeyArgs
import Derived.Deep.Slices
import Derived.ChangeSame
import Derived.Laws.RangeString
set_option linter.unusedSimpArgs false
set_option linter.unusedVariables false
/-
  What came in, read: a row of words.
-/
namespace Go.Proofs.YtobacemgcjnahaaGreatDoor.L
open Go Go.RowKit Go.ChangeShapes Go.WideShapes Go.ChangeAt

variable {H : Type} {enc : TypeId × Value → H} {P : Program}

theorem repF_ints {w : World} {ok : Nat → Prop} {k : IntKind} : ∀ l : List Int, RepF w ok 1 (l.map fun n => V.int k n) (l.map fun n => Value.int k n)
  | [] => by rw [List.map_nil, List.map_nil, RepF]
  | x :: r => by
    rw [List.map_cons, List.map_cons, RepF]
    exact ⟨[.int k x], _, rfl, rfl, by rw [Rep], repF_ints r⟩

/-- A slice of numbers that came in. -/
theorem openI {t e : TypeId} {k : IntKind} {W : World} {v : Value} {d : DataW H} {ps : List MemPlace} {r : Reach} {b0 : Nat} (ht : P.underlying t = some (.slice e)) (he : P.underlying e = some (.int k)) (hc : P.cellsOf e = 1) (hval : Value.okWide P W r b0 t v)
    (h : DataW.Trod enc P W 0 (fun _ => true) true t v d ps) : ∃ l : List Int, (∀ n ∈ l, (Lit.int k n).wf = true) ∧ ArgRep W (fun _ => True) (.v (.sl 1 (l.map fun n => .int k n))) v := by
  obtain ⟨a0, len, cap, rfl⟩ := okWide_slice ht hval
  obtain ⟨fuel, hf⟩ := h
  rcases open_ints ht he hc hf with ⟨hcs, _⟩ | ⟨a, len', cap', zs, hcs, _, hl, hm, hz, _, hcell, hwz⟩
  · simp [Value.cells] at hcs
    obtain ⟨rfl, rfl, rfl⟩ := hcs
    refine ⟨[], (fun n hn => by cases hn), ?_⟩
    rw [ArgRep]
    exact ⟨[.slice none 0 0], by rw [Rep]; exact .inl ⟨rfl, _, _, rfl⟩, rfl⟩
  · simp [Value.cells] at hcs
    obtain ⟨rfl, rfl, rfl⟩ := hcs
    simp only [if_true] at hz
    refine ⟨zs.take len, fun n hn => hwz n (List.mem_of_mem_take hn), ?_⟩
    rw [ArgRep]
    refine ⟨[.slice (some a) len cap], ?_, rfl⟩
    rw [Rep]
    by_cases hl0 : len = 0
    · subst hl0
      exact .inl ⟨by simp, _, _, rfl⟩
    · obtain ⟨b, off, spot⟩ := a
      have hspot : spot = none := by simpa [Addr.add] using World.cell?_spot (hcell 0 (by omega))
      subst hspot
      have hb : b < W.heap.size := by
        have := hcell 0 (by omega)
        refine Nat.lt_of_not_le fun hle => ?_
        simp [World.cell?, Addr.add, Array.getElem?_eq_none hle] at this
      have hlen : ((zs.take len).map fun n => V.int k n).length = len := by rw [List.length_map, List.length_take]; omega
      refine .inr ⟨b, off, cap, by rw [hlen]; exact hl, ⟨hb, trivial⟩, by rw [hlen], ?_⟩
      refine RepF.row (repF_ints _) fun j hj => ?_
      rw [List.length_map, List.length_take] at hj
      have h1 := hcell j (by omega)
      rw [add_plain] at h1
      rw [h1, List.getElem?_map, List.getElem?_take_of_lt (by omega), List.getElem?_eq_getElem (by omega), List.getD_eq_getElem?_getD, List.getElem?_eq_getElem (by omega)]
      rfl
end Go.Proofs.YtobacemgcjnahaaGreatDoor.L
/-
  What came in, read: rows of rows, of whole numbers.
-/
namespace Go.Proofs.YtobacemgcjnahaaGreatDoor.L
open Go Go.RowKit Go.ChangeShapes Go.WideShapes Go.ChangeAt Go.Deep

variable {H : Type} {enc : TypeId × Value → H} {P : Program} {W : World}

/-- The memory that is there. -/
def thereW (W : World) : Nat → Prop := fun b => b < W.heap.size ∧ True

theorem o_int {t : TypeId} {k : IntKind} (ht : P.underlying t = some (.int k)) {n : Nat} {cs : List Value} {x : DataW H × List MemPlace} (h : DataW.trod enc P W 0 (fun _ => true) true n t cs = some x) :
    ∃ m : Int, (Lit.int k m).wf = true ∧ Rep W (thereW W) (.int k m) cs := by
  cases n with
  | zero => simp [DataW.trod] at h
  | succ n =>
    unfold DataW.trod at h
    rw [ht] at h
    split at h <;> simp_all [Rep]
theorem o_bool {t : TypeId} (ht : P.underlying t = some .bool) {n : Nat} {cs : List Value} {x : DataW H × List MemPlace} (h : DataW.trod enc P W 0 (fun _ => true) true n t cs = some x) :
    ∃ b, Rep W (thereW W) (.bool b) cs := by
  cases n with
  | zero => simp [DataW.trod] at h
  | succ n =>
    unfold DataW.trod at h
    rw [ht] at h
    split at h <;> simp_all [Rep]

/-- A slice, out of its elements. -/
theorem o_slice {t e : TypeId} {z : Nat} {Q : V → Prop} (ht : P.underlying t = some (.slice e)) (hz : P.cellsOf e = z) (hz0 : 0 < z)
    (he : ∀ n cs x, DataW.trod enc P W 0 (fun _ => true) true n e cs = some x → ∃ X, Q X ∧ Rep W (thereW W) X cs)
    {n : Nat} {cs : List Value} {x : DataW H × List MemPlace} (h : DataW.trod enc P W 0 (fun _ => true) true n t cs = some x) :
    ∃ xs : List V, (∀ X ∈ xs, Q X) ∧ Rep W (thereW W) (.sl z xs) cs := by
  rcases open_slice ht h with ⟨rfl, _⟩ | ⟨a, len, cap, m, k, D, Pl, rfl, _, hl, _, hm, _, hx⟩
  · refine ⟨[], (fun X hX => by cases hX), ?_⟩
    rw [Rep]
    exact .inl ⟨rfl, _, _, rfl⟩
  · simp only [if_true] at hm
    rw [hz] at hx
    obtain ⟨F, hF⟩ := choose_lt (α := V) (n := len) (p := fun i X => Q X ∧ ∃ c, c.length = z ∧ (∀ j, j < z → W.cell? ((a.add (i * z)).add j) = c[j]?) ∧ Rep W (thereW W) X c) (fun i hi => by
      obtain ⟨c, h1, h2⟩ := hx i (by omega)
      obtain ⟨_, h3, h4⟩ := World.cells?_some h1
      obtain ⟨X, hQ, hR⟩ := he _ _ _ h2
      exact ⟨X, hQ, c, h3, h4, hR⟩)
    refine ⟨(List.range len).map F, fun X hX => ?_, ?_⟩
    · obtain ⟨i, hi, rfl⟩ := List.mem_map.1 hX
      exact (hF i (List.mem_range.1 hi)).1
    · rw [Rep]
      by_cases hl0 : len = 0
      · subst hl0
        exact .inl ⟨rfl, _, _, rfl⟩
      · obtain ⟨b, off, spot⟩ := a
        obtain ⟨_, c, hcl, hc, _⟩ := hF 0 (by omega)
        have h0 := hc 0 hz0
        rw [List.getElem?_eq_getElem (by omega)] at h0
        have hspot : spot = none := by simpa [Addr.add] using World.cell?_spot h0
        subst hspot
        have hb : b < W.heap.size := by
          refine Nat.lt_of_not_le fun hle => ?_
          simp [World.cell?, Addr.add, Array.getElem?_eq_none hle] at h0
        refine .inr ⟨b, off, cap, by simpa using hl, ⟨hb, trivial⟩, by simp, ?_⟩
        have key : ∀ d s, s + d = len → RepRow W (thereW W) b z (off + s * z) ((List.range' s d).map F) := by
          intro d
          induction d with
          | zero => intro s _; rw [List.range'_zero, List.map_nil, RepRow]; trivial
          | succ d ih =>
            intro s hs
            rw [List.range'_succ, List.map_cons, RepRow]
            obtain ⟨_, c, hcl, hc, hR⟩ := hF s (by omega)
            refine ⟨⟨c, hcl, fun j hj => ?_, hR⟩, ?_⟩
            · have := hc j hj
              rw [add_plain, add_plain] at this
              exact this
            · have := ih (s + 1) (by omega)
              rw [Nat.succ_mul, ← Nat.add_assoc] at this
              exact this
        have := key len 0 (by omega)
        rw [Nat.zero_mul, Nat.add_zero, ← List.range_eq_range'] at this
        exact this

/-- A struct of two. -/
theorem o_two {t : TypeId} {f0 f1 : Field} {Q0 Q1 : V → Prop} (ht : P.underlying t = some (.struct #[f0, f1])) (h00 : f0.offset = 0) (h01 : f1.offset = P.cellsOf f0.type) (hc : P.cellsOf t = P.cellsOf f0.type + P.cellsOf f1.type)
    (he0 : ∀ n cs x, DataW.trod enc P W 0 (fun _ => true) true n f0.type cs = some x → ∃ X, Q0 X ∧ Rep W (thereW W) X cs)
    (he1 : ∀ n cs x, DataW.trod enc P W 0 (fun _ => true) true n f1.type cs = some x → ∃ X, Q1 X ∧ Rep W (thereW W) X cs)
    {n : Nat} {cs : List Value} {x : DataW H × List MemPlace} (h : DataW.trod enc P W 0 (fun _ => true) true n t cs = some x) :
    ∃ X Y, Q0 X ∧ Q1 Y ∧ Rep W (thereW W) (.agg [X, Y]) cs := by
  obtain ⟨y0, y1, k, _, hl, h0, h1⟩ := trod_struct2 ht h
  obtain ⟨X, hX, rX⟩ := he0 _ _ _ h0
  obtain ⟨Y, hY, rY⟩ := he1 _ _ _ h1
  refine ⟨X, Y, hX, hY, ?_⟩
  rw [Rep, RepL]
  refine ⟨_, cs.drop (P.cellsOf f0.type), ?_, rX, ?_⟩
  · rw [h00, List.drop_zero, List.take_append_drop]
  · rw [RepL]
    refine ⟨_, [], ?_, rY, by rw [RepL]⟩
    rw [List.append_nil, h01, List.take_of_length_le]
    rw [List.length_drop, hl, hc]
    omega

theorem all_map {A : Type} {f : A → V} {q : A → Prop} : ∀ {xs : List V}, (∀ X ∈ xs, ∃ a, q a ∧ X = f a) → ∃ l : List A, (∀ a ∈ l, q a) ∧ xs = l.map f
  | [], _ => ⟨[], (fun a ha => by cases ha), rfl⟩
  | X :: r, h => by
    obtain ⟨m, hm, rfl⟩ := h X (by simp)
    obtain ⟨l, hl, rfl⟩ := all_map (xs := r) (fun X hX => h X (by simp [hX]))
    refine ⟨m :: l, fun a ha => ?_, rfl⟩
    rcases List.mem_cons.1 ha with rfl | ha
    · exact hm
    · exact hl a ha

theorem o_words {t e : TypeId} {k : IntKind} (ht : P.underlying t = some (.slice e)) (he : P.underlying e = some (.int k)) (hc : P.cellsOf e = 1) {n : Nat} {cs : List Value} {x : DataW H × List MemPlace} (h : DataW.trod enc P W 0 (fun _ => true) true n t cs = some x) :
    ∃ X, (∃ l : List Int, (∀ n ∈ l, (Lit.int k n).wf = true) ∧ X = .sl 1 (l.map fun n => .int k n)) ∧ Rep W (thereW W) X cs := by
  obtain ⟨xs, h1, h2⟩ := o_slice (z := 1) (Q := fun X => ∃ m : Int, (Lit.int k m).wf = true ∧ X = .int k m) ht hc (by decide) (fun n cs x h => by
    obtain ⟨m, hm, hr⟩ := o_int he h
    exact ⟨_, ⟨m, hm, rfl⟩, hr⟩) h
  have hl : ∃ l : List Int, (∀ n ∈ l, (Lit.int k n).wf = true) ∧ xs = l.map fun n => .int k n := all_map h1
  obtain ⟨l, hl, rfl⟩ := hl
  exact ⟨_, ⟨l, hl, rfl⟩, h2⟩

/-- A row of rows of numbers that came in. -/
theorem openII {t e u : TypeId} {k : IntKind} {v : Value} {d : DataW H} {ps : List MemPlace} {r : Reach} {b0 : Nat} (ht : P.underlying t = some (.slice e)) (he : P.underlying e = some (.slice u)) (hu : P.underlying u = some (.int k)) (hc : P.cellsOf e = 1) (hcu : P.cellsOf u = 1)
    (hval : Value.okWide P W r b0 t v) (h : DataW.Trod enc P W 0 (fun _ => true) true t v d ps) :
    ∃ ls : List (List Int), (∀ l ∈ ls, ∀ n ∈ l, (Lit.int k n).wf = true) ∧ ArgRep W (fun _ => True) (.v (.sl 1 (ls.map fun l => .sl 1 (l.map fun n => .int k n)))) v := by
  obtain ⟨a0, len, cap, rfl⟩ := okWide_slice ht hval
  obtain ⟨fuel, hf⟩ := h
  obtain ⟨xs, h1, h2⟩ := o_slice (z := 1) ht hc (by decide) (fun n cs x h => o_words he hu hcu h) hf
  have hl : ∃ ls : List (List Int), (∀ l ∈ ls, ∀ n ∈ l, (Lit.int k n).wf = true) ∧ xs = ls.map fun l => .sl 1 (l.map fun n => .int k n) := all_map h1
  obtain ⟨ls, hls, rfl⟩ := hl
  refine ⟨ls, hls, ?_⟩
  rw [ArgRep]
  exact ⟨_, h2, rfl⟩

/-- A row of whole numbers that came in. -/
theorem openZ {t e u q b : TypeId} {f0 f1 : Field} {k : IntKind} {v : Value} {d : DataW H} {ps : List MemPlace} {r : Reach} {b0 : Nat} (ht : P.underlying t = some (.slice e)) (he : P.underlying e = some (.struct #[f0, f1]))
    (h0 : f0.type = b) (h1 : f1.type = q) (hb : P.underlying b = some .bool) (hq : P.underlying q = some (.slice u)) (hu : P.underlying u = some (.int k)) (h00 : f0.offset = 0) (h01 : f1.offset = 1) (hc : P.cellsOf e = 2) (hcb : P.cellsOf b = 1) (hcq : P.cellsOf q = 1) (hcu : P.cellsOf u = 1)
    (hval : Value.okWide P W r b0 t v) (h : DataW.Trod enc P W 0 (fun _ => true) true t v d ps) :
    ∃ ls : List (Bool × List Int), (∀ l ∈ ls, ∀ n ∈ l.2, (Lit.int k n).wf = true) ∧ ArgRep W (fun _ => True) (.v (.sl 2 (ls.map fun l => .agg [.bool l.1, .sl 1 (l.2.map fun n => .int k n)]))) v := by
  obtain ⟨a0, len, cap, rfl⟩ := okWide_slice ht hval
  obtain ⟨fuel, hf⟩ := h
  subst h0 h1
  obtain ⟨xs, h1, h2⟩ := o_slice (z := 2) (Q := fun X => ∃ l : Bool × List Int, (∀ n ∈ l.2, (Lit.int k n).wf = true) ∧ X = .agg [.bool l.1, .sl 1 (l.2.map fun n => .int k n)]) ht hc (by decide) (fun n cs x h => by
    obtain ⟨X, Y, ⟨b, rfl⟩, ⟨l, hl, rfl⟩, hr⟩ := o_two (Q0 := fun X => ∃ b, X = .bool b) he h00 (by rw [h01, hcb]) (by rw [hc, hcb, hcq]) (fun n cs x h => by
      obtain ⟨b, hb⟩ := o_bool hb h
      exact ⟨_, ⟨b, rfl⟩, hb⟩) (fun n cs x h => o_words hq hu hcu h) h
    exact ⟨_, ⟨(b, l), hl, rfl⟩, hr⟩) hf
  have hl : ∃ ls : List (Bool × List Int), (∀ l ∈ ls, ∀ n ∈ l.2, (Lit.int k n).wf = true) ∧ xs = ls.map fun l => .agg [.bool l.1, .sl 1 (l.2.map fun n => .int k n)] := all_map h1
  obtain ⟨ls, hls, rfl⟩ := hl
  refine ⟨ls, hls, ?_⟩
  rw [ArgRep]
  exact ⟨_, h2, rfl⟩
end Go.Proofs.YtobacemgcjnahaaGreatDoor.L
/-
  Marks of new memory forgotten; arrays of elements of one size.
-/
namespace Go.Proofs.YtobacemgcjnahaaGreatDoor.L
open Go Go.RowKit

section
variable {P : Program} {cx : Cx} {w0 : World} {σ : St} {ro : Option Nat} {Px : Px P} {ops : Array Oper} {T : Tab} {ρ : Nat → List R} {y : Code} {Q : Exit → St → Prop}
/-- A region that draws, what its operations look at told, and what follows. -/
theorem Holds.dstepT {id : Nat} {p : Prop} {t : List (List Nat × List Nat)} (fl : List (Nat × Nat)) {σ' : St} (hm : P.follows .mixedOrders = true) (hs : drawS ops σ.nt fl = true) (hzt : T = Px.tab) (he : evalOps P T ρ ops ops.toList σ = some (σ', p)) (hp : p)
    (hl : disjL (ops.toList.map (letters ρ)) = true) (hf : (ops.toList.map (letters ρ)).all (fun l => l.all σ.freshB) = true) (ht : trc P T ρ ops ops.toList σ = t) (hfl : flOk t fl = true)
    (h : Holds P ro cx w0 y σ' Q) : Holds P ro cx w0 ((Code.region id ops true).seq y) σ Q :=
  Holds.dstep (Px := Px) fl hm hs hzt he hp hl hf (by rw [ht]; exact hfl) h
end

def AV.dim : AV → AV
  | .v _ x => .v false x
  | X => X
def Blk.dim : Blk → Blk
  | .buf e z _ xs => .buf e z false xs
  | .box e X => .box e X.dim
  | .dead => .dead

theorem RepRow.dim {cx : Cx} {w : World} {N : Nat} {μ : Sites} {nw : Bool} {b sz : Nat} : ∀ {o : Nat} {xs : List V}, RepRow w (okOf cx N μ nw) b sz o xs → RepRow w (okOf cx N μ false) b sz o xs
  | _, [], _ => by rw [RepRow]; trivial
  | _, _ :: _, h => by
    rw [RepRow] at h ⊢
    obtain ⟨⟨a, h1, h2, h3⟩, h4⟩ := h
    exact ⟨⟨a, h1, h2, Rep.weak (by simp) h3⟩, RepRow.dim h4⟩

theorem AV.dim_isV {X : AV} : X.dim.isV = X.isV := by cases X <;> rfl

theorem Rel.dim {cx : Cx} {w0 w : World} {σ : St} {a : Act} (h : Rel cx w0 σ a w) :
    Rel cx w0 { nt := σ.nt, env := σ.env.map fun p => (p.1, p.2.dim), mem := σ.mem.map fun p => (p.1, p.2.dim), root := σ.root, fix := σ.fix, defs := σ.defs } a w := by
  obtain ⟨hd, μ, h⟩ := h
  have hG : GoesC w μ w μ := ⟨Nat.le_refl _, fun _ _ _ _ hv => hv, fun t b c ht => .inl ⟨t, c, ht⟩⟩
  have lm : ∀ (l : List (Nat × Blk)) t, look (l.map fun p => (p.1, p.2.dim)) t = (look l t).dim := by
    intro l t
    induction l with
    | nil => rfl
    | cons p r ih => rw [List.map_cons, look, look]; split <;> first | rfl | exact ih
  have le : ∀ (l : List (Nat × AV)) t, look (l.map fun p => (p.1, p.2.dim)) t = (look l t).dim := by
    intro l t
    induction l with
    | nil => rfl
    | cons p r ih => rw [List.map_cons, look, look]; split <;> first | rfl | exact ih
  obtain ⟨at', hat'⟩ : ∃ at' : Nat → Blk, at' = fun t => (σ.at t).dim := ⟨_, rfl⟩
  have hat2 : St.at { nt := σ.nt, env := σ.env.map fun p => (p.1, p.2.dim), mem := σ.mem.map fun p => (p.1, p.2.dim), root := σ.root, fix := σ.fix, defs := σ.defs } = at' := by
    funext t
    rw [hat']
    exact lm σ.mem t
  have hfits : ∀ t, (σ.at t).fits (at' t) := fun t => by
    rw [hat']
    simp only
    cases σ.at t <;> simp [Blk.fits, Blk.dim]
  have hA : ∀ {X : AV} {v : Value}, RepA cx w μ σ.at X v → RepA cx w μ at' X v := fun hx => RepA.goes hG (fun s _ => .inr ⟨rfl, hfits s⟩) hx
  have hD : ∀ {X : AV} {v : Value}, RepA cx w μ at' X v → RepA cx w μ at' X.dim v := fun {X v} hx => by
    cases X with
    | v nw x =>
      rw [AV.dim]
      rw [RepA] at hx ⊢
      obtain ⟨cs, h1, h2⟩ := hx
      exact ⟨cs, Rep.weak (by simp) h1, h2⟩
    | _ => exact hx
  refine ⟨hd, μ, h.below, h.hB, h.gl, h.size, h.sites, fun s => ?_, fun t => ?_, fun p hp => ?_, h.fix⟩
  · rw [hat2]
    have hm := h.mem s
    have hs : at' s = (σ.at s).dim := by rw [hat']
    rw [hs]
    cases hb : σ.at s with
    | dead => rw [hb] at hm; exact hm
    | buf e z nw xs =>
      rw [hb] at hm
      rw [Blk.dim]
      rw [RepB] at hm ⊢
      rcases hm with hm | ⟨b, cap, cur, m1, m2, m3, m4, m5, m6⟩
      · exact .inl hm
      · exact .inr ⟨b, cap, cur, m1, m2, m3, m4, m5, RepRow.dim m6⟩
    | box e X =>
      rw [hb] at hm
      rw [Blk.dim]
      rw [RepB] at hm ⊢
      obtain ⟨b, cap, cur, val, m1, m2, m3, m4, m5⟩ := hm
      exact ⟨b, cap, cur, val, m1, m2, hD (hA m3), m4, fun hv => m5 (by rw [AV.dim_isV] at hv; exact hv)⟩
  · rw [hat2]
    rw [show St.get { nt := σ.nt, env := σ.env.map fun p => (p.1, p.2.dim), mem := σ.mem.map fun p => (p.1, p.2.dim), root := σ.root, fix := σ.fix, defs := σ.defs } t = (σ.get t).dim from le σ.env t]
    exact hD (hA (h.env t))
  · rw [hat2]
    exact hA (h.roots p hp)

theorem isAgg_agg (fs : List V) : (V.agg fs).isAgg = true := rfl
theorem isAgg_int (k : IntKind) (n : Int) : (V.int k n).isAgg = false := rfl
theorem isAgg_bool (b : Bool) : (V.bool b).isAgg = false := rfl
theorem isAgg_sl (z : Nat) (xs : List V) : (V.sl z xs).isAgg = false := rfl
theorem flat_agg (fs : List V) : (V.agg fs).flat = false := rfl
theorem flat_int (k : IntKind) (n : Int) : (V.int k n).flat = true := rfl
theorem flat_bool (b : Bool) : (V.bool b).flat = true := rfl
theorem flat_sl (z : Nat) (xs : List V) : (V.sl z xs).flat = false := rfl

theorem off_all {z : Nat} : ∀ {xs : List V} {k : Nat}, (∀ x ∈ xs, x.size = z) → k ≤ xs.length → V.off xs k = k * z
  | [], 0, _, _ => by rw [V.off, Nat.zero_mul]
  | _ :: _, 0, _, _ => by rw [V.off, Nat.zero_mul]
  | [], _ + 1, _, h => by simp at h
  | x :: r, k + 1, hx, h => by
    rw [V.off, off_all (fun y hy => hx y (by simp [hy])) (by simpa using h), hx x (by simp), Nat.succ_mul, Nat.add_comm]
end Go.Proofs.YtobacemgcjnahaaGreatDoor.L
/-
  Calls that turn a variable of the caller's own: methods with pointer receivers.
-/
namespace Go.Proofs.YtobacemgcjnahaaGreatDoor.L
open Go Go.RowKit

/-- Results that lead to no block of the call's own. -/
def mres : List V → AV
  | [x] => .v true x
  | xs => .tup (xs.map (.v true))

/-- Handed a pointer to a variable of the caller's own, which reads as x, and these values: it comes back with those, the variable reads as x', and all else that the caller knows stands. -/
def MutOk (P : Program) (f : FuncId) (t : TypeId) (x : V) (args : List V) (x' : V) (rs : List V) : Prop :=
  ∀ (cx : Cx) (w0 : World) (σ : St) (tmps : Array Value) (w : World) (μ : Sites) (s b c : Nat) (vs : List Value), RelM cx w0 σ tmps w μ → small σ = true → σ.at s = .box t (.v true x) → μ s = some (b, c) →
    RepAL cx w μ σ.at (args.map (.v true)) vs →
    CallsV P f (Value.pointer (some ⟨b, 0, none⟩) :: vs).toArray w fun e w' => ∃ val μ', e = .returned val ∧ RelM cx w0 (σ.upd [(s, .box t (.v true x'))]) tmps w' μ' ∧ RepA cx w' μ' (σ.upd [(s, .box t (.v true x'))]).at (mres rs) val

/-- The state in which such a function begins. -/
def mutSt (m s : Nat) (t : TypeId) (x : V) (args : List V) (M : List (Nat × Blk)) (Rt : List (AV × Value)) (F : List (Nat × Obj)) : St :=
  { nt := (args.length + 1) + (m - (args.length + 1)), env := (AV.ptr s 0 [] 0 :: args.map (.v true)).zipIdx.map fun p => (p.2, p.1), mem := (s, .box t (.v true x)) :: M, root := Rt, fix := F }

/-- How it ends. -/
def mutQ (P : Program) (fn : Func) (s : Nat) (t : TypeId) (x' : V) (rs : List V) (M : List (Nat × Blk)) (Rt : List (AV × Value)) (F : List (Nat × Obj)) : Exit → St → Prop := fun e σ =>
  (e = .ret ∨ e = .normal) ∧ σ.defs = [] ∧ σ.root = Rt ∧ σ.fix = F ∧ (∀ q, look σ.mem q = look ((s, .box t (.v true x')) :: M) q) ∧ resAVs P σ.at σ.get fn.results.toList = some (rs.map (.v true))

section
variable {P : Program} {cx : Cx} {w0 w w' : World} {σ σ1 σ' : St} {a : Act} {μ : Sites} {ro : Option Nat} {n : Nat} {Px : Px P} {ops : Array Oper} {T : Tab} {ρ : Nat → List R}

theorem MutOk.of {f : FuncId} {fn : Func} {body : Code} {t : TypeId} {x x' : V} {args rs : List V} (hf : P.funcs[f]? = some fn) (hb : fn.body = some body) (hname : (fn.name == "runtime.NumGoroutine") = false)
    (h : ∀ (cx : Cx) (w0 : World) (s : Nat) (M : List (Nat × Blk)) (Rt : List (AV × Value)) (F : List (Nat × Obj)), Holds P none cx w0 body (mutSt fn.ntmps s t x args M Rt F) (mutQ P fn s t x' rs M Rt F)) : MutOk P f t x args x' rs := by
  intro cx w0 σ tmps w μ s b c vs hr hsm hat hμ hv
  left
  refine ⟨?_, ?_⟩
  · have hn : ¬fn.name = "runtime.NumGoroutine" := fun h => by simp [h] at hname
    simp [callFunc, hf, hn, hb]
  · refine callsIn_wide.1 (callsIn_of_wp_marks (n := 0) hf hb trivial ?_)
    have hti : tmps.size = σ.nt := hr.size
    have hptr : RepA cx w μ σ.at (.ptr s 0 [] 0) (.pointer (some ⟨b, 0, none⟩)) := by rw [RepA, hat]; exact ⟨b, c, hμ, rfl⟩
    have hX : RepAL cx w μ σ.at (AV.ptr s 0 [] 0 :: args.map (.v true)) (Value.pointer (some ⟨b, 0, none⟩) :: vs) := by rw [RepAL]; exact ⟨_, _, rfl, hptr, hv⟩
    have hl : vs.length = args.length := by have := repAL_length hv; rw [List.length_map] at this; exact this.symm
    have h1 := hr.enter (m := fn.ntmps) hX
    have h2 : Rel cx w0 (mutSt fn.ntmps s t x args σ.mem (σ.held tmps ++ σ.root) σ.fix) { tmps := (Value.pointer (some ⟨b, 0, none⟩) :: vs).toArray ++ Array.replicate (fn.ntmps - (Value.pointer (some ⟨b, 0, none⟩) :: vs).toArray.size) undef, defers := [] } w := by
      refine ⟨DefOk.nil, μ, h1.ext ⟨?_, fun _ => rfl, fun q => ?_, rfl, rfl, rfl⟩⟩
      · show (vs.length + 1) + (fn.ntmps - (vs.length + 1)) = _
        rw [hl]; rfl
      · show look σ.mem q = look ((s, _) :: σ.mem) q
        rw [look]
        split
        · next he => rw [← he]; exact hat
        · rfl
    refine wpIn_mono (h cx w0 s σ.mem _ σ.fix _ _ h2) ?_
    rintro e a w' ⟨σ', ⟨he, hd, hroot, hfix, hmem, hres⟩, ⟨_, hD2, _⟩, μ', hr'⟩
    have fin : LeavesInM Fence.wide 0 P fn a.tmps (fun e w' => ∃ val μ', e = .returned val ∧ RelM cx w0 (σ.upd [(s, .box t (.v true x'))]) tmps w' μ' ∧ RepA cx w' μ' (σ.upd [(s, .box t (.v true x'))]).at (mres rs) val) a.defers .returning w' := by
      rw [hD2, hd]
      obtain ⟨us, k1, k2⟩ := results_ok hr' hres
      refine ⟨_, k1, _, μ', rfl, ?_, ?_⟩
      · have h7 := hr'.turn (tb := tmps) (gs := σ.held tmps) (fun p hp => by rw [hroot]; exact List.mem_append_left _ hp) (held_vals hti)
        have h8 := h7.lessRoot (root' := σ.root) (fun p hp => List.mem_append_right _ (by rw [hroot]; exact List.mem_append_right _ hp))
        have h9 := h8.defs σ.defs
        refine h9.ext ⟨hti, fun q => ?_, fun q => hmem q, rfl, hfix, rfl⟩
        rcases Nat.lt_or_ge q σ.nt with hq | hq
        · exact look_held hq
        · rw [show (σ.upd [(s, Blk.box t (.v true x'))]).get q = σ.get q from rfl, small_get hsm hq]
          exact look_held_out hq
      · have e : σ'.at = (σ.upd [(s, .box t (.v true x'))]).at := funext hmem
        rw [← e]
        match rs, k2 with
        | [], k2 =>
          rw [List.map_nil, RepAL] at k2
          subst k2
          show RepA cx w' μ' σ'.at (.tup []) _
          rw [RepA]
          exact ⟨[], rfl, by rw [RepAL]⟩
        | [r], k2 =>
          rw [List.map_cons, List.map_nil, RepAL] at k2
          obtain ⟨v, vr, rfl, m1, m2⟩ := k2
          rw [RepAL] at m2
          subst m2
          exact m1
        | r1 :: r2 :: r3, k2 =>
          have h0 := k2
          rw [List.map_cons, RepAL] at k2
          obtain ⟨v, vr, rfl, m1, m2⟩ := k2
          rw [List.map_cons, RepAL] at m2
          obtain ⟨v2, vr2, rfl, m3, m4⟩ := m2
          show RepA cx w' μ' σ'.at (.tup ((r1 :: r2 :: r3).map (.v true))) _
          rw [RepA]
          exact ⟨v :: v2 :: vr2, rfl, h0⟩
    rcases he with rfl | rfl
    · exact fin
    · exact fin

theorem opvs_ok (h : RelM cx w0 σ a.tmps w μ) : ∀ (l : List Operand), RepAL cx w μ σ.at (l.map σ.opv) (l.map a.eval)
  | [] => by rw [List.map_nil, List.map_nil, RepAL]
  | y :: r => by rw [List.map_cons, List.map_cons, RepAL]; exact ⟨_, _, rfl, opv_ok h y, opvs_ok h r⟩

theorem callM_ok {o : Oper} {next : Act → World → Prop} {Q : Exit → Act → World → Prop} {f : FuncId} {d s : Nat} {t : TypeId} {x x' : V} {xs rs : List V} {args : Array Operand} {ats : Array TypeId} (h : Rel cx w0 σ a w) (ho : o.op = .call { callee := .value (.func f), args, argTypes := ats }) (hd' : o.dst = some d) (hn : d < σ.nt)
    (hsm : small σ = true) (hat : σ.at s = .box t (.v true x)) (ha : args.toList.map σ.opv = AV.ptr s 0 [] 0 :: xs.map (.v true)) (hp : MutOk P f t x xs x' rs)
    (hk : ∀ a' w', Rel cx w0 ((σ.upd [(s, .box t (.v true x'))]).put o.dst (mres rs)) a' w' → next a' w') : o.wpIn (FF ro) n P a w next Q := by
  obtain ⟨hdf, μ, h⟩ := h
  have hd : ∀ c, o.op ≠ .defer c := by rw [ho]; simp
  have hv := opvs_ok h args.toList
  rw [ha, RepAL] at hv
  obtain ⟨v, vs, hvs, hptr, hv⟩ := hv
  rw [RepA, hat] at hptr
  obtain ⟨b, c, hμ, rfl⟩ := hptr
  have hcall := hp cx w0 σ a.tmps w μ s b c vs h hsm hat hμ hv
  have e1 : (Value.pointer (some ⟨b, 0, none⟩) :: vs).toArray = args.map a.eval := by rw [← hvs, ← Array.toList_map]
  rw [e1] at hcall
  have key : ∀ r : Result Next, (callFunc f (args.map a.eval)).run P w = r → (execOp a.eval o).run P w = r := fun r hr => by
    simp only [execOp, ho, resolve, Act.eval, Deferred.ofValue, invoke, Sem.run_bind, Sem.run_pure, Result.andThen_ok, Array.empty_append, Array.append_empty]
    exact hr
  rw [hd'] at hk
  have fin : ∀ val w', (∃ μ', RelM cx w0 (σ.upd [(s, .box t (.v true x'))]) a.tmps w' μ' ∧ RepA cx w' μ' (σ.upd [(s, .box t (.v true x'))]).at (mres rs) val) → next (a.put o.dst val) w' := by
    rintro val w' ⟨μ', k1, k2⟩
    exact hk _ _ (rel_put hdf hd' hn k1 k2)
  rcases hcall with ⟨h1, h2⟩ | ⟨v, w', h1, val, μ', h2, h3, h4⟩
  · refine ⟨fun _ _ => trivial, ?_⟩
    rw [Oper.semAt_eq _ _ _ hd, key _ h1]
    rw [Oper.uponIn_enter]
    refine ⟨FF_depth, callsIn_of (h2.mono ?_)⟩
    rintro e w' ⟨val, μ', rfl, h3, h4⟩
    exact fin val w' ⟨μ', h3, h4⟩
  · cases h2
    exact wpIn_val hd (key _ h1) (fin _ _ ⟨μ', h3, h4⟩)

/-- A region with such a call. -/
theorem Holds.regionM {Q : Exit → St → Prop} {id k : Nat} {p1 : Prop} {o : Oper} {f : FuncId} {s : Nat} {t : TypeId} {x x' : V} {xs rs : List V} {args : Array Operand} {ats : Array TypeId} {d : Nat} (hzt : T = Px.tab) (h1 : evalOps P T ρ ops (ops.toList.take k) σ = some (σ1, p1)) (hp1 : p1) (hk : ops[k]? = some o) (hgd : wantA ops σ1 o = some true)
    (ho : o.op = .call { callee := .value (.func f), args, argTypes := ats }) (hd' : o.dst = some d) (hn : d < σ1.nt) (hsm : small σ1 = true) (hat : σ1.at s = .box t (.v true x)) (ha : args.toList.map σ1.opv = AV.ptr s 0 [] 0 :: xs.map (.v true)) (hp : MutOk P f t x xs x' rs)
    (hrest : ∃ σ3 p3, evalOps P T ρ ops (ops.toList.drop (k + 1)) ((σ1.upd [(s, .box t (.v true x'))]).set d (mres rs)) = some (σ3, p3) ∧ p3 ∧ Q .normal σ3) :
    Holds P ro cx w0 (.region id ops false) σ Q := fun a w h => wpIn_region (by
  have hlt : k < ops.size := (Array.getElem?_eq_some_iff.1 hk).1
  have hl1 : (ops.toList.take k).length = k := by rw [List.length_take, Array.length_toList]; omega
  have hl2 : (ops.toList.drop (k + 1)).length = ops.size - (k + 1) := by rw [List.length_drop, Array.length_toList]
  have hr : List.range ops.size = List.range' 0 (ops.toList.take k).length ++ (k :: (List.range' (k + 1) (ops.toList.drop (k + 1)).length ++ [])) := by
    have e := List.range'_append_1 (s := 0) (m := k) (n := ops.size - (k + 1) + 1)
    rw [Nat.zero_add] at e
    rw [hl1, hl2, List.append_nil, List.range_eq_range', ← List.range'_succ, e]
    congr 1
    omega
  rw [hr]
  refine evalPart_ok (Px := Px) (T := T) (ρ := ρ) hzt (ops.toList.take k) 0 (fun j hj => ?_) h h1 hp1 fun a1 w1 hrel => ?_
  · rw [List.getElem?_take_of_lt (by omega), Nat.zero_add, Array.getElem?_toList]
  · simp only [wpOpsIn, hk]
    rw [want_ok hrel hgd, if_pos rfl]
    obtain ⟨σ3, p3, h4, h5, h6⟩ := hrest
    refine callM_ok hrel ho hd' hn hsm hat ha hp fun a' w' hrel' => ?_
    rw [hd'] at hrel'
    refine evalPart_ok (Px := Px) (T := T) (ρ := ρ) hzt (ops.toList.drop (k + 1)) (k + 1) (fun j hj => ?_) hrel' h4 h5 fun a'' w'' hrel'' => ?_
    · rw [List.getElem?_drop, Array.getElem?_toList]
    · exact ⟨σ3, h6, hrel''⟩)

/-- What holds of the memory may be told in another list. -/
theorem Rel.memEq {mem' : List (Nat × Blk)} (h : Rel cx w0 σ a w) (he : ∀ q, look σ.mem q = look mem' q) : Rel cx w0 { σ with mem := mem' } a w :=
  ⟨h.1, h.2.imp fun _ k => k.ext ⟨rfl, fun _ => rfl, he, rfl, rfl, rfl⟩⟩
/-- Some temporaries are told further, the memory as it is. -/
theorem Rel.keepE (ts : List Nat) (h : Rel cx w0 σ a w) : Rel cx w0 { σ with env := ts.map fun t => (t, σ.get t) } a w := by
  classical
  obtain ⟨hdf, μ, h⟩ := h
  refine ⟨hdf, μ, h.below, h.hB, h.gl, h.size, h.sites, h.mem, fun t => ?_, h.roots, h.fix⟩
  show RepA cx w μ σ.at (look (ts.map fun t => (t, σ.get t)) t) _
  by_cases ht : t ∈ ts
  · rw [look_map ht]; exact h.env t
  · rw [look_map_out ht]
    show RepA cx w μ σ.at .undef _
    rw [RepA]; trivial
end
end Go.Proofs.YtobacemgcjnahaaGreatDoor.L
/-
  Calls told by worlds: from and to walks of the kit.
-/
namespace Go.Proofs.YtobacemgcjnahaaGreatDoor.L
open Go Go.RowKit

/-- One block is turned into o; all else that was there stands. -/
structure Turned (b : Nat) (o : Obj) (w w' : World) : Prop where
  os : w'.os = w.os
  tape : w'.tape = w.tape
  output : w'.output = w.output
  size : w.heap.size ≤ w'.heap.size
  block : ∀ k, k < w.heap.size → k ≠ b → w'.heap[k]? = w.heap[k]?
  it : w'.heap[b]? = some o

section
variable {P : Program} {cx : Cx} {w0 w w' : World} {σ : St} {tmps : Array Value} {μ : Sites}

theorem Turned.goes {b c s : Nat} {o o' : Obj} (h : RelM cx w0 σ tmps w μ) (hμ : μ s = some (b, c)) (hb : w.heap[b]? = some o') (ho' : o'.isCells = true) (ht : Turned b o w w') : Goes w μ w' μ where
  size := ht.size
  cell := fun k o v hk hv => by
    rw [← hv]
    have : k < w.heap.size := by
      have : w.heap[k]? ≠ none := fun hn => by simp [World.cell?, hn] at hv
      exact Nat.lt_of_not_le fun hle => this (Array.getElem?_eq_none hle)
    exact World.cell?_of_block (w := w) (a := ⟨k, o, none⟩) (ht.block k this (fun e => hk s c (by rw [hμ, e])))
  blocks := fun s b c hs => .inl ⟨s, c, hs⟩
  other := fun k o hk ho => by
    have h1 : k < w.heap.size := (Array.getElem?_eq_some_iff.1 hk).1
    rw [ht.block k h1 (fun e => by rw [e, hb] at hk; cases hk; rw [ho] at ho'; cases ho'), hk]

theorem RelM.turned {s b c : Nat} {t : TypeId} {x x' : V} {cs' : List Value} (h : RelM cx w0 σ tmps w μ) (hat : σ.at s = .box t (.v true x)) (hμ : μ s = some (b, c)) (ht : Turned b (.cells cs'.toArray t (0, 0)) w w')
    (hx' : Rep w' (okOf cx w'.heap.size μ true) x' cs') : RelM cx w0 (σ.upd [(s, .box t (.v true x'))]) tmps w' μ := by
  have hm := h.mem s
  rw [hat] at hm
  obtain ⟨b', cap, cur, val, m1, m2, m3, m4, m5⟩ := hm
  rw [hμ] at m1
  cases m1
  have hG := ht.goes h hμ m2 rfl
  have hlo := h.sites.lo s b c hμ
  have at_eq : ∀ t', (σ.upd [(s, Blk.box t (.v true x'))]).at t' = if s = t' then .box t (.v true x') else σ.at t' := fun _ => rfl
  refine h.next hG (h.below.trans ⟨ht.os, ht.tape, ht.output, ht.size, fun k hk => ?_⟩) ⟨fun s b c hs => ?_, h.sites.inj⟩ (fun q => ?_) (fun q => ?_)
  · have := h.below.size
    refine ht.block k (by omega) (fun e => ?_)
    rw [h.hB] at hk
    omega
  · have := h.sites.lo s b c hs
    have := ht.size
    omega
  · rw [at_eq]
    by_cases hq : s = q
    · subst hq
      right
      rw [if_pos rfl]
      exact ⟨b, c, cs'.toArray, x'.toVal cs', hμ, ht.it, by rw [RepA]; exact ⟨cs', hx', rfl⟩, by rw [Rep.cells hx'], fun h => by cases h⟩
    · left
      rw [if_neg hq]
      exact ⟨rfl, rfl, fun b2 c2 h2 => ht.block b2 (h.sites.lo q b2 c2 h2).2 (fun e => hq (h.sites.inj s q b c c2 hμ (by rw [h2, e])))⟩
  · rw [at_eq]
    by_cases hq : s = q
    · subst hq
      rw [if_pos rfl, hat]
      exact .inr (.inl ⟨rfl, trivial⟩)
    · rw [if_neg hq]
      exact .inr (.inl ⟨rfl, Blk.fits_refl _⟩)

/-- A method that turns a variable of the caller's own, told by worlds. -/
theorem MutOk.plain {f : FuncId} {t : TypeId} {x x' : V} {args rs : List V} {c0 c1 vals : List Value} {val : Value} (hx : ∀ w ok cs, Rep w ok x cs → cs = c0) (hx' : ∀ w ok, Rep w ok x' c1)
    (hargs : ∀ cx w μ mem vs, RepAL cx w μ mem (args.map (.v true)) vs → vs = vals) (hres : ∀ cx w μ mem, RepA cx w μ mem (mres rs) val) (hent : ∀ vs w, (callFunc f vs).run P w = .ok (.enter f vs) w)
    (H : ∀ w b, GL w → (∀ g, isG g → g ≠ b) → b < w.heap.size → w.heap[b]? = some (.cells c0.toArray t (0, 0)) →
      Calls P f (Value.pointer (some ⟨b, 0, none⟩) :: vals).toArray w fun e w' => e = .returned val ∧ Turned b (.cells c1.toArray t (0, 0)) w w') : MutOk P f t x args x' rs := by
  intro cx w0 σ tmps w μ s b c vs hr hsm hat hμ hv
  left
  refine ⟨hent _ _, ?_⟩
  have hm := hr.mem s
  rw [hat] at hm
  obtain ⟨b', cap, cur, val', m1, m2, m3, m4, m5⟩ := hm
  rw [hμ] at m1
  cases m1
  rw [RepA] at m3
  obtain ⟨cs, k1, rfl⟩ := m3
  have e0 := hx _ _ _ k1
  rw [m4, Rep.cells k1, e0] at m2
  have hvs := hargs _ _ _ _ _ hv
  subst hvs
  have hlo := hr.sites.lo s b c hμ
  refine (H w b hr.glw (fun g hg e => ?_) hlo.2 m2).mono ?_
  · have := isG_lt hr.gl hg
    rw [hr.hB] at this
    omega
  · rintro e w' ⟨rfl, ht⟩
    exact ⟨val, μ, rfl, hr.turned hat hμ ht (hx' _ _), hres _ _ _ _⟩

theorem GL.turned {b : Nat} {o : Obj} (h : GL w) (hb : ∀ g, isG g → g ≠ b) (ht : Turned b o w w') : GL w' := fun p hp => by
  obtain ⟨h1, cs, h2, h3⟩ := h p hp
  have hc : ∀ k o v, k < w.heap.size → isG k → w.cell? ⟨k, o, none⟩ = some v → w'.cell? ⟨k, o, none⟩ = some v := fun k o v hlt hg hv => by
    rw [← hv]
    exact World.cell?_of_block (w := w) (a := ⟨k, o, none⟩) (ht.block k hlt (hb k hg))
  refine ⟨Nat.lt_of_lt_of_le h1 ht.size, cs, Rep.mono (fun b o v hb' hv => hc b o v hb'.1 hb'.2 hv) (fun b hb' => ⟨Nat.lt_of_lt_of_le hb'.1 ht.size, hb'.2⟩) h2, fun j hj => ?_⟩
  have h4 := h3 j hj
  rw [List.getElem?_eq_getElem hj] at h4 ⊢
  exact hc _ _ _ h1 ⟨_, hp⟩ h4

/-- A call with one flat result, told by worlds. -/
theorem FnOk.calls1 {f : FuncId} {args : List Arg} {nw : Bool} {y : V} {val : Value} (h : FnOk P f args [.v nw y]) (hent : ∀ vs w, (callFunc f vs).run P w = .ok (.enter f vs) w)
    (hy : ∀ w ok cs, Rep w ok y cs → y.toVal cs = val) {O : Nat → Prop} {vs : List Value} (hG : GL w) (ha : ArgsRep w O args vs) : Calls P f vs.toArray w fun e w' => e = .returned val ∧ Below w.heap.size w w' := by
  rcases h w O vs hG ha with ⟨_, h2⟩ | ⟨v, w', h1, _⟩
  · refine h2.mono ?_
    rintro e w' ⟨v, μ', rfl, h3, h4, h5, h6⟩
    refine ⟨?_, h3⟩
    rw [show R.res [R.v nw y] = .v nw y from rfl, RepA] at h6
    obtain ⟨cs, h7, rfl⟩ := h6
    rw [hy _ _ _ h7]
  · rw [hent] at h1
    cases h1

/-- .. and back. -/
theorem FnOk.plain {f : FuncId} {args : List Arg} {rs : List R} {val : Value} (hent : ∀ vs w, (callFunc f vs).run P w = .ok (.enter f vs) w) (hrs : rs.all R.isV = true) (hv : ∀ cx w μ mem, RepA cx w μ mem (R.res rs) val)
    (H : ∀ w O vs, GL w → ArgsRep w O args vs → Calls P f vs.toArray w fun e w' => e = .returned val ∧ Below w.heap.size w w') : FnOk P f args rs := by
  intro w O vs hG ha
  left
  refine ⟨hent _ _, (H w O vs hG ha).mono ?_⟩
  rintro e w' ⟨rfl, hb⟩
  have hm : R.mems rs = [] := R.mems_v hrs
  have hr : ResOk { B := w.heap.size, O } w' (fun _ => none) rs val := by
    unfold ResOk
    refine ⟨⟨fun s b c h => ?_, fun s s' b c c' h => ?_⟩, fun s => ?_, hv _ _ _ _⟩
    · cases h
    · cases h
    · rw [hm]
      show RepB _ _ _ _ _ Blk.dead
      rfl
  exact ⟨val, fun _ => none, rfl, hb, hr⟩
end
end Go.Proofs.YtobacemgcjnahaaGreatDoor.L
/-
  Scopes with a jump ahead; the first round of a range over a string.
-/
namespace Go.Proofs.YtobacemgcjnahaaGreatDoor.L
open Go Go.RowKit

section
variable {P : Program} {cx : Cx} {w0 w w' : World} {σ σ1 : St} {a : Act} {ro : Option Nat} {Q : Exit → St → Prop} {c x y rest : Code}

theorem Holds.label {l : Nat} (h : Q .normal σ) : Holds P ro cx w0 (.label l) σ Q := fun _ _ hr => wpIn_label ⟨σ, h, hr⟩
theorem Holds.goto {l : Nat} (h : Q (.goto l) σ) : Holds P ro cx w0 (.goto l) σ Q := fun _ _ hr => wpIn_goto ⟨σ, h, hr⟩

def scopeQ (l : Nat) (J : St → Prop) (Q : Exit → St → Prop) : Exit → St → Prop
  | .goto l', σ => l' = l ∧ J σ
  | e, σ => Q e σ
def calmQ (Q : Exit → St → Prop) : Exit → St → Prop
  | .goto _, _ => False
  | e, σ => Q e σ

theorem stepR_scope {b : Frame} {k : List Item} {cs : List Frame} : step P (lone (b.atR a (.code (.scope c) :: k)) cs w) = .next (lone (b.atR a (.code c :: .inScope c :: k)) cs w) :=
  step_lone_go (by simp [stepG, stepG.exec, Frame.atR])
theorem stepR_inScope {b : Frame} {k : List Item} {cs : List Frame} : step P (lone (b.atR a (.inScope c :: k)) cs w) = .next (lone (b.atR a k) cs w) :=
  step_lone_go (by simp [stepG, stepG.exec, Frame.atR])

/-- A scope; at most one jump ahead, to l. -/
theorem Holds.scope (l : Nat) (J : St → Prop) (hf : findLabel c l = some rest) (first : Holds P ro cx w0 c σ (scopeQ l J Q)) (pass : ∀ σ, J σ → Holds P ro cx w0 rest σ (calmQ Q)) : Holds P ro cx w0 (.scope c) σ Q := fun a w hr b k cs hro hb hrm => by
  have hg : gotoIn l (.inScope c :: k) = some (.code rest :: .inScope c :: k) := by simp [gotoIn, hf]
  have hx : ∀ id, exitTo id (.inScope c :: k) = exitTo id k := fun id => by simp [exitTo]
  have h0 : (lone (b.atR a (.code (.scope c) :: k)) cs w).fenced P (FF ro) := fenced_calm hb hrm rfl
  obtain ⟨e, a₁, w₁, ⟨σ₁, hq, hr₁⟩, harr⟩ := first a w hr b (.inScope c :: k) cs hro hb hrm
  cases e with
  | normal => exact ⟨.normal, a₁, w₁, ⟨σ₁, hq, hr₁⟩, .head h0 stepR_scope (StepsIn.trans harr (.one (fenced_calm hb hrm rfl) stepR_inScope))⟩
  | exit id => exact ⟨_, a₁, w₁, ⟨σ₁, hq, hr₁⟩, fun k' hk => .head h0 stepR_scope (harr.1 k' (by rw [hx]; exact hk)), fun hr' hk => let ⟨k₁, h1, h2⟩ := harr.2 hr' (by rw [hx]; exact hk); ⟨k₁, h1, .head h0 stepR_scope h2⟩⟩
  | goto l' =>
    obtain ⟨rfl, hJ⟩ := hq
    obtain ⟨e₂, a₂, w₂, ⟨σ₂, hq₂, hr₂⟩, harr₂⟩ := pass σ₁ hJ a₁ w₁ hr₁ b (.inScope c :: k) cs hro hb hrm
    have hs : StepsIn (Machine.fenced P (FF ro)) P (lone (b.atR a (.code (.scope c) :: k)) cs w) (lone (b.atR a₁ (.code rest :: .inScope c :: k)) cs w₁) := .head h0 stepR_scope (harr.1 _ hg)
    cases e₂ with
    | normal => exact ⟨.normal, a₂, w₂, ⟨σ₂, hq₂, hr₂⟩, hs.trans (StepsIn.trans harr₂ (.one (fenced_calm hb hrm rfl) stepR_inScope))⟩
    | exit id => exact ⟨_, a₂, w₂, ⟨σ₂, hq₂, hr₂⟩, fun k' hk => hs.trans (harr₂.1 k' (by rw [hx]; exact hk)), fun hr' hk => let ⟨k₁, h1, h2⟩ := harr₂.2 hr' (by rw [hx]; exact hk); ⟨k₁, h1, hs.trans h2⟩⟩
    | goto l => exact hq₂.elim
    | ret => exact ⟨_, a₂, w₂, ⟨σ₂, hq₂, hr₂⟩, .of_steps hs harr₂⟩
    | panic ch => exact ⟨_, a₂, w₂, ⟨σ₂, hq₂, hr₂⟩, .of_steps hs harr₂⟩
    | outgrown => exact ⟨_, a₂, w₂, ⟨σ₂, hq₂, hr₂⟩, .of_steps hs harr₂⟩
  | ret => exact ⟨_, a₁, w₁, ⟨σ₁, hq, hr₁⟩, .of_steps (.one h0 stepR_scope) harr⟩
  | panic ch => exact ⟨_, a₁, w₁, ⟨σ₁, hq, hr₁⟩, .of_steps (.one h0 stepR_scope) harr⟩
  | outgrown => exact ⟨_, a₁, w₁, ⟨σ₁, hq, hr₁⟩, .of_steps (.one h0 stepR_scope) harr⟩

/-! Forms that let jumps pass. -/
def midQ (M : St → Prop) (S : Exit → St → Prop) : Exit → St → Prop
  | .normal, σ => M σ
  | .exit _, _ => False
  | e, σ => S e σ
def outQ (id : Nat) (M : St → Prop) (S : Exit → St → Prop) : Exit → St → Prop
  | .normal, σ => M σ
  | .exit id', σ => id' = id ∧ M σ
  | e, σ => S e σ
def roundG {ι : Type} (s : ι → St) (I : ι → Prop) (m : ι → Nat) (i : ι) (cx : Cx) (w0 : World) (id : Nat) (M : St → Prop) (S : Exit → St → Prop) : Exit → St → Prop
  | .normal, σ => ∃ j, I j ∧ m j < m i ∧ ∀ a w, Rel cx w0 σ a w → Rel cx w0 (s j) a w
  | .exit id', σ => id' = id ∧ M σ
  | e, σ => S e σ
theorem Holds.nextG (M : St → Prop) (h : Holds P ro cx w0 x σ (midQ M Q)) (k : ∀ σ, M σ → Holds P ro cx w0 y σ Q) : Holds P ro cx w0 (x.seq y) σ Q :=
  Holds.seq (h.mono fun e σ hq => by cases e <;> first | exact k _ hq | exact hq | exact False.elim hq)
theorem Holds.blockG {id : Nat} {M : St → Prop} {S : Exit → St → Prop} (h : Holds P ro cx w0 c σ (outQ id M S)) : Holds P ro cx w0 (.block id c) σ (midQ M S) :=
  Holds.block (h.mono fun e σ hq => by
    cases e with
    | exit id' => obtain ⟨rfl, hm⟩ := hq; show (if _ then _ else _); rw [if_pos rfl]; exact hm
    | normal => exact hq
    | ret => exact hq
    | goto l => exact hq
    | panic ch => exact hq
    | outgrown => exact hq)
theorem Holds.loopG {ι : Type} {id : Nat} {M : St → Prop} {S : Exit → St → Prop} (s : ι → St) (I : ι → Prop) (m : ι → Nat) (i0 : ι) (h0 : I i0) (hs : ∀ a w, Rel cx w0 σ a w → Rel cx w0 (s i0) a w)
    (round : ∀ i, I i → Holds P ro cx w0 c (s i) (roundG s I m i cx w0 id M S)) : Holds P ro cx w0 (.block id (.loop c)) σ (midQ M S) :=
  Holds.block (Holds.loop s I m i0 h0 hs fun i hi => (round i hi).mono fun e σ hq => by
    cases e with
    | exit id' => obtain ⟨rfl, hm⟩ := hq; show (if _ then _ else _); rw [if_pos rfl]; exact hm
    | normal => exact hq
    | ret => exact hq
    | goto l => exact hq
    | panic ch => exact hq
    | outgrown => exact hq)

theorem RelM.undefT {tmps : Array Value} {μ : Sites} {d : Nat} {v : Value} (h : RelM cx w0 σ tmps w μ) (hn : d < σ.nt) : RelM cx w0 (σ.set d .undef) (tmps.setIfInBounds d v) w μ := h.put hn (by rw [RepA]; trivial)

/-- How the body of the first round ends: it leaves the loop. -/
def firstQ (Q : Exit → St → Prop) (id : Nat) : Exit → St → Prop
  | .normal, _ => False
  | .exit id', σ => if id' = id then Q .normal σ else Q (.exit id') σ
  | e, σ => Q e σ

/-- 'for _, r := range s', of which the first round alone is run. -/
theorem Holds.rangeStr {i1 i2 id : Nat} {t66 t67 t68 t69 : Nat} {ty1 ty2 ty3 ty4 ty : TypeId} {p1 p2 p3 p4 : String} {e1 e2 e3 e4 : Array Edge} {s : ByteArray} {nw : Bool} {src : Nat} {body : Code}
    (hs : σ.get src = .v nw (.str s)) (ht : P.underlying ty = some (.string)) (hpos : 0 < s.size) (h66 : t66 < σ.nt) (h67 : t67 < σ.nt) (h68 : t68 < σ.nt) (h69 : t69 < σ.nt) (hne : t67 ≠ t66) (hne2 : t69 ≠ t68) (hfix : σ.fix = []) (hdefs : σ.defs = [])
    (hbody : Holds P ro cx w0 body { σ with env := (t69, .v true (.bool true)) :: (t68, .tup [.v true (.bool true), .v true (.int .i64 0), .v true (.int .i32 (Utf8.decode s 0).1)]) :: (t67, .undef) :: (t66, .undef) :: σ.env } (firstQ Q id)) :
    Holds P ro cx w0 (((Code.region i1 #[⟨some t66, .move (.tmp src), ty1, p1, e1, none⟩, ⟨some t67, .range ty (.tmp t66), ty2, p2, e2, none⟩] false).seq
      (Code.block id (.loop ((Code.region i2 #[⟨some t68, .next (.tmp t67) true, ty3, p3, e3, none⟩, ⟨some t69, .extract (.tmp t68) 0, ty4, p4, e4, none⟩] false).seq body))))) σ Q := by
  intro a w hr
  obtain ⟨hdf, μ, h⟩ := hr
  have hv := h.env src
  rw [hs, repA_str] at hv
  have hsz : a.tmps.size = σ.nt := h.size
  have get_put : ∀ (b : Act) (d t : Nat) (v : Value), d < b.tmps.size → (b.put (some d) v).tmps.getD t undef = if d = t then v else b.tmps.getD t undef := fun b d t v hd => by
    show (b.tmps.setIfInBounds d v).getD t undef = _
    rw [Array.getD_eq_getD_getElem?, Array.getD_eq_getD_getElem?]
    by_cases he : d = t
    · subst he; rw [if_pos rfl, Array.getElem?_setIfInBounds_self, if_pos hd]; rfl
    · rw [if_neg he, Array.getElem?_setIfInBounds_ne he]
  have size_put : ∀ (b : Act) (d : Nat) (v : Value), (b.put (some d) v).tmps.size = b.tmps.size := fun b d v => by show (b.tmps.setIfInBounds d v).size = _; rw [Array.size_setIfInBounds]
  have want : ∀ (b : Act) (ops : Array Oper) (o : Oper), o.guard = none → Region.wanted o (yielded ops b.tmps) = true := fun b ops o hg => by unfold Region.wanted; rw [hg]
  have ev : ∀ (b : Act) (t : Nat), b.eval (.tmp t) = b.tmps.getD t undef := fun _ _ => rfl
  refine wpIn_seq (wpIn_region ?_)
  show wpOpsIn (FF ro) 0 P _ _ [0, 1] a w
  simp only [wpOpsIn, List.getElem?_toArray, List.getElem?_cons_zero, List.getElem?_cons_succ]
  rw [want a _ _ rfl, if_pos rfl]
  refine wpIn_val (v := .string s) (w' := w) (fun c hc => by cases hc) (by simp only [execOp, ev, hv]; rfl) ?_
  rw [want _ _ _ rfl, if_pos rfl]
  refine wpIn_val (v := .pointer (some ⟨w.heap.size, 0, none⟩)) (w' := w.iter s 0) (fun c hc => by cases hc) (by
    simp only [execOp, ev, get_put a t66 t66 _ (by omega), if_pos, run_range_string w ty s ht, Sem.run_bind, Sem.run_pure, Result.andThen_ok]) ?_
  obtain ⟨a2, ha2⟩ : ∃ a2, a2 = (a.put (some t66) (.string s)).put (some t67) (.pointer (some ⟨w.heap.size, 0, none⟩)) := ⟨_, rfl⟩
  have sz2 : a2.tmps.size = σ.nt := by rw [ha2, size_put, size_put, hsz]
  have g2 : a2.tmps.getD t67 undef = .pointer (some ⟨w.heap.size, 0, none⟩) := by rw [ha2, get_put _ _ _ _ (by rw [size_put, hsz]; exact h67), if_pos rfl]
  show Code.wpIn _ _ _ _ _ ((a.put (some t66) (.string s)).put (some t67) (.pointer (some ⟨w.heap.size, 0, none⟩))) (w.iter s 0)
  rw [← ha2]
  refine wpIn_block (wpIn_loop (fun a' w' => a' = a2 ∧ w' = w.iter s 0) (fun _ _ => 0) ⟨rfl, rfl⟩ ?_)
  rintro a3 w3 ⟨ha3, hw3⟩
  rw [ha3, hw3]
  refine wpIn_seq (wpIn_region ?_)
  show wpOpsIn (FF ro) 0 P _ _ [0, 1] _ (w.iter s 0)
  simp only [wpOpsIn, List.getElem?_toArray, List.getElem?_cons_zero, List.getElem?_cons_succ]
  rw [want _ _ _ rfl, if_pos rfl]
  refine wpIn_val (v := .tuple #[.bool true, .int .i64 0, .int .i32 (Utf8.decode s 0).1]) (w' := w.iter s (0 + (Utf8.decode s 0).2)) (fun c hc => by cases hc) (by
    simp only [execOp, ev, g2, Instr.next, getObj, setObj, Sem.run_bind, Sem.run, World.iter_heap, Result.andThen, hpos, if_true]
    simp [goInt, Sem.run, World.iter_heap, World.iter_set, Result.andThen]) ?_
  rw [want _ _ _ rfl, if_pos rfl]
  refine wpIn_val (v := .bool true) (w' := w.iter s (0 + (Utf8.decode s 0).2)) (fun c hc => by cases hc) (by
    simp only [execOp, ev, get_put _ t68 t68 _ (by rw [sz2]; exact h68), if_pos]; rfl) ?_
  have hb : Below w.heap.size w (w.iter s (0 + (Utf8.decode s 0).2)) := (Below.refl _ w).alloc (Nat.le_refl _) _
  have r1 : RelM cx w0 (σ.set t66 .undef) (a.put (some t66) (.string s)).tmps w μ := h.put h66 (by rw [RepA]; trivial)
  have r2 : RelM cx w0 ((σ.set t66 .undef).set t67 .undef) a2.tmps w μ := by rw [ha2]; exact r1.put h67 (by rw [RepA]; trivial)
  have r3 := r2.grow hb
  have r4 := r3.put (d := t68) (x := .tup [.v true (.bool true), .v true (.int .i64 0), .v true (.int .i32 (Utf8.decode s 0).1)]) (v := .tuple #[.bool true, .int .i64 0, .int .i32 (Utf8.decode s 0).1]) h68 (by
    rw [RepA]
    refine ⟨[_, _, _], rfl, ?_⟩
    rw [RepAL]; refine ⟨_, _, rfl, repA_bool.2 rfl, ?_⟩
    rw [RepAL]; refine ⟨_, _, rfl, repA_int.2 rfl, ?_⟩
    rw [RepAL]; refine ⟨_, _, rfl, repA_int.2 rfl, ?_⟩
    rw [RepAL])
  have r5 := r4.put (d := t69) (x := .v true (.bool true)) (v := .bool true) h69 (repA_bool.2 rfl)
  have rel : Rel cx w0 { σ with env := (t69, .v true (.bool true)) :: (t68, .tup [.v true (.bool true), .v true (.int .i64 0), .v true (.int .i32 (Utf8.decode s 0).1)]) :: (t67, .undef) :: (t66, .undef) :: σ.env }
      ((a2.put (some t68) (.tuple #[.bool true, .int .i64 0, .int .i32 (Utf8.decode s 0).1])).put (some t69) (.bool true)) (w.iter s (0 + (Utf8.decode s 0).2)) :=
    ⟨by have : a2.defers = a.defers := by rw [ha2]; rfl
        show DefOk cx.B σ.fix σ.defs a2.defers
        rw [this]; exact hdf, μ, r5⟩
  refine wpIn_mono (hbody _ _ rel) ?_
  rintro e a' w' ⟨σ', hq, hr'⟩
  cases e with
  | normal => exact hq.elim
  | exit id' =>
    simp only [firstQ] at hq
    show Exit.inBlock id (fun e a' w' => ∃ σ', Q e σ' ∧ Rel cx w0 σ' a' w') (.exit id') a' w'
    simp only [Exit.inBlock]
    split
    · next he => rw [if_pos he] at hq; exact ⟨σ', hq, hr'⟩
    · next he => rw [if_neg he] at hq; exact ⟨σ', hq, hr'⟩
  | goto l => exact ⟨σ', hq, hr'⟩
  | ret => exact ⟨σ', hq, hr'⟩
  | panic ch => exact ⟨σ', hq, hr'⟩
  | outgrown => exact ⟨σ', hq, hr'⟩
end
end Go.Proofs.YtobacemgcjnahaaGreatDoor.L
/-
  Closures that turn variables of the caller's own.
-/
namespace Go.Proofs.YtobacemgcjnahaaGreatDoor.L
open Go Go.RowKit

def ptrsOf (vars : List (Nat × Blk)) : List AV := vars.map fun v => .ptr v.1 0 [] 0

/-- Called with its captured variables, which lie in the caller's own blocks vars: it comes back, and the blocks ups read anew. -/
def ClosOk (P : Program) (f : FuncId) (vars ups : List (Nat × Blk)) : Prop :=
  ∀ (cx : Cx) (w0 : World) (σ : St) (tmps : Array Value) (w : World) (μ : Sites) (vs : List Value), RelM cx w0 σ tmps w μ → small σ = true → (∀ v ∈ vars, σ.at v.1 = v.2) → RepAL cx w μ σ.at (ptrsOf vars) vs →
    CallsV P f vs.toArray w fun e w' => ∃ val μ', e = .returned val ∧ RelM cx w0 (σ.upd ups) tmps w' μ' ∧ RepA cx w' μ' (σ.upd ups).at (.tup []) val

def closSt (m : Nat) (vars : List (Nat × Blk)) (M : List (Nat × Blk)) (Rt : List (AV × Value)) (F : List (Nat × Obj)) : St :=
  { nt := vars.length + (m - vars.length), env := (ptrsOf vars).zipIdx.map fun p => (p.2, p.1), mem := vars ++ M, root := Rt, fix := F }

def closQ (P : Program) (fn : Func) (ups M : List (Nat × Blk)) (Rt : List (AV × Value)) (F : List (Nat × Obj)) : Exit → St → Prop := fun e σ =>
  (e = .ret ∨ e = .normal) ∧ σ.defs = [] ∧ σ.root = Rt ∧ σ.fix = F ∧ (∀ q, look σ.mem q = look (ups ++ M) q) ∧ resAVs P σ.at σ.get fn.results.toList = some []

def atAll (σ : St) : List (Nat × Blk) → Prop
  | [] => True
  | v :: r => σ.at v.1 = v.2 ∧ atAll σ r
theorem atAll_mem {σ : St} : ∀ {l : List (Nat × Blk)}, atAll σ l → ∀ v ∈ l, σ.at v.1 = v.2
  | [], _, _, h => by cases h
  | p :: r, h, v, hv => by
    rcases List.mem_cons.1 hv with rfl | hv
    · exact h.1
    · exact atAll_mem h.2 v hv

theorem look_pre : ∀ {l M : List (Nat × Blk)}, (∀ v ∈ l, look M v.1 = v.2) → ∀ q, look (l ++ M) q = look M q
  | [], _, _, _ => rfl
  | p :: r, M, h, q => by
    rw [List.cons_append, look]
    split
    · next he => rw [← he]; exact (h p (by simp)).symm
    · exact look_pre (fun v hv => h v (by simp [hv])) q

section
variable {P : Program} {cx : Cx} {w0 w w' : World} {σ σ1 σ' : St} {a : Act} {μ : Sites} {ro : Option Nat} {n : Nat} {Px : Px P} {ops : Array Oper} {T : Tab} {ρ : Nat → List R}

theorem ClosOk.of {f : FuncId} {fn : Func} {body : Code} {vars ups : List (Nat × Blk)} (hf : P.funcs[f]? = some fn) (hb : fn.body = some body) (hname : (fn.name == "runtime.NumGoroutine") = false)
    (h : ∀ (cx : Cx) (w0 : World) (M : List (Nat × Blk)) (Rt : List (AV × Value)) (F : List (Nat × Obj)), Holds P none cx w0 body (closSt fn.ntmps vars M Rt F) (closQ P fn ups M Rt F)) : ClosOk P f vars ups := by
  intro cx w0 σ tmps w μ vs hr hsm hat hv
  left
  refine ⟨?_, ?_⟩
  · have hn : ¬fn.name = "runtime.NumGoroutine" := fun h => by simp [h] at hname
    simp [callFunc, hf, hn, hb]
  · refine callsIn_wide.1 (callsIn_of_wp_marks (n := 0) hf hb trivial ?_)
    have hti : tmps.size = σ.nt := hr.size
    have hl : vs.length = vars.length := by have := repAL_length hv; rw [ptrsOf, List.length_map] at this; exact this.symm
    have h1 := hr.enter (m := fn.ntmps) hv
    have h2 : Rel cx w0 (closSt fn.ntmps vars σ.mem (σ.held tmps ++ σ.root) σ.fix) { tmps := vs.toArray ++ Array.replicate (fn.ntmps - vs.toArray.size) undef, defers := [] } w := by
      refine ⟨DefOk.nil, μ, h1.ext ⟨?_, fun _ => rfl, fun q => ?_, rfl, rfl, rfl⟩⟩
      · show vs.length + (fn.ntmps - vs.length) = _
        rw [hl]; rfl
      · show look σ.mem q = look (vars ++ σ.mem) q
        exact (look_pre hat q).symm
    refine wpIn_mono (h cx w0 σ.mem _ σ.fix _ _ h2) ?_
    rintro e a w' ⟨σ', ⟨he, hd, hroot, hfix, hmem, hres⟩, ⟨_, hD2, _⟩, μ', hr'⟩
    have fin : LeavesInM Fence.wide 0 P fn a.tmps (fun e w' => ∃ val μ', e = .returned val ∧ RelM cx w0 (σ.upd ups) tmps w' μ' ∧ RepA cx w' μ' (σ.upd ups).at (.tup []) val) a.defers .returning w' := by
      rw [hD2, hd]
      obtain ⟨us, k1, k2⟩ := results_ok hr' hres
      refine ⟨_, k1, _, μ', rfl, ?_, ?_⟩
      · have h7 := hr'.turn (tb := tmps) (gs := σ.held tmps) (fun p hp => by rw [hroot]; exact List.mem_append_left _ hp) (held_vals hti)
        have h8 := h7.lessRoot (root' := σ.root) (fun p hp => List.mem_append_right _ (by rw [hroot]; exact List.mem_append_right _ hp))
        have h9 := h8.defs σ.defs
        refine h9.ext ⟨hti, fun q => ?_, fun q => hmem q, rfl, hfix, rfl⟩
        rcases Nat.lt_or_ge q σ.nt with hq | hq
        · exact look_held hq
        · rw [show (σ.upd ups).get q = σ.get q from rfl, small_get hsm hq]
          exact look_held_out hq
      · rw [RepAL] at k2
        subst k2
        rw [RepA]
        exact ⟨[], rfl, by rw [RepAL]⟩
    rcases he with rfl | rfl
    · exact fin
    · exact fin

theorem callC_ok {o : Oper} {next : Act → World → Prop} {Q : Exit → Act → World → Prop} {f : FuncId} {d : Nat} {vars ups : List (Nat × Blk)} {x : Operand} {ats : Array TypeId} (h : Rel cx w0 σ a w) (ho : o.op = .call { callee := .value x, args := #[], argTypes := ats }) (hd' : o.dst = some d) (hn : d < σ.nt)
    (hsm : small σ = true) (hx : σ.opv x = .fn f (ptrsOf vars)) (hat : ∀ v ∈ vars, σ.at v.1 = v.2) (hp : ClosOk P f vars ups)
    (hk : ∀ a' w', Rel cx w0 ((σ.upd ups).put o.dst (.tup [])) a' w' → next a' w') : o.wpIn (FF ro) n P a w next Q := by
  obtain ⟨hdf, μ, h⟩ := h
  have hd : ∀ c, o.op ≠ .defer c := by rw [ho]; simp
  have hv := opv_ok h x
  rw [hx, RepA] at hv
  obtain ⟨vs, hval, hvs⟩ := hv
  have hcall := hp cx w0 σ a.tmps w μ vs h hsm hat hvs
  have key : ∀ r : Result Next, (callFunc f vs.toArray).run P w = r → (execOp a.eval o).run P w = r := fun r hr => by
    simp only [execOp, ho, resolve, hval, Deferred.ofValue, invoke, Sem.run_bind, Sem.run_pure, Result.andThen_ok, Array.empty_append, Array.append_empty]
    simpa using hr
  rw [hd'] at hk
  have fin : ∀ val w', (∃ μ', RelM cx w0 (σ.upd ups) a.tmps w' μ' ∧ RepA cx w' μ' (σ.upd ups).at (.tup []) val) → next (a.put o.dst val) w' := by
    rintro val w' ⟨μ', k1, k2⟩
    exact hk _ _ (rel_put hdf hd' hn k1 k2)
  rcases hcall with ⟨h1, h2⟩ | ⟨v, w', h1, val, μ', h2, h3, h4⟩
  · refine ⟨fun _ _ => trivial, ?_⟩
    rw [Oper.semAt_eq _ _ _ hd, key _ h1]
    rw [Oper.uponIn_enter]
    refine ⟨FF_depth, callsIn_of (h2.mono ?_)⟩
    rintro e w' ⟨val, μ', rfl, h3, h4⟩
    exact fin val w' ⟨μ', h3, h4⟩
  · cases h2
    exact wpIn_val hd (key _ h1) (fin _ _ ⟨μ', h3, h4⟩)

/-- A region with such a call. -/
theorem Holds.regionF {Q : Exit → St → Prop} {id k : Nat} {p1 : Prop} {o : Oper} {f : FuncId} {vars ups : List (Nat × Blk)} {x : Operand} {ats : Array TypeId} {d : Nat} (hzt : T = Px.tab) (h1 : evalOps P T ρ ops (ops.toList.take k) σ = some (σ1, p1)) (hp1 : p1) (hk : ops[k]? = some o) (hgd : wantA ops σ1 o = some true)
    (ho : o.op = .call { callee := .value x, args := #[], argTypes := ats }) (hd' : o.dst = some d) (hn : d < σ1.nt) (hsm : small σ1 = true) (hx : σ1.opv x = .fn f (ptrsOf vars)) (hat : atAll σ1 vars) (hp : ClosOk P f vars ups)
    (hrest : ∃ σ3 p3, evalOps P T ρ ops (ops.toList.drop (k + 1)) ((σ1.upd ups).set d (.tup [])) = some (σ3, p3) ∧ p3 ∧ Q .normal σ3) :
    Holds P ro cx w0 (.region id ops false) σ Q := fun a w h => wpIn_region (by
  have hlt : k < ops.size := (Array.getElem?_eq_some_iff.1 hk).1
  have hl1 : (ops.toList.take k).length = k := by rw [List.length_take, Array.length_toList]; omega
  have hl2 : (ops.toList.drop (k + 1)).length = ops.size - (k + 1) := by rw [List.length_drop, Array.length_toList]
  have hr : List.range ops.size = List.range' 0 (ops.toList.take k).length ++ (k :: (List.range' (k + 1) (ops.toList.drop (k + 1)).length ++ [])) := by
    have e := List.range'_append_1 (s := 0) (m := k) (n := ops.size - (k + 1) + 1)
    rw [Nat.zero_add] at e
    rw [hl1, hl2, List.append_nil, List.range_eq_range', ← List.range'_succ, e]
    congr 1
    omega
  rw [hr]
  refine evalPart_ok (Px := Px) (T := T) (ρ := ρ) hzt (ops.toList.take k) 0 (fun j hj => ?_) h h1 hp1 fun a1 w1 hrel => ?_
  · rw [List.getElem?_take_of_lt (by omega), Nat.zero_add, Array.getElem?_toList]
  · simp only [wpOpsIn, hk]
    rw [want_ok hrel hgd, if_pos rfl]
    obtain ⟨σ3, p3, h4, h5, h6⟩ := hrest
    refine callC_ok hrel ho hd' hn hsm hx (atAll_mem hat) hp fun a' w' hrel' => ?_
    rw [hd'] at hrel'
    refine evalPart_ok (Px := Px) (T := T) (ρ := ρ) hzt (ops.toList.drop (k + 1)) (k + 1) (fun j hj => ?_) hrel' h4 h5 fun a'' w'' hrel'' => ?_
    · rw [List.getElem?_drop, Array.getElem?_toList]
    · exact ⟨σ3, h6, hrel''⟩)
end
end Go.Proofs.YtobacemgcjnahaaGreatDoor.L
