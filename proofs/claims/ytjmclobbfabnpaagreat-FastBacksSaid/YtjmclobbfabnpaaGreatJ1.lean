/-
  Lze Lzf Lzg
-/
import Derived.Test.YtjmclobbfabnpaaGreatG4
import Derived.WideKeyArgs
import Derived.Deep.Slices
import Derived.ChangeSame
set_option linter.unusedSimpArgs false
set_option linter.unusedVariables false
/-
  What came in, read: a row of words.
-/
namespace Go.Proofs.YtjmclobbfabnpaaGreat.L
open Go Go.RowKit Go.ChangeShapes Go.WideShapes Go.ChangeAt

variable {H : Type} {enc : TypeId × Value → H} {P : Program}

theorem repF_ints {w : World} {ok : Nat → Prop} {k : IntKind} : ∀ l : List Int, RepF w ok 1 (l.map fun n => V.int k n) (l.map fun n => Value.int k n)
  | [] => by rw [List.map_nil, List.map_nil, RepF]
  | x :: r => by
    rw [List.map_cons, List.map_cons, RepF]
    exact ⟨[.int k x], _, rfl, rfl, by rw [Rep], repF_ints r⟩

/-- A slice of numbers that came in. -/
theorem openI {t e : TypeId} {k : IntKind} {W : World} {v : Value} {d : DataW H} {ps : List MemPlace} {r : Reach} {b0 : Nat} (ht : P.underlying t = some (.slice e)) (he : P.underlying e = some (.int k)) (hc : P.cellsOf e = 1) (hval : Value.okWide P W r b0 t v)
    (h : DataW.Trod enc P W 0 (fun _ => true) true t v d ps) : ∃ l : List Int, (∀ n ∈ l, (Lit.int k n).wf = true) ∧ ArgRep W (fun _ => True) (.v (.sl 1 (l.map fun n => .int k n))) v := by
  obtain ⟨a0, len, cap, rfl⟩ := okWide_slice ht hval
  obtain ⟨fuel, hf⟩ := h
  rcases open_ints ht he hc hf with ⟨hcs, _⟩ | ⟨a, len', cap', zs, hcs, _, hl, hm, hz, _, hcell, hwz⟩
  · simp [Value.cells] at hcs
    obtain ⟨rfl, rfl, rfl⟩ := hcs
    refine ⟨[], (fun n hn => by cases hn), ?_⟩
    rw [ArgRep]
    exact ⟨[.slice none 0 0], by rw [Rep]; exact .inl ⟨rfl, _, _, rfl⟩, rfl⟩
  · simp [Value.cells] at hcs
    obtain ⟨rfl, rfl, rfl⟩ := hcs
    simp only [if_true] at hz
    refine ⟨zs.take len, fun n hn => hwz n (List.mem_of_mem_take hn), ?_⟩
    rw [ArgRep]
    refine ⟨[.slice (some a) len cap], ?_, rfl⟩
    rw [Rep]
    by_cases hl0 : len = 0
    · subst hl0
      exact .inl ⟨by simp, _, _, rfl⟩
    · obtain ⟨b, off, spot⟩ := a
      have hspot : spot = none := by simpa [Addr.add] using World.cell?_spot (hcell 0 (by omega))
      subst hspot
      have hb : b < W.heap.size := by
        have := hcell 0 (by omega)
        refine Nat.lt_of_not_le fun hle => ?_
        simp [World.cell?, Addr.add, Array.getElem?_eq_none hle] at this
      have hlen : ((zs.take len).map fun n => V.int k n).length = len := by rw [List.length_map, List.length_take]; omega
      refine .inr ⟨b, off, cap, by rw [hlen]; exact hl, ⟨hb, trivial⟩, by rw [hlen], ?_⟩
      refine RepF.row (repF_ints _) fun j hj => ?_
      rw [List.length_map, List.length_take] at hj
      have h1 := hcell j (by omega)
      rw [add_plain] at h1
      rw [h1, List.getElem?_map, List.getElem?_take_of_lt (by omega), List.getElem?_eq_getElem (by omega), List.getD_eq_getElem?_getD, List.getElem?_eq_getElem (by omega)]
      rfl
end Go.Proofs.YtjmclobbfabnpaaGreat.L
/-
  What came in, read: rows of rows, of whole numbers.
-/
namespace Go.Proofs.YtjmclobbfabnpaaGreat.L
open Go Go.RowKit Go.ChangeShapes Go.WideShapes Go.ChangeAt Go.Deep

variable {H : Type} {enc : TypeId × Value → H} {P : Program} {W : World}

/-- The memory that is there. -/
def thereW (W : World) : Nat → Prop := fun b => b < W.heap.size ∧ True

theorem o_int {t : TypeId} {k : IntKind} (ht : P.underlying t = some (.int k)) {n : Nat} {cs : List Value} {x : DataW H × List MemPlace} (h : DataW.trod enc P W 0 (fun _ => true) true n t cs = some x) :
    ∃ m : Int, (Lit.int k m).wf = true ∧ Rep W (thereW W) (.int k m) cs := by
  cases n with
  | zero => simp [DataW.trod] at h
  | succ n =>
    unfold DataW.trod at h
    rw [ht] at h
    split at h <;> simp_all [Rep]
theorem o_bool {t : TypeId} (ht : P.underlying t = some .bool) {n : Nat} {cs : List Value} {x : DataW H × List MemPlace} (h : DataW.trod enc P W 0 (fun _ => true) true n t cs = some x) :
    ∃ b, Rep W (thereW W) (.bool b) cs := by
  cases n with
  | zero => simp [DataW.trod] at h
  | succ n =>
    unfold DataW.trod at h
    rw [ht] at h
    split at h <;> simp_all [Rep]

/-- A slice, out of its elements. -/
theorem o_slice {t e : TypeId} {z : Nat} {Q : V → Prop} (ht : P.underlying t = some (.slice e)) (hz : P.cellsOf e = z) (hz0 : 0 < z)
    (he : ∀ n cs x, DataW.trod enc P W 0 (fun _ => true) true n e cs = some x → ∃ X, Q X ∧ Rep W (thereW W) X cs)
    {n : Nat} {cs : List Value} {x : DataW H × List MemPlace} (h : DataW.trod enc P W 0 (fun _ => true) true n t cs = some x) :
    ∃ xs : List V, (∀ X ∈ xs, Q X) ∧ Rep W (thereW W) (.sl z xs) cs := by
  rcases open_slice ht h with ⟨rfl, _⟩ | ⟨a, len, cap, m, k, D, Pl, rfl, _, hl, _, hm, _, hx⟩
  · refine ⟨[], (fun X hX => by cases hX), ?_⟩
    rw [Rep]
    exact .inl ⟨rfl, _, _, rfl⟩
  · simp only [if_true] at hm
    rw [hz] at hx
    obtain ⟨F, hF⟩ := choose_lt (α := V) (n := len) (p := fun i X => Q X ∧ ∃ c, c.length = z ∧ (∀ j, j < z → W.cell? ((a.add (i * z)).add j) = c[j]?) ∧ Rep W (thereW W) X c) (fun i hi => by
      obtain ⟨c, h1, h2⟩ := hx i (by omega)
      obtain ⟨_, h3, h4⟩ := World.cells?_some h1
      obtain ⟨X, hQ, hR⟩ := he _ _ _ h2
      exact ⟨X, hQ, c, h3, h4, hR⟩)
    refine ⟨(List.range len).map F, fun X hX => ?_, ?_⟩
    · obtain ⟨i, hi, rfl⟩ := List.mem_map.1 hX
      exact (hF i (List.mem_range.1 hi)).1
    · rw [Rep]
      by_cases hl0 : len = 0
      · subst hl0
        exact .inl ⟨rfl, _, _, rfl⟩
      · obtain ⟨b, off, spot⟩ := a
        obtain ⟨_, c, hcl, hc, _⟩ := hF 0 (by omega)
        have h0 := hc 0 hz0
        rw [List.getElem?_eq_getElem (by omega)] at h0
        have hspot : spot = none := by simpa [Addr.add] using World.cell?_spot h0
        subst hspot
        have hb : b < W.heap.size := by
          refine Nat.lt_of_not_le fun hle => ?_
          simp [World.cell?, Addr.add, Array.getElem?_eq_none hle] at h0
        refine .inr ⟨b, off, cap, by simpa using hl, ⟨hb, trivial⟩, by simp, ?_⟩
        have key : ∀ d s, s + d = len → RepRow W (thereW W) b z (off + s * z) ((List.range' s d).map F) := by
          intro d
          induction d with
          | zero => intro s _; rw [List.range'_zero, List.map_nil, RepRow]; trivial
          | succ d ih =>
            intro s hs
            rw [List.range'_succ, List.map_cons, RepRow]
            obtain ⟨_, c, hcl, hc, hR⟩ := hF s (by omega)
            refine ⟨⟨c, hcl, fun j hj => ?_, hR⟩, ?_⟩
            · have := hc j hj
              rw [add_plain, add_plain] at this
              exact this
            · have := ih (s + 1) (by omega)
              rw [Nat.succ_mul, ← Nat.add_assoc] at this
              exact this
        have := key len 0 (by omega)
        rw [Nat.zero_mul, Nat.add_zero, ← List.range_eq_range'] at this
        exact this

/-- A struct of two. -/
theorem o_two {t : TypeId} {f0 f1 : Field} {Q0 Q1 : V → Prop} (ht : P.underlying t = some (.struct #[f0, f1])) (h00 : f0.offset = 0) (h01 : f1.offset = P.cellsOf f0.type) (hc : P.cellsOf t = P.cellsOf f0.type + P.cellsOf f1.type)
    (he0 : ∀ n cs x, DataW.trod enc P W 0 (fun _ => true) true n f0.type cs = some x → ∃ X, Q0 X ∧ Rep W (thereW W) X cs)
    (he1 : ∀ n cs x, DataW.trod enc P W 0 (fun _ => true) true n f1.type cs = some x → ∃ X, Q1 X ∧ Rep W (thereW W) X cs)
    {n : Nat} {cs : List Value} {x : DataW H × List MemPlace} (h : DataW.trod enc P W 0 (fun _ => true) true n t cs = some x) :
    ∃ X Y, Q0 X ∧ Q1 Y ∧ Rep W (thereW W) (.agg [X, Y]) cs := by
  obtain ⟨y0, y1, k, _, hl, h0, h1⟩ := trod_struct2 ht h
  obtain ⟨X, hX, rX⟩ := he0 _ _ _ h0
  obtain ⟨Y, hY, rY⟩ := he1 _ _ _ h1
  refine ⟨X, Y, hX, hY, ?_⟩
  rw [Rep, RepL]
  refine ⟨_, cs.drop (P.cellsOf f0.type), ?_, rX, ?_⟩
  · rw [h00, List.drop_zero, List.take_append_drop]
  · rw [RepL]
    refine ⟨_, [], ?_, rY, by rw [RepL]⟩
    rw [List.append_nil, h01, List.take_of_length_le]
    rw [List.length_drop, hl, hc]
    omega

theorem all_map {A : Type} {f : A → V} {q : A → Prop} : ∀ {xs : List V}, (∀ X ∈ xs, ∃ a, q a ∧ X = f a) → ∃ l : List A, (∀ a ∈ l, q a) ∧ xs = l.map f
  | [], _ => ⟨[], (fun a ha => by cases ha), rfl⟩
  | X :: r, h => by
    obtain ⟨m, hm, rfl⟩ := h X (by simp)
    obtain ⟨l, hl, rfl⟩ := all_map (xs := r) (fun X hX => h X (by simp [hX]))
    refine ⟨m :: l, fun a ha => ?_, rfl⟩
    rcases List.mem_cons.1 ha with rfl | ha
    · exact hm
    · exact hl a ha

theorem o_words {t e : TypeId} {k : IntKind} (ht : P.underlying t = some (.slice e)) (he : P.underlying e = some (.int k)) (hc : P.cellsOf e = 1) {n : Nat} {cs : List Value} {x : DataW H × List MemPlace} (h : DataW.trod enc P W 0 (fun _ => true) true n t cs = some x) :
    ∃ X, (∃ l : List Int, (∀ n ∈ l, (Lit.int k n).wf = true) ∧ X = .sl 1 (l.map fun n => .int k n)) ∧ Rep W (thereW W) X cs := by
  obtain ⟨xs, h1, h2⟩ := o_slice (z := 1) (Q := fun X => ∃ m : Int, (Lit.int k m).wf = true ∧ X = .int k m) ht hc (by decide) (fun n cs x h => by
    obtain ⟨m, hm, hr⟩ := o_int he h
    exact ⟨_, ⟨m, hm, rfl⟩, hr⟩) h
  have hl : ∃ l : List Int, (∀ n ∈ l, (Lit.int k n).wf = true) ∧ xs = l.map fun n => .int k n := all_map h1
  obtain ⟨l, hl, rfl⟩ := hl
  exact ⟨_, ⟨l, hl, rfl⟩, h2⟩

/-- A row of rows of numbers that came in. -/
theorem openII {t e u : TypeId} {k : IntKind} {v : Value} {d : DataW H} {ps : List MemPlace} {r : Reach} {b0 : Nat} (ht : P.underlying t = some (.slice e)) (he : P.underlying e = some (.slice u)) (hu : P.underlying u = some (.int k)) (hc : P.cellsOf e = 1) (hcu : P.cellsOf u = 1)
    (hval : Value.okWide P W r b0 t v) (h : DataW.Trod enc P W 0 (fun _ => true) true t v d ps) :
    ∃ ls : List (List Int), (∀ l ∈ ls, ∀ n ∈ l, (Lit.int k n).wf = true) ∧ ArgRep W (fun _ => True) (.v (.sl 1 (ls.map fun l => .sl 1 (l.map fun n => .int k n)))) v := by
  obtain ⟨a0, len, cap, rfl⟩ := okWide_slice ht hval
  obtain ⟨fuel, hf⟩ := h
  obtain ⟨xs, h1, h2⟩ := o_slice (z := 1) ht hc (by decide) (fun n cs x h => o_words he hu hcu h) hf
  have hl : ∃ ls : List (List Int), (∀ l ∈ ls, ∀ n ∈ l, (Lit.int k n).wf = true) ∧ xs = ls.map fun l => .sl 1 (l.map fun n => .int k n) := all_map h1
  obtain ⟨ls, hls, rfl⟩ := hl
  refine ⟨ls, hls, ?_⟩
  rw [ArgRep]
  exact ⟨_, h2, rfl⟩

/-- A row of whole numbers that came in. -/
theorem openZ {t e u q b : TypeId} {f0 f1 : Field} {k : IntKind} {v : Value} {d : DataW H} {ps : List MemPlace} {r : Reach} {b0 : Nat} (ht : P.underlying t = some (.slice e)) (he : P.underlying e = some (.struct #[f0, f1]))
    (h0 : f0.type = b) (h1 : f1.type = q) (hb : P.underlying b = some .bool) (hq : P.underlying q = some (.slice u)) (hu : P.underlying u = some (.int k)) (h00 : f0.offset = 0) (h01 : f1.offset = 1) (hc : P.cellsOf e = 2) (hcb : P.cellsOf b = 1) (hcq : P.cellsOf q = 1) (hcu : P.cellsOf u = 1)
    (hval : Value.okWide P W r b0 t v) (h : DataW.Trod enc P W 0 (fun _ => true) true t v d ps) :
    ∃ ls : List (Bool × List Int), (∀ l ∈ ls, ∀ n ∈ l.2, (Lit.int k n).wf = true) ∧ ArgRep W (fun _ => True) (.v (.sl 2 (ls.map fun l => .agg [.bool l.1, .sl 1 (l.2.map fun n => .int k n)]))) v := by
  obtain ⟨a0, len, cap, rfl⟩ := okWide_slice ht hval
  obtain ⟨fuel, hf⟩ := h
  subst h0 h1
  obtain ⟨xs, h1, h2⟩ := o_slice (z := 2) (Q := fun X => ∃ l : Bool × List Int, (∀ n ∈ l.2, (Lit.int k n).wf = true) ∧ X = .agg [.bool l.1, .sl 1 (l.2.map fun n => .int k n)]) ht hc (by decide) (fun n cs x h => by
    obtain ⟨X, Y, ⟨b, rfl⟩, ⟨l, hl, rfl⟩, hr⟩ := o_two (Q0 := fun X => ∃ b, X = .bool b) he h00 (by rw [h01, hcb]) (by rw [hc, hcb, hcq]) (fun n cs x h => by
      obtain ⟨b, hb⟩ := o_bool hb h
      exact ⟨_, ⟨b, rfl⟩, hb⟩) (fun n cs x h => o_words hq hu hcu h) h
    exact ⟨_, ⟨(b, l), hl, rfl⟩, hr⟩) hf
  have hl : ∃ ls : List (Bool × List Int), (∀ l ∈ ls, ∀ n ∈ l.2, (Lit.int k n).wf = true) ∧ xs = ls.map fun l => .agg [.bool l.1, .sl 1 (l.2.map fun n => .int k n)] := all_map h1
  obtain ⟨ls, hls, rfl⟩ := hl
  refine ⟨ls, hls, ?_⟩
  rw [ArgRep]
  exact ⟨_, h2, rfl⟩
end Go.Proofs.YtjmclobbfabnpaaGreat.L
/-
  Marks of new memory forgotten; arrays of elements of one size.
-/
namespace Go.Proofs.YtjmclobbfabnpaaGreat.L
open Go Go.RowKit

section
variable {P : Program} {cx : Cx} {w0 : World} {σ : St} {ro : Option Nat} {Px : Px P} {ops : Array Oper} {T : Tab} {ρ : Nat → List R} {y : Code} {Q : Exit → St → Prop}
/-- A region that draws, what its operations look at told, and what follows. -/
theorem Holds.dstepT {id : Nat} {p : Prop} {t : List (List Nat × List Nat)} (fl : List (Nat × Nat)) {σ' : St} (hm : P.follows .mixedOrders = true) (hs : drawS ops σ.nt fl = true) (hzt : T = Px.tab) (he : evalOps P T ρ ops ops.toList σ = some (σ', p)) (hp : p)
    (hl : disjL (ops.toList.map (letters ρ)) = true) (hf : (ops.toList.map (letters ρ)).all (fun l => l.all σ.freshB) = true) (ht : trc P T ρ ops ops.toList σ = t) (hfl : flOk t fl = true)
    (h : Holds P ro cx w0 y σ' Q) : Holds P ro cx w0 ((Code.region id ops true).seq y) σ Q :=
  Holds.dstep (Px := Px) fl hm hs hzt he hp hl hf (by rw [ht]; exact hfl) h
end

def AV.dim : AV → AV
  | .v _ x => .v false x
  | X => X
def Blk.dim : Blk → Blk
  | .buf e z _ xs => .buf e z false xs
  | .box e X => .box e X.dim
  | .dead => .dead

theorem RepRow.dim {cx : Cx} {w : World} {N : Nat} {μ : Sites} {nw : Bool} {b sz : Nat} : ∀ {o : Nat} {xs : List V}, RepRow w (okOf cx N μ nw) b sz o xs → RepRow w (okOf cx N μ false) b sz o xs
  | _, [], _ => by rw [RepRow]; trivial
  | _, _ :: _, h => by
    rw [RepRow] at h ⊢
    obtain ⟨⟨a, h1, h2, h3⟩, h4⟩ := h
    exact ⟨⟨a, h1, h2, Rep.weak (by simp) h3⟩, RepRow.dim h4⟩

theorem AV.dim_isV {X : AV} : X.dim.isV = X.isV := by cases X <;> rfl

theorem Rel.dim {cx : Cx} {w0 w : World} {σ : St} {a : Act} (h : Rel cx w0 σ a w) :
    Rel cx w0 { nt := σ.nt, env := σ.env.map fun p => (p.1, p.2.dim), mem := σ.mem.map fun p => (p.1, p.2.dim), root := σ.root, fix := σ.fix, defs := σ.defs } a w := by
  obtain ⟨hd, μ, h⟩ := h
  have hG : GoesC w μ w μ := ⟨Nat.le_refl _, fun _ _ _ _ hv => hv, fun t b c ht => .inl ⟨t, c, ht⟩⟩
  have lm : ∀ (l : List (Nat × Blk)) t, look (l.map fun p => (p.1, p.2.dim)) t = (look l t).dim := by
    intro l t
    induction l with
    | nil => rfl
    | cons p r ih => rw [List.map_cons, look, look]; split <;> first | rfl | exact ih
  have le : ∀ (l : List (Nat × AV)) t, look (l.map fun p => (p.1, p.2.dim)) t = (look l t).dim := by
    intro l t
    induction l with
    | nil => rfl
    | cons p r ih => rw [List.map_cons, look, look]; split <;> first | rfl | exact ih
  obtain ⟨at', hat'⟩ : ∃ at' : Nat → Blk, at' = fun t => (σ.at t).dim := ⟨_, rfl⟩
  have hat2 : St.at { nt := σ.nt, env := σ.env.map fun p => (p.1, p.2.dim), mem := σ.mem.map fun p => (p.1, p.2.dim), root := σ.root, fix := σ.fix, defs := σ.defs } = at' := by
    funext t
    rw [hat']
    exact lm σ.mem t
  have hfits : ∀ t, (σ.at t).fits (at' t) := fun t => by
    rw [hat']
    simp only
    cases σ.at t <;> simp [Blk.fits, Blk.dim]
  have hA : ∀ {X : AV} {v : Value}, RepA cx w μ σ.at X v → RepA cx w μ at' X v := fun hx => RepA.goes hG (fun s _ => .inr ⟨rfl, hfits s⟩) hx
  have hD : ∀ {X : AV} {v : Value}, RepA cx w μ at' X v → RepA cx w μ at' X.dim v := fun {X v} hx => by
    cases X with
    | v nw x =>
      rw [AV.dim]
      rw [RepA] at hx ⊢
      obtain ⟨cs, h1, h2⟩ := hx
      exact ⟨cs, Rep.weak (by simp) h1, h2⟩
    | _ => exact hx
  refine ⟨hd, μ, h.below, h.hB, h.size, h.sites, fun s => ?_, fun t => ?_, fun p hp => ?_, h.fix⟩
  · rw [hat2]
    have hm := h.mem s
    have hs : at' s = (σ.at s).dim := by rw [hat']
    rw [hs]
    cases hb : σ.at s with
    | dead => rw [hb] at hm; exact hm
    | buf e z nw xs =>
      rw [hb] at hm
      rw [Blk.dim]
      rw [RepB] at hm ⊢
      rcases hm with hm | ⟨b, cap, cur, m1, m2, m3, m4, m5, m6⟩
      · exact .inl hm
      · exact .inr ⟨b, cap, cur, m1, m2, m3, m4, m5, RepRow.dim m6⟩
    | box e X =>
      rw [hb] at hm
      rw [Blk.dim]
      rw [RepB] at hm ⊢
      obtain ⟨b, cap, cur, val, m1, m2, m3, m4, m5⟩ := hm
      exact ⟨b, cap, cur, val, m1, m2, hD (hA m3), m4, fun hv => m5 (by rw [AV.dim_isV] at hv; exact hv)⟩
  · rw [hat2]
    rw [show St.get { nt := σ.nt, env := σ.env.map fun p => (p.1, p.2.dim), mem := σ.mem.map fun p => (p.1, p.2.dim), root := σ.root, fix := σ.fix, defs := σ.defs } t = (σ.get t).dim from le σ.env t]
    exact hD (hA (h.env t))
  · rw [hat2]
    exact hA (h.roots p hp)

theorem isAgg_agg (fs : List V) : (V.agg fs).isAgg = true := rfl
theorem isAgg_int (k : IntKind) (n : Int) : (V.int k n).isAgg = false := rfl
theorem isAgg_bool (b : Bool) : (V.bool b).isAgg = false := rfl
theorem isAgg_sl (z : Nat) (xs : List V) : (V.sl z xs).isAgg = false := rfl
theorem flat_agg (fs : List V) : (V.agg fs).flat = false := rfl
theorem flat_int (k : IntKind) (n : Int) : (V.int k n).flat = true := rfl
theorem flat_bool (b : Bool) : (V.bool b).flat = true := rfl
theorem flat_sl (z : Nat) (xs : List V) : (V.sl z xs).flat = false := rfl

theorem off_all {z : Nat} : ∀ {xs : List V} {k : Nat}, (∀ x ∈ xs, x.size = z) → k ≤ xs.length → V.off xs k = k * z
  | [], 0, _, _ => by rw [V.off, Nat.zero_mul]
  | _ :: _, 0, _, _ => by rw [V.off, Nat.zero_mul]
  | [], _ + 1, _, h => by simp at h
  | x :: r, k + 1, hx, h => by
    rw [V.off, off_all (fun y hy => hx y (by simp [hy])) (by simpa using h), hx x (by simp), Nat.succ_mul, Nat.add_comm]
end Go.Proofs.YtjmclobbfabnpaaGreat.L
