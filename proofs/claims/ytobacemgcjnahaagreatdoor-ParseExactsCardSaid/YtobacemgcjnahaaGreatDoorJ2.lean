/-
  Fa Fb
-/
import Derived.Test.YtobacemgcjnahaaGreatDoorRows
import Derived.Test.YtobacemgcjnahaaGreatDoorH1
import Derived.Test.YtobacemgcjnahaaGreatDoorG1
import Derived.ProofKit
import Derived.OpenShut
import Derived.LaidMore
import Derived.Lay
import Derived.SevenTiedAt
import Derived.Stop.Joined
set_option linter.unusedSimpArgs false
set_option linter.unusedVariables false
/-
  What the rows' listed variables give the walks.
-/
namespace Go.Proofs.YtobacemgcjnahaaGreatDoor.L
open Go Go.RowKit Go.Proofs Go.ChangeShapes Go.WideShapes Go.ChangeAt

theorem laidVars_mem {P : Program} {w : World} {n : String} {d : DataW Unit} : ∀ {l : List (String × DataW Unit)} {ps : List MemPlace}, DataW.LaidVars P w l ps → (n, d) ∈ l →
    ∃ g t cs fuel p, P.globalNamed n = some g ∧ (P.globals[g]?).map (·.type) = some t ∧ w.var? P n = some cs ∧ DataW.trod (fun _ => ()) P w 0 (fun _ => true) false fuel t cs.toList = some (d, p)
  | [], _, _, hm => by cases hm
  | x :: r, ps, h, hm => by
    obtain ⟨g, t, cs, fuel, p, q, h1, h2, h3, h4, h5, _⟩ := h
    rcases List.mem_cons.1 hm with rfl | hm
    · exact ⟨g, t, cs, fuel, p, h1, h2, h3, h4⟩
    · exact laidVars_mem h5 hm

theorem repL_ints {w : World} {ok : Nat → Prop} {k : IntKind} : ∀ zs : List Int, RepL w ok (zs.map fun n => V.int k n) (zs.map fun n => Value.int k n)
  | [] => by rw [List.map_nil, List.map_nil, RepL]
  | z :: r => by
    rw [List.map_cons, List.map_cons, RepL]
    exact ⟨[.int k z], _, rfl, by rw [Rep], repL_ints r⟩

theorem ints_cells {P : Program} {w : World} {t e : TypeId} {n : Nat} {k : IntKind} {zs : List Int} {fuel : Nat} {cs : List Value} {p : List MemPlace} (hu : P.underlying t = some (.array n e)) (he : P.underlying e = some (.int k)) (c1 : P.cellsOf e = 1) (ct : P.cellsOf t = n) (hn : zs.length = n)
    (h : DataW.trod (fun _ => ()) P w 0 (fun _ => true) false fuel t cs = some (.agg (zs.map fun z => .lit (.int k z)), p)) : cs = zs.map fun n => Value.int k n := by
  obtain ⟨xs, m, _, ex, hl0, hl, hel⟩ := DataW.trod_array hu h
  have e3 : (xs.map (·.1)) = zs.map fun n => .lit (.int k n) := (DataW.agg.inj (Prod.mk.inj ex).1).symm
  apply List.ext_getElem
  · rw [hl0, ct, List.length_map, hn]
  · intro r h1 h2
    rw [List.length_map] at h2
    have hE := hel r (by omega)
    rw [c1, Nat.mul_one, List.getElem?_eq_getElem (by omega)] at hE
    obtain ⟨z, e1, e2, _⟩ := DataW.trod_int he hE
    have e4 : (xs.map (·.1))[r]? = (zs.map fun n => (DataW.lit (.int k n) : DataW Unit))[r]? := by rw [e3]
    rw [List.getElem?_map, List.getElem?_map, List.getElem?_eq_getElem (by omega : r < xs.length), List.getElem?_eq_getElem h2, e2] at e4
    have hz : z = zs[r] := by simpa using e4
    have h0 : ((cs.drop r).take 1)[0]? = some (.int k z) := by rw [e1]; rfl
    have h3 : cs[r]? = some (.int k z) := by simpa using h0
    rw [List.getElem?_eq_getElem h1] at h3
    rw [Option.some.inj h3, List.getElem_map, hz]

theorem gl_one {W : World} {nm : String} {g : Nat} {cs : Array Value} {x : V} {ok : Nat → Prop} (hg : Tryz.prog.globalNamed nm = some g) (hv : W.var? Tryz.prog nm = some cs) (hne : cs.toList ≠ []) (hr : Rep W ok x cs.toList) :
    g < W.heap.size ∧ ∃ cs, Rep W ok x cs ∧ ∀ j, j < cs.length → W.cell? ⟨g, j, none⟩ = cs[j]? := by
  refine ⟨?_, cs.toList, hr, fun j _ => by rw [World.var?_cell hg hv j, Array.getElem?_toList]⟩
  have h0 := World.var?_cell hg hv 0
  refine Nat.lt_of_not_le fun hle => ?_
  rw [show W.cell? ⟨g, 0, none⟩ = none from by simp [World.cell?, Array.getElem?_eq_none hle], ← Array.getElem?_toList] at h0
  cases h : cs.toList with
  | nil => exact hne h
  | cons a r => rw [h] at h0; cases h0

def intOf' : V → Int
  | .int _ n => n
  | _ => 0
def intsOf' : V → List Int
  | .agg fs => fs.map intOf'
  | _ => []
def foldZ : List Int := intsOf' foldV
def bruijnZ : List Int := intsOf' bruijnV
set_option maxRecDepth 100000 in
theorem foldV_eq : foldV = .agg (foldZ.map fun n => .int .u16 n) := by kernel_rfl
set_option maxRecDepth 100000 in
theorem bruijnV_eq : bruijnV = .agg (bruijnZ.map fun n => .int .u8 n) := by kernel_rfl
set_option maxRecDepth 100000 in
theorem foldD_eq : Rows.laid_unicode_asciiFold = (.agg (foldZ.map fun n => .lit (.int .u16 n)) : DataW Unit) := by kernel_rfl
set_option maxRecDepth 100000 in
theorem bruijnD_eq : Rows.laid_math_bits_deBruijn64tab = (.agg (bruijnZ.map fun n => .lit (.int .u8 n)) : DataW Unit) := by kernel_rfl

def LAID : List (String × DataW Unit) := Rows.parseIsRow.laid

set_option maxRecDepth 100000 in
theorem laid_GL {W : World} (h : laidMetH Tryz.prog LAID W) : GL W := by
  have hF := h.funcs (n := "reckoner/fin.more") (d := .agg [.iface "func" (.lit (.string [114, 101, 99, 107, 111, 110, 101, 114, 47, 102, 105, 110, 46, 109, 111, 114, 101, 36, 49])), .iface "func" (.lit (.string [114, 101, 99, 107, 111, 110, 101, 114, 47, 102, 105, 110, 46, 109, 111, 114, 101, 36, 50])), .iface "func" (.lit (.string [114, 101, 99, 107, 111, 110, 101, 114, 47, 102, 105, 110, 46, 109, 111, 114, 101, 36, 51])), .iface "func" (.lit (.string [114, 101, 99, 107, 111, 110, 101, 114, 47, 102, 105, 110, 46, 109, 111, 114, 101, 36, 52])), .iface "func" (.lit (.string [114, 101, 99, 107, 111, 110, 101, 114, 47, 102, 105, 110, 46, 109, 111, 114, 101, 36, 53]))]) (by
    show _ ∈ Rows.parseIsRow.laid
    simp only [Rows.parseIsRow, Rows.laid_reckoner_fin_more, List.mem_cons, true_or, or_true])
  have hP : laidMet Tryz.prog (LAID.filter fun x => x.2.handleName?.isNone) W := by
    unfold laidMetH at h
    have e : (LAID.filter fun x => x.2.handleName?.isSome) = [("reckoner/fin.more", Rows.laid_reckoner_fin_more)] := by rfl
    rw [e] at h
    exact h.1
  obtain ⟨ps, hL, _, _⟩ := hP
  have hm1 : ("unicode.asciiFold", (Rows.laid_unicode_asciiFold : DataW Unit)) ∈ LAID.filter fun x => x.2.handleName?.isNone := by
    rw [List.mem_filter]
    exact ⟨by show _ ∈ Rows.parseIsRow.laid; simp only [Rows.parseIsRow, List.mem_cons, true_or, or_true], rfl⟩
  have hm2 : ("math/bits.deBruijn64tab", (Rows.laid_math_bits_deBruijn64tab : DataW Unit)) ∈ LAID.filter fun x => x.2.handleName?.isNone := by
    rw [List.mem_filter]
    exact ⟨by show _ ∈ Rows.parseIsRow.laid; simp only [Rows.parseIsRow, List.mem_cons, true_or, or_true], rfl⟩
  intro q hq
  simp only [GLOB, List.mem_cons, List.not_mem_nil, or_false] at hq
  rcases hq with rfl | rfl | rfl
  · obtain ⟨g, t, cs, fuel, p, hg, ht, hv, hd⟩ := hF
    obtain rfl := Option.some.inj ((show Tryz.prog.globalNamed "reckoner/fin.more" = some 0 by kernel_rfl).symm.trans hg)
    obtain rfl := Option.some.inj ((show (Tryz.prog.globals[0]?).map (·.type) = some 207 by kernel_rfl).symm.trans ht)
    obtain ⟨xs, m, _, ex, hl0, hl, hel⟩ := DataW.trod_array Tryz.underlying207 hd
    have c1 : Tryz.prog.cellsOf 206 = 1 := by kernel_rfl
    have ct : Tryz.prog.cellsOf 207 = 5 := by kernel_rfl
    have e3 := (DataW.agg.inj (Prod.mk.inj ex).1).symm
    have one : ∀ (i : Nat) (f : FuncId) (s : UInt8), i < 5 → (xs.map (·.1))[i]? = some (.held [114, 101, 99, 107, 111, 110, 101, 114, 47, 102, 105, 110, 46, 109, 111, 114, 101, 36, s]) →
        ((List.range Tryz.prog.funcs.size).filter fun f => (Tryz.prog.funcs[f]?).any (·.name.toUTF8.data.toList == [114, 101, 99, 107, 111, 110, 101, 114, 47, 102, 105, 110, 46, 109, 111, 114, 101, 36, s])) = [f] → cs.toList[i]? = some (.func (.func f) #[] #[]) := by
      intro i f s hi hx hone
      have hE := hel i hi
      rw [c1, Nat.mul_one] at hE
      rw [List.getElem?_map] at hx
      cases hxi : xs[i]? with
      | none => rw [hxi] at hx; cases hx
      | some y =>
        rw [hxi] at hx hE
        obtain ⟨y1, y2⟩ := y
        simp only [Option.map_some, Option.some.injEq] at hx
        subst hx
        have hlt : i < cs.toList.length := by rw [hl0, ct]; exact hi
        have h1 : ((cs.toList.drop i).take 1) = [cs.toList[i]] := by rw [List.drop_eq_getElem_cons hlt]; rfl
        rw [h1] at hE
        have := func_of_trod (f0 := f) Tryz.underlying206 hone hE
        rw [List.getElem?_eq_getElem hlt, this]
    have k0 := one 0 209 49 (by decide) (by rw [e3]; rfl) (by kernel_rfl)
    have k1 := one 1 210 50 (by decide) (by rw [e3]; rfl) (by kernel_rfl)
    have k2 := one 2 211 51 (by decide) (by rw [e3]; rfl) (by kernel_rfl)
    have k3 := one 3 212 52 (by decide) (by rw [e3]; rfl) (by kernel_rfl)
    have k4 := one 4 213 53 (by decide) (by rw [e3]; rfl) (by kernel_rfl)
    rw [ct] at hl0
    have hc : cs.toList = [.func (.func 209) #[] #[], .func (.func 210) #[] #[], .func (.func 211) #[] #[], .func (.func 212) #[] #[], .func (.func 213) #[] #[]] := by
      match hcs : cs.toList, hl0 with
      | [a, b, c, d, e], _ =>
        rw [hcs] at k0 k1 k2 k3 k4
        simp only [List.getElem?_cons_zero, List.getElem?_cons_succ, Option.some.injEq] at k0 k1 k2 k3 k4
        rw [k0, k1, k2, k3, k4]
    refine gl_one hg hv (by rw [hc]; exact List.cons_ne_nil _ _) ?_
    rw [hc]
    unfold moreV
    rw [Rep, RepL]; refine ⟨[_], _, rfl, by rw [Rep], ?_⟩
    rw [RepL]; refine ⟨[_], _, rfl, by rw [Rep], ?_⟩
    rw [RepL]; refine ⟨[_], _, rfl, by rw [Rep], ?_⟩
    rw [RepL]; refine ⟨[_], _, rfl, by rw [Rep], ?_⟩
    rw [RepL]; refine ⟨[_], _, rfl, by rw [Rep], ?_⟩
    rw [RepL]
  · obtain ⟨g, t, cs, fuel, p, hg, ht, hv, hd⟩ := laidVars_mem hL hm1
    obtain rfl := Option.some.inj ((show Tryz.prog.globalNamed "unicode.asciiFold" = some 1 by kernel_rfl).symm.trans hg)
    obtain rfl := Option.some.inj ((show (Tryz.prog.globals[1]?).map (·.type) = some 239 by kernel_rfl).symm.trans ht)
    rw [foldD_eq] at hd
    have hc := ints_cells Tryz.underlying239 Tryz.underlying238 (by kernel_rfl) (by kernel_rfl) (by kernel_rfl) hd
    refine gl_one hg hv (by rw [hc]; exact List.cons_ne_nil _ _) ?_
    rw [foldV_eq, hc, Rep]
    exact repL_ints _
  · obtain ⟨g, t, cs, fuel, p, hg, ht, hv, hd⟩ := laidVars_mem hL hm2
    obtain rfl := Option.some.inj ((show Tryz.prog.globalNamed "math/bits.deBruijn64tab" = some 4 by kernel_rfl).symm.trans hg)
    obtain rfl := Option.some.inj ((show (Tryz.prog.globals[4]?).map (·.type) = some 249 by kernel_rfl).symm.trans ht)
    rw [bruijnD_eq] at hd
    have hc := ints_cells Tryz.underlying249 Tryz.underlying5 (by kernel_rfl) (by kernel_rfl) (by kernel_rfl) hd
    refine gl_one hg hv (by rw [hc]; exact List.cons_ne_nil _ _) ?_
    rw [bruijnV_eq, hc, Rep]
    exact repL_ints _
end Go.Proofs.YtobacemgcjnahaaGreatDoor.L
/-
  A world in which the listed variables read as the rows say.
-/
namespace Go.Proofs.YtobacemgcjnahaaGreatDoor.L
open Go Go.RowKit Go.Proofs Go.ChangeShapes Go.WideShapes Go.ChangeAt

def PLAIN : List (String × DataW Unit) := LAID.filter fun x => x.2.handleName?.isNone
/-- The table of functions set; the other variables at zero. -/
noncomputable def witBase (os : Os) : World :=
  { World.holding Tryz.prog os ⟨#[], #[], []⟩ with heap := ⟨Lay.setRows (World.holding Tryz.prog os ⟨#[], #[], []⟩).heap.toList [(0, [.func (.func 209) #[] #[], .func (.func 210) #[] #[], .func (.func 211) #[] #[], .func (.func 212) #[] #[], .func (.func 213) #[] #[]])]⟩ }
noncomputable def wit (os : Os) : World := (witBase os).layVars Tryz.prog PLAIN
theorem wit_os (os : Os) : (wit os).os = os := (World.layVars_os _ _ _).trans rfl

theorem wit_plain (os : Os) (args : Array Value) : laidMet Tryz.prog PLAIN ((wit os).forCall (fun _ _ => 0) ⟨#[], args, []⟩).memory := by
  have e1 : (PLAIN.filter fun x => (PLAIN.map (·.1)).contains x.1) = PLAIN := List.filter_eq_self.2 fun x hx => List.contains_iff_mem.2 (List.mem_map.2 ⟨x, hx, rfl⟩)
  have e2 : (PLAIN.filter fun x => !(PLAIN.map (·.1)).contains x.1) = [] := List.filter_eq_nil_iff.2 fun x hx => by rw [List.contains_iff_mem.2 (List.mem_map.2 ⟨x, hx, rfl⟩)]; simp
  have hf : (witBase os).layFits Tryz.prog PLAIN [] = true := by kernel_rfl
  have hi : (witBase os).layIfaces Tryz.prog PLAIN (wit os) = true := by kernel_rfl
  have h : laidMet Tryz.prog PLAIN (wit os) := laidMet_layVars (w0 := witBase os) (PLAIN.map (·.1)) [] (by rw [e1]; rfl) (by rw [e1]; exact hf) (by rw [e1]; exact hi) (by rw [e2]; exact LaidIn.none)
  exact h.of_heap (by simp [World.memory, World.forCall, Input.heap])

theorem wit_met (os : Os) (args : Array Value) : laidMetH Tryz.prog LAID ((wit os).forCall (fun _ _ => 0) ⟨#[], args, []⟩).memory :=
  laidMetH_of_parts3 (fuel := 8) (wit_plain os args) (by kernel_rfl) (by kernel_rfl)
end Go.Proofs.YtobacemgcjnahaaGreatDoor.L
