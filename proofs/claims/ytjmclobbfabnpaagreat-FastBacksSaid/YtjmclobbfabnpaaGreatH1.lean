/-
  Ma Mab Na Mb Mc Md Me Nb Mf
-/
import Derived.Test.YtjmclobbfabnpaaGreatProg
import Derived.Test.YtjmclobbfabnpaaGreatG4
import Derived.KernelRfl
import Derived.Shelf.Spec.BitsCarry
set_option linter.unusedSimpArgs false
set_option linter.unusedVariables false
/-
  The program's tables, as far as the walks look them up.
-/
namespace Go.Proofs.YtjmclobbfabnpaaGreat.L
open Go Go.RowKit Go.Proofs

theorem tsz69 : tsz Tryz.prog 52 = some 1 := by kernel_rfl
theorem elt23 : elt Tryz.prog 24 = some 52 := by kernel_rfl
theorem esz23 : esz Tryz.prog 24 = some 1 := by kernel_rfl
theorem agg69 : aggT Tryz.prog 52 = some false := by kernel_rfl

noncomputable def infoD (t : TypeId) : TypeInfo := (Tryz.prog.info? t).getD default
/-- What a table of zero values owes for a type. -/
def ZOk (t : TypeId) (x : AV) : Prop := ∃ i z, Tryz.prog.info? t = some i ∧ i.zero = some z ∧ z.cells.size = i.size ∧ (x.isV = false → z.oneCell' = true) ∧ ∀ cx w μ mem, RepA cx w μ mem x z

mutual
/-- The cells of a zero value. -/
def V.zc : V → List Value
  | .int k n => [.int k n]
  | .bool b => [.bool b]
  | .str s => [.string s]
  | .sl _ _ => [.slice none 0 0]
  | .agg fs => V.zcs fs
  | .niface => [.nilIface]
  | .iface _ _ => []
  | .nfun => [.nilFunc]
def V.zcs : List V → List Value
  | [] => []
  | x :: r => x.zc ++ V.zcs r
end
mutual
def V.zok : V → Bool
  | .sl _ xs => xs.isEmpty
  | .agg fs => V.zoks fs
  | .iface _ _ => false
  | _ => true
def V.zoks : List V → Bool
  | [] => true
  | x :: r => x.zok && V.zoks r
end
mutual
theorem V.zc_ok {w : World} {ok : Nat → Prop} : ∀ {x : V}, x.zok = true → Rep w ok x x.zc
  | .int _ _, _ => by rw [Rep, V.zc]
  | .bool _, _ => by rw [Rep, V.zc]
  | .str _, _ => by rw [Rep, V.zc]
  | .sl _ xs, h => by
    rw [V.zok, List.isEmpty_iff] at h
    subst h
    rw [Rep, V.zc]
    exact .inl ⟨rfl, _, _, rfl⟩
  | .agg fs, h => by rw [V.zok] at h; rw [Rep, V.zc]; exact V.zcs_ok h
  | .niface, _ => by rw [Rep, V.zc]
  | .nfun, _ => by rw [Rep, V.zc]
  | .iface _ _, h => by rw [V.zok] at h; cases h
theorem V.zcs_ok {w : World} {ok : Nat → Prop} : ∀ {xs : List V}, V.zoks xs = true → RepL w ok xs (V.zcs xs)
  | [], _ => by rw [RepL, V.zcs]
  | x :: r, h => by
    rw [V.zoks, Bool.and_eq_true] at h
    rw [RepL, V.zcs]
    exact ⟨_, _, rfl, V.zc_ok h.1, V.zcs_ok h.2⟩
end

theorem z_v {t : TypeId} {x : V} (h1 : Tryz.prog.info? t = some (infoD t)) (h2 : (infoD t).zero = some (x.toVal x.zc)) (h3 : (x.toVal x.zc).cells.size = (infoD t).size) (hz : x.zok = true) : ZOk t (.v true x) :=
  ⟨_, _, h1, h2, h3, (fun h => by cases h), (fun _ _ _ _ => by rw [RepA]; exact ⟨_, V.zc_ok hz, rfl⟩)⟩
theorem z_nil {t : TypeId} (h1 : Tryz.prog.info? t = some (infoD t)) (h2 : (infoD t).zero = some (.slice none 0 0)) (h3 : (Value.slice none 0 0).cells.size = (infoD t).size) : ZOk t .nil :=
  ⟨_, _, h1, h2, h3, fun _ => rfl, fun _ _ _ _ => repA_nil.2 rfl⟩
theorem z3 : ZOk 3 (.v true (.int .i64 0)) := z_v (by kernel_rfl) (by kernel_rfl) (by kernel_rfl) (by rfl)
theorem z2 : ZOk 2 (.v true (.int .i64 0)) := z_v (by kernel_rfl) (by kernel_rfl) (by kernel_rfl) (by rfl)
theorem z4 : ZOk 4 (.v true (.bool false)) := z_v (by kernel_rfl) (by kernel_rfl) (by kernel_rfl) (by rfl)
theorem z69 : ZOk 52 (.v true (.int .u64 0)) := z_v (by kernel_rfl) (by kernel_rfl) (by kernel_rfl) (by rfl)
theorem z26 : ZOk 29 (.v true (.int .i64 0)) := z_v (by kernel_rfl) (by kernel_rfl) (by kernel_rfl) (by rfl)
theorem z31 : ZOk 118 (.v true (.int .u64 0)) := z_v (by kernel_rfl) (by kernel_rfl) (by kernel_rfl) (by rfl)
theorem z42 : ZOk 26 (.v true (.agg [(.bool false), (.sl 1 [])])) := z_v (by kernel_rfl) (by kernel_rfl) (by kernel_rfl) (by rfl)
theorem z85 : ZOk 43 (.v true (.agg [(.bool false), (.sl 1 [])])) := z_v (by kernel_rfl) (by kernel_rfl) (by kernel_rfl) (by rfl)
theorem z43 : ZOk 27 (.v true (.agg [(.agg [(.bool false), (.sl 1 [])]), (.agg [(.bool false), (.sl 1 [])]), (.agg [(.bool false), (.sl 1 [])]), (.agg [(.bool false), (.sl 1 [])]), (.agg [(.bool false), (.sl 1 [])])])) := z_v (by kernel_rfl) (by kernel_rfl) (by kernel_rfl) (by rfl)
theorem z86 : ZOk 44 (.v true (.agg [(.agg [(.bool false), (.sl 1 [])]), (.agg [(.bool false), (.sl 1 [])]), (.agg [(.bool false), (.sl 1 [])]), (.agg [(.bool false), (.sl 1 [])]), (.agg [(.bool false), (.sl 1 [])])])) := z_v (by kernel_rfl) (by kernel_rfl) (by kernel_rfl) (by rfl)
theorem z95 : ZOk 95 (.v true (.agg [(.int .i64 0)])) := z_v (by kernel_rfl) (by kernel_rfl) (by kernel_rfl) (by rfl)
theorem z96 : ZOk 94 (.v true (.agg [(.int .i64 0)])) := z_v (by kernel_rfl) (by kernel_rfl) (by kernel_rfl) (by rfl)
theorem z141 : ZOk 158 (.v true (.agg [(.int .u64 0), (.int .u64 0)])) := z_v (by kernel_rfl) (by kernel_rfl) (by kernel_rfl) (by rfl)
theorem z53 : ZOk 69 (.v true .nfun) := z_v (by kernel_rfl) (by kernel_rfl) (by kernel_rfl) (by rfl)
theorem z79 : ZOk 91 (.v true (.agg [(.int .i64 0), (.int .i64 0)])) := z_v (by kernel_rfl) (by kernel_rfl) (by kernel_rfl) (by rfl)
theorem z103 : ZOk 55 (.v true (.agg [(.int .i64 0), (.int .i64 0), (.int .i64 0), (.int .i64 0)])) := z_v (by kernel_rfl) (by kernel_rfl) (by kernel_rfl) (by rfl)
theorem z22 : ZOk 23 .nil := z_nil (by kernel_rfl) (by kernel_rfl) (by kernel_rfl)
theorem z23 : ZOk 24 .nil := z_nil (by kernel_rfl) (by kernel_rfl) (by kernel_rfl)
theorem z25 : ZOk 57 .nil := z_nil (by kernel_rfl) (by kernel_rfl) (by kernel_rfl)
theorem z39 : ZOk 22 .nil := z_nil (by kernel_rfl) (by kernel_rfl) (by kernel_rfl)
theorem z80 : ZOk 39 .nil := z_nil (by kernel_rfl) (by kernel_rfl) (by kernel_rfl)
theorem z144 : ZOk 161 .nil := z_nil (by kernel_rfl) (by kernel_rfl) (by kernel_rfl)
theorem z77 : ZOk 62 .nil := z_nil (by kernel_rfl) (by kernel_rfl) (by kernel_rfl)
def ztab : TypeId → Option AV := fun t => match t with
  | 3 => some (.v true (.int .i64 0))
  | 2 => some (.v true (.int .i64 0))
  | 4 => some (.v true (.bool false))
  | 52 => some (.v true (.int .u64 0))
  | 29 => some (.v true (.int .i64 0))
  | 118 => some (.v true (.int .u64 0))
  | 26 => some (.v true (.agg [(.bool false), (.sl 1 [])]))
  | 43 => some (.v true (.agg [(.bool false), (.sl 1 [])]))
  | 27 => some (.v true (.agg [(.agg [(.bool false), (.sl 1 [])]), (.agg [(.bool false), (.sl 1 [])]), (.agg [(.bool false), (.sl 1 [])]), (.agg [(.bool false), (.sl 1 [])]), (.agg [(.bool false), (.sl 1 [])])]))
  | 44 => some (.v true (.agg [(.agg [(.bool false), (.sl 1 [])]), (.agg [(.bool false), (.sl 1 [])]), (.agg [(.bool false), (.sl 1 [])]), (.agg [(.bool false), (.sl 1 [])]), (.agg [(.bool false), (.sl 1 [])])]))
  | 95 => some (.v true (.agg [(.int .i64 0)]))
  | 94 => some (.v true (.agg [(.int .i64 0)]))
  | 158 => some (.v true (.agg [(.int .u64 0), (.int .u64 0)]))
  | 69 => some (.v true .nfun)
  | 91 => some (.v true (.agg [(.int .i64 0), (.int .i64 0)]))
  | 55 => some (.v true (.agg [(.int .i64 0), (.int .i64 0), (.int .i64 0), (.int .i64 0)]))
  | 23 => some .nil
  | 24 => some .nil
  | 57 => some .nil
  | 22 => some .nil
  | 39 => some .nil
  | 161 => some .nil
  | 62 => some .nil
  | _ => none
theorem ztab_ok (t : TypeId) (x : AV) (h : ztab t = some x) : ZOk t x := by
  unfold ztab at h
  split at h
  · cases h; exact z3
  · cases h; exact z2
  · cases h; exact z4
  · cases h; exact z69
  · cases h; exact z26
  · cases h; exact z31
  · cases h; exact z42
  · cases h; exact z85
  · cases h; exact z43
  · cases h; exact z86
  · cases h; exact z95
  · cases h; exact z96
  · cases h; exact z141
  · cases h; exact z53
  · cases h; exact z79
  · cases h; exact z103
  · cases h; exact z22
  · cases h; exact z23
  · cases h; exact z25
  · cases h; exact z39
  · cases h; exact z80
  · cases h; exact z144
  · cases h; exact z77
  · cases h
def mtab : TypeId → String → Option FuncId := fun t m => if m = "reckoner/fast.mul" then (match t with
  | 94 => some 100
  | 95 => some 126
  | _ => none) else none
theorem mtab_ok (t : TypeId) (m : String) (f : FuncId) (h : mtab t m = some f) (v : Value) (w : World) : (method (Tryz.prog.types.size + Made.depth) t v m).run Tryz.prog w = .ok (f, v) w := by
  unfold mtab at h
  split at h
  · next hm =>
    subst hm
    split at h
    · cases h; kernel_rfl
    · cases h; kernel_rfl
    · cases h
  · cases h
def px : Px Tryz.prog where
  zt := ztab
  mt := mtab
  fz := fun _ => false
  mok := mtab_ok
  zok := ztab_ok
def TT : Tab := ⟨ztab, mtab, fun _ => false⟩
theorem TTe : TT = px.tab := rfl

def words (l : List Int) : V := .sl 1 (l.map fun n => .int .u64 n)

theorem wrap_i64 {n : Int} (h1 : -9223372036854775808 ≤ n) (h2 : n < 9223372036854775808) : IntKind.i64.wrap n = n := by
  have key : ∀ (m : Int) (i : Decidable (m ≥ 9223372036854775808)), m = n % 18446744073709551616 → (if (true && @decide (m ≥ 9223372036854775808) i) = true then m - 18446744073709551616 else m) = n := by
    intro m i hm
    by_cases h : m ≥ 9223372036854775808
    · rw [decide_eq_true h, Bool.and_self, if_pos rfl]; omega
    · rw [decide_eq_false h, Bool.and_false, if_neg (by simp)]; omega
  exact key _ _ rfl
theorem wrap_u64 {n : Int} : IntKind.u64.wrap n = n % 18446744073709551616 := by
  unfold IntKind.wrap
  simp only [IntKind.bits, IntKind.signed, Bool.false_and, Bool.false_eq_true, if_false]
  rfl

theorem flatW (l : List Int) : (l.map fun n => V.int .u64 n).all V.flat = true := by
  rw [List.all_eq_true]
  intro x hx
  obtain ⟨n, _, rfl⟩ := List.mem_map.1 hx
  rfl
theorem tby69 : tby Tryz.prog 52 = some 8 := by kernel_rfl
theorem mixed : Tryz.prog.follows .mixedOrders = true := by kernel_rfl
theorem zt69 : TT.zt 52 = some (.v true (.int .u64 0)) := rfl
theorem zt3 : TT.zt 3 = some (.v true (.int .i64 0)) := rfl
/-
  What is known of the program's types.
-/

theorem TY : (tsz Tryz.prog 2 = some 1) ∧
  (tby Tryz.prog 2 = some 8) ∧
  (aggT Tryz.prog 2 = some false) ∧
  (tsz Tryz.prog 3 = some 1) ∧
  (tby Tryz.prog 3 = some 8) ∧
  (aggT Tryz.prog 3 = some false) ∧
  (tsz Tryz.prog 4 = some 1) ∧
  (tby Tryz.prog 4 = some 1) ∧
  (aggT Tryz.prog 4 = some false) ∧
  (boolT Tryz.prog 4 = true) ∧
  (tsz Tryz.prog 5 = some 1) ∧
  (tby Tryz.prog 5 = some 1) ∧
  (aggT Tryz.prog 5 = some false) ∧
  (tsz Tryz.prog 23 = some 1) ∧
  (tby Tryz.prog 23 = some 24) ∧
  (elt Tryz.prog 23 = some 52) ∧
  (esz Tryz.prog 23 = some 1) ∧
  (aggT Tryz.prog 23 = some false) ∧
  (tsz Tryz.prog 24 = some 1) ∧
  (tby Tryz.prog 24 = some 24) ∧
  (elt Tryz.prog 24 = some 52) ∧
  (esz Tryz.prog 24 = some 1) ∧
  (aggT Tryz.prog 24 = some false) ∧
  (tsz Tryz.prog 57 = some 1) ∧
  (tby Tryz.prog 57 = some 24) ∧
  (elt Tryz.prog 57 = some 24) ∧
  (esz Tryz.prog 57 = some 1) ∧
  (aggT Tryz.prog 57 = some false) ∧
  (tsz Tryz.prog 29 = some 1) ∧
  (tby Tryz.prog 29 = some 8) ∧
  (aggT Tryz.prog 29 = some false) ∧
  (tsz Tryz.prog 118 = some 1) ∧
  (tby Tryz.prog 118 = some 8) ∧
  (aggT Tryz.prog 118 = some false) ∧
  (tsz Tryz.prog 22 = some 1) ∧
  (tby Tryz.prog 22 = some 24) ∧
  (elt Tryz.prog 22 = some 26) ∧
  (esz Tryz.prog 22 = some 2) ∧
  (aggT Tryz.prog 22 = some false) ∧
  (tsz Tryz.prog 26 = some 2) ∧
  (tby Tryz.prog 26 = some 32) ∧
  (aggT Tryz.prog 26 = some true) ∧
  (plc Tryz.prog 26 = some [(0, 1), (1, 1)]) ∧
  (fld Tryz.prog 26 0 = some (0, 1, false)) ∧
  (fld Tryz.prog 26 1 = some (1, 1, false)) ∧
  (tsz Tryz.prog 27 = some 10) ∧
  (tby Tryz.prog 27 = some 160) ∧
  (aggT Tryz.prog 27 = some true) ∧
  (arrT Tryz.prog 27 = some (5, 2, true)) ∧
  (plc Tryz.prog 27 = some [(0, 2), (2, 2), (4, 2), (6, 2), (8, 2)]) ∧
  (tsz Tryz.prog 65 = some 1) ∧
  (tby Tryz.prog 65 = some 0) ∧
  (aggT Tryz.prog 65 = some false) ∧
  (tsz Tryz.prog 52 = some 1) ∧
  (tby Tryz.prog 52 = some 8) ∧
  (aggT Tryz.prog 52 = some false) ∧
  (tsz Tryz.prog 62 = some 1) ∧
  (tby Tryz.prog 62 = some 24) ∧
  (elt Tryz.prog 62 = some 2) ∧
  (esz Tryz.prog 62 = some 1) ∧
  (aggT Tryz.prog 62 = some false) ∧
  (tsz Tryz.prog 91 = some 2) ∧
  (tby Tryz.prog 91 = some 16) ∧
  (aggT Tryz.prog 91 = some true) ∧
  (plc Tryz.prog 91 = some [(0, 1), (1, 1)]) ∧
  (fld Tryz.prog 91 0 = some (0, 1, false)) ∧
  (fld Tryz.prog 91 1 = some (1, 1, false)) ∧
  (pairT Tryz.prog 91 = true) ∧
  (tsz Tryz.prog 39 = some 1) ∧
  (tby Tryz.prog 39 = some 24) ∧
  (elt Tryz.prog 39 = some 43) ∧
  (esz Tryz.prog 39 = some 2) ∧
  (aggT Tryz.prog 39 = some false) ∧
  (tsz Tryz.prog 43 = some 2) ∧
  (tby Tryz.prog 43 = some 32) ∧
  (aggT Tryz.prog 43 = some true) ∧
  (plc Tryz.prog 43 = some [(0, 1), (1, 1)]) ∧
  (fld Tryz.prog 43 0 = some (0, 1, false)) ∧
  (fld Tryz.prog 43 1 = some (1, 1, false)) ∧
  (tsz Tryz.prog 44 = some 10) ∧
  (tby Tryz.prog 44 = some 160) ∧
  (aggT Tryz.prog 44 = some true) ∧
  (arrT Tryz.prog 44 = some (5, 2, true)) ∧
  (plc Tryz.prog 44 = some [(0, 2), (2, 2), (4, 2), (6, 2), (8, 2)]) ∧
  (tsz Tryz.prog 95 = some 1) ∧
  (tby Tryz.prog 95 = some 8) ∧
  (aggT Tryz.prog 95 = some true) ∧
  (plc Tryz.prog 95 = some [(0, 1)]) ∧
  (fld Tryz.prog 95 0 = some (0, 1, false)) ∧
  (tsz Tryz.prog 94 = some 1) ∧
  (tby Tryz.prog 94 = some 8) ∧
  (aggT Tryz.prog 94 = some true) ∧
  (plc Tryz.prog 94 = some [(0, 1)]) ∧
  (fld Tryz.prog 94 0 = some (0, 1, false)) ∧
  (tsz Tryz.prog 55 = some 4) ∧
  (tby Tryz.prog 55 = some 32) ∧
  (aggT Tryz.prog 55 = some true) ∧
  (arrT Tryz.prog 55 = some (4, 1, false)) ∧
  (plc Tryz.prog 55 = some [(0, 1), (1, 1), (2, 1), (3, 1)]) ∧
  (tsz Tryz.prog 116 = some 1) ∧
  (tby Tryz.prog 116 = some 0) ∧
  (aggT Tryz.prog 116 = some false) ∧
  (tsz Tryz.prog 101 = some 1) ∧
  (tby Tryz.prog 101 = some 0) ∧
  (aggT Tryz.prog 101 = some false) ∧
  (tsz Tryz.prog 153 = some 1) ∧
  (tby Tryz.prog 153 = some 0) ∧
  (aggT Tryz.prog 153 = some false) ∧
  (tsz Tryz.prog 158 = some 2) ∧
  (tby Tryz.prog 158 = some 16) ∧
  (aggT Tryz.prog 158 = some true) ∧
  (plc Tryz.prog 158 = some [(0, 1), (1, 1)]) ∧
  (fld Tryz.prog 158 0 = some (0, 1, false)) ∧
  (fld Tryz.prog 158 1 = some (1, 1, false)) ∧
  (pairT Tryz.prog 158 = true) ∧
  (tsz Tryz.prog 161 = some 1) ∧
  (tby Tryz.prog 161 = some 24) ∧
  (elt Tryz.prog 161 = some 23) ∧
  (esz Tryz.prog 161 = some 1) ∧
  (aggT Tryz.prog 161 = some false) ∧
  (TT.zt 3 = some (.v true (.int .i64 0))) ∧
  (TT.zt 2 = some (.v true (.int .i64 0))) ∧
  (TT.zt 4 = some (.v true (.bool false))) ∧
  (TT.zt 52 = some (.v true (.int .u64 0))) ∧
  (TT.zt 29 = some (.v true (.int .i64 0))) ∧
  (TT.zt 118 = some (.v true (.int .u64 0))) ∧
  (TT.zt 26 = some (.v true (.agg [(.bool false), (.sl 1 [])]))) ∧
  (TT.zt 43 = some (.v true (.agg [(.bool false), (.sl 1 [])]))) ∧
  (TT.zt 27 = some (.v true (.agg [(.agg [(.bool false), (.sl 1 [])]), (.agg [(.bool false), (.sl 1 [])]), (.agg [(.bool false), (.sl 1 [])]), (.agg [(.bool false), (.sl 1 [])]), (.agg [(.bool false), (.sl 1 [])])]))) ∧
  (TT.zt 44 = some (.v true (.agg [(.agg [(.bool false), (.sl 1 [])]), (.agg [(.bool false), (.sl 1 [])]), (.agg [(.bool false), (.sl 1 [])]), (.agg [(.bool false), (.sl 1 [])]), (.agg [(.bool false), (.sl 1 [])])]))) ∧
  (TT.zt 95 = some (.v true (.agg [(.int .i64 0)]))) ∧
  (TT.zt 94 = some (.v true (.agg [(.int .i64 0)]))) ∧
  (TT.zt 158 = some (.v true (.agg [(.int .u64 0), (.int .u64 0)]))) ∧
  (TT.zt 69 = some (.v true .nfun)) ∧
  (TT.zt 91 = some (.v true (.agg [(.int .i64 0), (.int .i64 0)]))) ∧
  (TT.zt 55 = some (.v true (.agg [(.int .i64 0), (.int .i64 0), (.int .i64 0), (.int .i64 0)]))) ∧
  (TT.zt 23 = some .nil) ∧
  (TT.zt 24 = some .nil) ∧
  (TT.zt 57 = some .nil) ∧
  (TT.zt 22 = some .nil) ∧
  (TT.zt 39 = some .nil) ∧
  (TT.zt 161 = some .nil) ∧
  (TT.zt 62 = some .nil) ∧
  (∀ d, TT.fz d = false) := by
  refine ⟨?_, ?_, ?_, ?_, ?_, ?_, ?_, ?_, ?_, ?_, ?_, ?_, ?_, ?_, ?_, ?_, ?_, ?_, ?_, ?_, ?_, ?_, ?_, ?_, ?_, ?_, ?_, ?_, ?_, ?_, ?_, ?_, ?_, ?_, ?_, ?_, ?_, ?_, ?_, ?_, ?_, ?_, ?_, ?_, ?_, ?_, ?_, ?_, ?_, ?_, ?_, ?_, ?_, ?_, ?_, ?_, ?_, ?_, ?_, ?_, ?_, ?_, ?_, ?_, ?_, ?_, ?_, ?_, ?_, ?_, ?_, ?_, ?_, ?_, ?_, ?_, ?_, ?_, ?_, ?_, ?_, ?_, ?_, ?_, ?_, ?_, ?_, ?_, ?_, ?_, ?_, ?_, ?_, ?_, ?_, ?_, ?_, ?_, ?_, ?_, ?_, ?_, ?_, ?_, ?_, ?_, ?_, ?_, ?_, ?_, ?_, ?_, ?_, ?_, ?_, ?_, ?_, ?_, ?_, ?_, ?_, ?_, ?_, ?_, ?_, ?_, ?_, ?_, ?_, ?_, ?_, ?_, ?_, ?_, ?_, ?_, ?_, ?_, ?_, ?_, ?_, ?_, ?_, ?_⟩ <;> first | kernel_rfl | exact fun _ => rfl
end Go.Proofs.YtjmclobbfabnpaaGreat.L
/-
  Numbers by their words.
-/
namespace Go.Proofs.YtjmclobbfabnpaaGreat.L

def okW (l : List Int) : Prop := ∀ n ∈ l, 0 ≤ n ∧ n < 18446744073709551616

theorem okW_getD {l : List Int} (h : okW l) (i : Nat) : 0 ≤ l.getD i 0 ∧ l.getD i 0 < 18446744073709551616 := by
  rw [List.getD_eq_getElem?_getD]
  cases hi : l[i]? with
  | none => simp
  | some n => exact h n (List.mem_of_getElem? hi)
theorem okW_set {l : List Int} (h : okW l) {i : Nat} {n : Int} (hn : 0 ≤ n ∧ n < 18446744073709551616) : okW (l.set i n) := fun m hm => by
  rcases List.mem_or_eq_of_mem_set hm with h1 | rfl
  · exact h m h1
  · exact hn

theorem get_map {l : List Int} {i : Nat} (h : i < l.length) : l[i]? = some (l.getD i 0) := by
  rw [List.getD_eq_getElem?_getD, List.getElem?_eq_getElem h]; rfl

/-- How many words are left when the zero words at the end fall away. -/
def trimW (l : List Int) : Nat → Nat
  | 0 => 0
  | n + 1 => if l.getD n 0 = 0 then trimW l n else n + 1

theorem trimW_le (l : List Int) : ∀ n, trimW l n ≤ n
  | 0 => Nat.le_refl _
  | n + 1 => by
    rw [trimW]
    split
    · exact Nat.le_succ_of_le (trimW_le l n)
    · exact Nat.le_refl _

/-- A number's words, without zero words at the end. -/
def trimL (l : List Int) : List Int := l.take (trimW l l.length)

theorem trimL_len (l : List Int) : (trimL l).length ≤ l.length := by
  unfold trimL
  rw [List.length_take]
  exact Nat.min_le_right _ _


/-- What the words come to. -/
def val : List Int → Nat
  | [] => 0
  | x :: r => x.toNat + 18446744073709551616 * val r

/-- A number's words. -/
def digsF : Nat → Nat → List Int
  | 0, _ => []
  | f + 1, n => if n = 0 then [] else ((n % 18446744073709551616 : Nat) : Int) :: digsF f (n / 18446744073709551616)
def digs (n : Nat) : List Int := digsF (n.log2 / 64 + 1) n

/-- No zero word at the end. -/
def noZ : List Int → Prop
  | [] => True
  | [x] => x ≠ 0
  | _ :: y :: r => noZ (y :: r)

theorem okW_cons {x : Int} {r : List Int} (h : okW (x :: r)) : (0 ≤ x ∧ x < 18446744073709551616) ∧ okW r := ⟨h x (by simp), fun n hn => h n (by simp [hn])⟩

theorem noZ_cons {x : Int} {r : List Int} (h : noZ (x :: r)) : noZ r := by
  cases r with
  | nil => trivial
  | cons y q => exact h

theorem val_pos : ∀ {l : List Int}, okW l → noZ l → l ≠ [] → 0 < val l
  | [], _, _, h => absurd rfl h
  | [x], ok, h, _ => by
    have h1 := (okW_cons ok).1
    have h2 : x ≠ 0 := h
    rw [val, val]
    omega
  | x :: y :: r, ok, h, _ => by
    have := val_pos (okW_cons ok).2 h (by simp)
    rw [val]
    omega

/-- Two numbers in words without zero words at the end: alike in value, alike in words. -/
theorem val_inj : ∀ {l m : List Int}, okW l → okW m → noZ l → noZ m → val l = val m → l = m
  | [], [], _, _, _, _, _ => rfl
  | [], y :: q, _, om, _, zm, h => by have := val_pos om zm (by simp); rw [← h] at this; simp [val] at this
  | x :: r, [], ol, _, zl, _, h => by have := val_pos ol zl (by simp); rw [h] at this; simp [val] at this
  | x :: r, y :: q, ol, om, zl, zm, h => by
    have h1 := okW_cons ol
    have h2 := okW_cons om
    rw [val, val] at h
    have e1 : x = y := by omega
    have e2 : val r = val q := by omega
    rw [e1, val_inj h1.2 h2.2 (noZ_cons zl) (noZ_cons zm) e2]

theorem digsF_ok : ∀ (f n : Nat), n < 18446744073709551616 ^ f → okW (digsF f n) ∧ noZ (digsF f n) ∧ val (digsF f n) = n
  | 0, n, h => by
    rw [digsF]
    refine ⟨(fun n hn => by cases hn), trivial, ?_⟩
    rw [val]
    simp at h
    omega
  | f + 1, n, h => by
    rw [digsF]
    split
    · next h0 => exact ⟨(fun n hn => by cases hn), trivial, by rw [val, h0]⟩
    · next h0 =>
      obtain ⟨h1, h2, h3⟩ := digsF_ok f (n / 18446744073709551616) (by rw [Nat.pow_succ] at h; exact (Nat.div_lt_iff_lt_mul (by decide)).2 h)
      refine ⟨fun m hm => ?_, ?_, by rw [val, h3]; omega⟩
      · rcases List.mem_cons.1 hm with rfl | hm
        · omega
        · exact h1 m hm
      · cases hd : digsF f (n / 18446744073709551616) with
        | nil =>
          rw [hd] at h3
          rw [val] at h3
          show ((n % 18446744073709551616 : Nat) : Int) ≠ 0
          omega
        | cons y q => rw [hd] at h2; exact h2

theorem digs_ok (n : Nat) : okW (digs n) ∧ noZ (digs n) ∧ val (digs n) = n := by
  refine digsF_ok _ n ?_
  have h1 : n < 2 ^ (n.log2 + 1) := Nat.lt_log2_self
  refine Nat.lt_of_lt_of_le h1 ?_
  rw [show (18446744073709551616 : Nat) = 2 ^ 64 from rfl, ← Nat.pow_mul]
  exact Nat.pow_le_pow_right (by decide) (by omega)

theorem digs_of {l : List Int} (ol : okW l) (zl : noZ l) : l = digs (val l) := by
  obtain ⟨h1, h2, h3⟩ := digs_ok (val l)
  exact val_inj ol h1 zl h2 h3.symm

theorem val_append : ∀ (l m : List Int), val (l ++ m) = val l + 18446744073709551616 ^ l.length * val m
  | [], m => by simp [val]
  | x :: r, m => by
    rw [List.cons_append, val, val, val_append r m, List.length_cons, Nat.pow_succ]
    rw [Nat.mul_add, Nat.mul_comm _ (18446744073709551616 : Nat), ← Nat.mul_assoc]
    omega
end Go.Proofs.YtjmclobbfabnpaaGreat.L
/-
  nat.trim.
-/
namespace Go.Proofs.YtjmclobbfabnpaaGreat.L
open Go Go.RowKit Go.Proofs
attribute [local go_sem] evalOps_nil evalOps_cons runW_t runW_f runE_s runP_s wantA evalOp effOp letters okDst coreA St.opv St.get St.at look constA St.put St.upd St.set decide_true List.all_nil List.all_cons Bool.and_true Bool.true_and and_self and_true true_and if_true if_false true_or Int.sub_zero List.nil_append List.cons_append List.append_nil Option.isSome_some List.getElem?_toArray List.getElem?_cons_succ List.getElem?_cons_zero Option.bind_some Option.map_some Option.map_none beq_self_eq_true Bool.false_beq Bool.true_beq Bool.not_true Bool.not_false Bool.false_eq_true cond_true cond_false binA binI List.map_cons List.map_nil boundA List.length_nil List.length_cons Nat.zero_mul Nat.one_mul Nat.mul_one Nat.zero_add Nat.add_zero Nat.zero_le Option.toList St.freshB AV.ment AV.ments Blk.ment V.sizes Nat.lt_add_one Bool.or_true Bool.true_or Bool.or_false Bool.false_or Bool.or_self if_pos if_neg decide_false decide_eq_true decide_eq_false wrap_i64 Int.toNat_natCast minA maxA Int.natCast_add Int.cast_ofNat_Int Option.isSome_none false_implies true_implies forall_const List.drop_zero Int.toNat_zero Int.add_sub_cancel lenA sliceA loadA indexAddrA partA fitsT V.atP V.offP V.size List.length_map List.getElem?_map Int.toNat_natCast_add_one Int.ofNat_eq_natCast TY calleeA capArg knotA capArgs toArgs toArg callA R.res R.mems R.blks R.av R.names R.nw invokeA storeA storeV fieldAddrA liveB V.off V.offs V.setP List.set_cons_zero List.set_cons_succ buildA buildP partsA appendA srcA copyA boxOk makeA AV.pure List.take_succ_cons List.take_zero nilA words entry List.zipIdx_cons List.zipIdx_nil Arg.av Arg.avs

theorem trim_ok (l : List Int) (hl : l.length < 1000000000) : FnOk Tryz.prog 72 [.v (words l)] [.v false (words (l.take (trimW l l.length)))] := by
  refine FnOk.of Tryz.func72 rfl rfl fun cx w0 => ?_
  rw [Tryz.ntmps72]
  refine Holds.step (Px := px) (T := TT) (ρ := fun _ => []) TTe (by simp (maxSteps := 100000) (disch := omega) only [go_sem, V.isAgg, V.flat, ↓reduceIte, Nat.reduceAdd, Nat.reduceSub, Nat.reduceLT, Nat.reduceEqDiff, reduceCtorEq, Nat.reduceLeDiff, Nat.reduceBEq, Nat.reduceMul, Int.reduceToNat, entry, List.length_cons, List.length_nil, List.zipIdx_cons, List.zipIdx_nil, Arg.av, V.flat, words]; rfl) (by repeat' first | exact trivial | constructor) ?_
  refine Holds.step (Px := px) (T := TT) (ρ := fun _ => []) TTe (by simp (maxSteps := 100000) (disch := omega) only [go_sem, V.isAgg, V.flat, ↓reduceIte, Nat.reduceAdd, Nat.reduceSub, Nat.reduceLT, Nat.reduceEqDiff, reduceCtorEq, Nat.reduceLeDiff, Nat.reduceBEq, Nat.reduceMul, Int.reduceToNat, lenA, elt23, List.length_map]; rfl) (by repeat' first | exact trivial | constructor) ?_
  refine Holds.next (fun σ => ∃ env, σ = { nt := 21, env, mem := [] } ∧ look env 3 = .v true (.int .i64 (trimW l l.length : Nat)) ∧ look env 0 = .v false (.sl 1 (l.map fun n => .int .u64 n)))
    (Holds.loopB (fun n : Nat => { nt := 21, env := [(3, .v true (.int .i64 (n : Int))), (0, .v false (.sl 1 (l.map fun n => .int .u64 n)))], mem := [] }) (fun n => n ≤ l.length ∧ trimW l n = trimW l l.length) id l.length ⟨Nat.le_refl _, rfl⟩ (fun a w h => Rel.keep [3, 0] [] h) ?_) ?_
  · rintro n ⟨hn, ht⟩
    rcases n with _ | n
    · refine Holds.seq ?_
      refine Holds.step (Px := px) (T := TT) (ρ := fun _ => []) TTe (by simp (maxSteps := 100000) (disch := omega) only [go_sem, V.isAgg, V.flat, ↓reduceIte, Nat.reduceAdd, Nat.reduceSub, Nat.reduceLT, Nat.reduceEqDiff, reduceCtorEq, Nat.reduceLeDiff, Nat.reduceBEq, Nat.reduceMul, Int.reduceToNat]; rfl) (by repeat' first | exact trivial | constructor) ?_
      refine Holds.condF rfl (Holds.exit ⟨rfl, _, rfl, ?_, rfl⟩)
      rw [← ht]; rfl
    · have hlt : n < l.length := by omega
      have e1 : l[n]? = some (l.getD n 0) := by rw [List.getD_eq_getElem?_getD, List.getElem?_eq_getElem hlt]; rfl
      refine Holds.seq ?_
      refine Holds.step (Px := px) (T := TT) (ρ := fun _ => []) TTe (by simp (maxSteps := 100000) (disch := omega) only [go_sem, V.isAgg, V.flat, ↓reduceIte, Nat.reduceAdd, Nat.reduceSub, Nat.reduceLT, Nat.reduceEqDiff, reduceCtorEq, Nat.reduceLeDiff, Nat.reduceBEq, Nat.reduceMul, Int.reduceToNat, esz23, tsz69, agg69, e1]; rfl) (by repeat' first | exact trivial | constructor) ?_
      by_cases h0 : l.getD n 0 = 0
      · refine Holds.condT (nw := true) (by rw [h0]; rfl) (Holds.skip ?_)
        refine Holds.block ?_
        refine Holds.region (Px := px) (T := TT) (ρ := fun _ => []) TTe (by simp (maxSteps := 100000) (disch := omega) only [go_sem, V.isAgg, V.flat, ↓reduceIte, Nat.reduceAdd, Nat.reduceSub, Nat.reduceLT, Nat.reduceEqDiff, reduceCtorEq, Nat.reduceLeDiff, Nat.reduceBEq, Nat.reduceMul, Int.reduceToNat]; rfl) (by repeat' first | exact trivial | constructor) ?_
        refine ⟨n, ⟨by omega, ?_⟩, by simp, fun a w h => Rel.keep [3, 0] [] h⟩
        rw [← ht, trimW, if_pos h0]
      · refine Holds.condF (nw := true) (by rw [decide_eq_false h0]; rfl) (Holds.exit ⟨rfl, _, rfl, ?_, rfl⟩)
        rw [← ht, trimW, if_neg h0]
        rfl
  · rintro σ ⟨env, rfl, e3, e0⟩
    have hle := trimW_le l l.length
    refine Holds.step (Px := px) (T := TT) (ρ := fun _ => []) TTe (by simp (maxSteps := 100000) (disch := omega) only [go_sem, V.isAgg, V.flat, ↓reduceIte, Nat.reduceAdd, Nat.reduceSub, Nat.reduceLT, Nat.reduceEqDiff, reduceCtorEq, Nat.reduceLeDiff, Nat.reduceBEq, Nat.reduceMul, Int.reduceToNat, e3, e0, esz23]; rfl) (by repeat' first | exact trivial | constructor) ?_
    refine Holds.ret ⟨_, [], rfl, ⟨⟨?_, by simp⟩, trivial⟩, by simp [R.names, R.mems, R.blks], by simp, rfl⟩
    rw [words, List.map_take]
/-
  math/bits.Add64 and Sub64: the machine's own.
-/

theorem FnOk.int3 {P : Program} {f : FuncId} {k : IntKind} {x y c a b : Int} (hr : ∀ w, (callFunc f #[.int k x, .int k y, .int k c]).run P w = .ok (.value (.tuple #[.int k a, .int k b])) w) :
    FnOk P f [.v (.int k x), .v (.int k y), .v (.int k c)] [.v true (.int k a), .v true (.int k b)] := by
  intro w O vs h
  have one : ∀ {n : Int} {v : Value}, ArgRep w O (.v (.int k n)) v → v = .int k n := fun h => by
    rw [ArgRep] at h
    obtain ⟨cs, h1, h2⟩ := h
    rw [Rep] at h1
    subst h1
    exact h2
  rw [ArgsRep] at h
  obtain ⟨v1, r1, rfl, h1, h⟩ := h
  rw [ArgsRep] at h
  obtain ⟨v2, r2, rfl, h2, h⟩ := h
  rw [ArgsRep] at h
  obtain ⟨v3, r3, rfl, h3, h⟩ := h
  rw [ArgsRep] at h
  subst h
  rw [one h1, one h2, one h3]
  refine .inr ⟨_, w, hr w, _, fun _ => none, rfl, Below.refl _ _, ⟨fun s b c hs => by simp at hs, fun s1 s2 b c c' h1 => by simp at h1⟩, fun s => rfl, ?_⟩
  show RepA _ w _ _ (.tup [.v true (.int k a), .v true (.int k b)]) _
  rw [RepA]
  refine ⟨[.int k a, .int k b], rfl, ?_⟩
  rw [RepAL]
  refine ⟨_, _, rfl, repA_int.2 rfl, ?_⟩
  rw [RepAL]
  exact ⟨_, _, rfl, repA_int.2 rfl, by rw [RepAL]⟩

theorem add64_ok (x y c : Int) (hx : 0 ≤ x) (hy : 0 ≤ y) (hc0 : 0 ≤ c) (hc : c ≤ 1) : FnOk Tryz.prog 60 [.v (.int .u64 x), .v (.int .u64 y), .v (.int .u64 c)] [.v true (.int .u64 ((x + y + c) % 18446744073709551616)), .v true (.int .u64 ((x + y + c) / 18446744073709551616))] :=
  FnOk.int3 fun w => by
    rw [run_callFunc_extern Tryz.func60 (by kernel_rfl) (by kernel_rfl) (by kernel_rfl) (e := add64Entry) (by kernel_rfl), run_add64 x y c hx hy hc0 hc]
    rfl

theorem sub64_ok (x y c : Int) (hx : 0 ≤ x) (hx' : x < 18446744073709551616) (hy : 0 ≤ y) (hy' : y < 18446744073709551616) (hc0 : 0 ≤ c) (hc : c ≤ 1) :
    FnOk Tryz.prog 77 [.v (.int .u64 x), .v (.int .u64 y), .v (.int .u64 c)] [.v true (.int .u64 ((x - y - c) % 18446744073709551616)), .v true (.int .u64 (if x < y + c then 1 else 0))] :=
  FnOk.int3 fun w => by
    obtain ⟨X, rfl⟩ := Int.eq_ofNat_of_zero_le hx
    obtain ⟨Y, rfl⟩ := Int.eq_ofNat_of_zero_le hy
    obtain ⟨C, rfl⟩ := Int.eq_ofNat_of_zero_le hc0
    rw [run_callFunc_extern Tryz.func77 (by kernel_rfl) (by kernel_rfl) (by kernel_rfl) (e := sub64Entry) (by kernel_rfl)]
    have := run_sub64 (P := Tryz.prog) X Y C (by omega) w
    rw [this]
    simp only [Result.andThen]
    have e1 : (((X + 18446744073709551616 - Y - C) % 18446744073709551616 : Nat) : Int) = ((X : Int) - Y - C) % 18446744073709551616 := by omega
    have e2 : ((if X < Y + C then 1 else 0 : Nat) : Int) = if (X : Int) < (Y : Int) + C then 1 else 0 := by
      split <;> split <;> omega
    rw [e1, e2]
/-
  slices.Clone of words, nat.Trim.
-/

theorem clone_ok (l : List Int) (hl : l.length < 1000000000) : FnOk Tryz.prog 71 [.v (words l)] [.v true (words l)] := by
  refine FnOk.of Tryz.func71 rfl rfl fun cx w0 => ?_
  rw [show Tryz.f71.ntmps = 8 from rfl]
  refine Holds.step (Px := px) (T := TT) (ρ := fun _ => []) TTe (by simp (maxSteps := 100000) (disch := omega) only [go_sem, V.isAgg, V.flat, ↓reduceIte, Nat.reduceAdd, Nat.reduceSub, Nat.reduceLT, Nat.reduceEqDiff, reduceCtorEq, Nat.reduceLeDiff, Nat.reduceBEq, Nat.reduceMul, Int.reduceToNat, entry, List.length_cons, List.length_nil, List.zipIdx_cons, List.zipIdx_nil, Arg.av, words]; rfl) (by repeat' first | exact trivial | constructor) ?_
  refine Holds.next (fun σ => ∃ X, ((∃ b, X = .emp b ∧ l = []) ∨ X = .v false (.sl 1 (l.map fun n => .int .u64 n))) ∧ ∀ a w, Rel cx w0 σ a w → Rel cx w0 { nt := 8, env := [(0, X)], mem := [] } a w) ?_ ?_
  · rcases l with _ | ⟨y, l⟩
    · refine Holds.empt (t := 0) (sz := 1) (nw := false) rfl fun b => ?_
      refine Holds.step (Px := px) (T := TT) (ρ := fun _ => []) TTe (by simp (maxSteps := 100000) (disch := omega) only [go_sem, V.isAgg, V.flat, ↓reduceIte, Nat.reduceAdd, Nat.reduceSub, Nat.reduceLT, Nat.reduceEqDiff, reduceCtorEq, Nat.reduceLeDiff, Nat.reduceBEq, Nat.reduceMul, Int.reduceToNat, nilA, elt23]; rfl) (by repeat' first | exact trivial | constructor) ?_
      cases b
      · exact Holds.condF rfl (Holds.skip ⟨_, .inl ⟨_, rfl, rfl⟩, fun a w h => Rel.keep [0] [] h⟩)
      · refine Holds.condT rfl ?_
        refine Holds.step (Px := px) (T := TT) (ρ := fun _ => []) TTe (by simp (maxSteps := 100000) (disch := omega) only [go_sem, V.isAgg, V.flat, ↓reduceIte, Nat.reduceAdd, Nat.reduceSub, Nat.reduceLT, Nat.reduceEqDiff, reduceCtorEq, Nat.reduceLeDiff, Nat.reduceBEq, Nat.reduceMul, Int.reduceToNat]; rfl) (by repeat' first | exact trivial | constructor) ?_
        exact Holds.ret ⟨_, [], rfl, ⟨rfl, trivial⟩, by simp [R.names, R.mems, R.blks], by simp, rfl⟩
    · refine Holds.step (Px := px) (T := TT) (ρ := fun _ => []) TTe (by simp (maxSteps := 100000) (disch := omega) only [go_sem, V.isAgg, V.flat, ↓reduceIte, Nat.reduceAdd, Nat.reduceSub, Nat.reduceLT, Nat.reduceEqDiff, reduceCtorEq, Nat.reduceLeDiff, Nat.reduceBEq, Nat.reduceMul, Int.reduceToNat, nilA, elt23]; rfl) (by repeat' first | exact trivial | constructor) ?_
      exact Holds.condF rfl (Holds.skip ⟨_, .inr rfl, fun a w h => Rel.keep [0] [] h⟩)
  · rintro σ ⟨X, hX, hk⟩
    refine Holds.from hk ?_
    rcases hX with ⟨b, rfl, rfl⟩ | rfl
    · refine Holds.step (Px := px) (T := TT) (ρ := fun _ => []) TTe (by simp (maxSteps := 100000) (disch := omega) only [go_sem, V.isAgg, V.flat, ↓reduceIte, Nat.reduceAdd, Nat.reduceSub, Nat.reduceLT, Nat.reduceEqDiff, reduceCtorEq, Nat.reduceLeDiff, Nat.reduceBEq, Nat.reduceMul, Int.reduceToNat, elt23, tsz69, zt69, partsA, appendA, srcA, tby69]; rfl) (by repeat' first | exact trivial | constructor) ?_
      exact Holds.ret ⟨_, [], rfl, ⟨⟨rfl, rfl, fun h => h, rfl⟩, trivial⟩, by simp [R.names, R.mems, R.blks], by simp, rfl⟩
    · refine Holds.step (Px := px) (T := TT) (ρ := fun _ => []) TTe (by simp (maxSteps := 100000) (disch := omega) only [go_sem, V.isAgg, V.flat, ↓reduceIte, Nat.reduceAdd, Nat.reduceSub, Nat.reduceLT, Nat.reduceEqDiff, reduceCtorEq, Nat.reduceLeDiff, Nat.reduceBEq, Nat.reduceMul, Int.reduceToNat, elt23, tsz69, zt69, partsA, appendA, srcA, tby69, flatW]; rfl) (by repeat' first | exact trivial | constructor) ?_
      exact Holds.ret ⟨_, [], rfl, ⟨⟨rfl, by rw [List.drop_zero, List.take_of_length_le (by simp)], fun h => h, rfl⟩, trivial⟩, by simp [R.names, R.mems, R.blks], by simp, rfl⟩

theorem Trim_ok (l : List Int) (hl : l.length < 1000000000) : FnOk Tryz.prog 46 [.v (words l)] [.v true (words (trimL l))] := by
  refine FnOk.of Tryz.func46 rfl rfl fun cx w0 => ?_
  rw [show Tryz.f46.ntmps = 6 from rfl]
  have hlen := trimL_len l
  refine Holds.step (Px := px) (T := TT) (ρ := fun _ => []) TTe (by simp (maxSteps := 100000) (disch := omega) only [go_sem, V.isAgg, V.flat, ↓reduceIte, Nat.reduceAdd, Nat.reduceSub, Nat.reduceLT, Nat.reduceEqDiff, reduceCtorEq, Nat.reduceLeDiff, Nat.reduceBEq, Nat.reduceMul, Int.reduceToNat, entry, List.length_cons, List.length_nil, List.zipIdx_cons, List.zipIdx_nil, Arg.av, words]; rfl) (by repeat' first | exact trivial | constructor) ?_
  refine Holds.step (Px := px) (T := TT) (ρ := fun d => if d = 4 then [.v false (words (trimL l))] else [.v true (words (trimL l))]) TTe (by simp (maxSteps := 100000) (disch := omega) only [go_sem, V.isAgg, V.flat, ↓reduceIte, Nat.reduceAdd, Nat.reduceSub, Nat.reduceLT, Nat.reduceEqDiff, reduceCtorEq, Nat.reduceLeDiff, Nat.reduceBEq, Nat.reduceMul, Int.reduceToNat, calleeA, capArg, knotA, capArgs, toArgs, toArg, callA, R.res, R.mems, R.blks, R.av, R.names, R.nw]; rfl) (by first | exact ⟨trim_ok l hl, clone_ok _ (by omega)⟩ | (repeat' first | exact trivial | exact trim_ok l hl | exact clone_ok _ (by omega) | constructor)) ?_
  exact Holds.ret ⟨_, [], rfl, ⟨⟨rfl, fun h => h⟩, trivial⟩, by simp [R.names, R.mems, R.blks], by simp, rfl⟩
/-
  fast.plus.
-/

/-- One word of a sum. -/
def plusW (y : List Int) (at_ : Nat) (i : Nat) (s : List Int × Int) : List Int × Int :=
  (s.1.set i ((s.1.getD i 0 + y.getD (i - at_) 0 + s.2) % 18446744073709551616), (s.1.getD i 0 + y.getD (i - at_) 0 + s.2) / 18446744073709551616)
def plusI (y : List Int) (at_ : Nat) (s : List Int × Int) : Nat → List Int × Int
  | 0 => s
  | k + 1 => plusW y at_ (at_ + k) (plusI y at_ s k)
def plusN (x y : List Int) (at_ : Nat) : Nat := max x.length (at_ + y.length) + 1
def plusL (x y : List Int) (at_ : Nat) : List Int := (plusI y at_ (x ++ List.replicate (plusN x y at_ - x.length) 0, 0) (plusN x y at_ - at_)).1

theorem plusI_ok {y : List Int} {at_ : Nat} {s : List Int × Int} (oy : okW y) (hs : okW s.1) (hc : 0 ≤ s.2 ∧ s.2 ≤ 1) : ∀ k, okW (plusI y at_ s k).1 ∧ (0 ≤ (plusI y at_ s k).2 ∧ (plusI y at_ s k).2 ≤ 1) ∧ (plusI y at_ s k).1.length = s.1.length
  | 0 => ⟨hs, hc, rfl⟩
  | k + 1 => by
    obtain ⟨h1, h2, h3⟩ := plusI_ok (at_ := at_) oy hs hc k
    have h4 := okW_getD h1 (at_ + k)
    have h5 := okW_getD oy (at_ + k - at_)
    rw [plusI, plusW]
    refine ⟨okW_set h1 (by omega), by simp only; omega, by simp only; rw [List.length_set, h3]⟩

theorem plus_ok (x y : List Int) (at_ : Nat) (hx : x.length < 1000000) (hy : y.length < 1000000) (ha : at_ < 1000000) (ox : okW x) (oy : okW y) :
    FnOk Tryz.prog 56 [.v (words x), .v (words y), .v (.int .i64 at_)] [.v true (words (trimL (plusL x y at_)))] := by
  refine FnOk.of Tryz.func56 rfl rfl fun cx w0 => ?_
  rw [show Tryz.f56.ntmps = 57 from rfl]
  refine Holds.step (Px := px) (T := TT) (ρ := fun _ => []) TTe (by simp (maxSteps := 100000) (disch := omega) only [go_sem, V.isAgg, V.flat, ↓reduceIte, Nat.reduceAdd, Nat.reduceSub, Nat.reduceLT, Nat.reduceEqDiff, reduceCtorEq, Nat.reduceLeDiff, Nat.reduceBEq, Nat.reduceMul, Int.reduceToNat, entry, List.length_cons, List.length_nil, List.zipIdx_cons, List.zipIdx_nil, Arg.av, words]; rfl) (by repeat' first | exact trivial | constructor) ?_
  obtain ⟨M, hM⟩ : ∃ M : Nat, M = max x.length (at_ + y.length) := ⟨_, rfl⟩
  have hmax : (if (x.length : Int) < at_ + y.length then (at_ : Int) + y.length else x.length) = M := by
    rw [hM]
    split <;> omega
  refine Holds.step (Px := px) (T := TT) (ρ := fun _ => []) TTe (by simp (maxSteps := 100000) (disch := omega) only [go_sem, V.isAgg, V.flat, ↓reduceIte, Nat.reduceAdd, Nat.reduceSub, Nat.reduceLT, Nat.reduceEqDiff, reduceCtorEq, Nat.reduceLeDiff, Nat.reduceBEq, Nat.reduceMul, Int.reduceToNat, maxA, elt23, tsz69, tby69, zt69, hmax]; rfl) (by repeat' first | exact trivial | constructor) ?_
  refine Holds.step (Px := px) (T := TT) (ρ := fun _ => []) TTe (by simp (maxSteps := 100000) (disch := omega) only [go_sem, V.isAgg, V.flat, ↓reduceIte, Nat.reduceAdd, Nat.reduceSub, Nat.reduceLT, Nat.reduceEqDiff, reduceCtorEq, Nat.reduceLeDiff, Nat.reduceBEq, Nat.reduceMul, Int.reduceToNat, copyA, esz23, elt23, srcA, flatW]; rfl) (by repeat' first | exact trivial | constructor) ?_
  have hxM : x.length ≤ M + 1 := by omega
  have hcopy : List.take (min x.length (M + 1)) (x.map fun n => V.int .u64 n) ++ List.drop (min x.length (M + 1)) (List.replicate (M + 1) (V.int IntKind.u64 0)) = (x ++ List.replicate (M + 1 - x.length) 0).map fun n => V.int .u64 n := by
    rw [Nat.min_eq_left hxM, List.take_of_length_le (by simp), List.drop_replicate, List.map_append, List.map_replicate]
  refine Holds.from (σ' := { nt := 57, env := [(7, .own 19 0 (M + 1)), (1, .v false (.sl 1 (y.map fun n => .int .u64 n))), (2, .v true (.int .i64 at_))], mem := [(19, .buf 52 1 true ((x ++ List.replicate (M + 1 - x.length) 0).map fun n => .int .u64 n))] })
    (fun a w h => by rw [← hcopy]; exact Rel.keep [7, 1, 2] [19] h) ?_
  refine Holds.step (Px := px) (T := TT) (ρ := fun _ => []) TTe (by simp (maxSteps := 100000) (disch := omega) only [go_sem, V.isAgg, V.flat, ↓reduceIte, Nat.reduceAdd, Nat.reduceSub, Nat.reduceLT, Nat.reduceEqDiff, reduceCtorEq, Nat.reduceLeDiff, Nat.reduceBEq, Nat.reduceMul, Int.reduceToNat]; rfl) (by repeat' first | exact trivial | constructor) ?_
  have hN : plusN x y at_ = M + 1 := by rw [hM]; rfl
  obtain ⟨S, hS⟩ : ∃ S : List Int × Int, S = (x ++ List.replicate (M + 1 - x.length) 0, 0) := ⟨_, rfl⟩
  have hS1 : okW S.1 := by
    rw [hS]
    intro n hn
    rcases List.mem_append.1 hn with h | h
    · exact ox n h
    · rw [List.mem_replicate] at h; omega
  have hSl : S.1.length = M + 1 := by rw [hS]; simp; omega
  have hI := plusI_ok (at_ := at_) oy hS1 (by rw [hS]; simp)
  refine Holds.next (fun σ => ∀ a w, Rel cx w0 σ a w → Rel cx w0 { nt := 57, env := [(7, .own 19 0 (M + 1))], mem := [(19, .buf 52 1 true ((plusI y at_ S (M + 1 - at_)).1.map fun n => .int .u64 n))] } a w) ?_ ?_
  · refine Holds.step (Px := px) (T := TT) (ρ := fun _ => []) TTe (by simp (maxSteps := 100000) (disch := omega) only [go_sem, V.isAgg, V.flat, ↓reduceIte, Nat.reduceAdd, Nat.reduceSub, Nat.reduceLT, Nat.reduceEqDiff, reduceCtorEq, Nat.reduceLeDiff, Nat.reduceBEq, Nat.reduceMul, Int.reduceToNat]; rfl) (by repeat' first | exact trivial | constructor) ?_
    refine Holds.loopB (fun k : Nat => { nt := 57, env := [(9, .v true (.int .i64 ((at_ : Int) + k))), (8, .v true (.int .u64 (plusI y at_ S k).2)), (7, .own 19 0 (M + 1)), (1, .v false (.sl 1 (y.map fun n => .int .u64 n))), (2, .v true (.int .i64 at_))], mem := [(19, .buf 52 1 true ((plusI y at_ S k).1.map fun n => .int .u64 n))] })
      (fun k => k ≤ M + 1 - at_) (fun k => M + 1 - at_ - k) 0 (Nat.zero_le _) (fun a w h => by
        have := Rel.keep [9, 8, 7, 1, 2] [19] h
        rw [hS]
        simpa [St.keep, St.get, St.at, look, plusI] using this) ?_
    intro k hk
    obtain ⟨h1, h2, h3⟩ := hI k
    rw [hSl] at h3
    by_cases hend : k = M + 1 - at_
    · refine Holds.seq ?_
      refine Holds.step (Px := px) (T := TT) (ρ := fun _ => []) TTe (by simp (maxSteps := 100000) (disch := omega) only [go_sem, V.isAgg, V.flat, ↓reduceIte, Nat.reduceAdd, Nat.reduceSub, Nat.reduceLT, Nat.reduceEqDiff, reduceCtorEq, Nat.reduceLeDiff, Nat.reduceBEq, Nat.reduceMul, Int.reduceToNat, elt23]; rfl) (by repeat' first | exact trivial | constructor) ?_
      exact Holds.condF rfl (Holds.exit ⟨rfl, fun a w h => by rw [← hend]; exact Rel.keep [7] [19] h⟩)
    · refine Holds.seq ?_
      refine Holds.step (Px := px) (T := TT) (ρ := fun _ => []) TTe (by simp (maxSteps := 100000) (disch := omega) only [go_sem, V.isAgg, V.flat, ↓reduceIte, Nat.reduceAdd, Nat.reduceSub, Nat.reduceLT, Nat.reduceEqDiff, reduceCtorEq, Nat.reduceLeDiff, Nat.reduceBEq, Nat.reduceMul, Int.reduceToNat, elt23]; rfl) (by repeat' first | exact trivial | constructor) ?_
      refine Holds.condT rfl (Holds.skip ?_)
      refine Holds.seq (Holds.block ?_)
      refine Holds.step (Px := px) (T := TT) (ρ := fun _ => []) TTe (by simp (maxSteps := 100000) (disch := omega) only [go_sem, V.isAgg, V.flat, ↓reduceIte, Nat.reduceAdd, Nat.reduceSub, Nat.reduceLT, Nat.reduceEqDiff, reduceCtorEq, Nat.reduceLeDiff, Nat.reduceBEq, Nat.reduceMul, Int.reduceToNat]; rfl) (by repeat' first | exact trivial | constructor) ?_
      refine Holds.next (fun σ => ∀ a w, Rel cx w0 σ a w → Rel cx w0 { nt := 57, env := [(10, .v true (.int .u64 (y.getD k 0))), (9, .v true (.int .i64 ((at_ : Int) + k))), (8, .v true (.int .u64 (plusI y at_ S k).2)), (7, .own 19 0 (M + 1)), (1, .v false (.sl 1 (y.map fun n => .int .u64 n))), (2, .v true (.int .i64 at_))], mem := [(19, .buf 52 1 true ((plusI y at_ S k).1.map fun n => .int .u64 n))] } a w) ?_ ?_
      · have hsub : (at_ : Int) + k - at_ = k := by omega
        by_cases hky : k < y.length
        · refine Holds.step (Px := px) (T := TT) (ρ := fun _ => []) TTe (by simp (maxSteps := 100000) (disch := omega) only [go_sem, V.isAgg, V.flat, ↓reduceIte, Nat.reduceAdd, Nat.reduceSub, Nat.reduceLT, Nat.reduceEqDiff, reduceCtorEq, Nat.reduceLeDiff, Nat.reduceBEq, Nat.reduceMul, Int.reduceToNat, elt23, hsub]; rfl) (by repeat' first | exact trivial | constructor) ?_
          refine Holds.condT rfl ?_
          refine Holds.region (Px := px) (T := TT) (ρ := fun _ => []) TTe (by simp (maxSteps := 100000) (disch := omega) only [go_sem, V.isAgg, V.flat, ↓reduceIte, Nat.reduceAdd, Nat.reduceSub, Nat.reduceLT, Nat.reduceEqDiff, reduceCtorEq, Nat.reduceLeDiff, Nat.reduceBEq, Nat.reduceMul, Int.reduceToNat, esz23, tsz69, agg69, hsub, get_map hky]; rfl) (by repeat' first | exact trivial | constructor) ?_
          exact fun a w h => Rel.keep [10, 9, 8, 7, 1, 2] [19] h
        · refine Holds.step (Px := px) (T := TT) (ρ := fun _ => []) TTe (by simp (maxSteps := 100000) (disch := omega) only [go_sem, V.isAgg, V.flat, ↓reduceIte, Nat.reduceAdd, Nat.reduceSub, Nat.reduceLT, Nat.reduceEqDiff, reduceCtorEq, Nat.reduceLeDiff, Nat.reduceBEq, Nat.reduceMul, Int.reduceToNat, elt23, hsub]; rfl) (by repeat' first | exact trivial | constructor) ?_
          refine Holds.condF rfl (Holds.skip fun a w h => ?_)
          have e : y.getD k 0 = 0 := by rw [List.getD_eq_getElem?_getD, List.getElem?_eq_none (by omega)]; rfl
          rw [e]
          exact Rel.keep [10, 9, 8, 7, 1, 2] [19] h
      · intro σ hσ
        refine Holds.from hσ ?_
        have hik : at_ + k < (plusI y at_ S k).1.length := by omega
        have hz := okW_getD h1 (at_ + k)
        have hw := okW_getD oy k
        have hadd : ((at_ : Int) + k).toNat = at_ + k := by omega
        refine Holds.region (Px := px) (T := TT) (ρ := fun _ => [.v true (.int .u64 (((plusI y at_ S k).1.getD (at_ + k) 0 + y.getD k 0 + (plusI y at_ S k).2) % 18446744073709551616)), .v true (.int .u64 (((plusI y at_ S k).1.getD (at_ + k) 0 + y.getD k 0 + (plusI y at_ S k).2) / 18446744073709551616))]) TTe (by simp (maxSteps := 100000) (disch := omega) only [go_sem, V.isAgg, V.flat, ↓reduceIte, Nat.reduceAdd, Nat.reduceSub, Nat.reduceLT, Nat.reduceEqDiff, reduceCtorEq, Nat.reduceLeDiff, Nat.reduceBEq, Nat.reduceMul, Int.reduceToNat, esz23, elt23, tsz69, agg69, get_map hik, hadd, calleeA, capArg, knotA, capArgs, toArgs, toArg, callA, R.res, R.mems, R.blks, R.av, R.names, R.nw, storeA, storeV]; rfl) (by first | exact add64_ok _ _ _ hz.1 hw.1 h2.1 h2.2 | (repeat' first | exact trivial | exact add64_ok _ _ _ hz.1 hw.1 h2.1 h2.2 | constructor)) ?_
        show Holds _ _ _ _ _ _ _
        refine Holds.region (Px := px) (T := TT) (ρ := fun _ => []) TTe (by simp (maxSteps := 100000) (disch := omega) only [go_sem, V.isAgg, V.flat, ↓reduceIte, Nat.reduceAdd, Nat.reduceSub, Nat.reduceLT, Nat.reduceEqDiff, reduceCtorEq, Nat.reduceLeDiff, Nat.reduceBEq, Nat.reduceMul, Int.reduceToNat]; rfl) (by repeat' first | exact trivial | constructor) ?_
        have e : plusI y at_ S (k + 1) = ((plusI y at_ S k).1.set (at_ + k) (((plusI y at_ S k).1.getD (at_ + k) 0 + y.getD k 0 + (plusI y at_ S k).2) % 18446744073709551616), ((plusI y at_ S k).1.getD (at_ + k) 0 + y.getD k 0 + (plusI y at_ S k).2) / 18446744073709551616) := by
          rw [plusI, plusW, Nat.add_sub_cancel_left]
        have e9 : (at_ : Int) + ((k + 1 : Nat) : Int) = at_ + k + 1 := by omega
        refine ⟨k + 1, by omega, (show M + 1 - at_ - (k + 1) < M + 1 - at_ - k by omega), fun a w h => ?_⟩
        simp only [e, e9, List.map_set]
        exact Rel.keep [9, 8, 7, 1, 2] [19] h
  · intro σ hσ
    refine Holds.from hσ ?_
    obtain ⟨h1, h2, h3⟩ := hI (M + 1 - at_)
    rw [hSl] at h3
    have hP : plusL x y at_ = (plusI y at_ S (M + 1 - at_)).1 := by rw [plusL, hN, hS]
    have htk : List.take (M + 1) (List.map (fun n => V.int .u64 n) (plusI y at_ S (M + 1 - at_)).1) = List.map (fun n => V.int .u64 n) (plusI y at_ S (M + 1 - at_)).1 := List.take_of_length_le (by rw [List.length_map]; omega)
    refine Holds.step (Px := px) (T := TT) (ρ := fun _ => [.v true (words (trimL (plusL x y at_)))]) TTe (by simp (maxSteps := 100000) (disch := omega) only [go_sem, V.isAgg, V.flat, ↓reduceIte, Nat.reduceAdd, Nat.reduceSub, Nat.reduceLT, Nat.reduceEqDiff, reduceCtorEq, Nat.reduceLeDiff, Nat.reduceBEq, Nat.reduceMul, Int.reduceToNat, htk, calleeA, capArg, knotA, capArgs, toArgs, toArg, callA, R.res, R.mems, R.blks, R.av, R.names, R.nw]; rfl) (by exact by rw [hP]; exact Trim_ok _ (by omega)) ?_
    exact Holds.ret ⟨_, [], rfl, ⟨⟨rfl, fun h => h⟩, trivial⟩, by simp [R.names, R.mems, R.blks], by simp, rfl⟩
end Go.Proofs.YtjmclobbfabnpaaGreat.L
/-
  Sums of numbers by their words.
-/
namespace Go.Proofs.YtjmclobbfabnpaaGreat.L

theorem noZ_last : ∀ {l : List Int} {x : Int}, x ≠ 0 → noZ (l ++ [x])
  | [], _, h => h
  | [_], _, h => h
  | _ :: y :: r, _, h => noZ_last (l := y :: r) h

theorem okW_take {l : List Int} (h : okW l) (n : Nat) : okW (l.take n) := fun m hm => h m (List.mem_of_mem_take hm)

theorem trimW_ok (l : List Int) : ∀ n, n ≤ l.length → val (l.take (trimW l n)) = val (l.take n) ∧ noZ (l.take (trimW l n))
  | 0, _ => by rw [trimW, List.take_zero]; exact ⟨rfl, trivial⟩
  | n + 1, h => by
    have e : l.take (n + 1) = l.take n ++ [l.getD n 0] := by rw [List.take_add_one, get_map h]; rfl
    rw [trimW]
    split
    · next h0 =>
      obtain ⟨h1, h2⟩ := trimW_ok l n (by omega)
      refine ⟨?_, h2⟩
      rw [h1, e, val_append, h0]
      simp [val]
    · next h0 =>
      exact ⟨rfl, by rw [e]; exact noZ_last h0⟩

theorem trimL_digs {l : List Int} (ok : okW l) : trimL l = digs (val l) := by
  obtain ⟨h1, h2⟩ := trimW_ok l l.length (Nat.le_refl _)
  rw [List.take_length] at h1
  rw [← h1]
  exact digs_of (okW_take ok _) h2

theorem val_set : ∀ {l : List Int} {i : Nat} {n : Int}, i < l.length → val (l.set i n) + 18446744073709551616 ^ i * (l.getD i 0).toNat = val l + 18446744073709551616 ^ i * n.toNat
  | [], i, n, h => by simp at h
  | x :: r, 0, n, h => by simp [val]; omega
  | x :: r, i + 1, n, h => by
    have ih := val_set (l := r) (i := i) (n := n) (by simpa using h)
    rw [List.set_cons_succ, val, val, List.getD_cons_succ, Nat.pow_succ]
    have e1 : ∀ m : Nat, 18446744073709551616 ^ i * 18446744073709551616 * m = 18446744073709551616 * (18446744073709551616 ^ i * m) := fun m => by
      rw [Nat.mul_comm (18446744073709551616 ^ i), Nat.mul_assoc]
    rw [e1, e1]
    omega

theorem val_take_succ {l : List Int} (k : Nat) : val (l.take (k + 1)) = val (l.take k) + 18446744073709551616 ^ k * (l.getD k 0).toNat := by
  rcases Nat.lt_or_ge k l.length with h | h
  · rw [List.take_add_one, get_map h, val_append, List.length_take, Nat.min_eq_left (by omega)]
    simp [val]
  · rw [List.take_of_length_le (by omega), List.take_of_length_le h, List.getD_eq_getElem?_getD, List.getElem?_eq_none h]
    simp

theorem val_lt : ∀ {l : List Int}, okW l → val l < 18446744073709551616 ^ l.length
  | [], _ => by simp [val]
  | x :: r, ok => by
    have h1 := okW_cons ok
    have h2 := val_lt h1.2
    rw [val, List.length_cons, Nat.pow_succ]
    omega

theorem plusI_val {y : List Int} {at_ : Nat} {s : List Int × Int} (oy : okW y) (hs : okW s.1) (hc : 0 ≤ s.2 ∧ s.2 ≤ 1) : ∀ k, at_ + k ≤ s.1.length →
    val (plusI y at_ s k).1 + 18446744073709551616 ^ (at_ + k) * (plusI y at_ s k).2.toNat = val s.1 + 18446744073709551616 ^ at_ * (val (y.take k) + s.2.toNat)
  | 0, _ => by rw [plusI, List.take_zero, val]; simp
  | k + 1, hk => by
    have ih := plusI_val (at_ := at_) oy hs hc k (by omega)
    obtain ⟨h1, h2, h3⟩ := plusI_ok (at_ := at_) oy hs hc k
    have hi : at_ + k < (plusI y at_ s k).1.length := by omega
    have hz := okW_getD h1 (at_ + k)
    have hw := okW_getD oy k
    rw [plusI, plusW, Nat.add_sub_cancel_left, val_take_succ]
    simp only
    have hset := val_set (n := ((plusI y at_ s k).1.getD (at_ + k) 0 + y.getD k 0 + (plusI y at_ s k).2) % 18446744073709551616) hi
    generalize (plusI y at_ s k).1.getD (at_ + k) 0 = z at *
    generalize y.getD k 0 = u at *
    generalize (plusI y at_ s k).2 = c at *
    have eD : 18446744073709551616 ^ (at_ + (k + 1)) = 18446744073709551616 ^ (at_ + k) * 18446744073709551616 := by rw [← Nat.add_assoc, Nat.pow_succ]
    have eA : 18446744073709551616 ^ at_ * (val (y.take k) + 18446744073709551616 ^ k * u.toNat + s.2.toNat) = 18446744073709551616 ^ at_ * (val (y.take k) + s.2.toNat) + 18446744073709551616 ^ (at_ + k) * u.toNat := by
      rw [Nat.pow_add, Nat.mul_assoc, ← Nat.mul_add]
      congr 1
      omega
    have er : ((z + u + c) % 18446744073709551616).toNat + 18446744073709551616 * ((z + u + c) / 18446744073709551616).toNat = z.toNat + u.toNat + c.toNat := by omega
    have em : 18446744073709551616 ^ (at_ + k) * ((z + u + c) % 18446744073709551616).toNat + 18446744073709551616 ^ (at_ + k) * (18446744073709551616 * ((z + u + c) / 18446744073709551616).toNat) = 18446744073709551616 ^ (at_ + k) * z.toNat + 18446744073709551616 ^ (at_ + k) * u.toNat + 18446744073709551616 ^ (at_ + k) * c.toNat := by
      rw [← Nat.mul_add, er, Nat.mul_add, Nat.mul_add]
    rw [eD, eA, Nat.mul_assoc]
    generalize 18446744073709551616 ^ (at_ + k) * ((z + u + c) % 18446744073709551616).toNat = a1 at *
    generalize 18446744073709551616 ^ (at_ + k) * (18446744073709551616 * ((z + u + c) / 18446744073709551616).toNat) = a2 at *
    generalize 18446744073709551616 ^ (at_ + k) * z.toNat = a3 at *
    generalize 18446744073709551616 ^ (at_ + k) * u.toNat = a4 at *
    generalize 18446744073709551616 ^ (at_ + k) * c.toNat = a5 at *
    generalize 18446744073709551616 ^ at_ * (val (y.take k) + s.2.toNat) = a6 at *
    omega

theorem plusL_val {x y : List Int} {at_ : Nat} (ox : okW x) (oy : okW y) : val (plusL x y at_) = val x + 18446744073709551616 ^ at_ * val y ∧ okW (plusL x y at_) := by
  obtain ⟨M, hM⟩ : ∃ M : Nat, M = max x.length (at_ + y.length) := ⟨_, rfl⟩
  have hN : plusN x y at_ = M + 1 := by rw [hM]; rfl
  obtain ⟨S, hS⟩ : ∃ S : List Int × Int, S = (x ++ List.replicate (M + 1 - x.length) 0, 0) := ⟨_, rfl⟩
  have hS1 : okW S.1 := by
    rw [hS]
    intro n hn
    rcases List.mem_append.1 hn with h | h
    · exact ox n h
    · rw [List.mem_replicate] at h; omega
  have hSl : S.1.length = M + 1 := by rw [hS]; simp; omega
  have hz : ∀ n, val (List.replicate n 0) = 0 := by
    intro n
    induction n with
    | zero => rfl
    | succ n ih => rw [List.replicate_succ, val, ih]; rfl
  have hSv : val S.1 = val x := by rw [hS, val_append, hz]; simp
  have hc : 0 ≤ S.2 ∧ S.2 ≤ 1 := by rw [hS]; simp
  obtain ⟨h1, h2, h3⟩ := plusI_ok (at_ := at_) oy hS1 hc (M + 1 - at_)
  have hv := plusI_val (at_ := at_) oy hS1 hc (M + 1 - at_) (by omega)
  have hP : plusL x y at_ = (plusI y at_ S (M + 1 - at_)).1 := by rw [plusL, hN, hS]
  rw [hP]
  refine ⟨?_, h1⟩
  rw [List.take_of_length_le (by omega), hSv, show S.2.toNat = 0 by rw [hS]; rfl, show at_ + (M + 1 - at_) = M + 1 by omega] at hv
  simp only [Nat.add_zero] at hv
  -- there is no carry left
  have b1 := val_lt ox
  have b2 := val_lt oy
  have b3 : val x < 18446744073709551616 ^ M := Nat.lt_of_lt_of_le b1 (Nat.pow_le_pow_right (by decide) (by omega))
  have b4 : 18446744073709551616 ^ at_ * val y < 18446744073709551616 ^ M := by
    refine Nat.lt_of_lt_of_le (Nat.mul_lt_mul_of_pos_left b2 (Nat.pow_pos (by decide))) ?_
    rw [← Nat.pow_add]
    exact Nat.pow_le_pow_right (by decide) (by omega)
  have b5 : 18446744073709551616 ^ (M + 1) = 18446744073709551616 ^ M * 18446744073709551616 := Nat.pow_succ _ _
  rcases Nat.eq_zero_or_pos (plusI y at_ S (M + 1 - at_)).2.toNat with h0 | h0
  · rw [h0, Nat.mul_zero, Nat.add_zero] at hv
    exact hv
  · exfalso
    have : 18446744073709551616 ^ (M + 1) ≤ 18446744073709551616 ^ (M + 1) * (plusI y at_ S (M + 1 - at_)).2.toNat := Nat.le_mul_of_pos_right _ h0
    omega

theorem plus_val {x y : List Int} {at_ : Nat} (hx : x.length < 1000000) (hy : y.length < 1000000) (ha : at_ < 1000000) (ox : okW x) (oy : okW y) :
    FnOk Tryz.prog 56 [.v (words x), .v (words y), .v (.int .i64 at_)] [.v true (words (digs (val x + 18446744073709551616 ^ at_ * val y)))] := by
  obtain ⟨h1, h2⟩ := plusL_val (at_ := at_) ox oy
  have := plus_ok x y at_ hx hy ha ox oy
  rwa [trimL_digs h2, h1] at this
end Go.Proofs.YtjmclobbfabnpaaGreat.L
/-
  fast.large.
-/
namespace Go.Proofs.YtjmclobbfabnpaaGreat.L
open Go Go.RowKit Go.Proofs
attribute [local go_sem] evalOps_nil evalOps_cons runW_t runW_f runE_s runP_s wantA evalOp effOp letters okDst coreA St.opv St.get St.at look constA St.put St.upd St.set decide_true List.all_nil List.all_cons Bool.and_true Bool.true_and and_self and_true true_and if_true if_false true_or Int.sub_zero List.nil_append List.cons_append List.append_nil Option.isSome_some List.getElem?_toArray List.getElem?_cons_succ List.getElem?_cons_zero Option.bind_some Option.map_some Option.map_none beq_self_eq_true Bool.false_beq Bool.true_beq Bool.not_true Bool.not_false Bool.false_eq_true cond_true cond_false binA binI List.map_cons List.map_nil boundA List.length_nil List.length_cons Nat.zero_mul Nat.one_mul Nat.mul_one Nat.zero_add Nat.add_zero Nat.zero_le Option.toList St.freshB AV.ment AV.ments Blk.ment V.sizes Nat.lt_add_one Bool.or_true Bool.true_or Bool.or_false Bool.false_or Bool.or_self if_pos if_neg decide_false decide_eq_true decide_eq_false wrap_i64 Int.toNat_natCast minA maxA Int.natCast_add Int.cast_ofNat_Int Option.isSome_none false_implies true_implies forall_const List.drop_zero Int.toNat_zero Int.add_sub_cancel lenA sliceA loadA indexAddrA partA fitsT V.atP V.offP V.size List.length_map List.getElem?_map Int.toNat_natCast_add_one Int.ofNat_eq_natCast TY calleeA capArg knotA capArgs toArgs toArg callA R.res R.mems R.blks R.av R.names R.nw invokeA storeA storeV fieldAddrA liveB V.off V.offs V.setP List.set_cons_zero List.set_cons_succ buildA buildP partsA appendA srcA copyA boxOk makeA AV.pure List.take_succ_cons List.take_zero nilA words entry List.zipIdx_cons List.zipIdx_nil Arg.av Arg.avs

/-- A list of numbers. -/
def natsV (ls : List (List Int)) : V := .sl 1 (ls.map words)
theorem elt25 : elt Tryz.prog 57 = some 24 := by kernel_rfl
theorem esz25 : esz Tryz.prog 57 = some 1 := by kernel_rfl
theorem tsz23 : tsz Tryz.prog 24 = some 1 := by kernel_rfl
theorem agg23 : aggT Tryz.prog 24 = some false := by kernel_rfl
theorem tby23 : tby Tryz.prog 24 = some 24 := by kernel_rfl
theorem tsz3 : tsz Tryz.prog 3 = some 1 := by kernel_rfl
theorem agg3 : aggT Tryz.prog 3 = some false := by kernel_rfl
theorem tsz25 : tsz Tryz.prog 57 = some 1 := by kernel_rfl
theorem agg25 : aggT Tryz.prog 57 = some false := by kernel_rfl
theorem zt23 : TT.zt 24 = some .nil := rfl
theorem get_mapL {l : List (List Int)} {i : Nat} (h : i < l.length) : l[i]? = some (l.getD i []) := by
  rw [List.getD_eq_getElem?_getD, List.getElem?_eq_getElem h]; rfl

theorem large_ok (ls : List (List Int)) (hl : ls.length < 1000000000) (hls : ∀ l ∈ ls, l.length < 1000000000) : FnOk Tryz.prog 31 [.v (natsV ls)] [.v true (.bool (ls.any fun l => decide (4096 < l.length)))] := by
  refine FnOk.of Tryz.func31 rfl rfl fun cx w0 => ?_
  rw [show Tryz.f31.ntmps = 15 from rfl]
  refine Holds.step (Px := px) (T := TT) (ρ := fun _ => []) TTe (by simp (maxSteps := 100000) (disch := omega) only [go_sem, V.isAgg, V.flat, ↓reduceIte, Nat.reduceAdd, Nat.reduceSub, Nat.reduceLT, Nat.reduceEqDiff, reduceCtorEq, Nat.reduceLeDiff, Nat.reduceBEq, Nat.reduceMul, Int.reduceToNat, entry, List.length_cons, List.length_nil, List.zipIdx_cons, List.zipIdx_nil, Arg.av, natsV]; rfl) (by repeat' first | exact trivial | constructor) ?_
  have key : ∀ k, k ≤ ls.length → (ls.any fun l => decide (4096 < l.length)) = ((ls.take k).any (fun l => decide (4096 < l.length)) || (ls.drop k).any fun l => decide (4096 < l.length)) := fun k _ => by
    rw [← List.any_append, List.take_append_drop]
  refine Holds.next (fun σ => (ls.any fun l => decide (4096 < l.length)) = false ∧ ∀ a w, Rel cx w0 σ a w → Rel cx w0 { nt := 15, env := [], mem := [] } a w) ?_ ?_
  · refine Holds.step (Px := px) (T := TT) (ρ := fun _ => []) TTe (by simp (maxSteps := 100000) (disch := omega) only [go_sem, V.isAgg, V.flat, ↓reduceIte, Nat.reduceAdd, Nat.reduceSub, Nat.reduceLT, Nat.reduceEqDiff, reduceCtorEq, Nat.reduceLeDiff, Nat.reduceBEq, Nat.reduceMul, Int.reduceToNat, elt25]; rfl) (by repeat' first | exact trivial | constructor) ?_
    refine Holds.loopB (fun k : Nat => { nt := 15, env := [(7, .v true (.int .i64 (k : Int))), (6, .v true (.int .i64 (ls.length : Int))), (5, .v false (natsV ls))], mem := [] })
      (fun k => k ≤ ls.length ∧ (ls.take k).any (fun l => decide (4096 < l.length)) = false) (fun k => ls.length - k) 0 ⟨Nat.zero_le _, rfl⟩ (fun a w h => Rel.keep [7, 6, 5] [] h) ?_
    rintro k ⟨hk, ht⟩
    by_cases hend : k = ls.length
    · refine Holds.step (Px := px) (T := TT) (ρ := fun _ => []) TTe (by simp (maxSteps := 100000) (disch := omega) only [go_sem, V.isAgg, V.flat, ↓reduceIte, Nat.reduceAdd, Nat.reduceSub, Nat.reduceLT, Nat.reduceEqDiff, reduceCtorEq, Nat.reduceLeDiff, Nat.reduceBEq, Nat.reduceMul, Int.reduceToNat]; rfl) (by repeat' first | exact trivial | constructor) ?_
      refine Holds.seq ?_
      refine Holds.condF rfl (Holds.exit ⟨rfl, ?_, fun a w h => Rel.keep [] [] h⟩)
      rw [hend, List.take_length] at ht
      exact ht
    · have hkl : k < ls.length := by omega
      have hm : ls.getD k [] ∈ ls := by rw [List.getD_eq_getElem?_getD, List.getElem?_eq_getElem hkl]; exact List.getElem_mem hkl
      have hlm := hls _ hm
      have etk : (ls.take (k + 1)).any (fun l => decide (4096 < l.length)) = decide (4096 < (ls.getD k []).length) := by
        rw [List.take_add_one, List.any_append, ht, Bool.false_or, List.getElem?_eq_getElem hkl, List.getD_eq_getElem?_getD, List.getElem?_eq_getElem hkl]
        simp
      refine Holds.step (Px := px) (T := TT) (ρ := fun _ => []) TTe (by simp (maxSteps := 100000) (disch := omega) only [go_sem, V.isAgg, V.flat, ↓reduceIte, Nat.reduceAdd, Nat.reduceSub, Nat.reduceLT, Nat.reduceEqDiff, reduceCtorEq, Nat.reduceLeDiff, Nat.reduceBEq, Nat.reduceMul, Int.reduceToNat]; rfl) (by repeat' first | exact trivial | constructor) ?_
      refine Holds.seq ?_
      refine Holds.condT rfl (Holds.skip ?_)
      refine Holds.next (fun σ => decide (4096 < (ls.getD k []).length) = false ∧ ∀ a w, Rel cx w0 σ a w → Rel cx w0 { nt := 15, env := [(7, .v true (.int .i64 (k : Int))), (6, .v true (.int .i64 (ls.length : Int))), (5, .v false (natsV ls))], mem := [] } a w) ?_ ?_
      · refine Holds.blockN ?_
        refine Holds.step (Px := px) (T := TT) (ρ := fun _ => []) TTe (by simp (maxSteps := 100000) (disch := omega) only [go_sem, V.isAgg, V.flat, ↓reduceIte, Nat.reduceAdd, Nat.reduceSub, Nat.reduceLT, Nat.reduceEqDiff, reduceCtorEq, Nat.reduceLeDiff, Nat.reduceBEq, Nat.reduceMul, Int.reduceToNat, natsV, esz25, tsz23, agg23, get_mapL hkl, words]; rfl) (by repeat' first | exact trivial | constructor) ?_
        refine Holds.step (Px := px) (T := TT) (ρ := fun _ => []) TTe (by simp (maxSteps := 100000) (disch := omega) only [go_sem, V.isAgg, V.flat, ↓reduceIte, Nat.reduceAdd, Nat.reduceSub, Nat.reduceLT, Nat.reduceEqDiff, reduceCtorEq, Nat.reduceLeDiff, Nat.reduceBEq, Nat.reduceMul, Int.reduceToNat, elt23]; rfl) (by repeat' first | exact trivial | constructor) ?_
        by_cases hb : 4096 < (ls.getD k []).length
        · refine Holds.condT (nw := true) (by simp only [St.opv, St.get, look, if_true]; exact congrArg (fun b => AV.v true (.bool b)) (decide_eq_true (by omega))) ?_
          refine Holds.step (Px := px) (T := TT) (ρ := fun _ => []) TTe (by simp (maxSteps := 100000) (disch := omega) only [go_sem, V.isAgg, V.flat, ↓reduceIte, Nat.reduceAdd, Nat.reduceSub, Nat.reduceLT, Nat.reduceEqDiff, reduceCtorEq, Nat.reduceLeDiff, Nat.reduceBEq, Nat.reduceMul, Int.reduceToNat]; rfl) (by repeat' first | exact trivial | constructor) ?_
          have e : (ls.any fun l => decide (4096 < l.length)) = true := List.any_eq_true.2 ⟨_, hm, by simpa using hb⟩
          rw [e]
          exact Holds.ret ⟨_, [], rfl, ⟨⟨rfl, by simp⟩, trivial⟩, by simp [R.names, R.mems, R.blks], by simp, rfl⟩
        · refine Holds.condF (nw := true) (by simp only [St.opv, St.get, look, if_true]; exact congrArg (fun b => AV.v true (.bool b)) (decide_eq_false (by omega))) (Holds.skip ⟨by simpa using hb, fun a w h => Rel.keep [7, 6, 5] [] h⟩)
      · rintro σ ⟨hb, hσ⟩
        refine Holds.from hσ ?_
        refine Holds.region (Px := px) (T := TT) (ρ := fun _ => []) TTe (by simp (maxSteps := 100000) (disch := omega) only [go_sem, V.isAgg, V.flat, ↓reduceIte, Nat.reduceAdd, Nat.reduceSub, Nat.reduceLT, Nat.reduceEqDiff, reduceCtorEq, Nat.reduceLeDiff, Nat.reduceBEq, Nat.reduceMul, Int.reduceToNat]; rfl) (by repeat' first | exact trivial | constructor) ?_
        exact ⟨k + 1, ⟨by omega, by rw [etk, hb]⟩, (show ls.length - (k + 1) < ls.length - k by omega), fun a w h => Rel.keep [7, 6, 5] [] h⟩
  · rintro σ ⟨he, hσ⟩
    rw [he]
    refine Holds.from hσ ?_
    refine Holds.step (Px := px) (T := TT) (ρ := fun _ => []) TTe (by simp (maxSteps := 100000) (disch := omega) only [go_sem, V.isAgg, V.flat, ↓reduceIte, Nat.reduceAdd, Nat.reduceSub, Nat.reduceLT, Nat.reduceEqDiff, reduceCtorEq, Nat.reduceLeDiff, Nat.reduceBEq, Nat.reduceMul, Int.reduceToNat]; rfl) (by repeat' first | exact trivial | constructor) ?_
    exact Holds.ret ⟨_, [], rfl, ⟨⟨rfl, by simp⟩, trivial⟩, by simp [R.names, R.mems, R.blks], by simp, rfl⟩
end Go.Proofs.YtjmclobbfabnpaaGreat.L
