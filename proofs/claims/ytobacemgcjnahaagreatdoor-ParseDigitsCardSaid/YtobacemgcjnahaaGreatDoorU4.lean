/-
  Ma Mab Mac Aa Ab Ac Ad Af
-/
import Derived.Test.YtobacemgcjnahaaGreatDoorProg
import Derived.Test.YtobacemgcjnahaaGreatDoorU3
import Derived.KernelRfl
set_option linter.unusedSimpArgs false
set_option linter.unusedVariables false
set_option maxRecDepth 100000
namespace Go.Proofs.YtobacemgcjnahaaGreatDoor.L
open Go Go.RowKit Go.Proofs
noncomputable def infoD (t : TypeId) : TypeInfo := (Tryz.prog.info? t).getD default
def ZOk (t : TypeId) (x : AV) : Prop := ∃ i z, Tryz.prog.info? t = some i ∧ i.zero = some z ∧ z.cells.size = i.size ∧ (x.isV = false → z.oneCell' = true) ∧ ∀ cx w μ mem, RepA cx w μ mem x z
mutual
def V.zc : V → List Value
 | .int k n => [.int k n]
 | .bool b => [.bool b]
 | .str s => [.string s]
 | .sl _ _ => [.slice none 0 0]
 | .agg fs => V.zcs fs
 | .niface => [.nilIface]
 | .iface _ _ => []
 | .nfun => [.nilFunc]
 | .fnv f => [.func (.func f) #[] #[]]
def V.zcs : List V → List Value
 | [] => []
 | x :: r => x.zc ++ V.zcs r
end
mutual
def V.zok : V → Bool
 | .sl _ xs => xs.isEmpty
 | .agg fs => V.zoks fs
 | .iface _ _ => false
 | _ => true
def V.zoks : List V → Bool
 | [] => true
 | x :: r => x.zok && V.zoks r
end
mutual
theorem V.zc_ok {w : World} {ok : Nat → Prop} : ∀ {x : V}, x.zok = true → Rep w ok x x.zc
 | .int _ _, _ => by rw [Rep, V.zc]
 | .bool _, _ => by rw [Rep, V.zc]
 | .str _, _ => by rw [Rep, V.zc]
 | .sl _ xs, h => by
   rw [V.zok, List.isEmpty_iff] at h
   subst h
   rw [Rep, V.zc]
   exact .inl ⟨rfl, _, _, rfl⟩
 | .agg fs, h => by rw [V.zok] at h; rw [Rep, V.zc]; exact V.zcs_ok h
 | .niface, _ => by rw [Rep, V.zc]
 | .nfun, _ => by rw [Rep, V.zc]
 | .fnv _, _ => by rw [Rep, V.zc]
 | .iface _ _, h => by rw [V.zok] at h; cases h
theorem V.zcs_ok {w : World} {ok : Nat → Prop} : ∀ {xs : List V}, V.zoks xs = true → RepL w ok xs (V.zcs xs)
 | [], _ => by rw [RepL, V.zcs]
 | x :: r, h => by
   rw [V.zoks, Bool.and_eq_true] at h
   rw [RepL, V.zcs]
   exact ⟨_, _, rfl, V.zc_ok h.1, V.zcs_ok h.2⟩
end
theorem z_v {t : TypeId} {x : V} (h1 : Tryz.prog.info? t = some (infoD t)) (h2 : (infoD t).zero = some (x.toVal x.zc)) (h3 : (x.toVal x.zc).cells.size = (infoD t).size) (hz : x.zok = true) : ZOk t (.v true x) :=
 ⟨_, _, h1, h2, h3, (fun h => by cases h), (fun _ _ _ _ => by rw [RepA]; exact ⟨_, V.zc_ok hz, rfl⟩)⟩
theorem z_nil {t : TypeId} (h1 : Tryz.prog.info? t = some (infoD t)) (h2 : (infoD t).zero = some (.slice none 0 0)) (h3 : (Value.slice none 0 0).cells.size = (infoD t).size) : ZOk t .nil :=
 ⟨_, _, h1, h2, h3, fun _ => rfl, fun _ _ _ _ => repA_nil.2 rfl⟩
theorem z2 : ZOk 2 (.v true (.int .i64 0)) := z_v (by kernel_rfl) (by kernel_rfl) (by kernel_rfl) (by rfl)
theorem z3 : ZOk 3 (.v true (.int .i64 0)) := z_v (by kernel_rfl) (by kernel_rfl) (by kernel_rfl) (by rfl)
theorem z4 : ZOk 4 (.v true (.bool false)) := z_v (by kernel_rfl) (by kernel_rfl) (by kernel_rfl) (by rfl)
theorem z5 : ZOk 5 (.v true (.int .u8 0)) := z_v (by kernel_rfl) (by kernel_rfl) (by kernel_rfl) (by rfl)
theorem z9 : ZOk 9 (.v true (.str ⟨#[]⟩)) := z_v (by kernel_rfl) (by kernel_rfl) (by kernel_rfl) (by rfl)
theorem z12 : ZOk 12 (.v true (.int .u64 0)) := z_v (by kernel_rfl) (by kernel_rfl) (by kernel_rfl) (by rfl)
theorem z21 : ZOk 21 (.v true (.int .i32 0)) := z_v (by kernel_rfl) (by kernel_rfl) (by kernel_rfl) (by rfl)
theorem z25 : ZOk 25 (.v true (.agg [(.int .i64 0), (.int .i64 0)])) := z_v (by kernel_rfl) (by kernel_rfl) (by kernel_rfl) (by rfl)
theorem z26 : ZOk 26 (.v true (.agg [(.int .i64 0), (.int .i64 0)])) := z_v (by kernel_rfl) (by kernel_rfl) (by kernel_rfl) (by rfl)
theorem z27 : ZOk 27 (.v true (.int .i64 0)) := z_v (by kernel_rfl) (by kernel_rfl) (by kernel_rfl) (by rfl)
theorem z28 : ZOk 28 (.v true (.int .i64 0)) := z_v (by kernel_rfl) (by kernel_rfl) (by kernel_rfl) (by rfl)
theorem z31 : ZOk 31 (.v true (.agg [(.int .i64 0), (.bool false), (.int .i64 0), (.sl 1 [])])) := z_v (by kernel_rfl) (by kernel_rfl) (by kernel_rfl) (by rfl)
theorem z32 : ZOk 32 (.v true (.agg [(.int .i64 0), (.bool false), (.int .i64 0), (.sl 1 [])])) := z_v (by kernel_rfl) (by kernel_rfl) (by kernel_rfl) (by rfl)
theorem z33 : ZOk 33 (.v true (.int .i64 0)) := z_v (by kernel_rfl) (by kernel_rfl) (by kernel_rfl) (by rfl)
theorem z34 : ZOk 34 (.v true (.int .i64 0)) := z_v (by kernel_rfl) (by kernel_rfl) (by kernel_rfl) (by rfl)
theorem z38 : ZOk 38 (.v true (.agg [(.int .i64 0), (.bool false), (.sl 1 []), (.int .i64 0), (.bool false)])) := z_v (by kernel_rfl) (by kernel_rfl) (by kernel_rfl) (by rfl)
theorem z39 : ZOk 39 (.v true (.agg [(.int .i64 0), (.bool false), (.sl 1 []), (.int .i64 0), (.bool false)])) := z_v (by kernel_rfl) (by kernel_rfl) (by kernel_rfl) (by rfl)
theorem z42 : ZOk 42 (.v true (.agg [(.int .i64 0), (.bool false), (.int .i64 0), (.sl 1 [])])) := z_v (by kernel_rfl) (by kernel_rfl) (by kernel_rfl) (by rfl)
theorem z43 : ZOk 43 (.v true (.agg [(.int .i64 0), (.bool false), (.int .i64 0), (.sl 1 [])])) := z_v (by kernel_rfl) (by kernel_rfl) (by kernel_rfl) (by rfl)
theorem z46 : ZOk 46 (.v true (.agg [(.int .i64 0), (.int .i64 0)])) := z_v (by kernel_rfl) (by kernel_rfl) (by kernel_rfl) (by rfl)
theorem z49 : ZOk 49 (.v true (.agg [(.int .i64 0), (.int .i64 0), (.int .i64 0)])) := z_v (by kernel_rfl) (by kernel_rfl) (by kernel_rfl) (by rfl)
theorem z50 : ZOk 50 (.v true (.agg [(.int .i64 0), (.int .i64 0), (.int .i64 0)])) := z_v (by kernel_rfl) (by kernel_rfl) (by kernel_rfl) (by rfl)
theorem z51 : ZOk 51 (.v true (.int .i64 0)) := z_v (by kernel_rfl) (by kernel_rfl) (by kernel_rfl) (by rfl)
theorem z52 : ZOk 52 (.v true (.agg [(.int .i64 0), (.bool false), (.sl 1 []), (.int .i64 0)])) := z_v (by kernel_rfl) (by kernel_rfl) (by kernel_rfl) (by rfl)
theorem z53 : ZOk 53 (.v true (.agg [(.int .i64 0), (.bool false), (.sl 1 []), (.int .i64 0)])) := z_v (by kernel_rfl) (by kernel_rfl) (by kernel_rfl) (by rfl)
theorem z58 : ZOk 58 (.v true (.agg [(.int .i64 0), (.bool false), (.sl 1 []), (.int .i64 0)])) := z_v (by kernel_rfl) (by kernel_rfl) (by kernel_rfl) (by rfl)
theorem z59 : ZOk 59 (.v true (.agg [(.int .i64 0), (.bool false), (.sl 1 []), (.int .i64 0)])) := z_v (by kernel_rfl) (by kernel_rfl) (by kernel_rfl) (by rfl)
theorem z62 : ZOk 62 (.v true (.agg [(.int .i64 0), (.int .i64 0), (.int .i64 0)])) := z_v (by kernel_rfl) (by kernel_rfl) (by kernel_rfl) (by rfl)
theorem z63 : ZOk 63 (.v true (.agg [(.int .i64 0), (.int .i64 0), (.int .i64 0)])) := z_v (by kernel_rfl) (by kernel_rfl) (by kernel_rfl) (by rfl)
theorem z70 : ZOk 70 (.v true (.int .i16 0)) := z_v (by kernel_rfl) (by kernel_rfl) (by kernel_rfl) (by rfl)
theorem z76 : ZOk 76 (.v true (.int .u64 0)) := z_v (by kernel_rfl) (by kernel_rfl) (by kernel_rfl) (by rfl)
theorem z78 : ZOk 78 (.v true (.int .i64 0)) := z_v (by kernel_rfl) (by kernel_rfl) (by kernel_rfl) (by rfl)
theorem z80 : ZOk 80 (.v true (.agg [(.int .i64 0), (.bool false), (.str ⟨#[]⟩), (.int .i64 0), (.int .i64 0), (.int .i64 0), (.bool false)])) := z_v (by kernel_rfl) (by kernel_rfl) (by kernel_rfl) (by rfl)
theorem z107 : ZOk 107 (.v true (.agg [(.bool false), (.sl 1 []), (.sl 1 []), (.int .i64 0), (.int .i64 0)])) := z_v (by kernel_rfl) (by kernel_rfl) (by kernel_rfl) (by rfl)
theorem z108 : ZOk 108 (.v true (.agg [(.bool false), (.sl 1 []), (.sl 1 []), (.int .i64 0), (.int .i64 0)])) := z_v (by kernel_rfl) (by kernel_rfl) (by kernel_rfl) (by rfl)
theorem z125 : ZOk 125 (.v true (.agg [(.bool false), (.sl 1 []), (.sl 1 []), (.int .i64 0), (.int .i64 0)])) := z_v (by kernel_rfl) (by kernel_rfl) (by kernel_rfl) (by rfl)
theorem z136 : ZOk 136 (.v true (.agg [(.str ⟨#[]⟩), (.int .i64 0)])) := z_v (by kernel_rfl) (by kernel_rfl) (by kernel_rfl) (by rfl)
theorem z148 : ZOk 148 (.v true (.int .i64 0)) := z_v (by kernel_rfl) (by kernel_rfl) (by kernel_rfl) (by rfl)
theorem z173 : ZOk 173 (.v true (.agg [(.sl 1 []), (.bool false), (.bool false)])) := z_v (by kernel_rfl) (by kernel_rfl) (by kernel_rfl) (by rfl)
theorem z174 : ZOk 174 (.v true (.agg [(.sl 1 []), (.bool false), (.bool false)])) := z_v (by kernel_rfl) (by kernel_rfl) (by kernel_rfl) (by rfl)
theorem z178 : ZOk 178 (.v true (.agg [(.bool false), (.sl 1 []), (.int .i64 0)])) := z_v (by kernel_rfl) (by kernel_rfl) (by kernel_rfl) (by rfl)
theorem z179 : ZOk 179 (.v true (.agg [(.bool false), (.sl 1 []), (.int .i64 0)])) := z_v (by kernel_rfl) (by kernel_rfl) (by kernel_rfl) (by rfl)
theorem z207 : ZOk 207 (.v true (.agg [.nfun, .nfun, .nfun, .nfun, .nfun])) := z_v (by kernel_rfl) (by kernel_rfl) (by kernel_rfl) (by rfl)
theorem z213 : ZOk 213 (.v true (.int .u64 0)) := z_v (by kernel_rfl) (by kernel_rfl) (by kernel_rfl) (by rfl)
theorem z238 : ZOk 238 (.v true (.int .u16 0)) := z_v (by kernel_rfl) (by kernel_rfl) (by kernel_rfl) (by rfl)
theorem z254 : ZOk 254 (.v true (.int .u32 0)) := z_v (by kernel_rfl) (by kernel_rfl) (by kernel_rfl) (by rfl)
theorem z29 : ZOk 29 .nil := z_nil (by kernel_rfl) (by kernel_rfl) (by kernel_rfl)
theorem z30 : ZOk 30 .nil := z_nil (by kernel_rfl) (by kernel_rfl) (by kernel_rfl)
theorem z95 : ZOk 95 .nil := z_nil (by kernel_rfl) (by kernel_rfl) (by kernel_rfl)
theorem z98 : ZOk 98 .nil := z_nil (by kernel_rfl) (by kernel_rfl) (by kernel_rfl)
theorem z117 : ZOk 117 .nil := z_nil (by kernel_rfl) (by kernel_rfl) (by kernel_rfl)
theorem z118 : ZOk 118 .nil := z_nil (by kernel_rfl) (by kernel_rfl) (by kernel_rfl)
theorem z126 : ZOk 126 .nil := z_nil (by kernel_rfl) (by kernel_rfl) (by kernel_rfl)
def ztab : TypeId → Option AV := fun t => match t with
 | 2 => some (.v true (.int .i64 0))
 | 3 => some (.v true (.int .i64 0))
 | 4 => some (.v true (.bool false))
 | 5 => some (.v true (.int .u8 0))
 | 9 => some (.v true (.str ⟨#[]⟩))
 | 12 => some (.v true (.int .u64 0))
 | 21 => some (.v true (.int .i32 0))
 | 25 => some (.v true (.agg [(.int .i64 0), (.int .i64 0)]))
 | 26 => some (.v true (.agg [(.int .i64 0), (.int .i64 0)]))
 | 27 => some (.v true (.int .i64 0))
 | 28 => some (.v true (.int .i64 0))
 | 31 => some (.v true (.agg [(.int .i64 0), (.bool false), (.int .i64 0), (.sl 1 [])]))
 | 32 => some (.v true (.agg [(.int .i64 0), (.bool false), (.int .i64 0), (.sl 1 [])]))
 | 33 => some (.v true (.int .i64 0))
 | 34 => some (.v true (.int .i64 0))
 | 38 => some (.v true (.agg [(.int .i64 0), (.bool false), (.sl 1 []), (.int .i64 0), (.bool false)]))
 | 39 => some (.v true (.agg [(.int .i64 0), (.bool false), (.sl 1 []), (.int .i64 0), (.bool false)]))
 | 42 => some (.v true (.agg [(.int .i64 0), (.bool false), (.int .i64 0), (.sl 1 [])]))
 | 43 => some (.v true (.agg [(.int .i64 0), (.bool false), (.int .i64 0), (.sl 1 [])]))
 | 46 => some (.v true (.agg [(.int .i64 0), (.int .i64 0)]))
 | 49 => some (.v true (.agg [(.int .i64 0), (.int .i64 0), (.int .i64 0)]))
 | 50 => some (.v true (.agg [(.int .i64 0), (.int .i64 0), (.int .i64 0)]))
 | 51 => some (.v true (.int .i64 0))
 | 52 => some (.v true (.agg [(.int .i64 0), (.bool false), (.sl 1 []), (.int .i64 0)]))
 | 53 => some (.v true (.agg [(.int .i64 0), (.bool false), (.sl 1 []), (.int .i64 0)]))
 | 58 => some (.v true (.agg [(.int .i64 0), (.bool false), (.sl 1 []), (.int .i64 0)]))
 | 59 => some (.v true (.agg [(.int .i64 0), (.bool false), (.sl 1 []), (.int .i64 0)]))
 | 62 => some (.v true (.agg [(.int .i64 0), (.int .i64 0), (.int .i64 0)]))
 | 63 => some (.v true (.agg [(.int .i64 0), (.int .i64 0), (.int .i64 0)]))
 | 70 => some (.v true (.int .i16 0))
 | 76 => some (.v true (.int .u64 0))
 | 78 => some (.v true (.int .i64 0))
 | 80 => some (.v true (.agg [(.int .i64 0), (.bool false), (.str ⟨#[]⟩), (.int .i64 0), (.int .i64 0), (.int .i64 0), (.bool false)]))
 | 107 => some (.v true (.agg [(.bool false), (.sl 1 []), (.sl 1 []), (.int .i64 0), (.int .i64 0)]))
 | 108 => some (.v true (.agg [(.bool false), (.sl 1 []), (.sl 1 []), (.int .i64 0), (.int .i64 0)]))
 | 125 => some (.v true (.agg [(.bool false), (.sl 1 []), (.sl 1 []), (.int .i64 0), (.int .i64 0)]))
 | 136 => some (.v true (.agg [(.str ⟨#[]⟩), (.int .i64 0)]))
 | 148 => some (.v true (.int .i64 0))
 | 173 => some (.v true (.agg [(.sl 1 []), (.bool false), (.bool false)]))
 | 174 => some (.v true (.agg [(.sl 1 []), (.bool false), (.bool false)]))
 | 178 => some (.v true (.agg [(.bool false), (.sl 1 []), (.int .i64 0)]))
 | 179 => some (.v true (.agg [(.bool false), (.sl 1 []), (.int .i64 0)]))
 | 207 => some (.v true (.agg [.nfun, .nfun, .nfun, .nfun, .nfun]))
 | 213 => some (.v true (.int .u64 0))
 | 238 => some (.v true (.int .u16 0))
 | 254 => some (.v true (.int .u32 0))
 | 29 => some .nil
 | 30 => some .nil
 | 95 => some .nil
 | 98 => some .nil
 | 117 => some .nil
 | 118 => some .nil
 | 126 => some .nil
 | _ => none
theorem ztab_ok (t : TypeId) (x : AV) (h : ztab t = some x) : ZOk t x := by
 unfold ztab at h
 split at h
 ·cases h; exact z2
 ·cases h; exact z3
 ·cases h; exact z4
 ·cases h; exact z5
 ·cases h; exact z9
 ·cases h; exact z12
 ·cases h; exact z21
 ·cases h; exact z25
 ·cases h; exact z26
 ·cases h; exact z27
 ·cases h; exact z28
 ·cases h; exact z31
 ·cases h; exact z32
 ·cases h; exact z33
 ·cases h; exact z34
 ·cases h; exact z38
 ·cases h; exact z39
 ·cases h; exact z42
 ·cases h; exact z43
 ·cases h; exact z46
 ·cases h; exact z49
 ·cases h; exact z50
 ·cases h; exact z51
 ·cases h; exact z52
 ·cases h; exact z53
 ·cases h; exact z58
 ·cases h; exact z59
 ·cases h; exact z62
 ·cases h; exact z63
 ·cases h; exact z70
 ·cases h; exact z76
 ·cases h; exact z78
 ·cases h; exact z80
 ·cases h; exact z107
 ·cases h; exact z108
 ·cases h; exact z125
 ·cases h; exact z136
 ·cases h; exact z148
 ·cases h; exact z173
 ·cases h; exact z174
 ·cases h; exact z178
 ·cases h; exact z179
 ·cases h; exact z207
 ·cases h; exact z213
 ·cases h; exact z238
 ·cases h; exact z254
 ·cases h; exact z29
 ·cases h; exact z30
 ·cases h; exact z95
 ·cases h; exact z98
 ·cases h; exact z117
 ·cases h; exact z118
 ·cases h; exact z126
 ·cases h
def mtab : TypeId → String → Option FuncId := fun _ _ => none
theorem mtab_ok (t : TypeId) (m : String) (f : FuncId) (h : mtab t m = some f) (v : Value) (w : World) : (method (Tryz.prog.types.size + Made.depth) t v m).run Tryz.prog w = .ok (f, v) w := by cases h
def px : Px Tryz.prog where
 zt := ztab
 mt := mtab
 fz := fun _ => false
 mok := mtab_ok
 zok := ztab_ok
def TT : Tab := ⟨ztab, mtab, fun _ => false⟩
theorem TTe : TT = px.tab := rfl
def words (l : List Int) : V := .sl 1 (l.map fun n => .int .u64 n)
theorem wrap_i64 {n : Int} (h1 : -9223372036854775808 ≤ n) (h2 : n < 9223372036854775808) : IntKind.i64.wrap n = n := by
 have key : ∀ (m : Int) (i : Decidable (m ≥ 9223372036854775808)), m = n % 18446744073709551616 → (if (true && @decide (m ≥ 9223372036854775808) i) = true then m - 18446744073709551616 else m) = n := by
  intro m i hm
  by_cases h : m ≥ 9223372036854775808
  ·rw [decide_eq_true h, Bool.and_self, if_pos rfl]; omega
  ·rw [decide_eq_false h, Bool.and_false, if_neg (by simp)]; omega
 exact key _ _ rfl
theorem wrap_u64 {n : Int} : IntKind.u64.wrap n = n % 18446744073709551616 := by
 unfold IntKind.wrap
 simp only [IntKind.bits, IntKind.signed, Bool.false_and, Bool.false_eq_true, if_false]
 rfl
theorem flatW (l : List Int) : (l.map fun n => V.int .u64 n).all V.flat = true := by
 rw [List.all_eq_true]
 intro x hx
 obtain ⟨n, _, rfl⟩ := List.mem_map.1 hx
 rfl
theorem tby76 : tby Tryz.prog 76 = some 8 := by kernel_rfl
theorem mixed : Tryz.prog.follows .mixedOrders = true := by kernel_rfl
theorem TY : (tsz Tryz.prog 2 = some 1) ∧
 (tby Tryz.prog 2 = some 8) ∧
 (aggT Tryz.prog 2 = some false) ∧
 (ikd Tryz.prog 2 = some .i64) ∧
 ((Tryz.prog.underlying 2).isSome = true) ∧
 (tsz Tryz.prog 3 = some 1) ∧
 (tby Tryz.prog 3 = some 8) ∧
 (aggT Tryz.prog 3 = some false) ∧
 (ikd Tryz.prog 3 = some .i64) ∧
 ((Tryz.prog.underlying 3).isSome = true) ∧
 (tsz Tryz.prog 4 = some 1) ∧
 (tby Tryz.prog 4 = some 1) ∧
 (aggT Tryz.prog 4 = some false) ∧
 (boolT Tryz.prog 4 = true) ∧
 (tsz Tryz.prog 5 = some 1) ∧
 (tby Tryz.prog 5 = some 1) ∧
 (aggT Tryz.prog 5 = some false) ∧
 (ikd Tryz.prog 5 = some .u8) ∧
 ((Tryz.prog.underlying 5).isSome = true) ∧
 (tsz Tryz.prog 9 = some 1) ∧
 (tby Tryz.prog 9 = some 16) ∧
 (aggT Tryz.prog 9 = some false) ∧
 (strT Tryz.prog 9 = true) ∧
 (tsz Tryz.prog 12 = some 1) ∧
 (tby Tryz.prog 12 = some 8) ∧
 (aggT Tryz.prog 12 = some false) ∧
 (ikd Tryz.prog 12 = some .u64) ∧
 ((Tryz.prog.underlying 12).isSome = true) ∧
 (tsz Tryz.prog 21 = some 1) ∧
 (tby Tryz.prog 21 = some 4) ∧
 (aggT Tryz.prog 21 = some false) ∧
 (ikd Tryz.prog 21 = some .i32) ∧
 ((Tryz.prog.underlying 21).isSome = true) ∧
 (tsz Tryz.prog 25 = some 2) ∧
 (tby Tryz.prog 25 = some 16) ∧
 (aggT Tryz.prog 25 = some true) ∧
 (fld Tryz.prog 25 0 = some (0, 1, false)) ∧
 (fld Tryz.prog 25 1 = some (1, 1, false)) ∧
 (plc Tryz.prog 25 = some [(0, 1), (1, 1)]) ∧
 (pairT Tryz.prog 25 = true) ∧
 (tsz Tryz.prog 26 = some 2) ∧
 (tby Tryz.prog 26 = some 16) ∧
 (aggT Tryz.prog 26 = some true) ∧
 (fld Tryz.prog 26 0 = some (0, 1, false)) ∧
 (fld Tryz.prog 26 1 = some (1, 1, false)) ∧
 (plc Tryz.prog 26 = some [(0, 1), (1, 1)]) ∧
 (pairT Tryz.prog 26 = true) ∧
 (tsz Tryz.prog 27 = some 1) ∧
 (tby Tryz.prog 27 = some 8) ∧
 (aggT Tryz.prog 27 = some false) ∧
 (ikd Tryz.prog 27 = some .i64) ∧
 ((Tryz.prog.underlying 27).isSome = true) ∧
 (tsz Tryz.prog 28 = some 1) ∧
 (tby Tryz.prog 28 = some 8) ∧
 (aggT Tryz.prog 28 = some false) ∧
 (ikd Tryz.prog 28 = some .i64) ∧
 ((Tryz.prog.underlying 28).isSome = true) ∧
 (tsz Tryz.prog 29 = some 1) ∧
 (tby Tryz.prog 29 = some 24) ∧
 (elt Tryz.prog 29 = some 76) ∧
 (esz Tryz.prog 29 = some 1) ∧
 (aggT Tryz.prog 29 = some false) ∧
 (tsz Tryz.prog 30 = some 1) ∧
 (tby Tryz.prog 30 = some 24) ∧
 (elt Tryz.prog 30 = some 76) ∧
 (esz Tryz.prog 30 = some 1) ∧
 (aggT Tryz.prog 30 = some false) ∧
 (tsz Tryz.prog 31 = some 4) ∧
 (tby Tryz.prog 31 = some 48) ∧
 (aggT Tryz.prog 31 = some true) ∧
 (fld Tryz.prog 31 0 = some (0, 1, false)) ∧
 (fld Tryz.prog 31 1 = some (1, 1, false)) ∧
 (fld Tryz.prog 31 2 = some (2, 1, false)) ∧
 (fld Tryz.prog 31 3 = some (3, 1, false)) ∧
 (plc Tryz.prog 31 = some [(0, 1), (1, 1), (2, 1), (3, 1)]) ∧
 (tsz Tryz.prog 32 = some 4) ∧
 (tby Tryz.prog 32 = some 48) ∧
 (aggT Tryz.prog 32 = some true) ∧
 (fld Tryz.prog 32 0 = some (0, 1, false)) ∧
 (fld Tryz.prog 32 1 = some (1, 1, false)) ∧
 (fld Tryz.prog 32 2 = some (2, 1, false)) ∧
 (fld Tryz.prog 32 3 = some (3, 1, false)) ∧
 (plc Tryz.prog 32 = some [(0, 1), (1, 1), (2, 1), (3, 1)]) ∧
 (tsz Tryz.prog 33 = some 1) ∧
 (tby Tryz.prog 33 = some 8) ∧
 (aggT Tryz.prog 33 = some false) ∧
 (ikd Tryz.prog 33 = some .i64) ∧
 ((Tryz.prog.underlying 33).isSome = true) ∧
 (tsz Tryz.prog 34 = some 1) ∧
 (tby Tryz.prog 34 = some 8) ∧
 (aggT Tryz.prog 34 = some false) ∧
 (ikd Tryz.prog 34 = some .i64) ∧
 ((Tryz.prog.underlying 34).isSome = true) ∧
 (tsz Tryz.prog 38 = some 5) ∧
 (tby Tryz.prog 38 = some 56) ∧
 (aggT Tryz.prog 38 = some true) ∧
 (fld Tryz.prog 38 0 = some (0, 1, false)) ∧
 (fld Tryz.prog 38 1 = some (1, 1, false)) ∧
 (fld Tryz.prog 38 2 = some (2, 1, false)) ∧
 (fld Tryz.prog 38 3 = some (3, 1, false)) ∧
 (fld Tryz.prog 38 4 = some (4, 1, false)) ∧
 (plc Tryz.prog 38 = some [(0, 1), (1, 1), (2, 1), (3, 1), (4, 1)]) ∧
 (tsz Tryz.prog 39 = some 5) ∧
 (tby Tryz.prog 39 = some 56) ∧
 (aggT Tryz.prog 39 = some true) ∧
 (fld Tryz.prog 39 0 = some (0, 1, false)) ∧
 (fld Tryz.prog 39 1 = some (1, 1, false)) ∧
 (fld Tryz.prog 39 2 = some (2, 1, false)) ∧
 (fld Tryz.prog 39 3 = some (3, 1, false)) ∧
 (fld Tryz.prog 39 4 = some (4, 1, false)) ∧
 (plc Tryz.prog 39 = some [(0, 1), (1, 1), (2, 1), (3, 1), (4, 1)]) ∧
 (tsz Tryz.prog 42 = some 4) ∧
 (tby Tryz.prog 42 = some 48) ∧
 (aggT Tryz.prog 42 = some true) ∧
 (fld Tryz.prog 42 0 = some (0, 1, false)) ∧
 (fld Tryz.prog 42 1 = some (1, 1, false)) ∧
 (fld Tryz.prog 42 2 = some (2, 1, false)) ∧
 (fld Tryz.prog 42 3 = some (3, 1, false)) ∧
 (plc Tryz.prog 42 = some [(0, 1), (1, 1), (2, 1), (3, 1)]) ∧
 (tsz Tryz.prog 43 = some 4) ∧
 (tby Tryz.prog 43 = some 48) ∧
 (aggT Tryz.prog 43 = some true) ∧
 (fld Tryz.prog 43 0 = some (0, 1, false)) ∧
 (fld Tryz.prog 43 1 = some (1, 1, false)) ∧
 (fld Tryz.prog 43 2 = some (2, 1, false)) ∧
 (fld Tryz.prog 43 3 = some (3, 1, false)) ∧
 (plc Tryz.prog 43 = some [(0, 1), (1, 1), (2, 1), (3, 1)]) ∧
 (tsz Tryz.prog 46 = some 2) ∧
 (tby Tryz.prog 46 = some 16) ∧
 (aggT Tryz.prog 46 = some true) ∧
 (fld Tryz.prog 46 0 = some (0, 1, false)) ∧
 (fld Tryz.prog 46 1 = some (1, 1, false)) ∧
 (plc Tryz.prog 46 = some [(0, 1), (1, 1)]) ∧
 (pairT Tryz.prog 46 = true) ∧
 (tsz Tryz.prog 49 = some 3) ∧
 (tby Tryz.prog 49 = some 24) ∧
 (aggT Tryz.prog 49 = some true) ∧
 (fld Tryz.prog 49 0 = some (0, 1, false)) ∧
 (fld Tryz.prog 49 1 = some (1, 1, false)) ∧
 (fld Tryz.prog 49 2 = some (2, 1, false)) ∧
 (plc Tryz.prog 49 = some [(0, 1), (1, 1), (2, 1)]) ∧
 (tsz Tryz.prog 50 = some 3) ∧
 (tby Tryz.prog 50 = some 24) ∧
 (aggT Tryz.prog 50 = some true) ∧
 (fld Tryz.prog 50 0 = some (0, 1, false)) ∧
 (fld Tryz.prog 50 1 = some (1, 1, false)) ∧
 (fld Tryz.prog 50 2 = some (2, 1, false)) ∧
 (plc Tryz.prog 50 = some [(0, 1), (1, 1), (2, 1)]) ∧
 (tsz Tryz.prog 51 = some 1) ∧
 (tby Tryz.prog 51 = some 8) ∧
 (aggT Tryz.prog 51 = some false) ∧
 (ikd Tryz.prog 51 = some .i64) ∧
 ((Tryz.prog.underlying 51).isSome = true) ∧
 (tsz Tryz.prog 52 = some 4) ∧
 (tby Tryz.prog 52 = some 48) ∧
 (aggT Tryz.prog 52 = some true) ∧
 (fld Tryz.prog 52 0 = some (0, 1, false)) ∧
 (fld Tryz.prog 52 1 = some (1, 1, false)) ∧
 (fld Tryz.prog 52 2 = some (2, 1, false)) ∧
 (fld Tryz.prog 52 3 = some (3, 1, false)) ∧
 (plc Tryz.prog 52 = some [(0, 1), (1, 1), (2, 1), (3, 1)]) ∧
 (tsz Tryz.prog 53 = some 4) ∧
 (tby Tryz.prog 53 = some 48) ∧
 (aggT Tryz.prog 53 = some true) ∧
 (fld Tryz.prog 53 0 = some (0, 1, false)) ∧
 (fld Tryz.prog 53 1 = some (1, 1, false)) ∧
 (fld Tryz.prog 53 2 = some (2, 1, false)) ∧
 (fld Tryz.prog 53 3 = some (3, 1, false)) ∧
 (plc Tryz.prog 53 = some [(0, 1), (1, 1), (2, 1), (3, 1)]) ∧
 (tsz Tryz.prog 58 = some 4) ∧
 (tby Tryz.prog 58 = some 48) ∧
 (aggT Tryz.prog 58 = some true) ∧
 (fld Tryz.prog 58 0 = some (0, 1, false)) ∧
 (fld Tryz.prog 58 1 = some (1, 1, false)) ∧
 (fld Tryz.prog 58 2 = some (2, 1, false)) ∧
 (fld Tryz.prog 58 3 = some (3, 1, false)) ∧
 (plc Tryz.prog 58 = some [(0, 1), (1, 1), (2, 1), (3, 1)]) ∧
 (tsz Tryz.prog 59 = some 4) ∧
 (tby Tryz.prog 59 = some 48) ∧
 (aggT Tryz.prog 59 = some true) ∧
 (fld Tryz.prog 59 0 = some (0, 1, false)) ∧
 (fld Tryz.prog 59 1 = some (1, 1, false)) ∧
 (fld Tryz.prog 59 2 = some (2, 1, false)) ∧
 (fld Tryz.prog 59 3 = some (3, 1, false)) ∧
 (plc Tryz.prog 59 = some [(0, 1), (1, 1), (2, 1), (3, 1)]) ∧
 (tsz Tryz.prog 62 = some 3) ∧
 (tby Tryz.prog 62 = some 24) ∧
 (aggT Tryz.prog 62 = some true) ∧
 (fld Tryz.prog 62 0 = some (0, 1, false)) ∧
 (fld Tryz.prog 62 1 = some (1, 1, false)) ∧
 (fld Tryz.prog 62 2 = some (2, 1, false)) ∧
 (plc Tryz.prog 62 = some [(0, 1), (1, 1), (2, 1)]) ∧
 (tsz Tryz.prog 63 = some 3) ∧
 (tby Tryz.prog 63 = some 24) ∧
 (aggT Tryz.prog 63 = some true) ∧
 (fld Tryz.prog 63 0 = some (0, 1, false)) ∧
 (fld Tryz.prog 63 1 = some (1, 1, false)) ∧
 (fld Tryz.prog 63 2 = some (2, 1, false)) ∧
 (plc Tryz.prog 63 = some [(0, 1), (1, 1), (2, 1)]) ∧
 (tsz Tryz.prog 70 = some 1) ∧
 (tby Tryz.prog 70 = some 2) ∧
 (aggT Tryz.prog 70 = some false) ∧
 (ikd Tryz.prog 70 = some .i16) ∧
 ((Tryz.prog.underlying 70).isSome = true) ∧
 (tsz Tryz.prog 76 = some 1) ∧
 (tby Tryz.prog 76 = some 8) ∧
 (aggT Tryz.prog 76 = some false) ∧
 (ikd Tryz.prog 76 = some .u64) ∧
 ((Tryz.prog.underlying 76).isSome = true) ∧
 (tsz Tryz.prog 78 = some 1) ∧
 (tby Tryz.prog 78 = some 8) ∧
 (aggT Tryz.prog 78 = some false) ∧
 (ikd Tryz.prog 78 = some .i64) ∧
 ((Tryz.prog.underlying 78).isSome = true) ∧
 (tsz Tryz.prog 80 = some 7) ∧
 (tby Tryz.prog 80 = some 64) ∧
 (aggT Tryz.prog 80 = some true) ∧
 (fld Tryz.prog 80 0 = some (0, 1, false)) ∧
 (fld Tryz.prog 80 1 = some (1, 1, false)) ∧
 (fld Tryz.prog 80 2 = some (2, 1, false)) ∧
 (fld Tryz.prog 80 3 = some (3, 1, false)) ∧
 (fld Tryz.prog 80 4 = some (4, 1, false)) ∧
 (fld Tryz.prog 80 5 = some (5, 1, false)) ∧
 (fld Tryz.prog 80 6 = some (6, 1, false)) ∧
 (plc Tryz.prog 80 = some [(0, 1), (1, 1), (2, 1), (3, 1), (4, 1), (5, 1), (6, 1)]) ∧
 (tsz Tryz.prog 95 = some 1) ∧
 (tby Tryz.prog 95 = some 24) ∧
 (elt Tryz.prog 95 = some 32) ∧
 (esz Tryz.prog 95 = some 4) ∧
 (aggT Tryz.prog 95 = some false) ∧
 (tsz Tryz.prog 98 = some 1) ∧
 (tby Tryz.prog 98 = some 24) ∧
 (elt Tryz.prog 98 = some 43) ∧
 (esz Tryz.prog 98 = some 4) ∧
 (aggT Tryz.prog 98 = some false) ∧
 (tsz Tryz.prog 107 = some 5) ∧
 (tby Tryz.prog 107 = some 72) ∧
 (aggT Tryz.prog 107 = some true) ∧
 (fld Tryz.prog 107 0 = some (0, 1, false)) ∧
 (fld Tryz.prog 107 1 = some (1, 1, false)) ∧
 (fld Tryz.prog 107 2 = some (2, 1, false)) ∧
 (fld Tryz.prog 107 3 = some (3, 1, false)) ∧
 (fld Tryz.prog 107 4 = some (4, 1, false)) ∧
 (plc Tryz.prog 107 = some [(0, 1), (1, 1), (2, 1), (3, 1), (4, 1)]) ∧
 (tsz Tryz.prog 108 = some 5) ∧
 (tby Tryz.prog 108 = some 72) ∧
 (aggT Tryz.prog 108 = some true) ∧
 (fld Tryz.prog 108 0 = some (0, 1, false)) ∧
 (fld Tryz.prog 108 1 = some (1, 1, false)) ∧
 (fld Tryz.prog 108 2 = some (2, 1, false)) ∧
 (fld Tryz.prog 108 3 = some (3, 1, false)) ∧
 (fld Tryz.prog 108 4 = some (4, 1, false)) ∧
 (plc Tryz.prog 108 = some [(0, 1), (1, 1), (2, 1), (3, 1), (4, 1)]) ∧
 (tsz Tryz.prog 117 = some 1) ∧
 (tby Tryz.prog 117 = some 24) ∧
 (elt Tryz.prog 117 = some 53) ∧
 (esz Tryz.prog 117 = some 4) ∧
 (aggT Tryz.prog 117 = some false) ∧
 (tsz Tryz.prog 118 = some 1) ∧
 (tby Tryz.prog 118 = some 24) ∧
 (elt Tryz.prog 118 = some 59) ∧
 (esz Tryz.prog 118 = some 4) ∧
 (aggT Tryz.prog 118 = some false) ∧
 (tsz Tryz.prog 125 = some 5) ∧
 (tby Tryz.prog 125 = some 72) ∧
 (aggT Tryz.prog 125 = some true) ∧
 (fld Tryz.prog 125 0 = some (0, 1, false)) ∧
 (fld Tryz.prog 125 1 = some (1, 1, false)) ∧
 (fld Tryz.prog 125 2 = some (2, 1, false)) ∧
 (fld Tryz.prog 125 3 = some (3, 1, false)) ∧
 (fld Tryz.prog 125 4 = some (4, 1, false)) ∧
 (plc Tryz.prog 125 = some [(0, 1), (1, 1), (2, 1), (3, 1), (4, 1)]) ∧
 (tsz Tryz.prog 126 = some 1) ∧
 (tby Tryz.prog 126 = some 24) ∧
 (elt Tryz.prog 126 = some 5) ∧
 (esz Tryz.prog 126 = some 1) ∧
 (aggT Tryz.prog 126 = some false) ∧
 (tsz Tryz.prog 136 = some 2) ∧
 (tby Tryz.prog 136 = some 24) ∧
 (aggT Tryz.prog 136 = some true) ∧
 (fld Tryz.prog 136 0 = some (0, 1, false)) ∧
 (fld Tryz.prog 136 1 = some (1, 1, false)) ∧
 (plc Tryz.prog 136 = some [(0, 1), (1, 1)]) ∧
 (tsz Tryz.prog 148 = some 1) ∧
 (tby Tryz.prog 148 = some 8) ∧
 (aggT Tryz.prog 148 = some false) ∧
 (ikd Tryz.prog 148 = some .i64) ∧
 ((Tryz.prog.underlying 148).isSome = true) ∧
 (tsz Tryz.prog 173 = some 3) ∧
 (tby Tryz.prog 173 = some 32) ∧
 (aggT Tryz.prog 173 = some true) ∧
 (fld Tryz.prog 173 0 = some (0, 1, false)) ∧
 (fld Tryz.prog 173 1 = some (1, 1, false)) ∧
 (fld Tryz.prog 173 2 = some (2, 1, false)) ∧
 (plc Tryz.prog 173 = some [(0, 1), (1, 1), (2, 1)]) ∧
 (tsz Tryz.prog 174 = some 3) ∧
 (tby Tryz.prog 174 = some 32) ∧
 (aggT Tryz.prog 174 = some true) ∧
 (fld Tryz.prog 174 0 = some (0, 1, false)) ∧
 (fld Tryz.prog 174 1 = some (1, 1, false)) ∧
 (fld Tryz.prog 174 2 = some (2, 1, false)) ∧
 (plc Tryz.prog 174 = some [(0, 1), (1, 1), (2, 1)]) ∧
 (tsz Tryz.prog 178 = some 3) ∧
 (tby Tryz.prog 178 = some 40) ∧
 (aggT Tryz.prog 178 = some true) ∧
 (fld Tryz.prog 178 0 = some (0, 1, false)) ∧
 (fld Tryz.prog 178 1 = some (1, 1, false)) ∧
 (fld Tryz.prog 178 2 = some (2, 1, false)) ∧
 (plc Tryz.prog 178 = some [(0, 1), (1, 1), (2, 1)]) ∧
 (tsz Tryz.prog 179 = some 3) ∧
 (tby Tryz.prog 179 = some 40) ∧
 (aggT Tryz.prog 179 = some true) ∧
 (fld Tryz.prog 179 0 = some (0, 1, false)) ∧
 (fld Tryz.prog 179 1 = some (1, 1, false)) ∧
 (fld Tryz.prog 179 2 = some (2, 1, false)) ∧
 (plc Tryz.prog 179 = some [(0, 1), (1, 1), (2, 1)]) ∧
 (tsz Tryz.prog 207 = some 5) ∧
 (tby Tryz.prog 207 = some 40) ∧
 (aggT Tryz.prog 207 = some true) ∧
 (arrT Tryz.prog 207 = some (5, 1, false)) ∧
 (tsz Tryz.prog 213 = some 1) ∧
 (tby Tryz.prog 213 = some 8) ∧
 (aggT Tryz.prog 213 = some false) ∧
 (ikd Tryz.prog 213 = some .u64) ∧
 ((Tryz.prog.underlying 213).isSome = true) ∧
 (tsz Tryz.prog 238 = some 1) ∧
 (tby Tryz.prog 238 = some 2) ∧
 (aggT Tryz.prog 238 = some false) ∧
 (ikd Tryz.prog 238 = some .u16) ∧
 ((Tryz.prog.underlying 238).isSome = true) ∧
 (tsz Tryz.prog 239 = some 128) ∧
 (tby Tryz.prog 239 = some 256) ∧
 (aggT Tryz.prog 239 = some true) ∧
 (arrT Tryz.prog 239 = some (128, 1, false)) ∧
 (tsz Tryz.prog 254 = some 1) ∧
 (tby Tryz.prog 254 = some 4) ∧
 (aggT Tryz.prog 254 = some false) ∧
 (ikd Tryz.prog 254 = some .u32) ∧
 ((Tryz.prog.underlying 254).isSome = true) ∧
 (TT.zt 2 = some (.v true (.int .i64 0))) ∧
 (TT.zt 3 = some (.v true (.int .i64 0))) ∧
 (TT.zt 4 = some (.v true (.bool false))) ∧
 (TT.zt 5 = some (.v true (.int .u8 0))) ∧
 (TT.zt 9 = some (.v true (.str ⟨#[]⟩))) ∧
 (TT.zt 12 = some (.v true (.int .u64 0))) ∧
 (TT.zt 21 = some (.v true (.int .i32 0))) ∧
 (TT.zt 25 = some (.v true (.agg [(.int .i64 0), (.int .i64 0)]))) ∧
 (TT.zt 26 = some (.v true (.agg [(.int .i64 0), (.int .i64 0)]))) ∧
 (TT.zt 27 = some (.v true (.int .i64 0))) ∧
 (TT.zt 28 = some (.v true (.int .i64 0))) ∧
 (TT.zt 31 = some (.v true (.agg [(.int .i64 0), (.bool false), (.int .i64 0), (.sl 1 [])]))) ∧
 (TT.zt 32 = some (.v true (.agg [(.int .i64 0), (.bool false), (.int .i64 0), (.sl 1 [])]))) ∧
 (TT.zt 33 = some (.v true (.int .i64 0))) ∧
 (TT.zt 34 = some (.v true (.int .i64 0))) ∧
 (TT.zt 38 = some (.v true (.agg [(.int .i64 0), (.bool false), (.sl 1 []), (.int .i64 0), (.bool false)]))) ∧
 (TT.zt 39 = some (.v true (.agg [(.int .i64 0), (.bool false), (.sl 1 []), (.int .i64 0), (.bool false)]))) ∧
 (TT.zt 42 = some (.v true (.agg [(.int .i64 0), (.bool false), (.int .i64 0), (.sl 1 [])]))) ∧
 (TT.zt 43 = some (.v true (.agg [(.int .i64 0), (.bool false), (.int .i64 0), (.sl 1 [])]))) ∧
 (TT.zt 46 = some (.v true (.agg [(.int .i64 0), (.int .i64 0)]))) ∧
 (TT.zt 49 = some (.v true (.agg [(.int .i64 0), (.int .i64 0), (.int .i64 0)]))) ∧
 (TT.zt 50 = some (.v true (.agg [(.int .i64 0), (.int .i64 0), (.int .i64 0)]))) ∧
 (TT.zt 51 = some (.v true (.int .i64 0))) ∧
 (TT.zt 52 = some (.v true (.agg [(.int .i64 0), (.bool false), (.sl 1 []), (.int .i64 0)]))) ∧
 (TT.zt 53 = some (.v true (.agg [(.int .i64 0), (.bool false), (.sl 1 []), (.int .i64 0)]))) ∧
 (TT.zt 58 = some (.v true (.agg [(.int .i64 0), (.bool false), (.sl 1 []), (.int .i64 0)]))) ∧
 (TT.zt 59 = some (.v true (.agg [(.int .i64 0), (.bool false), (.sl 1 []), (.int .i64 0)]))) ∧
 (TT.zt 62 = some (.v true (.agg [(.int .i64 0), (.int .i64 0), (.int .i64 0)]))) ∧
 (TT.zt 63 = some (.v true (.agg [(.int .i64 0), (.int .i64 0), (.int .i64 0)]))) ∧
 (TT.zt 70 = some (.v true (.int .i16 0))) ∧
 (TT.zt 76 = some (.v true (.int .u64 0))) ∧
 (TT.zt 78 = some (.v true (.int .i64 0))) ∧
 (TT.zt 80 = some (.v true (.agg [(.int .i64 0), (.bool false), (.str ⟨#[]⟩), (.int .i64 0), (.int .i64 0), (.int .i64 0), (.bool false)]))) ∧
 (TT.zt 107 = some (.v true (.agg [(.bool false), (.sl 1 []), (.sl 1 []), (.int .i64 0), (.int .i64 0)]))) ∧
 (TT.zt 108 = some (.v true (.agg [(.bool false), (.sl 1 []), (.sl 1 []), (.int .i64 0), (.int .i64 0)]))) ∧
 (TT.zt 125 = some (.v true (.agg [(.bool false), (.sl 1 []), (.sl 1 []), (.int .i64 0), (.int .i64 0)]))) ∧
 (TT.zt 136 = some (.v true (.agg [(.str ⟨#[]⟩), (.int .i64 0)]))) ∧
 (TT.zt 148 = some (.v true (.int .i64 0))) ∧
 (TT.zt 173 = some (.v true (.agg [(.sl 1 []), (.bool false), (.bool false)]))) ∧
 (TT.zt 174 = some (.v true (.agg [(.sl 1 []), (.bool false), (.bool false)]))) ∧
 (TT.zt 178 = some (.v true (.agg [(.bool false), (.sl 1 []), (.int .i64 0)]))) ∧
 (TT.zt 179 = some (.v true (.agg [(.bool false), (.sl 1 []), (.int .i64 0)]))) ∧
 (TT.zt 207 = some (.v true (.agg [.nfun, .nfun, .nfun, .nfun, .nfun]))) ∧
 (TT.zt 213 = some (.v true (.int .u64 0))) ∧
 (TT.zt 238 = some (.v true (.int .u16 0))) ∧
 (TT.zt 254 = some (.v true (.int .u32 0))) ∧
 (TT.zt 29 = some .nil) ∧
 (TT.zt 30 = some .nil) ∧
 (TT.zt 95 = some .nil) ∧
 (TT.zt 98 = some .nil) ∧
 (TT.zt 117 = some .nil) ∧
 (TT.zt 118 = some .nil) ∧
 (TT.zt 126 = some .nil) ∧
 (∀ d, TT.fz d = false) := by
 refine ⟨?_, ?_, ?_, ?_, ?_, ?_, ?_, ?_, ?_, ?_, ?_, ?_, ?_, ?_, ?_, ?_, ?_, ?_, ?_, ?_, ?_, ?_, ?_, ?_, ?_, ?_, ?_, ?_, ?_, ?_, ?_, ?_, ?_, ?_, ?_, ?_, ?_, ?_, ?_, ?_, ?_, ?_, ?_, ?_, ?_, ?_, ?_, ?_, ?_, ?_, ?_, ?_, ?_, ?_, ?_, ?_, ?_, ?_, ?_, ?_, ?_, ?_, ?_, ?_, ?_, ?_, ?_, ?_, ?_, ?_, ?_, ?_, ?_, ?_, ?_, ?_, ?_, ?_, ?_, ?_, ?_, ?_, ?_, ?_, ?_, ?_, ?_, ?_, ?_, ?_, ?_, ?_, ?_, ?_, ?_, ?_, ?_, ?_, ?_, ?_, ?_, ?_, ?_, ?_, ?_, ?_, ?_, ?_, ?_, ?_, ?_, ?_, ?_, ?_, ?_, ?_, ?_, ?_, ?_, ?_, ?_, ?_, ?_, ?_, ?_, ?_, ?_, ?_, ?_, ?_, ?_, ?_, ?_, ?_, ?_, ?_, ?_, ?_, ?_, ?_, ?_, ?_, ?_, ?_, ?_, ?_, ?_, ?_, ?_, ?_, ?_, ?_, ?_, ?_, ?_, ?_, ?_, ?_, ?_, ?_, ?_, ?_, ?_, ?_, ?_, ?_, ?_, ?_, ?_, ?_, ?_, ?_, ?_, ?_, ?_, ?_, ?_, ?_, ?_, ?_, ?_, ?_, ?_, ?_, ?_, ?_, ?_, ?_, ?_, ?_, ?_, ?_, ?_, ?_, ?_, ?_, ?_, ?_, ?_, ?_, ?_, ?_, ?_, ?_, ?_, ?_, ?_, ?_, ?_, ?_, ?_, ?_, ?_, ?_, ?_, ?_, ?_, ?_, ?_, ?_, ?_, ?_, ?_, ?_, ?_, ?_, ?_, ?_, ?_, ?_, ?_, ?_, ?_, ?_, ?_, ?_, ?_, ?_, ?_, ?_, ?_, ?_, ?_, ?_, ?_, ?_, ?_, ?_, ?_, ?_, ?_, ?_, ?_, ?_, ?_, ?_, ?_, ?_, ?_, ?_, ?_, ?_, ?_, ?_, ?_, ?_, ?_, ?_, ?_, ?_, ?_, ?_, ?_, ?_, ?_, ?_, ?_, ?_, ?_, ?_, ?_, ?_, ?_, ?_, ?_, ?_, ?_, ?_, ?_, ?_, ?_, ?_, ?_, ?_, ?_, ?_, ?_, ?_, ?_, ?_, ?_, ?_, ?_, ?_, ?_, ?_, ?_, ?_, ?_, ?_, ?_, ?_, ?_, ?_, ?_, ?_, ?_, ?_, ?_, ?_, ?_, ?_, ?_, ?_, ?_, ?_, ?_, ?_, ?_, ?_, ?_, ?_, ?_, ?_, ?_, ?_, ?_, ?_, ?_, ?_, ?_, ?_, ?_, ?_, ?_, ?_, ?_, ?_, ?_, ?_, ?_, ?_, ?_, ?_, ?_, ?_, ?_, ?_, ?_, ?_, ?_, ?_, ?_, ?_, ?_, ?_, ?_, ?_, ?_, ?_, ?_, ?_, ?_, ?_, ?_, ?_, ?_, ?_, ?_, ?_, ?_, ?_, ?_, ?_, ?_, ?_, ?_, ?_, ?_, ?_, ?_, ?_, ?_⟩ <;> first | kernel_rfl | exact fun _ => rfl
attribute [local go_sem] evalOps_nil evalOps_cons runW_t runW_f runE_s runP_s wantA evalOp effOp letters okDst coreA St.opv St.get St.at look constA St.put St.upd St.set decide_true List.all_nil List.all_cons Bool.and_true Bool.true_and and_self and_true true_and if_true if_false true_or Int.sub_zero List.nil_append List.cons_append List.append_nil Option.isSome_some List.getElem?_toArray List.getElem?_cons_succ List.getElem?_cons_zero Option.bind_some Option.map_some Option.map_none beq_self_eq_true Bool.false_beq Bool.true_beq Bool.not_true Bool.not_false Bool.false_eq_true cond_true cond_false binA binI List.map_cons List.map_nil boundA List.length_nil List.length_cons Nat.zero_mul Nat.one_mul Nat.mul_one Nat.zero_add Nat.add_zero Nat.zero_le Option.toList St.freshB AV.ment AV.ments Blk.ment V.sizes Nat.lt_add_one Bool.or_true Bool.true_or Bool.or_false Bool.false_or Bool.or_self if_pos if_neg decide_false decide_eq_true decide_eq_false wrap_i64 Int.toNat_natCast minA maxA Int.natCast_add Int.cast_ofNat_Int Option.isSome_none false_implies true_implies forall_const List.drop_zero Int.toNat_zero Int.add_sub_cancel lenA sliceA loadA indexAddrA partA fitsT V.atP V.offP V.size List.length_map List.getElem?_map Int.toNat_natCast_add_one Int.ofNat_eq_natCast TY calleeA capArg knotA capArgs toArgs toArg callA R.res R.mems R.blks R.av R.names R.nw invokeA storeA storeV fieldAddrA liveB V.off V.offs V.setP List.set_cons_zero List.set_cons_succ buildA buildP partsA appendA srcA copyA boxOk makeA AV.pure List.take_succ_cons List.take_zero nilA words unA entry List.zipIdx_cons List.zipIdx_nil Arg.av Arg.avs
theorem an {a b : Prop} (x : a) (y : b) : a ∧ b := ⟨x, y⟩
section
variable {cx : Cx} {w0 : World} {σ σ' : St} {ro : Option Nat} {ops : Array Oper} {y : Code} {Q : Exit → St → Prop} {id : Nat} {p a : Prop}
theorem zs0 (h : Holds Tryz.prog ro cx w0 y σ' Q) (he : evalOps Tryz.prog TT (fun _ => []) ops ops.toList σ = some (σ', p) := by simp (disch := omega) only [go_sem, V.isAgg, V.flat, ↓reduceIte, Nat.reduceAdd, Nat.reduceSub, Nat.reduceLT, Nat.reduceEqDiff, reduceCtorEq, Nat.reduceLeDiff, Nat.reduceBEq, Nat.reduceMul, Int.reduceToNat]; rfl) (hp : p := by repeat' first | exact trivial | constructor) : Holds Tryz.prog ro cx w0 ((Code.region id ops false).seq y) σ Q := Holds.step (Px := px) (T := TT) TTe he hp h
theorem zs1 (e : a) (h : Holds Tryz.prog ro cx w0 y σ' Q) (he : a → evalOps Tryz.prog TT (fun _ => []) ops ops.toList σ = some (σ', p) := by intro e; simp (disch := omega) only [go_sem, V.isAgg, V.flat, ↓reduceIte, Nat.reduceAdd, Nat.reduceSub, Nat.reduceLT, Nat.reduceEqDiff, reduceCtorEq, Nat.reduceLeDiff, Nat.reduceBEq, Nat.reduceMul, Int.reduceToNat, e]; rfl) (hp : p := by repeat' first | exact trivial | constructor) : Holds Tryz.prog ro cx w0 ((Code.region id ops false).seq y) σ Q := Holds.step (Px := px) (T := TT) TTe (he e) hp h
theorem zs2 {ρ : Nat → List R} (he : evalOps Tryz.prog TT ρ ops ops.toList σ = some (σ', p) := by simp (disch := omega) only [go_sem, V.isAgg, V.flat, ↓reduceIte, Nat.reduceAdd, Nat.reduceSub, Nat.reduceLT, Nat.reduceEqDiff, reduceCtorEq, Nat.reduceLeDiff, Nat.reduceBEq, Nat.reduceMul, Int.reduceToNat]; rfl) (o : p) (k : Holds Tryz.prog ro cx w0 y σ' Q) : Holds Tryz.prog ro cx w0 ((Code.region id ops false).seq y) σ Q := Holds.step (Px := px) (T := TT) TTe he o k
theorem zs3 {ρ : Nat → List R} (e : a) (he : a → evalOps Tryz.prog TT ρ ops ops.toList σ = some (σ', p) := by intro e; simp (disch := omega) only [go_sem, V.isAgg, V.flat, ↓reduceIte, Nat.reduceAdd, Nat.reduceSub, Nat.reduceLT, Nat.reduceEqDiff, reduceCtorEq, Nat.reduceLeDiff, Nat.reduceBEq, Nat.reduceMul, Int.reduceToNat, e]; rfl) (o : p) (k : Holds Tryz.prog ro cx w0 y σ' Q) : Holds Tryz.prog ro cx w0 ((Code.region id ops false).seq y) σ Q := Holds.step (Px := px) (T := TT) TTe (he e) o k
theorem zr0 (h : Q .normal σ') (he : evalOps Tryz.prog TT (fun _ => []) ops ops.toList σ = some (σ', p) := by simp (disch := omega) only [go_sem, V.isAgg, V.flat, ↓reduceIte, Nat.reduceAdd, Nat.reduceSub, Nat.reduceLT, Nat.reduceEqDiff, reduceCtorEq, Nat.reduceLeDiff, Nat.reduceBEq, Nat.reduceMul, Int.reduceToNat]; rfl) (hp : p := by repeat' first | exact trivial | constructor) : Holds Tryz.prog ro cx w0 (Code.region id ops false) σ Q := Holds.region (Px := px) (T := TT) TTe he hp h
theorem zr1 (e : a) (h : Q .normal σ') (he : a → evalOps Tryz.prog TT (fun _ => []) ops ops.toList σ = some (σ', p) := by intro e; simp (disch := omega) only [go_sem, V.isAgg, V.flat, ↓reduceIte, Nat.reduceAdd, Nat.reduceSub, Nat.reduceLT, Nat.reduceEqDiff, reduceCtorEq, Nat.reduceLeDiff, Nat.reduceBEq, Nat.reduceMul, Int.reduceToNat, e]; rfl) (hp : p := by repeat' first | exact trivial | constructor) : Holds Tryz.prog ro cx w0 (Code.region id ops false) σ Q := Holds.region (Px := px) (T := TT) TTe (he e) hp h
theorem zr2 {ρ : Nat → List R} (he : evalOps Tryz.prog TT ρ ops ops.toList σ = some (σ', p) := by simp (disch := omega) only [go_sem, V.isAgg, V.flat, ↓reduceIte, Nat.reduceAdd, Nat.reduceSub, Nat.reduceLT, Nat.reduceEqDiff, reduceCtorEq, Nat.reduceLeDiff, Nat.reduceBEq, Nat.reduceMul, Int.reduceToNat]; rfl) (o : p) (k : Q .normal σ') : Holds Tryz.prog ro cx w0 (Code.region id ops false) σ Q := Holds.region (Px := px) (T := TT) TTe he o k
theorem zr3 {ρ : Nat → List R} (e : a) (he : a → evalOps Tryz.prog TT ρ ops ops.toList σ = some (σ', p) := by intro e; simp (disch := omega) only [go_sem, V.isAgg, V.flat, ↓reduceIte, Nat.reduceAdd, Nat.reduceSub, Nat.reduceLT, Nat.reduceEqDiff, reduceCtorEq, Nat.reduceLeDiff, Nat.reduceBEq, Nat.reduceMul, Int.reduceToNat, e]; rfl) (o : p) (k : Q .normal σ') : Holds Tryz.prog ro cx w0 (Code.region id ops false) σ Q := Holds.region (Px := px) (T := TT) TTe (he e) o k
theorem zd0 (fl : List (Nat × Nat)) (h : Holds Tryz.prog ro cx w0 y σ' Q) (he : evalOps Tryz.prog TT (fun _ => []) ops ops.toList σ = some (σ', p) := by simp (disch := omega) only [go_sem, V.isAgg, V.flat, ↓reduceIte, Nat.reduceAdd, Nat.reduceSub, Nat.reduceLT, Nat.reduceEqDiff, reduceCtorEq, Nat.reduceLeDiff, Nat.reduceBEq, Nat.reduceMul, Int.reduceToNat]; rfl) (hp : p := by repeat' first | exact trivial | constructor) (hz : drawS ops σ.nt fl = true := by kernel_rfl) (hl : disjL (ops.toList.map (letters fun _ => [])) = true := by rfl) (hf : (ops.toList.map (letters fun _ => [])).all (fun l => l.all σ.freshB) = true := by rfl) (hfl : flOk (trc Tryz.prog TT (fun _ => []) ops ops.toList σ) fl = true := by rfl) : Holds Tryz.prog ro cx w0 ((Code.region id ops true).seq y) σ Q := Holds.dstep (Px := px) (T := TT) fl mixed hz TTe he hp hl hf hfl h
theorem zd1 (fl : List (Nat × Nat)) (e : a) (h : Holds Tryz.prog ro cx w0 y σ' Q) (he : a → evalOps Tryz.prog TT (fun _ => []) ops ops.toList σ = some (σ', p) := by intro e; simp (disch := omega) only [go_sem, V.isAgg, V.flat, ↓reduceIte, Nat.reduceAdd, Nat.reduceSub, Nat.reduceLT, Nat.reduceEqDiff, reduceCtorEq, Nat.reduceLeDiff, Nat.reduceBEq, Nat.reduceMul, Int.reduceToNat, e]; rfl) (hp : p := by repeat' first | exact trivial | constructor) (hz : drawS ops σ.nt fl = true := by kernel_rfl) (hl : disjL (ops.toList.map (letters fun _ => [])) = true := by rfl) (hf : (ops.toList.map (letters fun _ => [])).all (fun l => l.all σ.freshB) = true := by rfl) (hfl : flOk (trc Tryz.prog TT (fun _ => []) ops ops.toList σ) fl = true := by rfl) : Holds Tryz.prog ro cx w0 ((Code.region id ops true).seq y) σ Q := Holds.dstep (Px := px) (T := TT) fl mixed hz TTe (he e) hp hl hf hfl h
theorem zd2 (fl : List (Nat × Nat)) {ρ : Nat → List R} (he : evalOps Tryz.prog TT ρ ops ops.toList σ = some (σ', p) := by simp (disch := omega) only [go_sem, V.isAgg, V.flat, ↓reduceIte, Nat.reduceAdd, Nat.reduceSub, Nat.reduceLT, Nat.reduceEqDiff, reduceCtorEq, Nat.reduceLeDiff, Nat.reduceBEq, Nat.reduceMul, Int.reduceToNat]; rfl) (o : p) (k : Holds Tryz.prog ro cx w0 y σ' Q) (hz : drawS ops σ.nt fl = true := by kernel_rfl) (hl : disjL (ops.toList.map (letters ρ)) = true := by rfl) (hf : (ops.toList.map (letters ρ)).all (fun l => l.all σ.freshB) = true := by rfl) (hfl : flOk (trc Tryz.prog TT ρ ops ops.toList σ) fl = true := by rfl) : Holds Tryz.prog ro cx w0 ((Code.region id ops true).seq y) σ Q := Holds.dstep (Px := px) (T := TT) fl mixed hz TTe he o hl hf hfl k
theorem zd3 (fl : List (Nat × Nat)) {ρ : Nat → List R} (e : a) (he : a → evalOps Tryz.prog TT ρ ops ops.toList σ = some (σ', p) := by intro e; simp (disch := omega) only [go_sem, V.isAgg, V.flat, ↓reduceIte, Nat.reduceAdd, Nat.reduceSub, Nat.reduceLT, Nat.reduceEqDiff, reduceCtorEq, Nat.reduceLeDiff, Nat.reduceBEq, Nat.reduceMul, Int.reduceToNat, e]; rfl) (o : p) (k : Holds Tryz.prog ro cx w0 y σ' Q) (hz : drawS ops σ.nt fl = true := by kernel_rfl) (hl : disjL (ops.toList.map (letters ρ)) = true := by rfl) (hf : (ops.toList.map (letters ρ)).all (fun l => l.all σ.freshB) = true := by rfl) (hfl : flOk (trc Tryz.prog TT ρ ops ops.toList σ) fl = true := by rfl) : Holds Tryz.prog ro cx w0 ((Code.region id ops true).seq y) σ Q := Holds.dstep (Px := px) (T := TT) fl mixed hz TTe (he e) o hl hf hfl k
theorem zq1 (fl : List (Nat × Nat)) (e : a) (h : Q .normal σ') (he : a → evalOps Tryz.prog TT (fun _ => []) ops ops.toList σ = some (σ', p) := by intro e; simp (disch := omega) only [go_sem, V.isAgg, V.flat, ↓reduceIte, Nat.reduceAdd, Nat.reduceSub, Nat.reduceLT, Nat.reduceEqDiff, reduceCtorEq, Nat.reduceLeDiff, Nat.reduceBEq, Nat.reduceMul, Int.reduceToNat, e]; rfl) (hp : p := by repeat' first | exact trivial | constructor) (hz : drawS ops σ.nt fl = true := by kernel_rfl) (hl : disjL (ops.toList.map (letters fun _ => [])) = true := by rfl) (hf : (ops.toList.map (letters fun _ => [])).all (fun l => l.all σ.freshB) = true := by rfl) (hfl : flOk (trc Tryz.prog TT (fun _ => []) ops ops.toList σ) fl = true := by rfl) : Holds Tryz.prog ro cx w0 (Code.region id ops true) σ Q := Holds.dregion (Px := px) (T := TT) fl mixed hz TTe (he e) hp hl hf hfl h
end
def lowN (c : Nat) : Nat := if 65 ≤ c ∧ c ≤ 90 then c + 32 else c
def nxB (s : ByteArray) (i : Nat) : Nat := lowN (bAt s i)
theorem bAt_lt (s : ByteArray) (i : Nat) : bAt s i < 256 := by
 unfold bAt
 split
 ·next b _ => exact b.toNat_lt
 ·omega
theorem nxB_lt (s : ByteArray) (i : Nat) : nxB s i < 256 := by
 have := bAt_lt s i
 unfold nxB lowN
 split <;> omega
theorem bAt_end {s : ByteArray} {i : Nat} (h : s.size ≤ i) : bAt s i = 0 := by
 unfold bAt
 rw [getElem?_neg s i (by omega)]
theorem bAt_some {s : ByteArray} {i : Nat} (h : i < s.size) : ∃ b, s[i]? = some b ∧ bAt s i = b.toNat := by
 refine ⟨s[i], getElem?_pos s i h, ?_⟩
 unfold bAt
 rw [getElem?_pos s i h]
theorem wrap_u8 {n : Int} : IntKind.u8.wrap n = n % 256 := by
 unfold IntKind.wrap
 simp only [IntKind.bits, IntKind.signed, Bool.false_and, Bool.false_eq_true, if_false]
 rfl
def rdV (s : ByteArray) (i : Nat) : V := .agg [.str s, .int .i64 i]
theorem next_ok (s : ByteArray) (i : Nat) (hs : s.size < 1000000000) (hi : i < 1000000000) : FnOk Tryz.prog 132 [.el (rdV s i)] [.v true (.int .u8 (nxB s i : Nat))] := by
 show FnOk Tryz.prog 132 [.el (.agg [.str s, .int .i64 i])] _
 refine FnOk.of Tryz.func132 rfl rfl fun cx w0 => ?_
 rw [show Tryz.f132.ntmps = 32 from rfl]
 refine zs0 ?_
 by_cases h : s.size ≤ i
 ·rw [nxB, bAt_end h]
  refine Holds.seq ?_
  refine zd0 [] ?_
  refine Holds.condT rfl ?_
  refine zs0 ?_
  exact Holds.ret (RetOk.vs rfl (by exact ⟨⟨rfl, id⟩, trivial⟩) rfl)
 ·obtain ⟨b, hb, eb⟩ := bAt_some (s := s) (i := i) (by omega)
  rw [nxB, eb]
  have hb8 := b.toNat_lt
  obtain ⟨c, hc⟩ : ∃ c, c = b.toNat := ⟨_, rfl⟩
  refine Holds.next (fun σ => ∀ a w, Rel cx w0 σ a w → Rel cx w0 { nt := 32, env := [(2, .v true (.int .u8 0)), (0, .el false (.agg [.str s, .int .i64 i]))], mem := [] } a w) ?_ ?_
  ·refine zd0 [] ?_
   exact Holds.condF rfl (Holds.skip fun a w h => Rel.keep [2, 0] [] h)
  ·intro σ hσ
   refine Holds.from hσ ?_
   refine Holds.dstep (Px := px) (T := TT) (ρ := fun _ => []) [] mixed (by kernel_rfl) TTe (by simp (maxSteps := 100000) (disch := omega) only [go_sem, V.isAgg, V.flat, ↓reduceIte, Nat.reduceAdd, Nat.reduceSub, Nat.reduceLT, Nat.reduceEqDiff, reduceCtorEq, Nat.reduceLeDiff, Nat.reduceBEq, Nat.reduceMul, Int.reduceToNat, indexA, hb]; rfl) (by repeat' first | exact trivial | constructor) (by rfl) (by rfl) (by rfl) ?_
   rw [← hc] at hb8 ⊢
   refine Holds.next (fun σ => ∀ a w, Rel cx w0 σ a w → Rel cx w0 { nt := 32, env := [(2, .v true (.int .u8 0)), (3, .v true (.int .u8 (lowN c : Nat)))], mem := [] } a w) ?_ ?_
   ·unfold lowN
    by_cases h1 : 65 ≤ c
    ·have h1' : (65 : Int) ≤ c := by omega
     by_cases h2 : c ≤ 90
     ·rw [if_pos ⟨h1, h2⟩]
      have h2' : (c : Int) ≤ 90 := by omega
      have ew : IntKind.u8.wrap ((c : Int) + 32) = ((c + 32 : Nat) : Int) := by rw [wrap_u8]; omega
      refine zs1 (an h1' <| h2') ?_
      refine Holds.condT rfl ?_
      refine zr1 ew ?_
      exact fun a w h => Rel.keep [2, 3] [] h
     ·rw [if_neg (by omega)]
      have h2' : ¬ (c : Int) ≤ 90 := by omega
      refine zs1 (an h1' <| h2') ?_
      exact Holds.condF rfl (Holds.skip fun a w h => Rel.keep [2, 3] [] h)
    ·rw [if_neg (by omega)]
     have h1' : ¬ (65 : Int) ≤ c := by omega
     refine zs1 h1' ?_
     exact Holds.condF rfl (Holds.skip fun a w h => Rel.keep [2, 3] [] h)
   ·intro σ hσ
    refine Holds.from hσ ?_
    refine zs0 ?_
    exact Holds.ret (RetOk.vs rfl (by exact ⟨⟨rfl, id⟩, trivial⟩) rfl)
def dgN (c : Nat) (hex : Bool) : Bool := decide (48 ≤ c ∧ c ≤ 57) || (hex && decide (97 ≤ c ∧ c ≤ 102))
theorem pdigit_ok (c : Nat) (hex : Bool) (hc : c < 256) : FnOk Tryz.prog 131 [.v (.int .u8 c), .v (.bool hex)] [.v true (.bool (dgN c hex))] := by
 have e : dgN c hex = (decide (48 ≤ c ∧ c ≤ 57) || (hex && decide (97 ≤ c ∧ c ≤ 102))) := rfl
 by_cases h1 : (48 : Int) ≤ c
 ·by_cases h2 : (c : Int) ≤ 57
  ·rw [e, decide_eq_true (show 48 ≤ c ∧ c ≤ 57 by omega), Bool.true_or]
   refine FnOk.of Tryz.func131 rfl rfl fun cx w0 => ?_
   rw [show Tryz.f131.ntmps = 22 from rfl]
   refine zs0 ?_
   refine zs1 (an h1 <| h2) ?_
   exact Holds.ret (RetOk.vs rfl (by exact ⟨⟨rfl, id⟩, trivial⟩) rfl)
  ·rw [e, decide_eq_false (show ¬ (48 ≤ c ∧ c ≤ 57) by omega), Bool.false_or]
   cases hex
   ·rw [Bool.false_and]
    refine FnOk.of Tryz.func131 rfl rfl fun cx w0 => ?_
    rw [show Tryz.f131.ntmps = 22 from rfl]
    refine zs0 ?_
    refine zs1 (an h1 <| h2) ?_
    exact Holds.ret (RetOk.vs rfl (by exact ⟨⟨rfl, id⟩, trivial⟩) rfl)
   ·rw [Bool.true_and]
    by_cases h3 : (97 : Int) ≤ c
    ·by_cases h4 : (c : Int) ≤ 102
     ·rw [decide_eq_true (show 97 ≤ c ∧ c ≤ 102 by omega)]
      refine FnOk.of Tryz.func131 rfl rfl fun cx w0 => ?_
      rw [show Tryz.f131.ntmps = 22 from rfl]
      refine zs0 ?_
      refine zs1 (an h1 <| an h2 <| an h3 <| h4) ?_
      exact Holds.ret (RetOk.vs rfl (by exact ⟨⟨rfl, id⟩, trivial⟩) rfl)
     ·rw [decide_eq_false (show ¬ (97 ≤ c ∧ c ≤ 102) by omega)]
      refine FnOk.of Tryz.func131 rfl rfl fun cx w0 => ?_
      rw [show Tryz.f131.ntmps = 22 from rfl]
      refine zs0 ?_
      refine zs1 (an h1 <| an h2 <| an h3 <| h4) ?_
      exact Holds.ret (RetOk.vs rfl (by exact ⟨⟨rfl, id⟩, trivial⟩) rfl)
    ·rw [decide_eq_false (show ¬ (97 ≤ c ∧ c ≤ 102) by omega)]
     refine FnOk.of Tryz.func131 rfl rfl fun cx w0 => ?_
     rw [show Tryz.f131.ntmps = 22 from rfl]
     refine zs0 ?_
     refine zs1 (an h1 <| an h2 <| h3) ?_
     exact Holds.ret (RetOk.vs rfl (by exact ⟨⟨rfl, id⟩, trivial⟩) rfl)
 ·rw [e, decide_eq_false (show ¬ (48 ≤ c ∧ c ≤ 57) by omega), Bool.false_or]
  cases hex
  ·rw [Bool.false_and]
   refine FnOk.of Tryz.func131 rfl rfl fun cx w0 => ?_
   rw [show Tryz.f131.ntmps = 22 from rfl]
   refine zs0 ?_
   refine zs1 h1 ?_
   exact Holds.ret (RetOk.vs rfl (by exact ⟨⟨rfl, id⟩, trivial⟩) rfl)
  ·have h3 : ¬ (97 : Int) ≤ c := by omega
   rw [Bool.true_and, decide_eq_false (show ¬ (97 ≤ c ∧ c ≤ 102) by omega)]
   refine FnOk.of Tryz.func131 rfl rfl fun cx w0 => ?_
   rw [show Tryz.f131.ntmps = 22 from rfl]
   refine zs0 ?_
   refine zs1 (an h1 <| h3) ?_
   exact Holds.ret (RetOk.vs rfl (by exact ⟨⟨rfl, id⟩, trivial⟩) rfl)
def mayB (s : ByteArray) (i c : Nat) : Bool := decide (nxB s i = c ∧ c ≠ 0)
def b2n (b : Bool) : Nat := if b then 1 else 0
theorem may_ok (s : ByteArray) (i c : Nat) (hs : s.size < 1000000000) (hi : i < 1000000000) (hc : c < 256) : MutOk Tryz.prog 128 136 (rdV s i) [.int .u8 c] (rdV s (i + b2n (mayB s i c))) [.bool (mayB s i c)] := by
 have hN := next_ok s i hs hi
 have hlt := nxB_lt s i
 unfold mayB
 obtain ⟨n, hn⟩ : ∃ n, n = nxB s i := ⟨_, rfl⟩
 rw [← hn] at hN hlt ⊢
 rw [show rdV s i = .agg [.str s, .int .i64 i] from rfl] at hN
 refine MutOk.of Tryz.func128 rfl rfl fun cx w0 s' M Rt F => ?_
 show Holds Tryz.prog none cx w0 _ { nt := 20, env := [(0, .ptr s' 0 [] 0), (1, .v true (.int .u8 c))], mem := (s', .box 136 (.v true (.agg [.str s, .int .i64 i]))) :: M, root := Rt, fix := F } _
 by_cases h1 : n = c
 ·subst h1
  by_cases h2 : n = 0
  ·subst h2
   rw [decide_eq_false (by omega)]
   refine zs0 ?_
   refine Holds.seq ?_
   refine zs2 (ρ := fun _ => [.v true (.int .u8 0)]) (o := by repeat' first|exact hN|trivial|constructor) (k := ?_)
   refine Holds.condT rfl ?_
   refine zs0 ?_
   exact Holds.ret ⟨.inl rfl, rfl, rfl, rfl, fun q => rfl, rfl⟩
  ·have h2' : ¬ (n : Int) = 0 := by omega
   rw [decide_eq_true (by omega)]
   refine zs0 ?_
   refine Holds.next (fun σ => ∀ a w, Rel cx w0 σ a w → Rel cx w0 { nt := 20, env := [(0, .ptr s' 0 [] 0), (1, .v true (.int .u8 n))], mem := (s', .box 136 (.v true (.agg [.str s, .int .i64 i]))) :: M, root := Rt, fix := F } a w) ?_ ?_
   ·refine zs3 (ρ := fun _ => [.v true (.int .u8 n)]) h2' (o := by repeat' first|exact hN|trivial|constructor) (k := ?_)
    exact Holds.condF rfl (Holds.skip fun a w h => Rel.keepE [0, 1] h)
   ·intro σ hσ
    refine Holds.from hσ ?_
    refine zs0 ?_
    refine zs0 ?_
    exact Holds.ret ⟨.inl rfl, rfl, rfl, rfl, fun q => by simp only [look]; split <;> rfl, rfl⟩
 ·have h1' : ¬ (n : Int) = c := by omega
  rw [decide_eq_false (by omega)]
  refine zs0 ?_
  refine Holds.seq ?_
  refine zs3 (ρ := fun _ => [.v true (.int .u8 n)]) h1' (o := by repeat' first|exact hN|trivial|constructor) (k := ?_)
  refine Holds.condT rfl ?_
  refine zs0 ?_
  exact Holds.ret ⟨.inl rfl, rfl, rfl, rfl, fun q => rfl, rfl⟩
def sgnB (s : ByteArray) (i : Nat) : Bool := mayB s i 45 || mayB s i 43
theorem sign_ok (s : ByteArray) (i : Nat) (hs : s.size < 1000000000) (hi : i < 1000000000) : MutOk Tryz.prog 73 136 (rdV s i) [] (rdV s (i + b2n (sgnB s i))) [.bool (mayB s i 45), .bool (sgnB s i)] := by
 have h1 := may_ok s i 45 hs hi (by decide)
 have h2 := may_ok s i 43 hs hi (by decide)
 unfold sgnB
 obtain ⟨m, hm⟩ : ∃ m, m = mayB s i 45 := ⟨_, rfl⟩
 obtain ⟨p, hp⟩ : ∃ p, p = mayB s i 43 := ⟨_, rfl⟩
 rw [← hm] at h1 ⊢
 rw [← hp] at h2 ⊢
 refine MutOk.of Tryz.func73 rfl rfl fun cx w0 s' M Rt F => ?_
 show Holds Tryz.prog none cx w0 _ { nt := 12, env := [(0, .ptr s' 0 [] 0)], mem := (s', .box 136 (.v true (rdV s i))) :: M, root := Rt, fix := F } _
 refine zs0 ?_
 cases m
 ·refine Holds.seq (Holds.regionM (Px := px) (T := TT) (ρ := fun _ => []) (k := 1) TTe (by simp (maxSteps := 100000) (disch := omega) only [List.take_succ_cons, List.take_zero, go_sem, V.isAgg, V.flat, ↓reduceIte, Nat.reduceAdd, Nat.reduceSub, Nat.reduceLT, Nat.reduceEqDiff, reduceCtorEq, Nat.reduceLeDiff, Nat.reduceBEq, Nat.reduceMul, Int.reduceToNat]; rfl) (by repeat' first | exact trivial | constructor) rfl (by rfl) rfl rfl (Nat.le_of_ble_eq_true rfl) (by rfl) (by exact if_pos rfl) (by rfl) (h1) ⟨_, _, by simp (maxSteps := 100000) (disch := omega) only [List.drop_succ_cons, List.drop_zero, mres, go_sem, V.isAgg, V.flat, ↓reduceIte, Nat.reduceAdd, Nat.reduceSub, Nat.reduceLT, Nat.reduceEqDiff, reduceCtorEq, Nat.reduceLeDiff, Nat.reduceBEq, Nat.reduceMul, Int.reduceToNat]; rfl, by repeat' first | exact trivial | constructor, ?_⟩); show Holds _ _ _ _ _ _ _
  refine Holds.seq (Holds.regionM (Px := px) (T := TT) (ρ := fun _ => []) (k := 4) TTe (by simp (maxSteps := 100000) (disch := omega) only [List.take_succ_cons, List.take_zero, go_sem, V.isAgg, V.flat, ↓reduceIte, Nat.reduceAdd, Nat.reduceSub, Nat.reduceLT, Nat.reduceEqDiff, reduceCtorEq, Nat.reduceLeDiff, Nat.reduceBEq, Nat.reduceMul, Int.reduceToNat]; rfl) (by repeat' first | exact trivial | constructor) rfl (by rfl) rfl rfl (Nat.le_of_ble_eq_true rfl) (by rfl) (by exact if_pos rfl) (by rfl) (h2) ⟨_, _, by simp (maxSteps := 100000) (disch := omega) only [List.drop_succ_cons, List.drop_zero, mres, go_sem, V.isAgg, V.flat, ↓reduceIte, Nat.reduceAdd, Nat.reduceSub, Nat.reduceLT, Nat.reduceEqDiff, reduceCtorEq, Nat.reduceLeDiff, Nat.reduceBEq, Nat.reduceMul, Int.reduceToNat]; rfl, by repeat' first | exact trivial | constructor, ?_⟩); show Holds _ _ _ _ _ _ _
  exact Holds.ret ⟨.inl rfl, rfl, rfl, rfl, fun q => by simp only [look]; split <;> rfl, rfl⟩
 ·refine Holds.seq (Holds.regionM (Px := px) (T := TT) (ρ := fun _ => []) (k := 1) TTe (by simp (maxSteps := 100000) (disch := omega) only [List.take_succ_cons, List.take_zero, go_sem, V.isAgg, V.flat, ↓reduceIte, Nat.reduceAdd, Nat.reduceSub, Nat.reduceLT, Nat.reduceEqDiff, reduceCtorEq, Nat.reduceLeDiff, Nat.reduceBEq, Nat.reduceMul, Int.reduceToNat]; rfl) (by repeat' first | exact trivial | constructor) rfl (by rfl) rfl rfl (Nat.le_of_ble_eq_true rfl) (by rfl) (by exact if_pos rfl) (by rfl) (h1) ⟨_, _, by simp (maxSteps := 100000) (disch := omega) only [List.drop_succ_cons, List.drop_zero, mres, go_sem, V.isAgg, V.flat, ↓reduceIte, Nat.reduceAdd, Nat.reduceSub, Nat.reduceLT, Nat.reduceEqDiff, reduceCtorEq, Nat.reduceLeDiff, Nat.reduceBEq, Nat.reduceMul, Int.reduceToNat]; rfl, by repeat' first | exact trivial | constructor, ?_⟩); show Holds _ _ _ _ _ _ _
  refine zs0 ?_
  exact Holds.ret ⟨.inl rfl, rfl, rfl, rfl, fun q => by simp only [look]; split <;> rfl, rfl⟩
def expL (s : ByteArray) : Nat → Nat → Nat → Nat × Nat
 | 0, i, n => (i, n)
 | k + 1, i, n => if dgN (nxB s i) false = true then expL s k (i + 1) (min 1099511627776 (10 * n + (nxB s i - 48))) else (i, n)
theorem dg_in {s : ByteArray} {i : Nat} {hex : Bool} (h : dgN (nxB s i) hex = true) : i < s.size := by
 rcases Nat.lt_or_ge i s.size with h1 | h1
 ·exact h1
 ·rw [nxB, bAt_end h1] at h
  cases hex <;> simp [dgN, lowN] at h
theorem dg_dec {c : Nat} (h : dgN c false = true) : 48 ≤ c ∧ c ≤ 57 := by simpa [dgN] using h
theorem expL_bd (s : ByteArray) : ∀ (k i n : Nat), n ≤ 1099511627776 → (expL s k i n).2 ≤ 1099511627776 ∧ (i ≤ s.size → (expL s k i n).1 ≤ s.size)
 | 0, i, n, h => ⟨h, id⟩
 | k + 1, i, n, h => by
   rw [expL]
   split
   ·next hd =>
    obtain ⟨h1, h2⟩ := expL_bd s k (i + 1) (min 1099511627776 (10 * n + (nxB s i - 48))) (Nat.min_le_left _ _)
    exact ⟨h1, fun _ => h2 (dg_in hd)⟩
   ·exact ⟨h, id⟩
def expR (s : ByteArray) (i l : Nat) : Nat × Int × Bool :=
 if mayB s i l = true then
  if dgN (nxB s (i + 1 + b2n (sgnB s (i + 1)))) false = true then
   ((expL s (s.size + 1 - (i + 1 + b2n (sgnB s (i + 1)))) (i + 1 + b2n (sgnB s (i + 1))) 0).1,
    (if mayB s (i + 1) 45 = true then -((expL s (s.size + 1 - (i + 1 + b2n (sgnB s (i + 1)))) (i + 1 + b2n (sgnB s (i + 1))) 0).2 : Int) else ((expL s (s.size + 1 - (i + 1 + b2n (sgnB s (i + 1)))) (i + 1 + b2n (sgnB s (i + 1))) 0).2 : Int)), true)
  else (i + 1 + b2n (sgnB s (i + 1)), 0, false)
 else (i, 0, false)
set_option maxHeartbeats 1000000 in
theorem exponent_ok (s : ByteArray) (i l : Nat) (hs : s.size < 100000000) (hi : i < 100000000) (hl : l < 256) : MutOk Tryz.prog 76 136 (rdV s i) [.int .u8 l] (rdV s (expR s i l).1) [.int .i64 (expR s i l).2.1, .bool (expR s i l).2.2] := by
 have h1 := may_ok s i l (by omega) (by omega) hl
 have hb2 : ∀ b, b2n b ≤ 1 := fun b => by cases b <;> decide
 unfold expR
 obtain ⟨m, hm⟩ : ∃ m, m = mayB s i l := ⟨_, rfl⟩
 rw [← hm] at h1 ⊢
 refine MutOk.of Tryz.func76 rfl rfl fun cx w0 s' M Rt F => ?_
 show Holds Tryz.prog none cx w0 _ { nt := 44, env := [(0, .ptr s' 0 [] 0), (1, .v true (.int .u8 l))], mem := (s', .box 136 (.v true (rdV s i))) :: M, root := Rt, fix := F } _
 refine zs0 ?_
 cases m
 ·rw [if_neg (by simp)]
  refine Holds.seq ?_
  refine Holds.seq (Holds.regionM (Px := px) (T := TT) (ρ := fun _ => []) (k := 2) TTe (by simp (maxSteps := 100000) (disch := omega) only [List.take_succ_cons, List.take_zero, go_sem, V.isAgg, V.flat, ↓reduceIte, Nat.reduceAdd, Nat.reduceSub, Nat.reduceLT, Nat.reduceEqDiff, reduceCtorEq, Nat.reduceLeDiff, Nat.reduceBEq, Nat.reduceMul, Int.reduceToNat, unA]; rfl) (by repeat' first | exact trivial | constructor) rfl (by rfl) rfl rfl (Nat.le_of_ble_eq_true rfl) (by rfl) (by exact if_pos rfl) (by rfl) (h1) ⟨_, _, by simp (maxSteps := 100000) (disch := omega) only [List.drop_succ_cons, List.drop_zero, mres, go_sem, V.isAgg, V.flat, ↓reduceIte, Nat.reduceAdd, Nat.reduceSub, Nat.reduceLT, Nat.reduceEqDiff, reduceCtorEq, Nat.reduceLeDiff, Nat.reduceBEq, Nat.reduceMul, Int.reduceToNat, unA]; rfl, by repeat' first | exact trivial | constructor, ?_⟩); show Holds _ _ _ _ _ _ _
  refine Holds.condT rfl ?_
  refine zs0 ?_
  exact Holds.ret ⟨.inl rfl, rfl, rfl, rfl, fun q => by simp only [look]; split <;> rfl, rfl⟩
 ·rw [if_pos rfl]
  rw [show b2n true = 1 from rfl] at h1
  refine Holds.next (fun σ => ∀ a w, Rel cx w0 σ a w → Rel cx w0 { nt := 44, env := [(0, .ptr s' 0 [] 0)], mem := (s', .box 136 (.v true (rdV s (i + 1)))) :: M, root := Rt, fix := F } a w) ?_ ?_
  ·refine Holds.seq (Holds.regionM (Px := px) (T := TT) (ρ := fun _ => []) (k := 2) TTe (by simp (maxSteps := 100000) (disch := omega) only [List.take_succ_cons, List.take_zero, go_sem, V.isAgg, V.flat, ↓reduceIte, Nat.reduceAdd, Nat.reduceSub, Nat.reduceLT, Nat.reduceEqDiff, reduceCtorEq, Nat.reduceLeDiff, Nat.reduceBEq, Nat.reduceMul, Int.reduceToNat, unA]; rfl) (by repeat' first | exact trivial | constructor) rfl (by rfl) rfl rfl (Nat.le_of_ble_eq_true rfl) (by rfl) (by exact if_pos rfl) (by rfl) (h1) ⟨_, _, by simp (maxSteps := 100000) (disch := omega) only [List.drop_succ_cons, List.drop_zero, mres, go_sem, V.isAgg, V.flat, ↓reduceIte, Nat.reduceAdd, Nat.reduceSub, Nat.reduceLT, Nat.reduceEqDiff, reduceCtorEq, Nat.reduceLeDiff, Nat.reduceBEq, Nat.reduceMul, Int.reduceToNat, unA]; rfl, by repeat' first | exact trivial | constructor, ?_⟩); show Holds _ _ _ _ _ _ _
   exact Holds.condF rfl (Holds.skip fun a w h => Rel.memEq (Rel.keepE [0] h) (fun q => by simp only [look]; split <;> rfl))
  intro σ hσ
  refine Holds.from hσ ?_
  have h2 := sign_ok s (i + 1) (by omega) (by omega)
  obtain ⟨neg, hneg⟩ : ∃ neg, neg = mayB s (i + 1) 45 := ⟨_, rfl⟩
  rw [← hneg] at h2 ⊢
  obtain ⟨k, hk⟩ : ∃ k, k = i + 1 + b2n (sgnB s (i + 1)) := ⟨_, rfl⟩
  have hkl : k < 100000010 := by have := hb2 (sgnB s (i + 1)); omega
  rw [← hk] at h2 ⊢
  refine Holds.seq (Holds.regionM (Px := px) (T := TT) (ρ := fun _ => []) (k := 1) TTe (by simp (maxSteps := 100000) (disch := omega) only [List.take_succ_cons, List.take_zero, go_sem, V.isAgg, V.flat, ↓reduceIte, Nat.reduceAdd, Nat.reduceSub, Nat.reduceLT, Nat.reduceEqDiff, reduceCtorEq, Nat.reduceLeDiff, Nat.reduceBEq, Nat.reduceMul, Int.reduceToNat]; rfl) (by repeat' first | exact trivial | constructor) rfl (by rfl) rfl rfl (Nat.le_of_ble_eq_true rfl) (by rfl) (by exact if_pos rfl) (by rfl) (h2) ⟨_, _, by simp (maxSteps := 100000) (disch := omega) only [List.drop_succ_cons, List.drop_zero, mres, go_sem, V.isAgg, V.flat, ↓reduceIte, Nat.reduceAdd, Nat.reduceSub, Nat.reduceLT, Nat.reduceEqDiff, reduceCtorEq, Nat.reduceLeDiff, Nat.reduceBEq, Nat.reduceMul, Int.reduceToNat]; rfl, by repeat' first | exact trivial | constructor, ?_⟩); show Holds _ _ _ _ _ _ _
  refine Holds.from (σ' := { nt := 44, env := [(6, .v true (.bool neg)), (0, .ptr s' 0 [] 0)], mem := (s', .box 136 (.v true (rdV s k))) :: M, root := Rt, fix := F }) (fun a w h => Rel.memEq (Rel.keepE [6, 0] h) (fun q => by simp only [look]; split <;> rfl)) ?_
  have hN := next_ok s k (by omega) (by omega)
  have hD := pdigit_ok (nxB s k) false (nxB_lt s k)
  rw [show rdV s k = .agg [.str s, .int .i64 k] from rfl] at hN
  by_cases hd : dgN (nxB s k) false = true
  ·rw [if_pos hd]
   rw [hd] at hD
   obtain ⟨c, hc⟩ : ∃ c, c = nxB s k := ⟨_, rfl⟩
   rw [← hc] at hN hD
   have hks := dg_in hd
   refine Holds.next (fun σ => ∀ a w, Rel cx w0 σ a w → Rel cx w0 { nt := 44, env := [(6, .v true (.bool neg)), (0, .ptr s' 0 [] 0)], mem := (s', .box 136 (.v true (rdV s k))) :: M, root := Rt, fix := F } a w) ?_ ?_
   ·refine Holds.step (Px := px) (T := TT) (ρ := fun d => if d = 19 then [.v true (.int .u8 c)] else [.v true (.bool true)]) TTe (by simp (maxSteps := 100000) (disch := omega) only [go_sem, V.isAgg, V.flat, ↓reduceIte, Nat.reduceAdd, Nat.reduceSub, Nat.reduceLT, Nat.reduceEqDiff, reduceCtorEq, Nat.reduceLeDiff, Nat.reduceBEq, Nat.reduceMul, Int.reduceToNat, unA, rdV]; rfl) (by first | exact ⟨hN, hD⟩ | (repeat' first | exact trivial | exact hN | exact hD | constructor)) ?_
    exact Holds.condF rfl (Holds.skip fun a w h => Rel.keepE [6, 0] h)
   intro σ hσ
   refine Holds.from hσ ?_
   refine zs0 ?_
   obtain ⟨E, hE⟩ : ∃ E, E = expL s (s.size + 1 - k) k 0 := ⟨_, rfl⟩
   have hEb := expL_bd s (s.size + 1 - k) k 0 (by decide)
   rw [← hE] at hEb ⊢
   obtain ⟨hE2, hE1⟩ := hEb
   refine Holds.next (fun σ => ∀ a w, Rel cx w0 σ a w → Rel cx w0 { nt := 44, env := [(8, .v true (.int .i64 (E.2 : Nat))), (6, .v true (.bool neg))], mem := (s', .box 136 (.v true (rdV s E.1))) :: M, root := Rt, fix := F } a w) ?_ ?_
   ·refine Holds.loopB (fun q : Nat × Nat => { nt := 44, env := [(8, .v true (.int .i64 (q.2 : Nat))), (6, .v true (.bool neg)), (0, .ptr s' 0 [] 0)], mem := (s', .box 136 (.v true (rdV s q.1))) :: M, root := Rt, fix := F }) (fun q => q.1 ≤ s.size ∧ q.2 ≤ 1099511627776 ∧ E = expL s (s.size + 1 - q.1) q.1 q.2) (fun q => s.size + 1 - q.1) (k, 0) ⟨by show k ≤ s.size; omega, by show 0 ≤ _; omega, hE⟩ (fun a w h => Rel.keepE [8, 6, 0] h) ?_
    rintro ⟨j, n⟩ ⟨hj, hn, hEe⟩
    simp only at hj hn hEe
    have hN := next_ok s j (by omega) (by omega)
    have hD := pdigit_ok (nxB s j) false (nxB_lt s j)
    rw [show rdV s j = .agg [.str s, .int .i64 j] from rfl] at hN
    rw [show s.size + 1 - j = (s.size - j) + 1 from by omega, expL] at hEe
    by_cases hdj : dgN (nxB s j) false = true
    ·rw [if_pos hdj] at hEe
     have hjs := dg_in hdj
     obtain ⟨hc1, hc2⟩ := dg_dec hdj
     rw [hdj] at hD
     obtain ⟨c, hc⟩ : ∃ c, c = nxB s j := ⟨_, rfl⟩
     rw [← hc] at hN hD hEe hc1 hc2
     obtain ⟨v, hv⟩ : ∃ v, v = min 1099511627776 (10 * n + (c - 48)) := ⟨_, rfl⟩
     rw [← hv] at hEe
     have hvb : v ≤ 1099511627776 := by rw [hv]; exact Nat.min_le_left _ _
     have e1 : IntKind.u8.wrap ((c : Int) - 48) = ((c - 48 : Nat) : Int) := by rw [wrap_u8]; omega
     have e2 : IntKind.i64.wrap ((10 : Int) * (n : Int)) = ((10 * n : Nat) : Int) := by rw [wrap_i64 (by omega) (by omega)]; omega
     have e3 : IntKind.i64.wrap ((c - 48 : Nat) : Int) = ((c - 48 : Nat) : Int) := wrap_i64 (by omega) (by omega)
     have e4 : IntKind.i64.wrap (((10 * n : Nat) : Int) + ((c - 48 : Nat) : Int)) = ((10 * n + (c - 48) : Nat) : Int) := by rw [wrap_i64 (by omega) (by omega)]; omega
     have e5 : (if ((10 * n + (c - 48) : Nat) : Int) < 1099511627776 then ((10 * n + (c - 48) : Nat) : Int) else 1099511627776) = (v : Int) := by
      rw [hv]
      split <;> omega
     obtain ⟨c8, hc8⟩ : ∃ c8, c8 = c - 48 := ⟨_, rfl⟩
     rw [← hc8] at e1 e3 e4 e5
     obtain ⟨n1, hn1⟩ : ∃ n1, n1 = 10 * n := ⟨_, rfl⟩
     rw [← hn1] at e2 e4 e5
     obtain ⟨n2, hn2⟩ : ∃ n2, n2 = n1 + c8 := ⟨_, rfl⟩
     rw [← hn2] at e4 e5
     refine Holds.seq ?_
     refine Holds.step (Px := px) (T := TT) (ρ := fun d => if d = 23 then [.v true (.int .u8 c)] else [.v true (.bool true)]) TTe (by simp (maxSteps := 100000) (disch := omega) only [go_sem, V.isAgg, V.flat, ↓reduceIte, Nat.reduceAdd, Nat.reduceSub, Nat.reduceLT, Nat.reduceEqDiff, reduceCtorEq, Nat.reduceLeDiff, Nat.reduceBEq, Nat.reduceMul, Int.reduceToNat, rdV]; rfl) (by first | exact ⟨hN, hD⟩ | (repeat' first | exact trivial | exact hN | exact hD | constructor)) ?_
     refine Holds.condT rfl (Holds.skip ?_)
     refine Holds.next (fun σ => ∀ a w, Rel cx w0 σ a w → Rel cx w0 { nt := 44, env := [(8, .v true (.int .i64 (v : Nat))), (6, .v true (.bool neg)), (0, .ptr s' 0 [] 0)], mem := (s', .box 136 (.v true (rdV s j))) :: M, root := Rt, fix := F } a w) ?_ ?_
     ·refine Holds.blockN ?_
      refine Holds.region (Px := px) (T := TT) (ρ := fun _ => [.v true (.int .u8 c)]) TTe (by simp (maxSteps := 100000) (disch := omega) only [go_sem, V.isAgg, V.flat, ↓reduceIte, Nat.reduceAdd, Nat.reduceSub, Nat.reduceLT, Nat.reduceEqDiff, reduceCtorEq, Nat.reduceLeDiff, Nat.reduceBEq, Nat.reduceMul, Int.reduceToNat, rdV, e1, e2, e3, e4, e5]; rfl) (by first | exact hN | (repeat' first | exact trivial | exact hN | constructor)) ?_
      exact fun a w h => Rel.keepE [8, 6, 0] h
     ·intro σ hσ
      refine Holds.from hσ ?_
      refine Holds.region (Px := px) (T := TT) (ρ := fun _ => []) TTe (by simp (maxSteps := 100000) (disch := omega) only [go_sem, V.isAgg, V.flat, ↓reduceIte, Nat.reduceAdd, Nat.reduceSub, Nat.reduceLT, Nat.reduceEqDiff, reduceCtorEq, Nat.reduceLeDiff, Nat.reduceBEq, Nat.reduceMul, Int.reduceToNat, rdV]; rfl) (by repeat' first | exact trivial | constructor) ?_
      refine ⟨(j + 1, v), ⟨by show j + 1 ≤ s.size; omega, hvb, by rw [hEe]; show _ = expL s (s.size + 1 - (j + 1)) (j + 1) v; rw [show s.size + 1 - (j + 1) = s.size - j from by omega]⟩, (show s.size + 1 - (j + 1) < s.size + 1 - j by omega), fun a w h => Rel.memEq (Rel.keepE [8, 6, 0] h) (fun q => by simp only [look]; split <;> rfl)⟩
    ·rw [if_neg hdj] at hEe
     rw [Bool.eq_false_iff.2 hdj] at hD
     obtain ⟨c, hc⟩ : ∃ c, c = nxB s j := ⟨_, rfl⟩
     rw [← hc] at hN hD
     refine Holds.seq ?_
     refine Holds.step (Px := px) (T := TT) (ρ := fun d => if d = 23 then [.v true (.int .u8 c)] else [.v true (.bool false)]) TTe (by simp (maxSteps := 100000) (disch := omega) only [go_sem, V.isAgg, V.flat, ↓reduceIte, Nat.reduceAdd, Nat.reduceSub, Nat.reduceLT, Nat.reduceEqDiff, reduceCtorEq, Nat.reduceLeDiff, Nat.reduceBEq, Nat.reduceMul, Int.reduceToNat, rdV]; rfl) (by first | exact ⟨hN, hD⟩ | (repeat' first | exact trivial | exact hN | exact hD | constructor)) ?_
     refine Holds.condF rfl (Holds.exit ⟨rfl, fun a w h => ?_⟩)
     rw [hEe]
     exact Rel.keepE [8, 6] h
   intro σ hσ
   refine Holds.from hσ ?_
   cases neg
   ·rw [if_neg (by simp)]
    refine Holds.next (fun σ => ∀ a w, Rel cx w0 σ a w → Rel cx w0 { nt := 44, env := [(8, .v true (.int .i64 (E.2 : Nat)))], mem := (s', .box 136 (.v true (rdV s E.1))) :: M, root := Rt, fix := F } a w) ?_ ?_
    ·refine zs0 ?_
     exact Holds.condF rfl (Holds.skip fun a w h => Rel.keepE [8] h)
    ·intro σ hσ
     refine Holds.from hσ ?_
     refine zs0 ?_
     exact Holds.ret ⟨.inl rfl, rfl, rfl, rfl, fun q => rfl, rfl⟩
   ·rw [if_pos rfl]
    have en : IntKind.i64.wrap (0 - ((E.2 : Nat) : Int)) = -((E.2 : Nat) : Int) := by rw [wrap_i64 (by omega) (by omega)]; omega
    refine Holds.next (fun σ => ∀ a w, Rel cx w0 σ a w → Rel cx w0 { nt := 44, env := [(8, .v true (.int .i64 (-((E.2 : Nat) : Int))))], mem := (s', .box 136 (.v true (rdV s E.1))) :: M, root := Rt, fix := F } a w) ?_ ?_
    ·refine zs0 ?_
     refine Holds.condT rfl ?_
     refine zr1 en ?_
     exact fun a w h => Rel.keepE [8] h
    ·intro σ hσ
     refine Holds.from hσ ?_
     refine zs0 ?_
     exact Holds.ret ⟨.inl rfl, rfl, rfl, rfl, fun q => rfl, rfl⟩
  ·rw [if_neg hd]
   rw [Bool.eq_false_iff.2 hd] at hD
   obtain ⟨c, hc⟩ : ∃ c, c = nxB s k := ⟨_, rfl⟩
   rw [← hc] at hN hD
   refine Holds.seq ?_
   refine Holds.step (Px := px) (T := TT) (ρ := fun d => if d = 19 then [.v true (.int .u8 c)] else [.v true (.bool false)]) TTe (by simp (maxSteps := 100000) (disch := omega) only [go_sem, V.isAgg, V.flat, ↓reduceIte, Nat.reduceAdd, Nat.reduceSub, Nat.reduceLT, Nat.reduceEqDiff, reduceCtorEq, Nat.reduceLeDiff, Nat.reduceBEq, Nat.reduceMul, Int.reduceToNat, unA, rdV]; rfl) (by first | exact ⟨hN, hD⟩ | (repeat' first | exact trivial | exact hN | exact hD | constructor)) ?_
   refine Holds.condT rfl ?_
   refine zs0 ?_
   exact Holds.ret ⟨.inl rfl, rfl, rfl, rfl, fun q => rfl, rfl⟩
def ascB (s : ByteArray) : Bool := (List.range s.size).all fun i => decide (bAt s i < 128)
theorem ascii_ok (s : ByteArray) (hs : s.size < 1000000000) : FnOk Tryz.prog 130 [.v (.str s)] [.v true (.bool (ascB s))] := by
 refine FnOk.of Tryz.func130 rfl rfl fun cx w0 => ?_
 rw [show Tryz.f130.ntmps = 14 from rfl]
 refine zs0 ?_
 refine Holds.next (fun σ => ascB s = true ∧ ∀ a w, Rel cx w0 σ a w → Rel cx w0 { nt := 14, env := [], mem := [] } a w) ?_ ?_
 ·refine zs0 ?_
  refine Holds.loopB (fun i : Nat => { nt := 14, env := [(6, .v true (.int .i64 i)), (5, .v true (.int .i64 s.size)), (0, .v true (.str s))], mem := [] }) (fun i => i ≤ s.size ∧ ∀ j, j < i → bAt s j < 128) (fun i => s.size - i) 0 ⟨Nat.zero_le _, fun j hj => by omega⟩ (fun a w h => Rel.keep [6, 5, 0] [] h) ?_
  rintro i ⟨hi, hall⟩
  by_cases hend : i = s.size
  ·refine zs0 ?_
   refine Holds.seq ?_
   refine Holds.condF rfl (Holds.exit ⟨rfl, ?_, fun a w h => Rel.keep [] [] h⟩)
   unfold ascB
   rw [List.all_eq_true]
   intro j hj
   have := hall j (by rw [hend]; exact List.mem_range.1 hj)
   simpa using this
  ·have hil : i < s.size := by omega
   obtain ⟨b, hb, eb⟩ := bAt_some hil
   have hb8 := b.toNat_lt
   refine zs0 ?_
   refine Holds.seq ?_
   refine Holds.condT rfl (Holds.skip ?_)
   refine Holds.next (fun σ => bAt s i < 128 ∧ ∀ a w, Rel cx w0 σ a w → Rel cx w0 { nt := 14, env := [(6, .v true (.int .i64 i)), (5, .v true (.int .i64 s.size)), (0, .v true (.str s))], mem := [] } a w) ?_ ?_
   ·refine Holds.blockN ?_
    refine zs0 ?_
    by_cases hlt : b.toNat < 128
    ·have h1 : ¬ (128 : Int) ≤ b.toNat := by omega
     refine Holds.step (Px := px) (T := TT) (ρ := fun _ => []) TTe (by simp (maxSteps := 100000) (disch := omega) only [go_sem, V.isAgg, V.flat, ↓reduceIte, Nat.reduceAdd, Nat.reduceSub, Nat.reduceLT, Nat.reduceEqDiff, reduceCtorEq, Nat.reduceLeDiff, Nat.reduceBEq, Nat.reduceMul, Int.reduceToNat, indexA, hb, h1]; rfl) (by repeat' first | exact trivial | constructor) ?_
     exact Holds.condF rfl (Holds.skip ⟨by omega, fun a w h => Rel.keep [6, 5, 0] [] h⟩)
    ·have h1 : (128 : Int) ≤ b.toNat := by omega
     have hf : ascB s = false := by
      rw [Bool.eq_false_iff]
      intro ht
      have := List.all_eq_true.1 ht i (List.mem_range.2 hil)
      have := of_decide_eq_true this
      omega
     rw [hf]
     refine Holds.step (Px := px) (T := TT) (ρ := fun _ => []) TTe (by simp (maxSteps := 100000) (disch := omega) only [go_sem, V.isAgg, V.flat, ↓reduceIte, Nat.reduceAdd, Nat.reduceSub, Nat.reduceLT, Nat.reduceEqDiff, reduceCtorEq, Nat.reduceLeDiff, Nat.reduceBEq, Nat.reduceMul, Int.reduceToNat, indexA, hb, h1]; rfl) (by repeat' first | exact trivial | constructor) ?_
     refine Holds.condT rfl ?_
     refine zs0 ?_
     exact Holds.ret (RetOk.vs rfl (by exact ⟨⟨rfl, id⟩, trivial⟩) rfl)
   ·rintro σ ⟨hlt, hσ⟩
    refine Holds.from hσ ?_
    refine zr0 ?_
    exact ⟨i + 1, ⟨by show i + 1 ≤ s.size; omega, fun j hj => by
     rcases Nat.lt_or_ge j i with h | h
     ·exact hall j h
     ·rw [show j = i from by omega]; exact hlt⟩, (show s.size - (i + 1) < s.size - i by omega), fun a w h => Rel.keep [6, 5, 0] [] h⟩
 ·rintro σ ⟨ht, hσ⟩
  refine Holds.from hσ ?_
  rw [ht]
  refine zs0 ?_
  exact Holds.ret (RetOk.vs rfl (by exact ⟨⟨rfl, id⟩, trivial⟩) rfl)
theorem bytesV_map : ∀ {l : List Nat}, (∀ n ∈ l, n < 256) → bytesV (l.map fun n => V.int .u8 (n : Nat)) = some (l.map UInt8.ofNat)
 | [], _ => rfl
 | n :: r, h => by
   have h0 := h n (by simp)
   rw [List.map_cons, bytesV, if_pos ⟨by omega, by omega⟩, bytesV_map fun m hm => h m (by simp [hm])]
   simp
end Go.Proofs.YtobacemgcjnahaaGreatDoor.L
