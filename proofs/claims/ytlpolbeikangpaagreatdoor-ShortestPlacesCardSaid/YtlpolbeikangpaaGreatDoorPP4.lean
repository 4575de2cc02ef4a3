/-
  Ma Mab Mac Aa Af
-/
import Derived.Test.YtlpolbeikangpaaGreatDoorProg
import Derived.Test.YtlpolbeikangpaaGreatDoorPP3
import Derived.KernelRfl
set_option linter.unusedSimpArgs false
set_option linter.unusedVariables false
set_option maxRecDepth 100000
namespace Go.Proofs.YtlpolbeikangpaaGreatDoor.L
open Go Go.RowKit Go.Proofs
noncomputable def infoD (t : TypeId) : TypeInfo := (Tryz.prog.info? t).getD default
def ZOk (t : TypeId) (x : AV) : Prop := ∃ i z, Tryz.prog.info? t = some i ∧ i.zero = some z ∧ z.cells.size = i.size ∧ (x.isV = false → z.oneCell' = true) ∧ ∀ cx w μ mem, RepA cx w μ mem x z
mutual
def V.zc : V → List Value
 | .int k n => [.int k n]
 | .bool b => [.bool b]
 | .str s => [.string s]
 | .sl _ _ => [.slice none 0 0]
 | .agg fs => V.zcs fs
 | .niface => [.nilIface]
 | .iface _ _ => []
 | .nfun => [.nilFunc]
 | .fnv f => [.func (.func f) #[] #[]]
def V.zcs : List V → List Value
 | [] => []
 | x :: r => x.zc ++ V.zcs r
end
mutual
def V.zok : V → Bool
 | .sl _ xs => xs.isEmpty
 | .agg fs => V.zoks fs
 | .iface _ _ => false
 | _ => true
def V.zoks : List V → Bool
 | [] => true
 | x :: r => x.zok && V.zoks r
end
mutual
theorem V.zc_ok {w : World} {ok : Nat → Prop} : ∀ {x : V}, x.zok = true → Rep w ok x x.zc
 | .int _ _, _ => by rw [Rep, V.zc]
 | .bool _, _ => by rw [Rep, V.zc]
 | .str _, _ => by rw [Rep, V.zc]
 | .sl _ xs, h => by
   rw [V.zok, List.isEmpty_iff] at h
   subst h
   rw [Rep, V.zc]
   exact .inl ⟨rfl, _, _, rfl⟩
 | .agg fs, h => by rw [V.zok] at h; rw [Rep, V.zc]; exact V.zcs_ok h
 | .niface, _ => by rw [Rep, V.zc]
 | .nfun, _ => by rw [Rep, V.zc]
 | .fnv _, _ => by rw [Rep, V.zc]
 | .iface _ _, h => by rw [V.zok] at h; cases h
theorem V.zcs_ok {w : World} {ok : Nat → Prop} : ∀ {xs : List V}, V.zoks xs = true → RepL w ok xs (V.zcs xs)
 | [], _ => by rw [RepL, V.zcs]
 | x :: r, h => by
   rw [V.zoks, Bool.and_eq_true] at h
   rw [RepL, V.zcs]
   exact ⟨_, _, rfl, V.zc_ok h.1, V.zcs_ok h.2⟩
end
theorem z_v {t : TypeId} {x : V} (h1 : Tryz.prog.info? t = some (infoD t)) (h2 : (infoD t).zero = some (x.toVal x.zc)) (h3 : (x.toVal x.zc).cells.size = (infoD t).size) (hz : x.zok = true) : ZOk t (.v true x) :=
 ⟨_, _, h1, h2, h3, (fun h => by cases h), (fun _ _ _ _ => by rw [RepA]; exact ⟨_, V.zc_ok hz, rfl⟩)⟩
theorem z_nil {t : TypeId} (h1 : Tryz.prog.info? t = some (infoD t)) (h2 : (infoD t).zero = some (.slice none 0 0)) (h3 : (Value.slice none 0 0).cells.size = (infoD t).size) : ZOk t .nil :=
 ⟨_, _, h1, h2, h3, fun _ => rfl, fun _ _ _ _ => repA_nil.2 rfl⟩
theorem z2 : ZOk 2 (.v true (.int .i64 0)) := z_v (by kernel_rfl) (by kernel_rfl) (by kernel_rfl) (by rfl)
theorem z3 : ZOk 3 (.v true (.int .i64 0)) := z_v (by kernel_rfl) (by kernel_rfl) (by kernel_rfl) (by rfl)
theorem z4 : ZOk 4 (.v true (.bool false)) := z_v (by kernel_rfl) (by kernel_rfl) (by kernel_rfl) (by rfl)
theorem z5 : ZOk 5 (.v true (.int .u8 0)) := z_v (by kernel_rfl) (by kernel_rfl) (by kernel_rfl) (by rfl)
theorem z9 : ZOk 9 (.v true (.str ⟨#[]⟩)) := z_v (by kernel_rfl) (by kernel_rfl) (by kernel_rfl) (by rfl)
theorem z12 : ZOk 12 (.v true (.int .u64 0)) := z_v (by kernel_rfl) (by kernel_rfl) (by kernel_rfl) (by rfl)
theorem z21 : ZOk 21 (.v true (.int .i32 0)) := z_v (by kernel_rfl) (by kernel_rfl) (by kernel_rfl) (by rfl)
theorem z22 : ZOk 22 (.v true (.agg [(.int .i64 0), (.int .i64 0)])) := z_v (by kernel_rfl) (by kernel_rfl) (by kernel_rfl) (by rfl)
theorem z23 : ZOk 23 (.v true (.agg [(.int .i64 0), (.int .i64 0)])) := z_v (by kernel_rfl) (by kernel_rfl) (by kernel_rfl) (by rfl)
theorem z24 : ZOk 24 (.v true (.int .i64 0)) := z_v (by kernel_rfl) (by kernel_rfl) (by kernel_rfl) (by rfl)
theorem z27 : ZOk 27 (.v true (.agg [(.int .i64 0), (.bool false), (.int .i64 0), (.sl 1 [])])) := z_v (by kernel_rfl) (by kernel_rfl) (by kernel_rfl) (by rfl)
theorem z28 : ZOk 28 (.v true (.agg [(.int .i64 0), (.bool false), (.int .i64 0), (.sl 1 [])])) := z_v (by kernel_rfl) (by kernel_rfl) (by kernel_rfl) (by rfl)
theorem z31 : ZOk 31 (.v true (.int .i64 0)) := z_v (by kernel_rfl) (by kernel_rfl) (by kernel_rfl) (by rfl)
theorem z35 : ZOk 35 (.v true (.agg [(.int .i64 0), (.int .i64 0)])) := z_v (by kernel_rfl) (by kernel_rfl) (by kernel_rfl) (by rfl)
theorem z37 : ZOk 37 (.v true (.agg [(.int .i64 0), (.bool false), (.int .i64 0), (.sl 1 [])])) := z_v (by kernel_rfl) (by kernel_rfl) (by kernel_rfl) (by rfl)
theorem z38 : ZOk 38 (.v true (.agg [(.int .i64 0), (.bool false), (.int .i64 0), (.sl 1 [])])) := z_v (by kernel_rfl) (by kernel_rfl) (by kernel_rfl) (by rfl)
theorem z44 : ZOk 44 (.v true (.int .i64 0)) := z_v (by kernel_rfl) (by kernel_rfl) (by kernel_rfl) (by rfl)
theorem z61 : ZOk 61 (.v true (.int .i64 0)) := z_v (by kernel_rfl) (by kernel_rfl) (by kernel_rfl) (by rfl)
theorem z62 : ZOk 62 (.v true (.agg [(.int .i64 0), (.bool false), (.sl 1 []), (.int .i64 0)])) := z_v (by kernel_rfl) (by kernel_rfl) (by kernel_rfl) (by rfl)
theorem z63 : ZOk 63 (.v true (.agg [(.int .i64 0), (.bool false), (.sl 1 []), (.int .i64 0)])) := z_v (by kernel_rfl) (by kernel_rfl) (by kernel_rfl) (by rfl)
theorem z67 : ZOk 67 (.v true (.agg [(.int .i64 0), (.bool false), (.sl 1 []), (.int .i64 0)])) := z_v (by kernel_rfl) (by kernel_rfl) (by kernel_rfl) (by rfl)
theorem z68 : ZOk 68 (.v true (.agg [(.int .i64 0), (.bool false), (.sl 1 []), (.int .i64 0)])) := z_v (by kernel_rfl) (by kernel_rfl) (by kernel_rfl) (by rfl)
theorem z76 : ZOk 76 (.v true (.int .i64 0)) := z_v (by kernel_rfl) (by kernel_rfl) (by kernel_rfl) (by rfl)
theorem z81 : ZOk 81 (.v true (.agg [(.bool false), (.sl 1 [])])) := z_v (by kernel_rfl) (by kernel_rfl) (by kernel_rfl) (by rfl)
theorem z82 : ZOk 82 (.v true (.agg [(.bool false), (.sl 1 [])])) := z_v (by kernel_rfl) (by kernel_rfl) (by kernel_rfl) (by rfl)
theorem z83 : ZOk 83 (.v true (.agg [(.agg [(.bool false), (.sl 1 [])]), (.sl 1 [])])) := z_v (by kernel_rfl) (by kernel_rfl) (by kernel_rfl) (by rfl)
theorem z84 : ZOk 84 (.v true (.agg [(.agg [(.bool false), (.sl 1 [])]), (.sl 1 [])])) := z_v (by kernel_rfl) (by kernel_rfl) (by kernel_rfl) (by rfl)
theorem z91 : ZOk 91 (.v true (.int .u64 0)) := z_v (by kernel_rfl) (by kernel_rfl) (by kernel_rfl) (by rfl)
theorem z124 : ZOk 124 (.v true (.agg [(.bool false), (.sl 1 []), (.sl 1 []), (.int .i64 0), (.int .i64 0)])) := z_v (by kernel_rfl) (by kernel_rfl) (by kernel_rfl) (by rfl)
theorem z125 : ZOk 125 (.v true (.agg [(.bool false), (.sl 1 []), (.sl 1 []), (.int .i64 0), (.int .i64 0)])) := z_v (by kernel_rfl) (by kernel_rfl) (by kernel_rfl) (by rfl)
theorem z128 : ZOk 128 (.v true (.agg [(.sl 1 []), (.bool false), (.bool false)])) := z_v (by kernel_rfl) (by kernel_rfl) (by kernel_rfl) (by rfl)
theorem z129 : ZOk 129 (.v true (.agg [(.sl 1 []), (.bool false), (.bool false)])) := z_v (by kernel_rfl) (by kernel_rfl) (by kernel_rfl) (by rfl)
theorem z135 : ZOk 135 (.v true (.int .i64 0)) := z_v (by kernel_rfl) (by kernel_rfl) (by kernel_rfl) (by rfl)
theorem z136 : ZOk 136 (.v true (.agg [(.int .i64 0), (.bool false), (.str ⟨#[]⟩), (.int .i64 0), (.int .i64 0), (.int .i64 0), (.bool false)])) := z_v (by kernel_rfl) (by kernel_rfl) (by kernel_rfl) (by rfl)
theorem z137 : ZOk 137 (.v true (.agg [(.int .i64 0), (.bool false), (.str ⟨#[]⟩), (.int .i64 0), (.int .i64 0), (.int .i64 0), (.bool false)])) := z_v (by kernel_rfl) (by kernel_rfl) (by kernel_rfl) (by rfl)
theorem z168 : ZOk 168 (.v true (.agg [(.sl 1 []), (.sl 1 [])])) := z_v (by kernel_rfl) (by kernel_rfl) (by kernel_rfl) (by rfl)
theorem z181 : ZOk 181 (.v true (.int .u64 0)) := z_v (by kernel_rfl) (by kernel_rfl) (by kernel_rfl) (by rfl)
theorem z195 : ZOk 195 (.v true (.int .i64 0)) := z_v (by kernel_rfl) (by kernel_rfl) (by kernel_rfl) (by rfl)
theorem z205 : ZOk 205 (.v true (.agg [(.bool false), (.sl 1 []), (.sl 1 []), (.int .i64 0), (.int .i64 0)])) := z_v (by kernel_rfl) (by kernel_rfl) (by kernel_rfl) (by rfl)
theorem z243 : ZOk 243 (.v true .nfun) := z_v (by kernel_rfl) (by kernel_rfl) (by kernel_rfl) (by rfl)
theorem z244 : ZOk 244 (.v true (.agg [.nfun, .nfun, .nfun, .nfun, .nfun])) := z_v (by kernel_rfl) (by kernel_rfl) (by kernel_rfl) (by rfl)
theorem z245 : ZOk 245 (.v true (.int .u32 0)) := z_v (by kernel_rfl) (by kernel_rfl) (by kernel_rfl) (by rfl)
theorem z256 : ZOk 256 (.v true (.agg [(.str ⟨#[]⟩), (.int .i64 0)])) := z_v (by kernel_rfl) (by kernel_rfl) (by kernel_rfl) (by rfl)
theorem z257 : ZOk 257 (.v true (.agg [(.str ⟨#[]⟩), (.int .i64 0)])) := z_v (by kernel_rfl) (by kernel_rfl) (by kernel_rfl) (by rfl)
theorem z299 : ZOk 299 (.v true (.int .u16 0)) := z_v (by kernel_rfl) (by kernel_rfl) (by kernel_rfl) (by rfl)
theorem z25 : ZOk 25 .nil := z_nil (by kernel_rfl) (by kernel_rfl) (by kernel_rfl)
theorem z26 : ZOk 26 .nil := z_nil (by kernel_rfl) (by kernel_rfl) (by kernel_rfl)
theorem z40 : ZOk 40 .nil := z_nil (by kernel_rfl) (by kernel_rfl) (by kernel_rfl)
theorem z90 : ZOk 90 .nil := z_nil (by kernel_rfl) (by kernel_rfl) (by kernel_rfl)
theorem z102 : ZOk 102 .nil := z_nil (by kernel_rfl) (by kernel_rfl) (by kernel_rfl)
theorem z133 : ZOk 133 .nil := z_nil (by kernel_rfl) (by kernel_rfl) (by kernel_rfl)
def ztab : TypeId → Option AV := fun t => match t with
 | 2 => some (.v true (.int .i64 0))
 | 3 => some (.v true (.int .i64 0))
 | 4 => some (.v true (.bool false))
 | 5 => some (.v true (.int .u8 0))
 | 9 => some (.v true (.str ⟨#[]⟩))
 | 12 => some (.v true (.int .u64 0))
 | 21 => some (.v true (.int .i32 0))
 | 22 => some (.v true (.agg [(.int .i64 0), (.int .i64 0)]))
 | 23 => some (.v true (.agg [(.int .i64 0), (.int .i64 0)]))
 | 24 => some (.v true (.int .i64 0))
 | 27 => some (.v true (.agg [(.int .i64 0), (.bool false), (.int .i64 0), (.sl 1 [])]))
 | 28 => some (.v true (.agg [(.int .i64 0), (.bool false), (.int .i64 0), (.sl 1 [])]))
 | 31 => some (.v true (.int .i64 0))
 | 35 => some (.v true (.agg [(.int .i64 0), (.int .i64 0)]))
 | 37 => some (.v true (.agg [(.int .i64 0), (.bool false), (.int .i64 0), (.sl 1 [])]))
 | 38 => some (.v true (.agg [(.int .i64 0), (.bool false), (.int .i64 0), (.sl 1 [])]))
 | 44 => some (.v true (.int .i64 0))
 | 61 => some (.v true (.int .i64 0))
 | 62 => some (.v true (.agg [(.int .i64 0), (.bool false), (.sl 1 []), (.int .i64 0)]))
 | 63 => some (.v true (.agg [(.int .i64 0), (.bool false), (.sl 1 []), (.int .i64 0)]))
 | 67 => some (.v true (.agg [(.int .i64 0), (.bool false), (.sl 1 []), (.int .i64 0)]))
 | 68 => some (.v true (.agg [(.int .i64 0), (.bool false), (.sl 1 []), (.int .i64 0)]))
 | 76 => some (.v true (.int .i64 0))
 | 81 => some (.v true (.agg [(.bool false), (.sl 1 [])]))
 | 82 => some (.v true (.agg [(.bool false), (.sl 1 [])]))
 | 83 => some (.v true (.agg [(.agg [(.bool false), (.sl 1 [])]), (.sl 1 [])]))
 | 84 => some (.v true (.agg [(.agg [(.bool false), (.sl 1 [])]), (.sl 1 [])]))
 | 91 => some (.v true (.int .u64 0))
 | 124 => some (.v true (.agg [(.bool false), (.sl 1 []), (.sl 1 []), (.int .i64 0), (.int .i64 0)]))
 | 125 => some (.v true (.agg [(.bool false), (.sl 1 []), (.sl 1 []), (.int .i64 0), (.int .i64 0)]))
 | 128 => some (.v true (.agg [(.sl 1 []), (.bool false), (.bool false)]))
 | 129 => some (.v true (.agg [(.sl 1 []), (.bool false), (.bool false)]))
 | 135 => some (.v true (.int .i64 0))
 | 136 => some (.v true (.agg [(.int .i64 0), (.bool false), (.str ⟨#[]⟩), (.int .i64 0), (.int .i64 0), (.int .i64 0), (.bool false)]))
 | 137 => some (.v true (.agg [(.int .i64 0), (.bool false), (.str ⟨#[]⟩), (.int .i64 0), (.int .i64 0), (.int .i64 0), (.bool false)]))
 | 168 => some (.v true (.agg [(.sl 1 []), (.sl 1 [])]))
 | 181 => some (.v true (.int .u64 0))
 | 195 => some (.v true (.int .i64 0))
 | 205 => some (.v true (.agg [(.bool false), (.sl 1 []), (.sl 1 []), (.int .i64 0), (.int .i64 0)]))
 | 243 => some (.v true .nfun)
 | 244 => some (.v true (.agg [.nfun, .nfun, .nfun, .nfun, .nfun]))
 | 245 => some (.v true (.int .u32 0))
 | 256 => some (.v true (.agg [(.str ⟨#[]⟩), (.int .i64 0)]))
 | 257 => some (.v true (.agg [(.str ⟨#[]⟩), (.int .i64 0)]))
 | 299 => some (.v true (.int .u16 0))
 | 25 => some .nil
 | 26 => some .nil
 | 40 => some .nil
 | 90 => some .nil
 | 102 => some .nil
 | 133 => some .nil
 | _ => none
theorem ztab_ok (t : TypeId) (x : AV) (h : ztab t = some x) : ZOk t x := by
 unfold ztab at h
 split at h
 ·cases h; exact z2
 ·cases h; exact z3
 ·cases h; exact z4
 ·cases h; exact z5
 ·cases h; exact z9
 ·cases h; exact z12
 ·cases h; exact z21
 ·cases h; exact z22
 ·cases h; exact z23
 ·cases h; exact z24
 ·cases h; exact z27
 ·cases h; exact z28
 ·cases h; exact z31
 ·cases h; exact z35
 ·cases h; exact z37
 ·cases h; exact z38
 ·cases h; exact z44
 ·cases h; exact z61
 ·cases h; exact z62
 ·cases h; exact z63
 ·cases h; exact z67
 ·cases h; exact z68
 ·cases h; exact z76
 ·cases h; exact z81
 ·cases h; exact z82
 ·cases h; exact z83
 ·cases h; exact z84
 ·cases h; exact z91
 ·cases h; exact z124
 ·cases h; exact z125
 ·cases h; exact z128
 ·cases h; exact z129
 ·cases h; exact z135
 ·cases h; exact z136
 ·cases h; exact z137
 ·cases h; exact z168
 ·cases h; exact z181
 ·cases h; exact z195
 ·cases h; exact z205
 ·cases h; exact z243
 ·cases h; exact z244
 ·cases h; exact z245
 ·cases h; exact z256
 ·cases h; exact z257
 ·cases h; exact z299
 ·cases h; exact z25
 ·cases h; exact z26
 ·cases h; exact z40
 ·cases h; exact z90
 ·cases h; exact z102
 ·cases h; exact z133
 ·cases h
def mtab : TypeId → String → Option FuncId := fun _ _ => none
theorem mtab_ok (t : TypeId) (m : String) (f : FuncId) (h : mtab t m = some f) (v : Value) (w : World) : (method (Tryz.prog.types.size + Made.depth) t v m).run Tryz.prog w = .ok (f, v) w := by cases h
def px : Px Tryz.prog where
 zt := ztab
 mt := mtab
 fz := fun _ => false
 mok := mtab_ok
 zok := ztab_ok
def TT : Tab := ⟨ztab, mtab, fun _ => false⟩
theorem TTe : TT = px.tab := rfl
def words (l : List Int) : V := .sl 1 (l.map fun n => .int .u64 n)
theorem wrap_i64 {n : Int} (h1 : -9223372036854775808 ≤ n) (h2 : n < 9223372036854775808) : IntKind.i64.wrap n = n := by
 have key : ∀ (m : Int) (i : Decidable (m ≥ 9223372036854775808)), m = n % 18446744073709551616 → (if (true && @decide (m ≥ 9223372036854775808) i) = true then m - 18446744073709551616 else m) = n := by
  intro m i hm
  by_cases h : m ≥ 9223372036854775808
  ·rw [decide_eq_true h, Bool.and_self, if_pos rfl]; omega
  ·rw [decide_eq_false h, Bool.and_false, if_neg (by simp)]; omega
 exact key _ _ rfl
theorem wrap_u64 {n : Int} : IntKind.u64.wrap n = n % 18446744073709551616 := by
 unfold IntKind.wrap
 simp only [IntKind.bits, IntKind.signed, Bool.false_and, Bool.false_eq_true, if_false]
 rfl
theorem flatW (l : List Int) : (l.map fun n => V.int .u64 n).all V.flat = true := by
 rw [List.all_eq_true]
 intro x hx
 obtain ⟨n, _, rfl⟩ := List.mem_map.1 hx
 rfl
theorem tby76 : tby Tryz.prog 91 = some 8 := by kernel_rfl
theorem mixed : Tryz.prog.follows .mixedOrders = true := by kernel_rfl
theorem TY : (tsz Tryz.prog 2 = some 1) ∧
 (tby Tryz.prog 2 = some 8) ∧
 (aggT Tryz.prog 2 = some false) ∧
 (ikd Tryz.prog 2 = some .i64) ∧
 ((Tryz.prog.underlying 2).isSome = true) ∧
 (tsz Tryz.prog 3 = some 1) ∧
 (tby Tryz.prog 3 = some 8) ∧
 (aggT Tryz.prog 3 = some false) ∧
 (ikd Tryz.prog 3 = some .i64) ∧
 ((Tryz.prog.underlying 3).isSome = true) ∧
 (tsz Tryz.prog 4 = some 1) ∧
 (tby Tryz.prog 4 = some 1) ∧
 (aggT Tryz.prog 4 = some false) ∧
 (boolT Tryz.prog 4 = true) ∧
 (tsz Tryz.prog 5 = some 1) ∧
 (tby Tryz.prog 5 = some 1) ∧
 (aggT Tryz.prog 5 = some false) ∧
 (ikd Tryz.prog 5 = some .u8) ∧
 ((Tryz.prog.underlying 5).isSome = true) ∧
 (tsz Tryz.prog 9 = some 1) ∧
 (tby Tryz.prog 9 = some 16) ∧
 (aggT Tryz.prog 9 = some false) ∧
 (strT Tryz.prog 9 = true) ∧
 (tsz Tryz.prog 12 = some 1) ∧
 (tby Tryz.prog 12 = some 8) ∧
 (aggT Tryz.prog 12 = some false) ∧
 (ikd Tryz.prog 12 = some .u64) ∧
 ((Tryz.prog.underlying 12).isSome = true) ∧
 (tsz Tryz.prog 21 = some 1) ∧
 (tby Tryz.prog 21 = some 4) ∧
 (aggT Tryz.prog 21 = some false) ∧
 (ikd Tryz.prog 21 = some .i32) ∧
 ((Tryz.prog.underlying 21).isSome = true) ∧
 (tsz Tryz.prog 22 = some 2) ∧
 (tby Tryz.prog 22 = some 16) ∧
 (aggT Tryz.prog 22 = some true) ∧
 (fld Tryz.prog 22 0 = some (0, 1, false)) ∧
 (fld Tryz.prog 22 1 = some (1, 1, false)) ∧
 (plc Tryz.prog 22 = some [(0, 1), (1, 1)]) ∧
 (pairT Tryz.prog 22 = true) ∧
 (tsz Tryz.prog 23 = some 2) ∧
 (tby Tryz.prog 23 = some 16) ∧
 (aggT Tryz.prog 23 = some true) ∧
 (fld Tryz.prog 23 0 = some (0, 1, false)) ∧
 (fld Tryz.prog 23 1 = some (1, 1, false)) ∧
 (plc Tryz.prog 23 = some [(0, 1), (1, 1)]) ∧
 (pairT Tryz.prog 23 = true) ∧
 (tsz Tryz.prog 24 = some 1) ∧
 (tby Tryz.prog 24 = some 8) ∧
 (aggT Tryz.prog 24 = some false) ∧
 (ikd Tryz.prog 24 = some .i64) ∧
 ((Tryz.prog.underlying 24).isSome = true) ∧
 (tsz Tryz.prog 25 = some 1) ∧
 (tby Tryz.prog 25 = some 24) ∧
 (elt Tryz.prog 25 = some 91) ∧
 (esz Tryz.prog 25 = some 1) ∧
 (aggT Tryz.prog 25 = some false) ∧
 (tsz Tryz.prog 26 = some 1) ∧
 (tby Tryz.prog 26 = some 24) ∧
 (elt Tryz.prog 26 = some 91) ∧
 (esz Tryz.prog 26 = some 1) ∧
 (aggT Tryz.prog 26 = some false) ∧
 (tsz Tryz.prog 27 = some 4) ∧
 (tby Tryz.prog 27 = some 48) ∧
 (aggT Tryz.prog 27 = some true) ∧
 (fld Tryz.prog 27 0 = some (0, 1, false)) ∧
 (fld Tryz.prog 27 1 = some (1, 1, false)) ∧
 (fld Tryz.prog 27 2 = some (2, 1, false)) ∧
 (fld Tryz.prog 27 3 = some (3, 1, false)) ∧
 (plc Tryz.prog 27 = some [(0, 1), (1, 1), (2, 1), (3, 1)]) ∧
 (tsz Tryz.prog 28 = some 4) ∧
 (tby Tryz.prog 28 = some 48) ∧
 (aggT Tryz.prog 28 = some true) ∧
 (fld Tryz.prog 28 0 = some (0, 1, false)) ∧
 (fld Tryz.prog 28 1 = some (1, 1, false)) ∧
 (fld Tryz.prog 28 2 = some (2, 1, false)) ∧
 (fld Tryz.prog 28 3 = some (3, 1, false)) ∧
 (plc Tryz.prog 28 = some [(0, 1), (1, 1), (2, 1), (3, 1)]) ∧
 (tsz Tryz.prog 31 = some 1) ∧
 (tby Tryz.prog 31 = some 8) ∧
 (aggT Tryz.prog 31 = some false) ∧
 (ikd Tryz.prog 31 = some .i64) ∧
 ((Tryz.prog.underlying 31).isSome = true) ∧
 (tsz Tryz.prog 35 = some 2) ∧
 (tby Tryz.prog 35 = some 16) ∧
 (aggT Tryz.prog 35 = some true) ∧
 (fld Tryz.prog 35 0 = some (0, 1, false)) ∧
 (fld Tryz.prog 35 1 = some (1, 1, false)) ∧
 (plc Tryz.prog 35 = some [(0, 1), (1, 1)]) ∧
 (pairT Tryz.prog 35 = true) ∧
 (tsz Tryz.prog 37 = some 4) ∧
 (tby Tryz.prog 37 = some 48) ∧
 (aggT Tryz.prog 37 = some true) ∧
 (fld Tryz.prog 37 0 = some (0, 1, false)) ∧
 (fld Tryz.prog 37 1 = some (1, 1, false)) ∧
 (fld Tryz.prog 37 2 = some (2, 1, false)) ∧
 (fld Tryz.prog 37 3 = some (3, 1, false)) ∧
 (plc Tryz.prog 37 = some [(0, 1), (1, 1), (2, 1), (3, 1)]) ∧
 (tsz Tryz.prog 38 = some 4) ∧
 (tby Tryz.prog 38 = some 48) ∧
 (aggT Tryz.prog 38 = some true) ∧
 (fld Tryz.prog 38 0 = some (0, 1, false)) ∧
 (fld Tryz.prog 38 1 = some (1, 1, false)) ∧
 (fld Tryz.prog 38 2 = some (2, 1, false)) ∧
 (fld Tryz.prog 38 3 = some (3, 1, false)) ∧
 (plc Tryz.prog 38 = some [(0, 1), (1, 1), (2, 1), (3, 1)]) ∧
 (tsz Tryz.prog 40 = some 1) ∧
 (tby Tryz.prog 40 = some 24) ∧
 (elt Tryz.prog 40 = some 38) ∧
 (esz Tryz.prog 40 = some 4) ∧
 (aggT Tryz.prog 40 = some false) ∧
 (tsz Tryz.prog 44 = some 1) ∧
 (tby Tryz.prog 44 = some 8) ∧
 (aggT Tryz.prog 44 = some false) ∧
 (ikd Tryz.prog 44 = some .i64) ∧
 ((Tryz.prog.underlying 44).isSome = true) ∧
 (tsz Tryz.prog 61 = some 1) ∧
 (tby Tryz.prog 61 = some 8) ∧
 (aggT Tryz.prog 61 = some false) ∧
 (ikd Tryz.prog 61 = some .i64) ∧
 ((Tryz.prog.underlying 61).isSome = true) ∧
 (tsz Tryz.prog 62 = some 4) ∧
 (tby Tryz.prog 62 = some 48) ∧
 (aggT Tryz.prog 62 = some true) ∧
 (fld Tryz.prog 62 0 = some (0, 1, false)) ∧
 (fld Tryz.prog 62 1 = some (1, 1, false)) ∧
 (fld Tryz.prog 62 2 = some (2, 1, false)) ∧
 (fld Tryz.prog 62 3 = some (3, 1, false)) ∧
 (plc Tryz.prog 62 = some [(0, 1), (1, 1), (2, 1), (3, 1)]) ∧
 (tsz Tryz.prog 63 = some 4) ∧
 (tby Tryz.prog 63 = some 48) ∧
 (aggT Tryz.prog 63 = some true) ∧
 (fld Tryz.prog 63 0 = some (0, 1, false)) ∧
 (fld Tryz.prog 63 1 = some (1, 1, false)) ∧
 (fld Tryz.prog 63 2 = some (2, 1, false)) ∧
 (fld Tryz.prog 63 3 = some (3, 1, false)) ∧
 (plc Tryz.prog 63 = some [(0, 1), (1, 1), (2, 1), (3, 1)]) ∧
 (tsz Tryz.prog 67 = some 4) ∧
 (tby Tryz.prog 67 = some 48) ∧
 (aggT Tryz.prog 67 = some true) ∧
 (fld Tryz.prog 67 0 = some (0, 1, false)) ∧
 (fld Tryz.prog 67 1 = some (1, 1, false)) ∧
 (fld Tryz.prog 67 2 = some (2, 1, false)) ∧
 (fld Tryz.prog 67 3 = some (3, 1, false)) ∧
 (plc Tryz.prog 67 = some [(0, 1), (1, 1), (2, 1), (3, 1)]) ∧
 (tsz Tryz.prog 68 = some 4) ∧
 (tby Tryz.prog 68 = some 48) ∧
 (aggT Tryz.prog 68 = some true) ∧
 (fld Tryz.prog 68 0 = some (0, 1, false)) ∧
 (fld Tryz.prog 68 1 = some (1, 1, false)) ∧
 (fld Tryz.prog 68 2 = some (2, 1, false)) ∧
 (fld Tryz.prog 68 3 = some (3, 1, false)) ∧
 (plc Tryz.prog 68 = some [(0, 1), (1, 1), (2, 1), (3, 1)]) ∧
 (tsz Tryz.prog 76 = some 1) ∧
 (tby Tryz.prog 76 = some 8) ∧
 (aggT Tryz.prog 76 = some false) ∧
 (ikd Tryz.prog 76 = some .i64) ∧
 ((Tryz.prog.underlying 76).isSome = true) ∧
 (tsz Tryz.prog 81 = some 2) ∧
 (tby Tryz.prog 81 = some 32) ∧
 (aggT Tryz.prog 81 = some true) ∧
 (fld Tryz.prog 81 0 = some (0, 1, false)) ∧
 (fld Tryz.prog 81 1 = some (1, 1, false)) ∧
 (plc Tryz.prog 81 = some [(0, 1), (1, 1)]) ∧
 (tsz Tryz.prog 82 = some 2) ∧
 (tby Tryz.prog 82 = some 32) ∧
 (aggT Tryz.prog 82 = some true) ∧
 (fld Tryz.prog 82 0 = some (0, 1, false)) ∧
 (fld Tryz.prog 82 1 = some (1, 1, false)) ∧
 (plc Tryz.prog 82 = some [(0, 1), (1, 1)]) ∧
 (tsz Tryz.prog 83 = some 3) ∧
 (tby Tryz.prog 83 = some 56) ∧
 (aggT Tryz.prog 83 = some true) ∧
 (fld Tryz.prog 83 0 = some (0, 2, true)) ∧
 (fld Tryz.prog 83 1 = some (2, 1, false)) ∧
 (plc Tryz.prog 83 = some [(0, 2), (2, 1)]) ∧
 (tsz Tryz.prog 84 = some 3) ∧
 (tby Tryz.prog 84 = some 56) ∧
 (aggT Tryz.prog 84 = some true) ∧
 (fld Tryz.prog 84 0 = some (0, 2, true)) ∧
 (fld Tryz.prog 84 1 = some (2, 1, false)) ∧
 (plc Tryz.prog 84 = some [(0, 2), (2, 1)]) ∧
 (tsz Tryz.prog 90 = some 1) ∧
 (tby Tryz.prog 90 = some 24) ∧
 (elt Tryz.prog 90 = some 28) ∧
 (esz Tryz.prog 90 = some 4) ∧
 (aggT Tryz.prog 90 = some false) ∧
 (tsz Tryz.prog 91 = some 1) ∧
 (tby Tryz.prog 91 = some 8) ∧
 (aggT Tryz.prog 91 = some false) ∧
 (ikd Tryz.prog 91 = some .u64) ∧
 ((Tryz.prog.underlying 91).isSome = true) ∧
 (tsz Tryz.prog 102 = some 1) ∧
 (tby Tryz.prog 102 = some 24) ∧
 (elt Tryz.prog 102 = some 5) ∧
 (esz Tryz.prog 102 = some 1) ∧
 (aggT Tryz.prog 102 = some false) ∧
 (tsz Tryz.prog 124 = some 5) ∧
 (tby Tryz.prog 124 = some 72) ∧
 (aggT Tryz.prog 124 = some true) ∧
 (fld Tryz.prog 124 0 = some (0, 1, false)) ∧
 (fld Tryz.prog 124 1 = some (1, 1, false)) ∧
 (fld Tryz.prog 124 2 = some (2, 1, false)) ∧
 (fld Tryz.prog 124 3 = some (3, 1, false)) ∧
 (fld Tryz.prog 124 4 = some (4, 1, false)) ∧
 (plc Tryz.prog 124 = some [(0, 1), (1, 1), (2, 1), (3, 1), (4, 1)]) ∧
 (tsz Tryz.prog 125 = some 5) ∧
 (tby Tryz.prog 125 = some 72) ∧
 (aggT Tryz.prog 125 = some true) ∧
 (fld Tryz.prog 125 0 = some (0, 1, false)) ∧
 (fld Tryz.prog 125 1 = some (1, 1, false)) ∧
 (fld Tryz.prog 125 2 = some (2, 1, false)) ∧
 (fld Tryz.prog 125 3 = some (3, 1, false)) ∧
 (fld Tryz.prog 125 4 = some (4, 1, false)) ∧
 (plc Tryz.prog 125 = some [(0, 1), (1, 1), (2, 1), (3, 1), (4, 1)]) ∧
 (tsz Tryz.prog 128 = some 3) ∧
 (tby Tryz.prog 128 = some 32) ∧
 (aggT Tryz.prog 128 = some true) ∧
 (fld Tryz.prog 128 0 = some (0, 1, false)) ∧
 (fld Tryz.prog 128 1 = some (1, 1, false)) ∧
 (fld Tryz.prog 128 2 = some (2, 1, false)) ∧
 (plc Tryz.prog 128 = some [(0, 1), (1, 1), (2, 1)]) ∧
 (tsz Tryz.prog 129 = some 3) ∧
 (tby Tryz.prog 129 = some 32) ∧
 (aggT Tryz.prog 129 = some true) ∧
 (fld Tryz.prog 129 0 = some (0, 1, false)) ∧
 (fld Tryz.prog 129 1 = some (1, 1, false)) ∧
 (fld Tryz.prog 129 2 = some (2, 1, false)) ∧
 (plc Tryz.prog 129 = some [(0, 1), (1, 1), (2, 1)]) ∧
 (tsz Tryz.prog 133 = some 1) ∧
 (tby Tryz.prog 133 = some 24) ∧
 (elt Tryz.prog 133 = some 63) ∧
 (esz Tryz.prog 133 = some 4) ∧
 (aggT Tryz.prog 133 = some false) ∧
 (tsz Tryz.prog 135 = some 1) ∧
 (tby Tryz.prog 135 = some 8) ∧
 (aggT Tryz.prog 135 = some false) ∧
 (ikd Tryz.prog 135 = some .i64) ∧
 ((Tryz.prog.underlying 135).isSome = true) ∧
 (tsz Tryz.prog 136 = some 7) ∧
 (tby Tryz.prog 136 = some 64) ∧
 (aggT Tryz.prog 136 = some true) ∧
 (fld Tryz.prog 136 0 = some (0, 1, false)) ∧
 (fld Tryz.prog 136 1 = some (1, 1, false)) ∧
 (fld Tryz.prog 136 2 = some (2, 1, false)) ∧
 (fld Tryz.prog 136 3 = some (3, 1, false)) ∧
 (fld Tryz.prog 136 4 = some (4, 1, false)) ∧
 (fld Tryz.prog 136 5 = some (5, 1, false)) ∧
 (fld Tryz.prog 136 6 = some (6, 1, false)) ∧
 (plc Tryz.prog 136 = some [(0, 1), (1, 1), (2, 1), (3, 1), (4, 1), (5, 1), (6, 1)]) ∧
 (tsz Tryz.prog 137 = some 7) ∧
 (tby Tryz.prog 137 = some 64) ∧
 (aggT Tryz.prog 137 = some true) ∧
 (fld Tryz.prog 137 0 = some (0, 1, false)) ∧
 (fld Tryz.prog 137 1 = some (1, 1, false)) ∧
 (fld Tryz.prog 137 2 = some (2, 1, false)) ∧
 (fld Tryz.prog 137 3 = some (3, 1, false)) ∧
 (fld Tryz.prog 137 4 = some (4, 1, false)) ∧
 (fld Tryz.prog 137 5 = some (5, 1, false)) ∧
 (fld Tryz.prog 137 6 = some (6, 1, false)) ∧
 (plc Tryz.prog 137 = some [(0, 1), (1, 1), (2, 1), (3, 1), (4, 1), (5, 1), (6, 1)]) ∧
 (tsz Tryz.prog 168 = some 2) ∧
 (tby Tryz.prog 168 = some 48) ∧
 (aggT Tryz.prog 168 = some true) ∧
 (arrT Tryz.prog 168 = some (2, 1, false)) ∧
 (tsz Tryz.prog 181 = some 1) ∧
 (tby Tryz.prog 181 = some 8) ∧
 (aggT Tryz.prog 181 = some false) ∧
 (ikd Tryz.prog 181 = some .u64) ∧
 ((Tryz.prog.underlying 181).isSome = true) ∧
 (tsz Tryz.prog 195 = some 1) ∧
 (tby Tryz.prog 195 = some 8) ∧
 (aggT Tryz.prog 195 = some false) ∧
 (ikd Tryz.prog 195 = some .i64) ∧
 ((Tryz.prog.underlying 195).isSome = true) ∧
 (tsz Tryz.prog 205 = some 5) ∧
 (tby Tryz.prog 205 = some 72) ∧
 (aggT Tryz.prog 205 = some true) ∧
 (fld Tryz.prog 205 0 = some (0, 1, false)) ∧
 (fld Tryz.prog 205 1 = some (1, 1, false)) ∧
 (fld Tryz.prog 205 2 = some (2, 1, false)) ∧
 (fld Tryz.prog 205 3 = some (3, 1, false)) ∧
 (fld Tryz.prog 205 4 = some (4, 1, false)) ∧
 (plc Tryz.prog 205 = some [(0, 1), (1, 1), (2, 1), (3, 1), (4, 1)]) ∧
 (tsz Tryz.prog 243 = some 1) ∧
 (tby Tryz.prog 243 = some 8) ∧
 (aggT Tryz.prog 243 = some false) ∧
 (tsz Tryz.prog 244 = some 5) ∧
 (tby Tryz.prog 244 = some 40) ∧
 (aggT Tryz.prog 244 = some true) ∧
 (arrT Tryz.prog 244 = some (5, 1, false)) ∧
 (tsz Tryz.prog 245 = some 1) ∧
 (tby Tryz.prog 245 = some 4) ∧
 (aggT Tryz.prog 245 = some false) ∧
 (ikd Tryz.prog 245 = some .u32) ∧
 ((Tryz.prog.underlying 245).isSome = true) ∧
 (tsz Tryz.prog 256 = some 2) ∧
 (tby Tryz.prog 256 = some 24) ∧
 (aggT Tryz.prog 256 = some true) ∧
 (fld Tryz.prog 256 0 = some (0, 1, false)) ∧
 (fld Tryz.prog 256 1 = some (1, 1, false)) ∧
 (plc Tryz.prog 256 = some [(0, 1), (1, 1)]) ∧
 (tsz Tryz.prog 257 = some 2) ∧
 (tby Tryz.prog 257 = some 24) ∧
 (aggT Tryz.prog 257 = some true) ∧
 (fld Tryz.prog 257 0 = some (0, 1, false)) ∧
 (fld Tryz.prog 257 1 = some (1, 1, false)) ∧
 (plc Tryz.prog 257 = some [(0, 1), (1, 1)]) ∧
 (tsz Tryz.prog 280 = some 64) ∧
 (tby Tryz.prog 280 = some 64) ∧
 (aggT Tryz.prog 280 = some true) ∧
 (arrT Tryz.prog 280 = some (64, 1, false)) ∧
 (tsz Tryz.prog 296 = some 20) ∧
 (tby Tryz.prog 296 = some 160) ∧
 (aggT Tryz.prog 296 = some true) ∧
 (arrT Tryz.prog 296 = some (20, 1, false)) ∧
 (tsz Tryz.prog 299 = some 1) ∧
 (tby Tryz.prog 299 = some 2) ∧
 (aggT Tryz.prog 299 = some false) ∧
 (ikd Tryz.prog 299 = some .u16) ∧
 ((Tryz.prog.underlying 299).isSome = true) ∧
 (tsz Tryz.prog 300 = some 128) ∧
 (tby Tryz.prog 300 = some 256) ∧
 (aggT Tryz.prog 300 = some true) ∧
 (arrT Tryz.prog 300 = some (128, 1, false)) ∧
 (TT.zt 2 = some (.v true (.int .i64 0))) ∧
 (TT.zt 3 = some (.v true (.int .i64 0))) ∧
 (TT.zt 4 = some (.v true (.bool false))) ∧
 (TT.zt 5 = some (.v true (.int .u8 0))) ∧
 (TT.zt 9 = some (.v true (.str ⟨#[]⟩))) ∧
 (TT.zt 12 = some (.v true (.int .u64 0))) ∧
 (TT.zt 21 = some (.v true (.int .i32 0))) ∧
 (TT.zt 22 = some (.v true (.agg [(.int .i64 0), (.int .i64 0)]))) ∧
 (TT.zt 23 = some (.v true (.agg [(.int .i64 0), (.int .i64 0)]))) ∧
 (TT.zt 24 = some (.v true (.int .i64 0))) ∧
 (TT.zt 27 = some (.v true (.agg [(.int .i64 0), (.bool false), (.int .i64 0), (.sl 1 [])]))) ∧
 (TT.zt 28 = some (.v true (.agg [(.int .i64 0), (.bool false), (.int .i64 0), (.sl 1 [])]))) ∧
 (TT.zt 31 = some (.v true (.int .i64 0))) ∧
 (TT.zt 35 = some (.v true (.agg [(.int .i64 0), (.int .i64 0)]))) ∧
 (TT.zt 37 = some (.v true (.agg [(.int .i64 0), (.bool false), (.int .i64 0), (.sl 1 [])]))) ∧
 (TT.zt 38 = some (.v true (.agg [(.int .i64 0), (.bool false), (.int .i64 0), (.sl 1 [])]))) ∧
 (TT.zt 44 = some (.v true (.int .i64 0))) ∧
 (TT.zt 61 = some (.v true (.int .i64 0))) ∧
 (TT.zt 62 = some (.v true (.agg [(.int .i64 0), (.bool false), (.sl 1 []), (.int .i64 0)]))) ∧
 (TT.zt 63 = some (.v true (.agg [(.int .i64 0), (.bool false), (.sl 1 []), (.int .i64 0)]))) ∧
 (TT.zt 67 = some (.v true (.agg [(.int .i64 0), (.bool false), (.sl 1 []), (.int .i64 0)]))) ∧
 (TT.zt 68 = some (.v true (.agg [(.int .i64 0), (.bool false), (.sl 1 []), (.int .i64 0)]))) ∧
 (TT.zt 76 = some (.v true (.int .i64 0))) ∧
 (TT.zt 81 = some (.v true (.agg [(.bool false), (.sl 1 [])]))) ∧
 (TT.zt 82 = some (.v true (.agg [(.bool false), (.sl 1 [])]))) ∧
 (TT.zt 83 = some (.v true (.agg [(.agg [(.bool false), (.sl 1 [])]), (.sl 1 [])]))) ∧
 (TT.zt 84 = some (.v true (.agg [(.agg [(.bool false), (.sl 1 [])]), (.sl 1 [])]))) ∧
 (TT.zt 91 = some (.v true (.int .u64 0))) ∧
 (TT.zt 124 = some (.v true (.agg [(.bool false), (.sl 1 []), (.sl 1 []), (.int .i64 0), (.int .i64 0)]))) ∧
 (TT.zt 125 = some (.v true (.agg [(.bool false), (.sl 1 []), (.sl 1 []), (.int .i64 0), (.int .i64 0)]))) ∧
 (TT.zt 128 = some (.v true (.agg [(.sl 1 []), (.bool false), (.bool false)]))) ∧
 (TT.zt 129 = some (.v true (.agg [(.sl 1 []), (.bool false), (.bool false)]))) ∧
 (TT.zt 135 = some (.v true (.int .i64 0))) ∧
 (TT.zt 136 = some (.v true (.agg [(.int .i64 0), (.bool false), (.str ⟨#[]⟩), (.int .i64 0), (.int .i64 0), (.int .i64 0), (.bool false)]))) ∧
 (TT.zt 137 = some (.v true (.agg [(.int .i64 0), (.bool false), (.str ⟨#[]⟩), (.int .i64 0), (.int .i64 0), (.int .i64 0), (.bool false)]))) ∧
 (TT.zt 168 = some (.v true (.agg [(.sl 1 []), (.sl 1 [])]))) ∧
 (TT.zt 181 = some (.v true (.int .u64 0))) ∧
 (TT.zt 195 = some (.v true (.int .i64 0))) ∧
 (TT.zt 205 = some (.v true (.agg [(.bool false), (.sl 1 []), (.sl 1 []), (.int .i64 0), (.int .i64 0)]))) ∧
 (TT.zt 243 = some (.v true .nfun)) ∧
 (TT.zt 244 = some (.v true (.agg [.nfun, .nfun, .nfun, .nfun, .nfun]))) ∧
 (TT.zt 245 = some (.v true (.int .u32 0))) ∧
 (TT.zt 256 = some (.v true (.agg [(.str ⟨#[]⟩), (.int .i64 0)]))) ∧
 (TT.zt 257 = some (.v true (.agg [(.str ⟨#[]⟩), (.int .i64 0)]))) ∧
 (TT.zt 299 = some (.v true (.int .u16 0))) ∧
 (TT.zt 25 = some .nil) ∧
 (TT.zt 26 = some .nil) ∧
 (TT.zt 40 = some .nil) ∧
 (TT.zt 90 = some .nil) ∧
 (TT.zt 102 = some .nil) ∧
 (TT.zt 133 = some .nil) ∧
 (∀ d, TT.fz d = false) := by
 refine ⟨?_, ?_, ?_, ?_, ?_, ?_, ?_, ?_, ?_, ?_, ?_, ?_, ?_, ?_, ?_, ?_, ?_, ?_, ?_, ?_, ?_, ?_, ?_, ?_, ?_, ?_, ?_, ?_, ?_, ?_, ?_, ?_, ?_, ?_, ?_, ?_, ?_, ?_, ?_, ?_, ?_, ?_, ?_, ?_, ?_, ?_, ?_, ?_, ?_, ?_, ?_, ?_, ?_, ?_, ?_, ?_, ?_, ?_, ?_, ?_, ?_, ?_, ?_, ?_, ?_, ?_, ?_, ?_, ?_, ?_, ?_, ?_, ?_, ?_, ?_, ?_, ?_, ?_, ?_, ?_, ?_, ?_, ?_, ?_, ?_, ?_, ?_, ?_, ?_, ?_, ?_, ?_, ?_, ?_, ?_, ?_, ?_, ?_, ?_, ?_, ?_, ?_, ?_, ?_, ?_, ?_, ?_, ?_, ?_, ?_, ?_, ?_, ?_, ?_, ?_, ?_, ?_, ?_, ?_, ?_, ?_, ?_, ?_, ?_, ?_, ?_, ?_, ?_, ?_, ?_, ?_, ?_, ?_, ?_, ?_, ?_, ?_, ?_, ?_, ?_, ?_, ?_, ?_, ?_, ?_, ?_, ?_, ?_, ?_, ?_, ?_, ?_, ?_, ?_, ?_, ?_, ?_, ?_, ?_, ?_, ?_, ?_, ?_, ?_, ?_, ?_, ?_, ?_, ?_, ?_, ?_, ?_, ?_, ?_, ?_, ?_, ?_, ?_, ?_, ?_, ?_, ?_, ?_, ?_, ?_, ?_, ?_, ?_, ?_, ?_, ?_, ?_, ?_, ?_, ?_, ?_, ?_, ?_, ?_, ?_, ?_, ?_, ?_, ?_, ?_, ?_, ?_, ?_, ?_, ?_, ?_, ?_, ?_, ?_, ?_, ?_, ?_, ?_, ?_, ?_, ?_, ?_, ?_, ?_, ?_, ?_, ?_, ?_, ?_, ?_, ?_, ?_, ?_, ?_, ?_, ?_, ?_, ?_, ?_, ?_, ?_, ?_, ?_, ?_, ?_, ?_, ?_, ?_, ?_, ?_, ?_, ?_, ?_, ?_, ?_, ?_, ?_, ?_, ?_, ?_, ?_, ?_, ?_, ?_, ?_, ?_, ?_, ?_, ?_, ?_, ?_, ?_, ?_, ?_, ?_, ?_, ?_, ?_, ?_, ?_, ?_, ?_, ?_, ?_, ?_, ?_, ?_, ?_, ?_, ?_, ?_, ?_, ?_, ?_, ?_, ?_, ?_, ?_, ?_, ?_, ?_, ?_, ?_, ?_, ?_, ?_, ?_, ?_, ?_, ?_, ?_, ?_, ?_, ?_, ?_, ?_, ?_, ?_, ?_, ?_, ?_, ?_, ?_, ?_, ?_, ?_, ?_, ?_, ?_, ?_, ?_, ?_, ?_, ?_, ?_, ?_, ?_, ?_, ?_, ?_, ?_, ?_, ?_, ?_, ?_, ?_, ?_, ?_, ?_, ?_, ?_, ?_, ?_, ?_, ?_, ?_, ?_, ?_, ?_, ?_, ?_, ?_, ?_, ?_, ?_, ?_, ?_, ?_, ?_, ?_, ?_, ?_, ?_, ?_, ?_, ?_, ?_⟩ <;> first | kernel_rfl | exact fun _ => rfl
attribute [local go_sem] evalOps_nil evalOps_cons runW_t runW_f runE_s runP_s wantA evalOp effOp letters okDst coreA St.opv St.get St.at look constA St.put St.upd St.set decide_true List.all_nil List.all_cons Bool.and_true Bool.true_and and_self and_true true_and if_true if_false true_or Int.sub_zero List.nil_append List.cons_append List.append_nil Option.isSome_some List.getElem?_toArray List.getElem?_cons_succ List.getElem?_cons_zero Option.bind_some Option.map_some Option.map_none beq_self_eq_true Bool.false_beq Bool.true_beq Bool.not_true Bool.not_false Bool.false_eq_true cond_true cond_false binA binI List.map_cons List.map_nil boundA List.length_nil List.length_cons Nat.zero_mul Nat.one_mul Nat.mul_one Nat.zero_add Nat.add_zero Nat.zero_le Option.toList St.freshB AV.ment AV.ments Blk.ment V.sizes Nat.lt_add_one Bool.or_true Bool.true_or Bool.or_false Bool.false_or Bool.or_self if_pos if_neg decide_false decide_eq_true decide_eq_false wrap_i64 Int.toNat_natCast minA maxA Int.natCast_add Int.cast_ofNat_Int Option.isSome_none false_implies true_implies forall_const List.drop_zero Int.toNat_zero Int.add_sub_cancel lenA sliceA loadA indexAddrA partA fitsT V.atP V.offP V.size List.length_map List.getElem?_map Int.toNat_natCast_add_one Int.ofNat_eq_natCast TY calleeA capArg knotA capArgs toArgs toArg callA R.res R.mems R.blks R.av R.names R.nw invokeA storeA storeV fieldAddrA liveB V.off V.offs V.setP List.set_cons_zero List.set_cons_succ buildA buildP partsA appendA srcA copyA boxOk makeA AV.pure List.take_succ_cons List.take_zero nilA words unA entry List.zipIdx_cons List.zipIdx_nil Arg.av Arg.avs
theorem an {a b : Prop} (x : a) (y : b) : a ∧ b := ⟨x, y⟩
section
variable {cx : Cx} {w0 : World} {σ σ' : St} {ro : Option Nat} {ops : Array Oper} {y : Code} {Q : Exit → St → Prop} {id : Nat} {p a : Prop}
theorem zs0 (h : Holds Tryz.prog ro cx w0 y σ' Q) (he : evalOps Tryz.prog TT (fun _ => []) ops ops.toList σ = some (σ', p) := by simp (disch := omega) only [go_sem, V.isAgg, V.flat, ↓reduceIte, Nat.reduceAdd, Nat.reduceSub, Nat.reduceLT, Nat.reduceEqDiff, reduceCtorEq, Nat.reduceLeDiff, Nat.reduceBEq, Nat.reduceMul, Int.reduceToNat]; rfl) (hp : p := by repeat' first | exact trivial | constructor) : Holds Tryz.prog ro cx w0 ((Code.region id ops false).seq y) σ Q := Holds.step (Px := px) (T := TT) TTe he hp h
theorem zs1 (e : a) (h : Holds Tryz.prog ro cx w0 y σ' Q) (he : a → evalOps Tryz.prog TT (fun _ => []) ops ops.toList σ = some (σ', p) := by intro e; simp (disch := omega) only [go_sem, V.isAgg, V.flat, ↓reduceIte, Nat.reduceAdd, Nat.reduceSub, Nat.reduceLT, Nat.reduceEqDiff, reduceCtorEq, Nat.reduceLeDiff, Nat.reduceBEq, Nat.reduceMul, Int.reduceToNat, e]; rfl) (hp : p := by repeat' first | exact trivial | constructor) : Holds Tryz.prog ro cx w0 ((Code.region id ops false).seq y) σ Q := Holds.step (Px := px) (T := TT) TTe (he e) hp h
theorem zs2 {ρ : Nat → List R} (he : evalOps Tryz.prog TT ρ ops ops.toList σ = some (σ', p) := by simp (disch := omega) only [go_sem, V.isAgg, V.flat, ↓reduceIte, Nat.reduceAdd, Nat.reduceSub, Nat.reduceLT, Nat.reduceEqDiff, reduceCtorEq, Nat.reduceLeDiff, Nat.reduceBEq, Nat.reduceMul, Int.reduceToNat]; rfl) (o : p) (k : Holds Tryz.prog ro cx w0 y σ' Q) : Holds Tryz.prog ro cx w0 ((Code.region id ops false).seq y) σ Q := Holds.step (Px := px) (T := TT) TTe he o k
theorem zs3 {ρ : Nat → List R} (e : a) (he : a → evalOps Tryz.prog TT ρ ops ops.toList σ = some (σ', p) := by intro e; simp (disch := omega) only [go_sem, V.isAgg, V.flat, ↓reduceIte, Nat.reduceAdd, Nat.reduceSub, Nat.reduceLT, Nat.reduceEqDiff, reduceCtorEq, Nat.reduceLeDiff, Nat.reduceBEq, Nat.reduceMul, Int.reduceToNat, e]; rfl) (o : p) (k : Holds Tryz.prog ro cx w0 y σ' Q) : Holds Tryz.prog ro cx w0 ((Code.region id ops false).seq y) σ Q := Holds.step (Px := px) (T := TT) TTe (he e) o k
theorem zr0 (h : Q .normal σ') (he : evalOps Tryz.prog TT (fun _ => []) ops ops.toList σ = some (σ', p) := by simp (disch := omega) only [go_sem, V.isAgg, V.flat, ↓reduceIte, Nat.reduceAdd, Nat.reduceSub, Nat.reduceLT, Nat.reduceEqDiff, reduceCtorEq, Nat.reduceLeDiff, Nat.reduceBEq, Nat.reduceMul, Int.reduceToNat]; rfl) (hp : p := by repeat' first | exact trivial | constructor) : Holds Tryz.prog ro cx w0 (Code.region id ops false) σ Q := Holds.region (Px := px) (T := TT) TTe he hp h
theorem zr1 (e : a) (h : Q .normal σ') (he : a → evalOps Tryz.prog TT (fun _ => []) ops ops.toList σ = some (σ', p) := by intro e; simp (disch := omega) only [go_sem, V.isAgg, V.flat, ↓reduceIte, Nat.reduceAdd, Nat.reduceSub, Nat.reduceLT, Nat.reduceEqDiff, reduceCtorEq, Nat.reduceLeDiff, Nat.reduceBEq, Nat.reduceMul, Int.reduceToNat, e]; rfl) (hp : p := by repeat' first | exact trivial | constructor) : Holds Tryz.prog ro cx w0 (Code.region id ops false) σ Q := Holds.region (Px := px) (T := TT) TTe (he e) hp h
theorem zr2 {ρ : Nat → List R} (he : evalOps Tryz.prog TT ρ ops ops.toList σ = some (σ', p) := by simp (disch := omega) only [go_sem, V.isAgg, V.flat, ↓reduceIte, Nat.reduceAdd, Nat.reduceSub, Nat.reduceLT, Nat.reduceEqDiff, reduceCtorEq, Nat.reduceLeDiff, Nat.reduceBEq, Nat.reduceMul, Int.reduceToNat]; rfl) (o : p) (k : Q .normal σ') : Holds Tryz.prog ro cx w0 (Code.region id ops false) σ Q := Holds.region (Px := px) (T := TT) TTe he o k
theorem zr3 {ρ : Nat → List R} (e : a) (he : a → evalOps Tryz.prog TT ρ ops ops.toList σ = some (σ', p) := by intro e; simp (disch := omega) only [go_sem, V.isAgg, V.flat, ↓reduceIte, Nat.reduceAdd, Nat.reduceSub, Nat.reduceLT, Nat.reduceEqDiff, reduceCtorEq, Nat.reduceLeDiff, Nat.reduceBEq, Nat.reduceMul, Int.reduceToNat, e]; rfl) (o : p) (k : Q .normal σ') : Holds Tryz.prog ro cx w0 (Code.region id ops false) σ Q := Holds.region (Px := px) (T := TT) TTe (he e) o k
theorem zd0 (fl : List (Nat × Nat)) (h : Holds Tryz.prog ro cx w0 y σ' Q) (he : evalOps Tryz.prog TT (fun _ => []) ops ops.toList σ = some (σ', p) := by simp (disch := omega) only [go_sem, V.isAgg, V.flat, ↓reduceIte, Nat.reduceAdd, Nat.reduceSub, Nat.reduceLT, Nat.reduceEqDiff, reduceCtorEq, Nat.reduceLeDiff, Nat.reduceBEq, Nat.reduceMul, Int.reduceToNat]; rfl) (hp : p := by repeat' first | exact trivial | constructor) (hz : drawS ops σ.nt fl = true := by kernel_rfl) (hl : disjL (ops.toList.map (letters fun _ => [])) = true := by rfl) (hf : (ops.toList.map (letters fun _ => [])).all (fun l => l.all σ.freshB) = true := by rfl) (hfl : flOk (trc Tryz.prog TT (fun _ => []) ops ops.toList σ) fl = true := by rfl) : Holds Tryz.prog ro cx w0 ((Code.region id ops true).seq y) σ Q := Holds.dstep (Px := px) (T := TT) fl mixed hz TTe he hp hl hf hfl h
theorem zd1 (fl : List (Nat × Nat)) (e : a) (h : Holds Tryz.prog ro cx w0 y σ' Q) (he : a → evalOps Tryz.prog TT (fun _ => []) ops ops.toList σ = some (σ', p) := by intro e; simp (disch := omega) only [go_sem, V.isAgg, V.flat, ↓reduceIte, Nat.reduceAdd, Nat.reduceSub, Nat.reduceLT, Nat.reduceEqDiff, reduceCtorEq, Nat.reduceLeDiff, Nat.reduceBEq, Nat.reduceMul, Int.reduceToNat, e]; rfl) (hp : p := by repeat' first | exact trivial | constructor) (hz : drawS ops σ.nt fl = true := by kernel_rfl) (hl : disjL (ops.toList.map (letters fun _ => [])) = true := by rfl) (hf : (ops.toList.map (letters fun _ => [])).all (fun l => l.all σ.freshB) = true := by rfl) (hfl : flOk (trc Tryz.prog TT (fun _ => []) ops ops.toList σ) fl = true := by rfl) : Holds Tryz.prog ro cx w0 ((Code.region id ops true).seq y) σ Q := Holds.dstep (Px := px) (T := TT) fl mixed hz TTe (he e) hp hl hf hfl h
theorem zd2 (fl : List (Nat × Nat)) {ρ : Nat → List R} (he : evalOps Tryz.prog TT ρ ops ops.toList σ = some (σ', p) := by simp (disch := omega) only [go_sem, V.isAgg, V.flat, ↓reduceIte, Nat.reduceAdd, Nat.reduceSub, Nat.reduceLT, Nat.reduceEqDiff, reduceCtorEq, Nat.reduceLeDiff, Nat.reduceBEq, Nat.reduceMul, Int.reduceToNat]; rfl) (o : p) (k : Holds Tryz.prog ro cx w0 y σ' Q) (hz : drawS ops σ.nt fl = true := by kernel_rfl) (hl : disjL (ops.toList.map (letters ρ)) = true := by rfl) (hf : (ops.toList.map (letters ρ)).all (fun l => l.all σ.freshB) = true := by rfl) (hfl : flOk (trc Tryz.prog TT ρ ops ops.toList σ) fl = true := by rfl) : Holds Tryz.prog ro cx w0 ((Code.region id ops true).seq y) σ Q := Holds.dstep (Px := px) (T := TT) fl mixed hz TTe he o hl hf hfl k
theorem zd3 (fl : List (Nat × Nat)) {ρ : Nat → List R} (e : a) (he : a → evalOps Tryz.prog TT ρ ops ops.toList σ = some (σ', p) := by intro e; simp (disch := omega) only [go_sem, V.isAgg, V.flat, ↓reduceIte, Nat.reduceAdd, Nat.reduceSub, Nat.reduceLT, Nat.reduceEqDiff, reduceCtorEq, Nat.reduceLeDiff, Nat.reduceBEq, Nat.reduceMul, Int.reduceToNat, e]; rfl) (o : p) (k : Holds Tryz.prog ro cx w0 y σ' Q) (hz : drawS ops σ.nt fl = true := by kernel_rfl) (hl : disjL (ops.toList.map (letters ρ)) = true := by rfl) (hf : (ops.toList.map (letters ρ)).all (fun l => l.all σ.freshB) = true := by rfl) (hfl : flOk (trc Tryz.prog TT ρ ops ops.toList σ) fl = true := by rfl) : Holds Tryz.prog ro cx w0 ((Code.region id ops true).seq y) σ Q := Holds.dstep (Px := px) (T := TT) fl mixed hz TTe (he e) o hl hf hfl k
theorem zq1 (fl : List (Nat × Nat)) (e : a) (h : Q .normal σ') (he : a → evalOps Tryz.prog TT (fun _ => []) ops ops.toList σ = some (σ', p) := by intro e; simp (disch := omega) only [go_sem, V.isAgg, V.flat, ↓reduceIte, Nat.reduceAdd, Nat.reduceSub, Nat.reduceLT, Nat.reduceEqDiff, reduceCtorEq, Nat.reduceLeDiff, Nat.reduceBEq, Nat.reduceMul, Int.reduceToNat, e]; rfl) (hp : p := by repeat' first | exact trivial | constructor) (hz : drawS ops σ.nt fl = true := by kernel_rfl) (hl : disjL (ops.toList.map (letters fun _ => [])) = true := by rfl) (hf : (ops.toList.map (letters fun _ => [])).all (fun l => l.all σ.freshB) = true := by rfl) (hfl : flOk (trc Tryz.prog TT (fun _ => []) ops ops.toList σ) fl = true := by rfl) : Holds Tryz.prog ro cx w0 (Code.region id ops true) σ Q := Holds.dregion (Px := px) (T := TT) fl mixed hz TTe (he e) hp hl hf hfl h
theorem zq2 (fl : List (Nat × Nat)) {ρ : Nat → List R} (he : evalOps Tryz.prog TT ρ ops ops.toList σ = some (σ', p) := by simp (disch := omega) only [go_sem, V.isAgg, V.flat, ↓reduceIte, Nat.reduceAdd, Nat.reduceSub, Nat.reduceLT, Nat.reduceEqDiff, reduceCtorEq, Nat.reduceLeDiff, Nat.reduceBEq, Nat.reduceMul, Int.reduceToNat]; rfl) (o : p) (k : Q .normal σ') (hz : drawS ops σ.nt fl = true := by kernel_rfl) (hl : disjL (ops.toList.map (letters ρ)) = true := by rfl) (hf : (ops.toList.map (letters ρ)).all (fun l => l.all σ.freshB) = true := by rfl) (hfl : flOk (trc Tryz.prog TT ρ ops ops.toList σ) fl = true := by rfl) : Holds Tryz.prog ro cx w0 (Code.region id ops true) σ Q := Holds.dregion (Px := px) (T := TT) fl mixed hz TTe he o hl hf hfl k
end
theorem wrap_u8 {n : Int} : IntKind.u8.wrap n = n % 256 := by
 unfold IntKind.wrap
 simp only [IntKind.bits, IntKind.signed, Bool.false_and, Bool.false_eq_true, if_false]
 rfl
theorem bytesV_map : ∀ {l : List Nat}, (∀ n ∈ l, n < 256) → bytesV (l.map fun n => V.int .u8 (n : Nat)) = some (l.map UInt8.ofNat)
 | [], _ => rfl
 | n :: r, h => by
   have h0 := h n (by simp)
   rw [List.map_cons, bytesV, if_pos ⟨by omega, by omega⟩, bytesV_map fun m hm => h m (by simp [hm])]
   simp
end Go.Proofs.YtlpolbeikangpaaGreatDoor.L
