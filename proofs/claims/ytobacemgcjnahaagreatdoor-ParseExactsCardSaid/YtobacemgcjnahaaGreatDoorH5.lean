/-
  Mc Mj Mn Ua Ub
-/
import Derived.Test.YtobacemgcjnahaaGreatDoorH1
import Derived.Shelf.Spec.BitsCarry
import Derived.Test.YtobacemgcjnahaaGreatDoorG4
import Derived.Test.YtobacemgcjnahaaGreatDoorH2
import Derived.Lib.Mul64
import Derived.Laws.Bits64b
set_option linter.unusedSimpArgs false
set_option linter.unusedVariables false
/-
  math/bits.Add64 and Sub64: the machine's own.
-/
namespace Go.Proofs.YtobacemgcjnahaaGreatDoor.L
open Go Go.RowKit Go.Proofs

theorem FnOk.int3 {P : Program} {f : FuncId} {k : IntKind} {x y c a b : Int} (hr : ∀ w, (callFunc f #[.int k x, .int k y, .int k c]).run P w = .ok (.value (.tuple #[.int k a, .int k b])) w) :
    FnOk P f [.v (.int k x), .v (.int k y), .v (.int k c)] [.v true (.int k a), .v true (.int k b)] := by
  intro w O vs _ h
  have one : ∀ {n : Int} {v : Value}, ArgRep w O (.v (.int k n)) v → v = .int k n := fun h => by
    rw [ArgRep] at h
    obtain ⟨cs, h1, h2⟩ := h
    rw [Rep] at h1
    subst h1
    exact h2
  rw [ArgsRep] at h
  obtain ⟨v1, r1, rfl, h1, h⟩ := h
  rw [ArgsRep] at h
  obtain ⟨v2, r2, rfl, h2, h⟩ := h
  rw [ArgsRep] at h
  obtain ⟨v3, r3, rfl, h3, h⟩ := h
  rw [ArgsRep] at h
  subst h
  rw [one h1, one h2, one h3]
  refine .inr ⟨_, w, hr w, _, fun _ => none, rfl, Below.refl _ _, ⟨fun s b c hs => by simp at hs, fun s1 s2 b c c' h1 => by simp at h1⟩, fun s => rfl, ?_⟩
  show RepA _ w _ _ (.tup [.v true (.int k a), .v true (.int k b)]) _
  rw [RepA]
  refine ⟨[.int k a, .int k b], rfl, ?_⟩
  rw [RepAL]
  refine ⟨_, _, rfl, repA_int.2 rfl, ?_⟩
  rw [RepAL]
  exact ⟨_, _, rfl, repA_int.2 rfl, by rw [RepAL]⟩

theorem add64_ok (x y c : Int) (hx : 0 ≤ x) (hy : 0 ≤ y) (hc0 : 0 ≤ c) (hc : c ≤ 1) : FnOk Tryz.prog 91 [.v (.int .u64 x), .v (.int .u64 y), .v (.int .u64 c)] [.v true (.int .u64 ((x + y + c) % 18446744073709551616)), .v true (.int .u64 ((x + y + c) / 18446744073709551616))] :=
  FnOk.int3 fun w => by
    rw [run_callFunc_extern Tryz.func91 (by kernel_rfl) (by kernel_rfl) (by kernel_rfl) (e := add64Entry) (by kernel_rfl), run_add64 x y c hx hy hc0 hc]
    rfl

theorem sub64_ok (x y c : Int) (hx : 0 ≤ x) (hx' : x < 18446744073709551616) (hy : 0 ≤ y) (hy' : y < 18446744073709551616) (hc0 : 0 ≤ c) (hc : c ≤ 1) :
    FnOk Tryz.prog 177 [.v (.int .u64 x), .v (.int .u64 y), .v (.int .u64 c)] [.v true (.int .u64 ((x - y - c) % 18446744073709551616)), .v true (.int .u64 (if x < y + c then 1 else 0))] :=
  FnOk.int3 fun w => by
    obtain ⟨X, rfl⟩ := Int.eq_ofNat_of_zero_le hx
    obtain ⟨Y, rfl⟩ := Int.eq_ofNat_of_zero_le hy
    obtain ⟨C, rfl⟩ := Int.eq_ofNat_of_zero_le hc0
    rw [run_callFunc_extern Tryz.func177 (by kernel_rfl) (by kernel_rfl) (by kernel_rfl) (e := sub64Entry) (by kernel_rfl)]
    have := run_sub64 (P := Tryz.prog) X Y C (by omega) w
    rw [this]
    simp only [Result.andThen]
    have e1 : (((X + 18446744073709551616 - Y - C) % 18446744073709551616 : Nat) : Int) = ((X : Int) - Y - C) % 18446744073709551616 := by omega
    have e2 : ((if X < Y + C then 1 else 0 : Nat) : Int) = if (X : Int) < (Y : Int) + C then 1 else 0 := by
      split <;> split <;> omega
    rw [e1, e2]
/-
  bits.Mul64, words.more.
-/
attribute [local go_sem] evalOps_nil evalOps_cons runW_t runW_f runE_s runP_s wantA evalOp effOp letters okDst coreA St.opv St.get St.at look constA St.put St.upd St.set decide_true List.all_nil List.all_cons Bool.and_true Bool.true_and and_self and_true true_and if_true if_false true_or Int.sub_zero List.nil_append List.cons_append List.append_nil Option.isSome_some List.getElem?_toArray List.getElem?_cons_succ List.getElem?_cons_zero Option.bind_some Option.map_some Option.map_none beq_self_eq_true Bool.false_beq Bool.true_beq Bool.not_true Bool.not_false Bool.false_eq_true cond_true cond_false binA binI List.map_cons List.map_nil boundA List.length_nil List.length_cons Nat.zero_mul Nat.one_mul Nat.mul_one Nat.zero_add Nat.add_zero Nat.zero_le Option.toList St.freshB AV.ment AV.ments Blk.ment V.sizes Nat.lt_add_one Bool.or_true Bool.true_or Bool.or_false Bool.false_or Bool.or_self if_pos if_neg decide_false decide_eq_true decide_eq_false wrap_i64 Int.toNat_natCast minA maxA Int.natCast_add Int.cast_ofNat_Int Option.isSome_none false_implies true_implies forall_const List.drop_zero Int.toNat_zero Int.add_sub_cancel lenA sliceA loadA indexAddrA partA fitsT V.atP V.offP V.size List.length_map List.getElem?_map Int.toNat_natCast_add_one Int.ofNat_eq_natCast TY calleeA capArg knotA capArgs toArgs toArg callA R.res R.mems R.blks R.av R.names R.nw invokeA storeA storeV fieldAddrA liveB V.off V.offs V.setP List.set_cons_zero List.set_cons_succ buildA buildP partsA appendA srcA copyA boxOk makeA AV.pure List.take_succ_cons List.take_zero nilA words entry List.zipIdx_cons List.zipIdx_nil Arg.av Arg.avs

theorem maskN (a : Nat) (ha : a < 18446744073709551616) : bitI .and .u64 (a : Int) 4294967295 = ((a % 4294967296 : Nat) : Int) := by
  have h := bits_and_u64_nat a 4294967295 ha (by omega)
  have e : a &&& 4294967295 = a % 4294967296 := Nat.and_two_pow_sub_one_eq_mod a 32
  rw [e] at h
  exact h
theorem shrN (a : Nat) : Int.fdiv (a : Int) (2 ^ min (32 : Nat) 64) = ((a / 4294967296 : Nat) : Int) := by
  show Int.fdiv (a : Int) 4294967296 = _
  rw [Int.fdiv_eq_ediv_of_nonneg _ (by omega)]
  omega
theorem mulN (a b : Nat) : (a : Int) * (b : Int) = ((a * b : Nat) : Int) := (Int.natCast_mul a b).symm
theorem addN (a b : Nat) : (a : Int) + (b : Int) = ((a + b : Nat) : Int) := (Int.natCast_add a b).symm
theorem wrapN (a : Nat) (ha : a < 18446744073709551616) : IntKind.u64.wrap (a : Int) = (a : Int) := by rw [wrap_u64]; omega
theorem wrapM (a : Nat) : IntKind.u64.wrap (a : Int) = ((a % 18446744073709551616 : Nat) : Int) := by rw [wrap_u64]; omega

theorem mul64_ok (x y : Nat) (hx : x < 18446744073709551616) (hy : y < 18446744073709551616) :
    FnOk Tryz.prog 90 [.v (.int .u64 x), .v (.int .u64 y)] [.v true (.int .u64 ((x * y / 18446744073709551616 : Nat) : Int)), .v true (.int .u64 ((x * y % 18446744073709551616 : Nat) : Int))] := by
  obtain ⟨bd, bt, bw, hhi⟩ := Lib.mul64_hi x y hx hy
  obtain ⟨x0, e1⟩ : ∃ a, a = x % 4294967296 := ⟨_, rfl⟩
  obtain ⟨x1, e2⟩ : ∃ a, a = x / 4294967296 := ⟨_, rfl⟩
  obtain ⟨y0, e3⟩ : ∃ a, a = y % 4294967296 := ⟨_, rfl⟩
  obtain ⟨y1, e4⟩ : ∃ a, a = y / 4294967296 := ⟨_, rfl⟩
  have ba := Lib.half_mul_le (a := x1) (b := y1) (by omega) (by omega)
  have bb := Lib.half_mul_le (a := x1) (b := y0) (by omega) (by omega)
  have bc := Lib.half_mul_le (a := x0) (b := y1) (by omega) (by omega)
  rw [← e1, ← e2, ← e3, ← e4] at hhi
  rw [← e1, ← e3] at bd
  rw [← e1, ← e2, ← e3] at bt
  rw [← e1, ← e2, ← e3, ← e4] at bw
  obtain ⟨w0', e5⟩ : ∃ a, a = x0 * y0 := ⟨_, rfl⟩
  obtain ⟨p, e6⟩ : ∃ a, a = x1 * y0 := ⟨_, rfl⟩
  obtain ⟨q, e7⟩ : ∃ a, a = x0 * y1 := ⟨_, rfl⟩
  obtain ⟨r, e8⟩ : ∃ a, a = x1 * y1 := ⟨_, rfl⟩
  rw [← e5] at bd
  rw [← e5, ← e6] at bt
  rw [← e5, ← e6, ← e7] at bw
  rw [← e5, ← e6, ← e7, ← e8] at hhi
  obtain ⟨v, e9⟩ : ∃ a, a = w0' / 4294967296 := ⟨_, rfl⟩
  rw [← e9] at bt bw hhi
  obtain ⟨t, e10⟩ : ∃ a, a = p + v := ⟨_, rfl⟩
  rw [← e10] at bt bw hhi
  obtain ⟨w1, e11⟩ : ∃ a, a = t % 4294967296 := ⟨_, rfl⟩
  obtain ⟨w2, e12⟩ : ∃ a, a = t / 4294967296 := ⟨_, rfl⟩
  rw [← e11] at bw hhi
  rw [← e12] at hhi
  obtain ⟨w3, e13⟩ : ∃ a, a = w1 + q := ⟨_, rfl⟩
  rw [← e13] at bw hhi
  obtain ⟨w4, e14⟩ : ∃ a, a = w3 / 4294967296 := ⟨_, rfl⟩
  rw [← e14] at hhi
  obtain ⟨u, e15⟩ : ∃ a, a = r + w2 := ⟨_, rfl⟩
  obtain ⟨h, e16⟩ : ∃ a, a = u + w4 := ⟨_, rfl⟩
  obtain ⟨lo, e17⟩ : ∃ a, a = x * y % 18446744073709551616 := ⟨_, rfl⟩
  have f1 : bitI .and .u64 (x : Int) 4294967295 = x0 := by rw [maskN x hx, e1]
  have f2 : Int.fdiv (x : Int) (2 ^ min (32 : Nat) 64) = x1 := by rw [shrN, e2]
  have f3 : bitI .and .u64 (y : Int) 4294967295 = y0 := by rw [maskN y hy, e3]
  have f4 : Int.fdiv (y : Int) (2 ^ min (32 : Nat) 64) = y1 := by rw [shrN, e4]
  have f5 : IntKind.u64.wrap ((x0 : Int) * y0) = w0' := by rw [mulN, ← e5, wrapN _ bd]
  have f6 : IntKind.u64.wrap ((x1 : Int) * y0) = p := by rw [mulN, ← e6, wrapN _ (by omega)]
  have f7 : IntKind.u64.wrap ((x0 : Int) * y1) = q := by rw [mulN, ← e7, wrapN _ (by omega)]
  have f8 : IntKind.u64.wrap ((x1 : Int) * y1) = r := by rw [mulN, ← e8, wrapN _ (by omega)]
  have f9 : Int.fdiv (w0' : Int) (2 ^ min (32 : Nat) 64) = v := by rw [shrN, e9]
  have f10 : IntKind.u64.wrap ((p : Int) + v) = t := by rw [addN, ← e10, wrapN _ bt]
  have f11 : bitI .and .u64 (t : Int) 4294967295 = w1 := by rw [maskN t bt, e11]
  have f12 : Int.fdiv (t : Int) (2 ^ min (32 : Nat) 64) = w2 := by rw [shrN, e12]
  have f13 : IntKind.u64.wrap ((w1 : Int) + q) = w3 := by rw [addN, ← e13, wrapN _ bw]
  have f14 : Int.fdiv (w3 : Int) (2 ^ min (32 : Nat) 64) = w4 := by rw [shrN, e14]
  have f15 : IntKind.u64.wrap ((r : Int) + w2) = u := by rw [addN, ← e15, wrapN _ (by omega)]
  have f16 : IntKind.u64.wrap ((u : Int) + w4) = h := by rw [addN, ← e16, wrapN _ (by omega)]
  have f17 : IntKind.u64.wrap ((x : Int) * y) = lo := by rw [mulN, wrapM, e17]
  have hh : x * y / 18446744073709551616 = h := by rw [← hhi, e16, e15]
  rw [hh, ← e17]
  refine FnOk.of Tryz.func90 rfl rfl fun cx w0 => ?_
  rw [show Tryz.f90.ntmps = 51 from rfl]
  refine Holds.step (Px := px) (T := TT) (ρ := fun _ => []) TTe (by simp (maxSteps := 100000) (disch := omega) only [go_sem, V.isAgg, V.flat, ↓reduceIte, Nat.reduceAdd, Nat.reduceSub, Nat.reduceLT, Nat.reduceEqDiff, reduceCtorEq, Nat.reduceLeDiff, Nat.reduceBEq, Nat.reduceMul, Int.reduceToNat, entry, List.length_cons, List.length_nil, List.zipIdx_cons, List.zipIdx_nil, Arg.av]; rfl) (by repeat' first | exact trivial | constructor) ?_
  refine Holds.step (Px := px) (T := TT) (ρ := fun _ => []) TTe (by simp (maxSteps := 100000) (disch := omega) only [go_sem, V.isAgg, V.flat, ↓reduceIte, Nat.reduceAdd, Nat.reduceSub, Nat.reduceLT, Nat.reduceEqDiff, reduceCtorEq, Nat.reduceLeDiff, Nat.reduceBEq, Nat.reduceMul, Int.reduceToNat, f1]; rfl) (by repeat' first | exact trivial | constructor) ?_
  refine Holds.step (Px := px) (T := TT) (ρ := fun _ => []) TTe (by simp (maxSteps := 100000) (disch := omega) only [go_sem, V.isAgg, V.flat, ↓reduceIte, Nat.reduceAdd, Nat.reduceSub, Nat.reduceLT, Nat.reduceEqDiff, reduceCtorEq, Nat.reduceLeDiff, Nat.reduceBEq, Nat.reduceMul, Int.reduceToNat, Int.reduceToNat, f2]; rfl) (by repeat' first | exact trivial | constructor) ?_
  refine Holds.step (Px := px) (T := TT) (ρ := fun _ => []) TTe (by simp (maxSteps := 100000) (disch := omega) only [go_sem, V.isAgg, V.flat, ↓reduceIte, Nat.reduceAdd, Nat.reduceSub, Nat.reduceLT, Nat.reduceEqDiff, reduceCtorEq, Nat.reduceLeDiff, Nat.reduceBEq, Nat.reduceMul, Int.reduceToNat, f3]; rfl) (by repeat' first | exact trivial | constructor) ?_
  refine Holds.step (Px := px) (T := TT) (ρ := fun _ => []) TTe (by simp (maxSteps := 100000) (disch := omega) only [go_sem, V.isAgg, V.flat, ↓reduceIte, Nat.reduceAdd, Nat.reduceSub, Nat.reduceLT, Nat.reduceEqDiff, reduceCtorEq, Nat.reduceLeDiff, Nat.reduceBEq, Nat.reduceMul, Int.reduceToNat, Int.reduceToNat, f4]; rfl) (by repeat' first | exact trivial | constructor) ?_
  refine Holds.step (Px := px) (T := TT) (ρ := fun _ => []) TTe (by simp (maxSteps := 100000) (disch := omega) only [go_sem, V.isAgg, V.flat, ↓reduceIte, Nat.reduceAdd, Nat.reduceSub, Nat.reduceLT, Nat.reduceEqDiff, reduceCtorEq, Nat.reduceLeDiff, Nat.reduceBEq, Nat.reduceMul, Int.reduceToNat, f5]; rfl) (by repeat' first | exact trivial | constructor) ?_
  refine Holds.step (Px := px) (T := TT) (ρ := fun _ => []) TTe (by simp (maxSteps := 100000) (disch := omega) only [go_sem, V.isAgg, V.flat, ↓reduceIte, Nat.reduceAdd, Nat.reduceSub, Nat.reduceLT, Nat.reduceEqDiff, reduceCtorEq, Nat.reduceLeDiff, Nat.reduceBEq, Nat.reduceMul, Int.reduceToNat, Int.reduceToNat, f6, f9, f10]; rfl) (by repeat' first | exact trivial | constructor) ?_
  refine Holds.step (Px := px) (T := TT) (ρ := fun _ => []) TTe (by simp (maxSteps := 100000) (disch := omega) only [go_sem, V.isAgg, V.flat, ↓reduceIte, Nat.reduceAdd, Nat.reduceSub, Nat.reduceLT, Nat.reduceEqDiff, reduceCtorEq, Nat.reduceLeDiff, Nat.reduceBEq, Nat.reduceMul, Int.reduceToNat, f11]; rfl) (by repeat' first | exact trivial | constructor) ?_
  refine Holds.step (Px := px) (T := TT) (ρ := fun _ => []) TTe (by simp (maxSteps := 100000) (disch := omega) only [go_sem, V.isAgg, V.flat, ↓reduceIte, Nat.reduceAdd, Nat.reduceSub, Nat.reduceLT, Nat.reduceEqDiff, reduceCtorEq, Nat.reduceLeDiff, Nat.reduceBEq, Nat.reduceMul, Int.reduceToNat, Int.reduceToNat, f12]; rfl) (by repeat' first | exact trivial | constructor) ?_
  refine Holds.step (Px := px) (T := TT) (ρ := fun _ => []) TTe (by simp (maxSteps := 100000) (disch := omega) only [go_sem, V.isAgg, V.flat, ↓reduceIte, Nat.reduceAdd, Nat.reduceSub, Nat.reduceLT, Nat.reduceEqDiff, reduceCtorEq, Nat.reduceLeDiff, Nat.reduceBEq, Nat.reduceMul, Int.reduceToNat, f7, f13]; rfl) (by repeat' first | exact trivial | constructor) ?_
  refine Holds.step (Px := px) (T := TT) (ρ := fun _ => []) TTe (by simp (maxSteps := 100000) (disch := omega) only [go_sem, V.isAgg, V.flat, ↓reduceIte, Nat.reduceAdd, Nat.reduceSub, Nat.reduceLT, Nat.reduceEqDiff, reduceCtorEq, Nat.reduceLeDiff, Nat.reduceBEq, Nat.reduceMul, Int.reduceToNat, Int.reduceToNat, f8, f14, f15, f16]; rfl) (by repeat' first | exact trivial | constructor) ?_
  refine Holds.step (Px := px) (T := TT) (ρ := fun _ => []) TTe (by simp (maxSteps := 100000) (disch := omega) only [go_sem, V.isAgg, V.flat, ↓reduceIte, Nat.reduceAdd, Nat.reduceSub, Nat.reduceLT, Nat.reduceEqDiff, reduceCtorEq, Nat.reduceLeDiff, Nat.reduceBEq, Nat.reduceMul, Int.reduceToNat, f17]; rfl) (by repeat' first | exact trivial | constructor) ?_
  exact Holds.ret ⟨_, [], rfl, ⟨⟨rfl, fun h => h⟩, ⟨rfl, fun h => h⟩, trivial⟩, by simp [R.names, R.mems, R.blks], by simp, rfl⟩

theorem add64N (a b c : Nat) (hc : c ≤ 1) {s t : Nat} (hs : s = (a + b + c) % 18446744073709551616) (ht : t = (a + b + c) / 18446744073709551616) : FnOk Tryz.prog 91 [.v (.int .u64 a), .v (.int .u64 b), .v (.int .u64 c)] [.v true (.int .u64 s), .v true (.int .u64 t)] := by
  have h := add64_ok a b c (by omega) (by omega) (by omega) (by omega)
  rw [show ((a : Int) + b + c) % 18446744073709551616 = (s : Int) from by omega, show ((a : Int) + b + c) / 18446744073709551616 = (t : Int) from by omega] at h
  exact h
/-
  Bits: Len64, LeadingZeros64; nat.length, nat.Len, nat.tooLong.
-/

noncomputable def lenTab : ByteArray := ((Tryz.f139.body.bind tabIn).getD ByteArray.empty)
theorem lenTab_ok : tabOk lenTab 256 8 = true := by kernel_rfl

/-- One halving. -/
def hv (b : Nat) (s : Nat × Nat) : Nat × Nat := if 2 ^ b ≤ s.1 then (s.1 / 2 ^ b, s.2 + b) else s
def len3 (x : Nat) : Nat × Nat := hv 8 (hv 16 (hv 32 (x, 0)))
noncomputable def len64 (x : Nat) : Nat := (len3 x).2 + bAt lenTab (len3 x).1

theorem shrB (a b : Nat) (hb : b < 64) : Int.fdiv (a : Int) (2 ^ min b 64) = ((a / 2 ^ b : Nat) : Int) := by
  have : min b 64 = b := Nat.min_eq_left (by omega)
  rw [this, Int.fdiv_eq_ediv_of_nonneg _ (Int.le_of_lt (Int.pow_pos (by omega))), Int.natCast_ediv, Int.natCast_pow]
  rfl

theorem len3_ok {x : Nat} (hx : x < 18446744073709551616) : (len3 x).1 < 256 ∧ (len3 x).2 ≤ 56 := by
  unfold len3
  have h1 : (hv 32 (x, 0)).1 < 4294967296 ∧ (hv 32 (x, 0)).2 ≤ 32 := by
    unfold hv; split <;> first | omega | (simp only; omega)
  generalize hv 32 (x, 0) = s at h1
  have h2 : (hv 16 s).1 < 65536 ∧ (hv 16 s).2 ≤ 48 := by
    unfold hv; split <;> first | omega | (simp only; omega)
  generalize hv 16 s = t at h2
  unfold hv; split <;> first | omega | (simp only; omega)
theorem len64_le {x : Nat} (hx : x < 18446744073709551616) : len64 x ≤ 64 := by
  obtain ⟨h1, h2⟩ := len3_ok hx
  have h3 := List.all_eq_true.1 lenTab_ok _ (List.mem_range.2 h1)
  unfold len64 bAt
  split
  · next b hb => rw [hb] at h3; have : b.toNat ≤ 8 := by simpa using h3
                 omega
  · omega

theorem len64_ok (x : Nat) (hx : x < 18446744073709551616) : FnOk Tryz.prog 139 [.v (.int .u64 x)] [.v true (.int .i64 (len64 x))] := by
  refine FnOk.of Tryz.func139 rfl rfl fun cx w0 => ?_
  rw [show Tryz.f139.ntmps = 25 from rfl]
  refine Holds.step (Px := px) (T := TT) (ρ := fun _ => []) TTe (by simp (maxSteps := 100000) (disch := omega) only [go_sem, V.isAgg, V.flat, ↓reduceIte, Nat.reduceAdd, Nat.reduceSub, Nat.reduceLT, Nat.reduceEqDiff, reduceCtorEq, Nat.reduceLeDiff, Nat.reduceBEq, Nat.reduceMul, Int.reduceToNat, List.length_cons, List.length_nil]; rfl) (by repeat' first | exact trivial | constructor) ?_
  refine Holds.next (fun σ => ∀ a w, Rel cx w0 σ a w → Rel cx w0 { nt := 25, env := [(0, .v true (.int .u64 (hv 32 (x, 0)).1)), (2, .v true (.int .i64 (hv 32 (x, 0)).2))], mem := [] } a w) ?_ ?_
  · by_cases h : 4294967296 ≤ x
    · refine Holds.step (Px := px) (T := TT) (ρ := fun _ => []) TTe (by simp (maxSteps := 100000) (disch := omega) only [go_sem, V.isAgg, V.flat, ↓reduceIte, Nat.reduceAdd, Nat.reduceSub, Nat.reduceLT, Nat.reduceEqDiff, reduceCtorEq, Nat.reduceLeDiff, Nat.reduceBEq, Nat.reduceMul, Int.reduceToNat]; rfl) (by repeat' first | exact trivial | constructor) ?_
      refine Holds.condT rfl ?_
      refine Holds.step (Px := px) (T := TT) (ρ := fun _ => []) TTe (by simp (maxSteps := 100000) (disch := omega) only [go_sem, V.isAgg, V.flat, ↓reduceIte, Nat.reduceAdd, Nat.reduceSub, Nat.reduceLT, Nat.reduceEqDiff, reduceCtorEq, Nat.reduceLeDiff, Nat.reduceBEq, Nat.reduceMul, Int.reduceToNat, Int.reduceToNat, shrB x 32 (by omega)]; rfl) (by repeat' first | exact trivial | constructor) ?_
      refine Holds.region (Px := px) (T := TT) (ρ := fun _ => []) TTe (by simp (maxSteps := 100000) (disch := omega) only [go_sem, V.isAgg, V.flat, ↓reduceIte, Nat.reduceAdd, Nat.reduceSub, Nat.reduceLT, Nat.reduceEqDiff, reduceCtorEq, Nat.reduceLeDiff, Nat.reduceBEq, Nat.reduceMul, Int.reduceToNat]; rfl) (by repeat' first | exact trivial | constructor) ?_
      intro a w hr
      rw [show hv 32 (x, 0) = (x / 2 ^ 32, 0 + 32) from by rw [hv, if_pos h]]
      exact Rel.keep [0, 2] [] hr
    · refine Holds.step (Px := px) (T := TT) (ρ := fun _ => []) TTe (by simp (maxSteps := 100000) (disch := omega) only [go_sem, V.isAgg, V.flat, ↓reduceIte, Nat.reduceAdd, Nat.reduceSub, Nat.reduceLT, Nat.reduceEqDiff, reduceCtorEq, Nat.reduceLeDiff, Nat.reduceBEq, Nat.reduceMul, Int.reduceToNat]; rfl) (by repeat' first | exact trivial | constructor) ?_
      refine Holds.condF rfl (Holds.skip fun a w hr => ?_)
      rw [show hv 32 (x, 0) = (x, 0) from by rw [hv, if_neg h]]
      exact Rel.keep [0, 2] [] hr
  · have b1 : (hv 32 (x, 0)).1 < 4294967296 ∧ (hv 32 (x, 0)).2 ≤ 32 := by
      unfold hv; split <;> first | omega | (simp only; omega)
    have b2 : ∀ s : Nat × Nat, s.1 < 4294967296 → s.2 ≤ 32 → (hv 16 s).1 < 65536 ∧ (hv 16 s).2 ≤ 48 := by
      intro s h1 h2
      unfold hv; split <;> first | omega | (simp only; omega)
    have b3 := b2 _ b1.1 b1.2
    intro σ hσ
    refine Holds.from hσ ?_
    obtain ⟨s, hs⟩ : ∃ s, s = hv 32 (x, 0) := ⟨_, rfl⟩
    have hb : s.1 < 4294967296 ∧ s.2 ≤ 32 := by rw [hs]; exact b1
    rw [← hs]
    refine Holds.next (fun σ => ∀ a w, Rel cx w0 σ a w → Rel cx w0 { nt := 25, env := [(0, .v true (.int .u64 (hv 16 s).1)), (2, .v true (.int .i64 (hv 16 s).2))], mem := [] } a w) ?_ ?_
    · by_cases h : 65536 ≤ s.1
      · refine Holds.step (Px := px) (T := TT) (ρ := fun _ => []) TTe (by simp (maxSteps := 100000) (disch := omega) only [go_sem, V.isAgg, V.flat, ↓reduceIte, Nat.reduceAdd, Nat.reduceSub, Nat.reduceLT, Nat.reduceEqDiff, reduceCtorEq, Nat.reduceLeDiff, Nat.reduceBEq, Nat.reduceMul, Int.reduceToNat]; rfl) (by repeat' first | exact trivial | constructor) ?_
        refine Holds.condT rfl ?_
        refine Holds.step (Px := px) (T := TT) (ρ := fun _ => []) TTe (by simp (maxSteps := 100000) (disch := omega) only [go_sem, V.isAgg, V.flat, ↓reduceIte, Nat.reduceAdd, Nat.reduceSub, Nat.reduceLT, Nat.reduceEqDiff, reduceCtorEq, Nat.reduceLeDiff, Nat.reduceBEq, Nat.reduceMul, Int.reduceToNat, Int.reduceToNat, shrB s.1 16 (by omega)]; rfl) (by repeat' first | exact trivial | constructor) ?_
        refine Holds.region (Px := px) (T := TT) (ρ := fun _ => []) TTe (by simp (maxSteps := 100000) (disch := omega) only [go_sem, V.isAgg, V.flat, ↓reduceIte, Nat.reduceAdd, Nat.reduceSub, Nat.reduceLT, Nat.reduceEqDiff, reduceCtorEq, Nat.reduceLeDiff, Nat.reduceBEq, Nat.reduceMul, Int.reduceToNat]; rfl) (by repeat' first | exact trivial | constructor) ?_
        intro a w hr
        rw [show hv 16 s = (s.1 / 2 ^ 16, s.2 + 16) from by rw [hv, if_pos h]]
        exact Rel.keep [0, 2] [] hr
      · refine Holds.step (Px := px) (T := TT) (ρ := fun _ => []) TTe (by simp (maxSteps := 100000) (disch := omega) only [go_sem, V.isAgg, V.flat, ↓reduceIte, Nat.reduceAdd, Nat.reduceSub, Nat.reduceLT, Nat.reduceEqDiff, reduceCtorEq, Nat.reduceLeDiff, Nat.reduceBEq, Nat.reduceMul, Int.reduceToNat]; rfl) (by repeat' first | exact trivial | constructor) ?_
        refine Holds.condF rfl (Holds.skip fun a w hr => ?_)
        rw [show hv 16 s = s from by rw [hv, if_neg h]]
        exact Rel.keep [0, 2] [] hr
    · rw [hs]
      intro σ hσ
      refine Holds.from hσ ?_
      obtain ⟨s, hs⟩ : ∃ s, s = hv 16 (hv 32 (x, 0)) := ⟨_, rfl⟩
      have hb : s.1 < 65536 ∧ s.2 ≤ 48 := by rw [hs]; exact b3
      rw [← hs]
      refine Holds.next (fun σ => ∀ a w, Rel cx w0 σ a w → Rel cx w0 { nt := 25, env := [(0, .v true (.int .u64 (hv 8 s).1)), (2, .v true (.int .i64 (hv 8 s).2))], mem := [] } a w) ?_ ?_
      · by_cases h : 256 ≤ s.1
        · refine Holds.step (Px := px) (T := TT) (ρ := fun _ => []) TTe (by simp (maxSteps := 100000) (disch := omega) only [go_sem, V.isAgg, V.flat, ↓reduceIte, Nat.reduceAdd, Nat.reduceSub, Nat.reduceLT, Nat.reduceEqDiff, reduceCtorEq, Nat.reduceLeDiff, Nat.reduceBEq, Nat.reduceMul, Int.reduceToNat]; rfl) (by repeat' first | exact trivial | constructor) ?_
          refine Holds.condT rfl ?_
          refine Holds.step (Px := px) (T := TT) (ρ := fun _ => []) TTe (by simp (maxSteps := 100000) (disch := omega) only [go_sem, V.isAgg, V.flat, ↓reduceIte, Nat.reduceAdd, Nat.reduceSub, Nat.reduceLT, Nat.reduceEqDiff, reduceCtorEq, Nat.reduceLeDiff, Nat.reduceBEq, Nat.reduceMul, Int.reduceToNat, Int.reduceToNat, shrB s.1 8 (by omega)]; rfl) (by repeat' first | exact trivial | constructor) ?_
          refine Holds.region (Px := px) (T := TT) (ρ := fun _ => []) TTe (by simp (maxSteps := 100000) (disch := omega) only [go_sem, V.isAgg, V.flat, ↓reduceIte, Nat.reduceAdd, Nat.reduceSub, Nat.reduceLT, Nat.reduceEqDiff, reduceCtorEq, Nat.reduceLeDiff, Nat.reduceBEq, Nat.reduceMul, Int.reduceToNat]; rfl) (by repeat' first | exact trivial | constructor) ?_
          intro a w hr
          rw [show hv 8 s = (s.1 / 2 ^ 8, s.2 + 8) from by rw [hv, if_pos h]]
          exact Rel.keep [0, 2] [] hr
        · refine Holds.step (Px := px) (T := TT) (ρ := fun _ => []) TTe (by simp (maxSteps := 100000) (disch := omega) only [go_sem, V.isAgg, V.flat, ↓reduceIte, Nat.reduceAdd, Nat.reduceSub, Nat.reduceLT, Nat.reduceEqDiff, reduceCtorEq, Nat.reduceLeDiff, Nat.reduceBEq, Nat.reduceMul, Int.reduceToNat]; rfl) (by repeat' first | exact trivial | constructor) ?_
          refine Holds.condF rfl (Holds.skip fun a w hr => ?_)
          rw [show hv 8 s = s from by rw [hv, if_neg h]]
          exact Rel.keep [0, 2] [] hr
      · rw [hs]
        intro σ hσ
        refine Holds.from hσ ?_
        have h3 := len3_ok hx
        obtain ⟨n, hn⟩ : ∃ n, n = len3 x := ⟨_, rfl⟩
        have e : len64 x = n.2 + bAt lenTab n.1 := by rw [hn]; rfl
        rw [← hn] at h3
        rw [e]
        rw [show hv 8 (hv 16 (hv 32 (x, 0))) = n from hn.symm]
        have hw : IntKind.u8.wrap (n.1 : Int) = n.1 := by
          unfold IntKind.wrap
          simp only [IntKind.bits, IntKind.signed, Bool.false_and, Bool.false_eq_true, if_false]
          omega
        have ikd5 : ikd Tryz.prog 5 = some .u8 := by kernel_rfl
        have ikd3 : ikd Tryz.prog 3 = some .i64 := by kernel_rfl
        have und69 : (Tryz.prog.underlying 76).isSome = true := by kernel_rfl
        have und5 : (Tryz.prog.underlying 5).isSome = true := by kernel_rfl
        have hb8 := (evalOp_tab (P := Tryz.prog) (T := TT) (ρ := fun _ => []) (σ := { nt := 1, env := [(0, .v true (.int .u8 n.1))], mem := [] }) (o := { dst := some 0, op := .index 9 (.const (.string lenTab)) (.tmp 0), type := 0, pos := "", after := #[], guard := none }) (N := 256) (m := 8) (n := n.1) (by kernel_rfl) lenTab_ok rfl rfl (Nat.le_of_ble_eq_true rfl) rfl h3.1).1
        refine Holds.seq (Holds.regionS (σ2 := { nt := 25, env := [(22, .v true (.int .u8 (bAt lenTab n.1 : Nat))), (21, .v true (.int .u8 n.1)), (20, .v true (.int .u64 n.1)), (19, .v true (.int .i64 n.2)), (0, .v true (.int .u64 n.1)), (2, .v true (.int .i64 n.2))], mem := [] }) (p2 := True) (Px := px) (T := TT) (ρ := fun _ => []) (k := 3) TTe (by simp (maxSteps := 100000) (disch := omega) only [List.take_succ_cons, List.take_zero, go_sem, V.isAgg, V.flat, ↓reduceIte, Nat.reduceAdd, Nat.reduceSub, Nat.reduceLT, Nat.reduceEqDiff, reduceCtorEq, Nat.reduceLeDiff, Nat.reduceBEq, Nat.reduceMul, Int.reduceToNat, hw, ikd5, und69]; rfl) (by repeat' constructor) rfl rfl ?h2 trivial ?h3)
        case h2 => exact evalOp_tabE (tab := lenTab) (N := 256) (m := 8) (n := n.1) (by kernel_rfl) lenTab_ok (by rfl) (by rfl) (by exact Nat.le_of_ble_eq_true rfl) (by rfl) h3.1
        case h3 =>
          refine ⟨_, _, by simp (maxSteps := 100000) (disch := omega) only [List.drop_succ_cons, List.drop_zero, go_sem, V.isAgg, V.flat, ↓reduceIte, Nat.reduceAdd, Nat.reduceSub, Nat.reduceLT, Nat.reduceEqDiff, reduceCtorEq, Nat.reduceLeDiff, Nat.reduceBEq, Nat.reduceMul, Int.reduceToNat, ikd3, und5]; rfl, by repeat' constructor, ?_⟩
          show Holds _ _ _ _ _ _ _
          exact Holds.ret (RetOk.vs rfl (by exact ⟨⟨rfl, fun h => h⟩, trivial⟩) rfl)

theorem lz64_ok (x : Nat) (hx : x < 18446744073709551616) : FnOk Tryz.prog 147 [.v (.int .u64 x)] [.v true (.int .i64 (64 - (len64 x : Int)))] := by
  have h := len64_le hx
  refine FnOk.of Tryz.func147 rfl rfl fun cx w0 => ?_
  rw [show Tryz.f147.ntmps = 6 from rfl]
  refine Holds.step (Px := px) (T := TT) (ρ := fun _ => []) TTe (by simp (maxSteps := 100000) (disch := omega) only [go_sem, V.isAgg, V.flat, ↓reduceIte, Nat.reduceAdd, Nat.reduceSub, Nat.reduceLT, Nat.reduceEqDiff, reduceCtorEq, Nat.reduceLeDiff, Nat.reduceBEq, Nat.reduceMul, Int.reduceToNat, List.length_cons, List.length_nil]; rfl) (by repeat' first | exact trivial | constructor) ?_
  refine Holds.step (Px := px) (T := TT) (ρ := fun _ => [.v true (.int .i64 (len64 x))]) TTe (by simp (maxSteps := 100000) (disch := omega) only [go_sem, V.isAgg, V.flat, ↓reduceIte, Nat.reduceAdd, Nat.reduceSub, Nat.reduceLT, Nat.reduceEqDiff, reduceCtorEq, Nat.reduceLeDiff, Nat.reduceBEq, Nat.reduceMul, Int.reduceToNat]; rfl) (by first | exact len64_ok x hx | (repeat' first | exact trivial | exact len64_ok x hx | constructor)) ?_
  exact Holds.ret (RetOk.vs rfl (by exact ⟨⟨rfl, fun h => h⟩, trivial⟩) rfl)

/-- The length in bits of a number without zeros at its end. -/
noncomputable def lenB (l : List Int) : Int := if l = [] then 0 else 64 * l.length - (64 - len64 (l.getD (l.length - 1) 0).toNat)
theorem lenB_le {l : List Int} (ol : okW l) : 0 ≤ lenB l ∧ lenB l ≤ 64 * l.length := by
  unfold lenB
  split
  · omega
  · next h =>
    have h1 := okW_getD ol (l.length - 1)
    have h2 := len64_le (x := (l.getD (l.length - 1) 0).toNat) (by omega)
    have h3 : 0 < l.length := List.length_pos_iff.2 h
    omega

/-- The length in bits. -/
noncomputable def lenN (l : List Int) : Int := lenB (trimL l)
/-
  bits.Div64.
-/

theorem hv_inv {x b : Nat} {s : Nat × Nat} (h : s.1 = x / 2 ^ s.2) (h0 : 0 < s.1) : (hv b s).1 = x / 2 ^ (hv b s).2 ∧ 0 < (hv b s).1 := by
  unfold hv
  split
  · next hb =>
    refine ⟨?_, Nat.div_pos hb (Nat.pow_pos (by decide))⟩
    simp only
    rw [h, Nat.div_div_eq_div_mul, ← Nat.pow_add]
  · exact ⟨h, h0⟩
noncomputable def lenTabOk : Bool := (List.range 256).all fun n => n == 0 || decide (2 ^ (bAt lenTab n - 1) ≤ n ∧ n < 2 ^ bAt lenTab n ∧ 0 < bAt lenTab n)
theorem lenTabOk_ok : lenTabOk = true := by kernel_rfl
theorem len64_spec {x : Nat} (hx : x < 18446744073709551616) (h0 : 0 < x) : 0 < len64 x ∧ 2 ^ (len64 x - 1) ≤ x ∧ x < 2 ^ len64 x := by
  obtain ⟨h1, h2⟩ := len3_ok hx
  obtain ⟨a1, a2⟩ := hv_inv (b := 32) (s := (x, 0)) (x := x) (by simp) h0
  obtain ⟨b1, b2⟩ := hv_inv (b := 16) a1 a2
  obtain ⟨c1, c2⟩ := hv_inv (b := 8) b1 b2
  have e : len64 x = (len3 x).2 + bAt lenTab (len3 x).1 := rfl
  rw [show hv 8 (hv 16 (hv 32 (x, 0))) = len3 x from rfl] at c1 c2
  rw [e]
  obtain ⟨n, hn⟩ : ∃ n, n = (len3 x).1 := ⟨_, rfl⟩
  obtain ⟨k, hk⟩ : ∃ k, k = (len3 x).2 := ⟨_, rfl⟩
  rw [← hn] at h1 c1 c2 ⊢
  rw [← hk] at c1 ⊢
  have h3 := List.all_eq_true.1 lenTabOk_ok _ (List.mem_range.2 h1)
  have hn0 : n ≠ 0 := by omega
  simp only [Bool.or_eq_true, beq_iff_eq, hn0, false_or, decide_eq_true_eq] at h3
  obtain ⟨h4, h5, h6⟩ := h3
  obtain ⟨b, hb⟩ : ∃ b, b = bAt lenTab n := ⟨_, rfl⟩
  rw [← hb] at h4 h5 h6 ⊢
  refine ⟨by omega, ?_, ?_⟩
  · have : 2 ^ (b - 1) * 2 ^ k ≤ n * 2 ^ k := Nat.mul_le_mul_right _ h4
    rw [← Nat.pow_add, show b - 1 + k = k + b - 1 from by omega] at this
    have h7 : n * 2 ^ k ≤ x := by rw [c1]; exact Nat.div_mul_le_self _ _
    omega
  · have h7 : x < 2 ^ k * (n + 1) := by rw [c1]; exact Nat.lt_mul_div_succ _ (Nat.pow_pos (by decide))
    have h8 : 2 ^ k * (n + 1) ≤ 2 ^ k * 2 ^ b := Nat.mul_le_mul_left _ h5
    rw [← Nat.pow_add] at h8
    omega
/-- Moved up, the highest bit is 1. -/
theorem norm64 {y : Nat} (hy : y < 18446744073709551616) (h0 : 0 < y) : ∃ s : Nat, s < 64 ∧ (64 - (len64 y : Int)) = (s : Int) ∧ 9223372036854775808 ≤ y * 2 ^ s ∧ y * 2 ^ s < 18446744073709551616 := by
  obtain ⟨h1, h2, h3⟩ := len64_spec hy h0
  have h4 := len64_le hy
  obtain ⟨n, hn⟩ : ∃ n, n = len64 y := ⟨_, rfl⟩
  rw [← hn] at h1 h2 h3 h4 ⊢
  refine ⟨64 - n, by omega, by omega, ?_, ?_⟩
  · have : 2 ^ (n - 1) * 2 ^ (64 - n) ≤ y * 2 ^ (64 - n) := Nat.mul_le_mul_right _ h2
    rw [← Nat.pow_add, show n - 1 + (64 - n) = 63 from by omega] at this
    exact this
  · have : y * 2 ^ (64 - n) < 2 ^ n * 2 ^ (64 - n) := Nat.mul_lt_mul_of_pos_right h3 (Nat.pow_pos (by decide))
    rw [← Nat.pow_add, show n + (64 - n) = 64 from by omega] at this
    exact this

theorem orN (a v s : Nat) (hv : v < 2 ^ s) (h : a * 2 ^ s + v < 18446744073709551616) : bitI .or .u64 ((a * 2 ^ s : Nat) : Int) (v : Int) = ((a * 2 ^ s + v : Nat) : Int) := by
  unfold bitI
  simp only
  have h1 : (BitVec.ofInt IntKind.u64.bits ((a * 2 ^ s : Nat) : Int) ||| BitVec.ofInt IntKind.u64.bits (v : Int)).toNat = a * 2 ^ s + v := by
    rw [BitVec.toNat_or, BitVec.toNat_ofInt, BitVec.toNat_ofInt]
    have e1 : (((a * 2 ^ s : Nat) : Int) % ((2 ^ IntKind.u64.bits : Nat) : Int)).toNat = a * 2 ^ s := by
      show (((a * 2 ^ s : Nat) : Int) % 18446744073709551616).toNat = _
      omega
    have e2 : ((v : Int) % ((2 ^ IntKind.u64.bits : Nat) : Int)).toNat = v := by
      show ((v : Int) % 18446744073709551616).toNat = _
      omega
    rw [e1, e2, Nat.mul_comm, Nat.two_pow_add_eq_or_of_lt hv]
  rw [h1]
  exact wrapN _ h

theorem shlN (a s : Nat) (hs : s < 64) : IntKind.u64.wrap ((a : Int) * 2 ^ min s 64) = ((a * 2 ^ s % 18446744073709551616 : Nat) : Int) := by
  have : min s 64 = s := Nat.min_eq_left (by omega)
  rw [this, show ((a : Int) * 2 ^ s) = ((a * 2 ^ s : Nat) : Int) from by rw [Int.natCast_mul, Int.natCast_pow]; rfl]
  exact wrapM _
theorem shrG (a s : Nat) (hs : s ≤ 64) : Int.fdiv (a : Int) (2 ^ min s 64) = ((a / 2 ^ s : Nat) : Int) := by
  have : min s 64 = s := Nat.min_eq_left (by omega)
  rw [this, Int.fdiv_eq_ediv_of_nonneg _ (Int.le_of_lt (Int.pow_pos (by omega))), Int.natCast_ediv, Int.natCast_pow]
  rfl
theorem quoN (a b : Nat) : (a : Int).tdiv (b : Int) = ((a / b : Nat) : Int) := by
  rw [Int.tdiv_eq_ediv_of_nonneg (Int.natCast_nonneg a), Int.natCast_ediv]
theorem remN (a b : Nat) : (a : Int).tmod (b : Int) = ((a % b : Nat) : Int) := by
  rw [Int.tmod_eq_emod_of_nonneg (Int.natCast_nonneg a), Int.natCast_emod]

/-- A digit's guess is too great just when its product is. -/
theorem guess_iff {U u Y1 Y0 q r : Nat} (h : q * Y1 + r = U) : r * 4294967296 + u < q * Y0 ↔ U * 4294967296 + u < q * (Y1 * 4294967296 + Y0) := by
  have : q * (Y1 * 4294967296 + Y0) = q * Y1 * 4294967296 + q * Y0 := by rw [Nat.mul_add, Nat.mul_assoc]
  rw [this, ← h, Nat.add_mul]
  omega
theorem div_is {T Y q Q : Nat} (hY : 0 < Y) (hQ : Q = T / Y) (h1 : Q ≤ q) (h2 : q * Y ≤ T) : q = Q := by
  have : q ≤ T / Y := (Nat.le_div_iff_mul_le hY).2 h2
  omega
theorem guess_first {U u Y1 Y0 : Nat} (hY1 : 0 < Y1) : (U * 4294967296 + u) / (Y1 * 4294967296 + Y0) ≤ (U * 4294967296 + u) / (Y1 * 4294967296) :=
  Nat.div_le_div_left (by omega) (by omega)
/-
  bits.Div64: the walk.
-/

theorem blockQ_other {id id' : Nat} {Q : Exit → St → Prop} {σ : St} (hn : id' ≠ id) (h : Q (.exit id') σ) : blockQ id Q (.exit id') σ := by
  unfold blockQ
  simp only [hn, if_false]
  exact h

/-- One digit: what holds of a guess q with its rest r, and what a guess that is too great becomes. -/
theorem digit_less {U u Y1 Y0 q r Q : Nat} (hu : u < 4294967296) (hQ : Q = (U * 4294967296 + u) / (Y1 * 4294967296 + Y0)) (hQB : Q < 4294967296) (hY : 0 < Y1 * 4294967296 + Y0) (h : q * Y1 + r = U)
    (hc : 4294967296 ≤ q ∨ r * 4294967296 + u < q * Y0) : Q < q ∧ (q - 1) * Y1 + (r + Y1) = U := by
  have h1 : Q < q := by
    rcases hc with hc | hc
    · omega
    · rw [hQ]
      exact (Nat.div_lt_iff_lt_mul hY).2 ((guess_iff h).1 hc)
  refine ⟨h1, ?_⟩
  obtain ⟨p, rfl⟩ : ∃ p, q = p + 1 := ⟨q - 1, by omega⟩
  rw [Nat.add_mul, Nat.one_mul] at h
  rw [Nat.add_sub_cancel]
  omega
theorem digit_done {U u Y1 Y0 q r Q : Nat} (hQ : Q = (U * 4294967296 + u) / (Y1 * 4294967296 + Y0)) (hY : 0 < Y1 * 4294967296 + Y0) (h : q * Y1 + r = U) (h1 : Q ≤ q)
    (hc : q * Y0 ≤ r * 4294967296 + u) : q = Q :=
  div_is hY hQ h1 (by
    have := mt (guess_iff (u := u) (Y0 := Y0) h).2 (by omega)
    omega)
theorem digit_first {U u Y1 Y0 : Nat} (hu : u < 4294967296) (hY1 : 2147483648 ≤ Y1) (hY0 : Y0 < 4294967296) (hU : U < Y1 * 4294967296 + Y0) :
    (U * 4294967296 + u) / (Y1 * 4294967296 + Y0) ≤ U / Y1 ∧ U / Y1 ≤ 4294967297 ∧ (U * 4294967296 + u) / (Y1 * 4294967296 + Y0) < 4294967296 := by
  refine ⟨?_, ?_, ?_⟩
  · refine Nat.le_trans (guess_first (by omega)) ?_
    have e1 := Nat.div_div_eq_div_mul (U * 4294967296 + u) 4294967296 Y1
    have e2 : (U * 4294967296 + u) / 4294967296 = U := by omega
    rw [e2, Nat.mul_comm 4294967296 Y1] at e1
    exact Nat.le_of_eq e1.symm
  · have e : U < 4294967298 * Y1 := by
      rw [show 4294967298 = 4294967296 + 2 from rfl, Nat.add_mul, Nat.mul_comm 4294967296 Y1]
      omega
    exact Nat.le_of_lt_succ ((Nat.div_lt_iff_lt_mul (by omega)).2 e)
  · refine (Nat.div_lt_iff_lt_mul (by omega)).2 ?_
    rw [Nat.mul_comm 4294967296]
    have : (U + 1) * 4294967296 ≤ (Y1 * 4294967296 + Y0) * 4294967296 := Nat.mul_le_mul_right _ hU
    rw [Nat.add_mul] at this
    omega
theorem mul_small {q Y0 : Nat} (hq : q ≤ 4294967296) (hY0 : Y0 < 4294967296) : q * Y0 ≤ 4294967296 * 4294967295 := Nat.mul_le_mul hq (by omega)

theorem div_lin {B G L1 Lo u1 u0 U P W P2 Rm : Nat} (hU : U = G + L1) (hu : Lo = u1 * B + u0) (e1 : U * B + u1 = P + W) (e2 : W * B + u0 = P2 + Rm) :
    G * (B * B) + (L1 * (B * B) + Lo) = P * B + P2 + Rm := by
  subst hU hu
  have h : ((G + L1) * B + u1) * B = (P + W) * B := by rw [e1]
  simp only [Nat.add_mul, Nat.mul_assoc] at h
  omega

theorem div_whole {hi lo y s Y Q Q2 W Rm U L1 Lo u1 u0 P P2 : Nat} (hy : 0 < y) (hY : Y = y * 2 ^ s) (hU : U = hi * 2 ^ s + L1) (elo : lo * 2 ^ s = L1 * 18446744073709551616 + Lo) (hu : Lo = u1 * 4294967296 + u0)
    (hP : P = Q * Y) (e1 : U * 4294967296 + u1 = P + W) (hP2 : P2 = Q2 * Y) (e2 : W * 4294967296 + u0 = P2 + Rm) (bR : Rm < Y) :
    (hi * 18446744073709551616 + lo) / y = Q * 4294967296 + Q2 ∧ Rm = (hi * 18446744073709551616 + lo) % y * 2 ^ s := by
  have pw : 0 < 2 ^ s := Nat.pow_pos (by decide)
  have key : (hi * 18446744073709551616 + lo) * 2 ^ s = (Q * 4294967296 + Q2) * Y + Rm := by
    have a0 : hi * 18446744073709551616 * 2 ^ s = (hi * 2 ^ s) * 18446744073709551616 := Nat.mul_right_comm _ _ _
    have a2 : Q * 4294967296 * Y = P * 4294967296 := by rw [hP]; exact Nat.mul_right_comm _ _ _
    rw [Nat.add_mul, Nat.add_mul, elo, a0, a2, ← hP2]
    exact div_lin hU hu e1 e2
  obtain ⟨Nn, hN⟩ : ∃ Nn, Nn = hi * 18446744073709551616 + lo := ⟨_, rfl⟩
  obtain ⟨K, hK⟩ : ∃ K, K = Q * 4294967296 + Q2 := ⟨_, rfl⟩
  rw [← hN, ← hK] at key ⊢
  clear hP e1 hP2 e2 hU elo hu
  rw [hY, ← Nat.mul_assoc] at key
  have l1 : K * y * 2 ^ s ≤ Nn * 2 ^ s := by omega
  have l2 := Nat.le_of_mul_le_mul_right l1 pw
  obtain ⟨t, ht⟩ : ∃ t, Nn = K * y + t := ⟨Nn - K * y, by omega⟩
  rw [ht, Nat.add_mul] at key
  have l3 : Rm = t * 2 ^ s := by omega
  have l4 : t < y := Nat.lt_of_mul_lt_mul_right (a := 2 ^ s) (by rw [← l3, ← hY]; exact bR)
  have l6 : Nn / y = K := by
    rw [ht, Nat.mul_comm K y, Nat.mul_add_div (by omega), Nat.div_eq_of_lt l4, Nat.add_zero]
  have l7 : Nn % y = t := by
    have h7 := Nat.div_add_mod Nn y
    rw [l6, Nat.mul_comm] at h7
    omega
  exact ⟨l6, by rw [l7]; exact l3⟩

set_option maxHeartbeats 2000000 in
theorem div64_ok (hi lo y : Nat) (hlo : lo < 18446744073709551616) (hy : y < 18446744073709551616) (hhi : hi < y) :
    FnOk Tryz.prog 179 [.v (.int .u64 hi), .v (.int .u64 lo), .v (.int .u64 y)] [.v true (.int .u64 (((hi * 18446744073709551616 + lo) / y : Nat) : Int)), .v true (.int .u64 (((hi * 18446744073709551616 + lo) % y : Nat) : Int))] := by
  have y0 : ¬ (y : Int) = 0 := by omega
  by_cases h0 : hi = 0
  · subst h0
    have hq := quoN lo y
    have hr := remN lo y
    rw [Nat.zero_mul, Nat.zero_add]
    have hdl : lo / y ≤ lo := Nat.div_le_self _ _
    have hw := wrapN (lo / y) (by omega)
    refine FnOk.of Tryz.func179 rfl rfl fun cx w0 => ?_
    rw [show Tryz.f179.ntmps = 135 from rfl]
    refine Holds.step (Px := px) (T := TT) (ρ := fun _ => []) TTe (by simp (maxSteps := 100000) (disch := omega) only [go_sem, V.isAgg, V.flat, ↓reduceIte, Nat.reduceAdd, Nat.reduceSub, Nat.reduceLT, Nat.reduceEqDiff, reduceCtorEq, Nat.reduceLeDiff, Nat.reduceBEq, Nat.reduceMul, Int.reduceToNat, List.length_cons, List.length_nil]; rfl) (by repeat' first | exact trivial | constructor) ?_
    refine Holds.next (fun σ => ∀ a w, Rel cx w0 σ a w → Rel cx w0 { nt := 135, env := [(0, .v true (.int .u64 0)), (1, .v true (.int .u64 lo)), (2, .v true (.int .u64 y))], mem := [] } a w) ?_ ?_
    · refine Holds.step (Px := px) (T := TT) (ρ := fun _ => []) TTe (by simp (maxSteps := 100000) (disch := omega) only [go_sem, V.isAgg, V.flat, ↓reduceIte, Nat.reduceAdd, Nat.reduceSub, Nat.reduceLT, Nat.reduceEqDiff, reduceCtorEq, Nat.reduceLeDiff, Nat.reduceBEq, Nat.reduceMul, Int.reduceToNat, y0]; rfl) (by repeat' first | exact trivial | constructor) ?_
      exact Holds.condF rfl (Holds.skip fun a w h => Rel.keep [0, 1, 2] [] h)
    · intro σ hσ
      refine Holds.from hσ ?_
      refine Holds.next (fun σ => ∀ a w, Rel cx w0 σ a w → Rel cx w0 { nt := 135, env := [(0, .v true (.int .u64 0)), (1, .v true (.int .u64 lo)), (2, .v true (.int .u64 y))], mem := [] } a w) ?_ ?_
      · refine Holds.step (Px := px) (T := TT) (ρ := fun _ => []) TTe (by simp (maxSteps := 100000) (disch := omega) only [go_sem, V.isAgg, V.flat, ↓reduceIte, Nat.reduceAdd, Nat.reduceSub, Nat.reduceLT, Nat.reduceEqDiff, reduceCtorEq, Nat.reduceLeDiff, Nat.reduceBEq, Nat.reduceMul, Int.reduceToNat]; rfl) (by repeat' first | exact trivial | constructor) ?_
        exact Holds.condF rfl (Holds.skip fun a w h => Rel.keep [0, 1, 2] [] h)
      · intro σ hσ
        refine Holds.from hσ ?_
        refine Holds.seq ?_
        refine Holds.step (Px := px) (T := TT) (ρ := fun _ => []) TTe (by simp (maxSteps := 100000) (disch := omega) only [go_sem, V.isAgg, V.flat, ↓reduceIte, Nat.reduceAdd, Nat.reduceSub, Nat.reduceLT, Nat.reduceEqDiff, reduceCtorEq, Nat.reduceLeDiff, Nat.reduceBEq, Nat.reduceMul, Int.reduceToNat]; rfl) (by repeat' first | exact trivial | constructor) ?_
        refine Holds.condT rfl ?_
        refine Holds.dstep (Px := px) (T := TT) (ρ := fun _ => []) [] mixed (by kernel_rfl) TTe (by simp (maxSteps := 100000) (disch := omega) only [go_sem, V.isAgg, V.flat, ↓reduceIte, Nat.reduceAdd, Nat.reduceSub, Nat.reduceLT, Nat.reduceEqDiff, reduceCtorEq, Nat.reduceLeDiff, Nat.reduceBEq, Nat.reduceMul, Int.reduceToNat, y0, hq, hr, hw]; rfl) (by repeat' first | exact trivial | constructor) (by rfl) (by rfl) (by rfl) ?_
        exact Holds.ret (RetOk.vs rfl (by exact ⟨⟨rfl, fun h => h⟩, ⟨rfl, fun h => h⟩, trivial⟩) rfl)
  · have h0' : ¬ (hi : Int) = 0 := by omega
    obtain ⟨s, hs, es, hY63, hY64⟩ := norm64 hy (by omega)
    have hlz := lz64_ok y hy
    rw [es] at hlz
    obtain ⟨Y, hY⟩ : ∃ Y, Y = y * 2 ^ s := ⟨_, rfl⟩
    rw [← hY] at hY63 hY64
    obtain ⟨Y1, hY1⟩ : ∃ a, a = Y / 4294967296 := ⟨_, rfl⟩
    obtain ⟨Y0, hY0⟩ : ∃ a, a = Y % 4294967296 := ⟨_, rfl⟩
    have eY : Y = Y1 * 4294967296 + Y0 := by omega
    have pw : 0 < 2 ^ s := Nat.pow_pos (by decide)
    have pw2 : 2 ^ (64 - s) * 2 ^ s = 18446744073709551616 := by rw [← Nat.pow_add, show 64 - s + s = 64 from by omega]
    have b1 : hi * 2 ^ s + 2 ^ s ≤ Y := by
      rw [hY]
      have : (hi + 1) * 2 ^ s ≤ y * 2 ^ s := Nat.mul_le_mul_right _ hhi
      rw [Nat.add_mul, Nat.one_mul] at this
      exact this
    obtain ⟨L1, hL1⟩ : ∃ a, a = lo / 2 ^ (64 - s) := ⟨_, rfl⟩
    have bL1 : L1 < 2 ^ s := by
      rw [hL1]
      exact (Nat.div_lt_iff_lt_mul (Nat.pow_pos (by decide))).2 (by rw [Nat.mul_comm, pw2]; exact hlo)
    obtain ⟨U, hU⟩ : ∃ a, a = hi * 2 ^ s + L1 := ⟨_, rfl⟩
    obtain ⟨Lo, hLo⟩ : ∃ a, a = lo * 2 ^ s % 18446744073709551616 := ⟨_, rfl⟩
    obtain ⟨u1, hu1⟩ : ∃ a, a = Lo / 4294967296 := ⟨_, rfl⟩
    obtain ⟨u0, hu0⟩ : ∃ a, a = Lo % 4294967296 := ⟨_, rfl⟩
    have bU : U < Y := by omega
    have bLo : Lo < 18446744073709551616 := by rw [hLo]; exact Nat.mod_lt _ (by decide)
    have elo : lo * 2 ^ s = L1 * 18446744073709551616 + Lo := by
      rw [hLo, hL1, ← pw2, Nat.mul_comm (2 ^ (64 - s)) (2 ^ s)]
      have h1 := Nat.mod_add_div (lo * 2 ^ s) (2 ^ s * 2 ^ (64 - s))
      rw [show lo * 2 ^ s / (2 ^ s * 2 ^ (64 - s)) = lo / 2 ^ (64 - s) from by rw [Nat.mul_comm lo, Nat.mul_div_mul_left _ _ pw]] at h1
      rw [Nat.mul_comm (lo / 2 ^ (64 - s)), Nat.add_comm]
      exact h1.symm
    have bY1 : 2147483648 ≤ Y1 ∧ Y1 < 4294967296 := by omega
    have bY0 : Y0 < 4294967296 := by omega
    have bu1 : u1 < 4294967296 := by omega
    have bu0 : u0 < 4294967296 := by omega
    have eLo : Lo = u1 * 4294967296 + u0 := by omega
    have w1 := shlN y s hs
    rw [← hY, Nat.mod_eq_of_lt hY64] at w1
    have w2 := shrG Y 32 (by decide)
    rw [show Y / 2 ^ 32 = Y1 from by omega] at w2
    have w3 := maskN Y hY64
    rw [← hY0] at w3
    have w4 := shlN hi s hs
    rw [Nat.mod_eq_of_lt (show hi * 2 ^ s < 18446744073709551616 by omega)] at w4
    have w5 : IntKind.u64.wrap ((64 : Int) - (s : Int)) = ((64 - s : Nat) : Int) := by rw [wrap_u64]; omega
    have w6 := shrG lo (64 - s) (by omega)
    rw [← hL1] at w6
    have w7 := orN hi L1 s bL1 (by omega)
    rw [← hU] at w7
    have w8 := shlN lo s hs
    rw [← hLo] at w8
    have w9 := shrG Lo 32 (by decide)
    rw [show Lo / 2 ^ 32 = u1 from by omega] at w9
    have w10 := maskN Lo bLo
    rw [← hu0] at w10
    have Y1n : ¬ (Y1 : Int) = 0 := by omega
    have w11 := quoN U Y1
    have bq1 := digit_first (U := U) (u := u1) (Y1 := Y1) (Y0 := Y0) (by omega) (by omega) (by omega) (by omega)
    have eq1 : U / Y1 * Y1 + U % Y1 = U := by rw [Nat.mul_comm]; exact Nat.div_add_mod U Y1
    have br1 : U % Y1 < Y1 := Nat.mod_lt _ (by omega)
    obtain ⟨q, hq⟩ : ∃ a, a = U / Y1 := ⟨_, rfl⟩
    obtain ⟨r, hr⟩ : ∃ a, a = U % Y1 := ⟨_, rfl⟩
    rw [← hq] at w11 bq1 eq1
    rw [← hr] at eq1 br1
    obtain ⟨Q, hQ⟩ : ∃ a, a = (U * 4294967296 + u1) / (Y1 * 4294967296 + Y0) := ⟨_, rfl⟩
    rw [← hQ] at bq1
    have w12 := wrapN q (by omega)
    have w13 := mulN q Y1
    have w14 := wrapN (q * Y1) (by omega)
    have w15 : IntKind.u64.wrap ((U : Int) - ((q * Y1 : Nat) : Int)) = (r : Int) := by rw [wrap_u64]; omega
    refine FnOk.of Tryz.func179 rfl rfl fun cx w0 => ?_
    rw [show Tryz.f179.ntmps = 135 from rfl]
    refine Holds.step (Px := px) (T := TT) (ρ := fun _ => []) TTe (by simp (maxSteps := 100000) (disch := omega) only [go_sem, V.isAgg, V.flat, ↓reduceIte, Nat.reduceAdd, Nat.reduceSub, Nat.reduceLT, Nat.reduceEqDiff, reduceCtorEq, Nat.reduceLeDiff, Nat.reduceBEq, Nat.reduceMul, Int.reduceToNat, List.length_cons, List.length_nil]; rfl) (by repeat' first | exact trivial | constructor) ?_
    refine Holds.next (fun σ => ∀ a w, Rel cx w0 σ a w → Rel cx w0 { nt := 135, env := [(0, .v true (.int .u64 hi)), (1, .v true (.int .u64 lo)), (2, .v true (.int .u64 y))], mem := [] } a w) ?_ ?_
    · refine Holds.step (Px := px) (T := TT) (ρ := fun _ => []) TTe (by simp (maxSteps := 100000) (disch := omega) only [go_sem, V.isAgg, V.flat, ↓reduceIte, Nat.reduceAdd, Nat.reduceSub, Nat.reduceLT, Nat.reduceEqDiff, reduceCtorEq, Nat.reduceLeDiff, Nat.reduceBEq, Nat.reduceMul, Int.reduceToNat, y0]; rfl) (by repeat' first | exact trivial | constructor) ?_
      exact Holds.condF rfl (Holds.skip fun a w h => Rel.keep [0, 1, 2] [] h)
    · intro σ hσ
      refine Holds.from hσ ?_
      refine Holds.next (fun σ => ∀ a w, Rel cx w0 σ a w → Rel cx w0 { nt := 135, env := [(0, .v true (.int .u64 hi)), (1, .v true (.int .u64 lo)), (2, .v true (.int .u64 y))], mem := [] } a w) ?_ ?_
      · refine Holds.step (Px := px) (T := TT) (ρ := fun _ => []) TTe (by simp (maxSteps := 100000) (disch := omega) only [go_sem, V.isAgg, V.flat, ↓reduceIte, Nat.reduceAdd, Nat.reduceSub, Nat.reduceLT, Nat.reduceEqDiff, reduceCtorEq, Nat.reduceLeDiff, Nat.reduceBEq, Nat.reduceMul, Int.reduceToNat]; rfl) (by repeat' first | exact trivial | constructor) ?_
        exact Holds.condF rfl (Holds.skip fun a w h => Rel.keep [0, 1, 2] [] h)
      · intro σ hσ
        refine Holds.from hσ ?_
        refine Holds.next (fun σ => ∀ a w, Rel cx w0 σ a w → Rel cx w0 { nt := 135, env := [(0, .v true (.int .u64 hi)), (1, .v true (.int .u64 lo)), (2, .v true (.int .u64 y))], mem := [] } a w) ?_ ?_
        · refine Holds.step (Px := px) (T := TT) (ρ := fun _ => []) TTe (by simp (maxSteps := 100000) (disch := omega) only [go_sem, V.isAgg, V.flat, ↓reduceIte, Nat.reduceAdd, Nat.reduceSub, Nat.reduceLT, Nat.reduceEqDiff, reduceCtorEq, Nat.reduceLeDiff, Nat.reduceBEq, Nat.reduceMul, Int.reduceToNat, h0']; rfl) (by repeat' first | exact trivial | constructor) ?_
          exact Holds.condF rfl (Holds.skip fun a w h => Rel.keep [0, 1, 2] [] h)
        · intro σ hσ
          refine Holds.from hσ ?_
          have ikd31 : ikd Tryz.prog 213 = some .u64 := by kernel_rfl
          have ikd3 : ikd Tryz.prog 3 = some .i64 := by kernel_rfl
          have und3 : (Tryz.prog.underlying 3).isSome = true := by kernel_rfl
          have und31 : (Tryz.prog.underlying 213).isSome = true := by kernel_rfl
          have ws := wrapN s (by omega)
          refine Holds.step (Px := px) (T := TT) (ρ := fun _ => [.v true (.int .i64 s)]) TTe (by simp (maxSteps := 100000) (disch := omega) only [go_sem, V.isAgg, V.flat, ↓reduceIte, Nat.reduceAdd, Nat.reduceSub, Nat.reduceLT, Nat.reduceEqDiff, reduceCtorEq, Nat.reduceLeDiff, Nat.reduceBEq, Nat.reduceMul, Int.reduceToNat, ikd31, ikd3, und3, und31, ws]; rfl) (by first | exact hlz | (repeat' first | exact trivial | exact hlz | constructor)) ?_
          refine Holds.step (Px := px) (T := TT) (ρ := fun _ => []) TTe (by simp (maxSteps := 100000) (disch := omega) only [go_sem, V.isAgg, V.flat, ↓reduceIte, Nat.reduceAdd, Nat.reduceSub, Nat.reduceLT, Nat.reduceEqDiff, reduceCtorEq, Nat.reduceLeDiff, Nat.reduceBEq, Nat.reduceMul, Int.reduceToNat, w1]; rfl) (by repeat' first | exact trivial | constructor) ?_
          refine Holds.step (Px := px) (T := TT) (ρ := fun _ => []) TTe (by simp (maxSteps := 100000) (disch := omega) only [go_sem, V.isAgg, V.flat, ↓reduceIte, Nat.reduceAdd, Nat.reduceSub, Nat.reduceLT, Nat.reduceEqDiff, reduceCtorEq, Nat.reduceLeDiff, Nat.reduceBEq, Nat.reduceMul, Int.reduceToNat, w2]; rfl) (by repeat' first | exact trivial | constructor) ?_
          refine Holds.step (Px := px) (T := TT) (ρ := fun _ => []) TTe (by simp (maxSteps := 100000) (disch := omega) only [go_sem, V.isAgg, V.flat, ↓reduceIte, Nat.reduceAdd, Nat.reduceSub, Nat.reduceLT, Nat.reduceEqDiff, reduceCtorEq, Nat.reduceLeDiff, Nat.reduceBEq, Nat.reduceMul, Int.reduceToNat, w3]; rfl) (by repeat' first | exact trivial | constructor) ?_
          refine Holds.step (Px := px) (T := TT) (ρ := fun _ => []) TTe (by simp (maxSteps := 100000) (disch := omega) only [go_sem, V.isAgg, V.flat, ↓reduceIte, Nat.reduceAdd, Nat.reduceSub, Nat.reduceLT, Nat.reduceEqDiff, reduceCtorEq, Nat.reduceLeDiff, Nat.reduceBEq, Nat.reduceMul, Int.reduceToNat, w4, w5, w6, w7]; rfl) (by repeat' first | exact trivial | constructor) ?_
          refine Holds.step (Px := px) (T := TT) (ρ := fun _ => []) TTe (by simp (maxSteps := 100000) (disch := omega) only [go_sem, V.isAgg, V.flat, ↓reduceIte, Nat.reduceAdd, Nat.reduceSub, Nat.reduceLT, Nat.reduceEqDiff, reduceCtorEq, Nat.reduceLeDiff, Nat.reduceBEq, Nat.reduceMul, Int.reduceToNat, w8]; rfl) (by repeat' first | exact trivial | constructor) ?_
          refine Holds.step (Px := px) (T := TT) (ρ := fun _ => []) TTe (by simp (maxSteps := 100000) (disch := omega) only [go_sem, V.isAgg, V.flat, ↓reduceIte, Nat.reduceAdd, Nat.reduceSub, Nat.reduceLT, Nat.reduceEqDiff, reduceCtorEq, Nat.reduceLeDiff, Nat.reduceBEq, Nat.reduceMul, Int.reduceToNat, w9]; rfl) (by repeat' first | exact trivial | constructor) ?_
          refine Holds.step (Px := px) (T := TT) (ρ := fun _ => []) TTe (by simp (maxSteps := 100000) (disch := omega) only [go_sem, V.isAgg, V.flat, ↓reduceIte, Nat.reduceAdd, Nat.reduceSub, Nat.reduceLT, Nat.reduceEqDiff, reduceCtorEq, Nat.reduceLeDiff, Nat.reduceBEq, Nat.reduceMul, Int.reduceToNat, w10]; rfl) (by repeat' first | exact trivial | constructor) ?_
          refine Holds.step (Px := px) (T := TT) (ρ := fun _ => []) TTe (by simp (maxSteps := 100000) (disch := omega) only [go_sem, V.isAgg, V.flat, ↓reduceIte, Nat.reduceAdd, Nat.reduceSub, Nat.reduceLT, Nat.reduceEqDiff, reduceCtorEq, Nat.reduceLeDiff, Nat.reduceBEq, Nat.reduceMul, Int.reduceToNat, Y1n, w11, w12]; rfl) (by repeat' first | exact trivial | constructor) ?_
          refine Holds.step (Px := px) (T := TT) (ρ := fun _ => []) TTe (by simp (maxSteps := 100000) (disch := omega) only [go_sem, V.isAgg, V.flat, ↓reduceIte, Nat.reduceAdd, Nat.reduceSub, Nat.reduceLT, Nat.reduceEqDiff, reduceCtorEq, Nat.reduceLeDiff, Nat.reduceBEq, Nat.reduceMul, Int.reduceToNat, w13, w14, w15]; rfl) (by repeat' first | exact trivial | constructor) ?_
          refine Holds.next (fun σ => ∀ a w, Rel cx w0 σ a w → Rel cx w0 { nt := 135, env := [(15, .v true (.int .u64 Q)), (9, .v true (.int .u64 Y1)), (10, .v true (.int .u64 Y0)), (13, .v true (.int .u64 u1)), (14, .v true (.int .u64 u0)), (11, .v true (.int .u64 U)), (2, .v true (.int .u64 Y)), (8, .v true (.int .u64 s))], mem := [] } a w) ?_ ?_
          · clear w1 w2 w3 w4 w5 w6 w7 w8 w9 w10 w11 w12 w13 w14 w15 ws hlz hlo es eLo elo hLo hL1 hu1 hu0 hU pw pw2 b1 bL1 bLo hY hY1 hY0 hY63 hY64 eY bU ikd3 ikd31 und3 und31 y0 h0 h0' hy hhi bu0 hs Y1n
            refine Holds.loopB (fun i : Nat × Nat => { nt := 135, env := [(15, .v true (.int .u64 i.1)), (16, .v true (.int .u64 i.2)), (9, .v true (.int .u64 Y1)), (10, .v true (.int .u64 Y0)), (13, .v true (.int .u64 u1)), (14, .v true (.int .u64 u0)), (11, .v true (.int .u64 U)), (2, .v true (.int .u64 Y)), (8, .v true (.int .u64 s))], mem := [] }) (fun i => i.1 * Y1 + i.2 = U ∧ Q ≤ i.1 ∧ i.1 ≤ 4294967297 ∧ i.2 < 4294967296) (fun i => i.1) (q, r) ⟨eq1, bq1.1, bq1.2.1, by show r < _; omega⟩ (fun a w h => Rel.keep [15, 16, 9, 10, 13, 14, 11, 2, 8] [] h) ?_
            rintro ⟨q, r⟩ ⟨i1, i2, i3, i4⟩
            simp only at i1 i2 i3 i4
            by_cases hc : 4294967296 ≤ q ∨ r * 4294967296 + u1 < q * Y0
            · obtain ⟨c1, c2⟩ := digit_less (by omega) hQ bq1.2.2 (by omega) i1 hc
              refine Holds.next (fun σ => ∀ a w, Rel cx w0 σ a w → Rel cx w0 { nt := 135, env := [(15, .v true (.int .u64 q)), (16, .v true (.int .u64 r)), (9, .v true (.int .u64 Y1)), (10, .v true (.int .u64 Y0)), (13, .v true (.int .u64 u1)), (14, .v true (.int .u64 u0)), (11, .v true (.int .u64 U)), (2, .v true (.int .u64 Y)), (8, .v true (.int .u64 s))], mem := [] } a w) ?_ ?_
              · have g0 : ∀ h : 4294967296 ≤ q, decide ((4294967296 : Int) ≤ (q : Int)) = true := fun h => decide_eq_true (by omega)
                by_cases hq1 : 4294967296 ≤ q
                · refine Holds.step (Px := px) (T := TT) (ρ := fun _ => []) TTe (by simp (maxSteps := 100000) (disch := omega) only [go_sem, V.isAgg, V.flat, ↓reduceIte, Nat.reduceAdd, Nat.reduceSub, Nat.reduceLT, Nat.reduceEqDiff, reduceCtorEq, Nat.reduceLeDiff, Nat.reduceBEq, Nat.reduceMul, Int.reduceToNat, hq1]; rfl) (by repeat' first | exact trivial | constructor) ?_
                  exact Holds.condT rfl (Holds.skip fun a w h => Rel.keep [15, 16, 9, 10, 13, 14, 11, 2, 8] [] h)
                · have hc' : r * 4294967296 + u1 < q * Y0 := by omega
                  have m1 := mul_small (q := q) (Y0 := Y0) (by omega) (by omega)
                  have x1 := mulN q Y0
                  obtain ⟨m, hm⟩ : ∃ m, m = q * Y0 := ⟨_, rfl⟩
                  rw [← hm] at m1 hc' x1
                  have x2 := wrapN m (by omega)
                  have x3 : IntKind.u64.wrap ((4294967296 : Int) * (r : Int)) = ((4294967296 * r : Nat) : Int) := by rw [wrap_u64]; omega
                  have x4 : IntKind.u64.wrap (((4294967296 * r : Nat) : Int) + (u1 : Int)) = ((4294967296 * r + u1 : Nat) : Int) := by rw [wrap_u64]; omega
                  have x5 : ((4294967296 * r + u1 : Nat) : Int) < (m : Int) := by omega
                  have x6 : ¬ (4294967296 : Int) ≤ (q : Int) := by omega
                  refine Holds.step (Px := px) (T := TT) (ρ := fun _ => []) TTe (by simp (maxSteps := 100000) (disch := omega) only [go_sem, V.isAgg, V.flat, ↓reduceIte, Nat.reduceAdd, Nat.reduceSub, Nat.reduceLT, Nat.reduceEqDiff, reduceCtorEq, Nat.reduceLeDiff, Nat.reduceBEq, Nat.reduceMul, Int.reduceToNat, x1, x2, x3, x4, x5, x6]; rfl) (by repeat' first | exact trivial | constructor) ?_
                  exact Holds.condT rfl (Holds.skip fun a w h => Rel.keep [15, 16, 9, 10, 13, 14, 11, 2, 8] [] h)
              · intro σ hσ
                refine Holds.from hσ ?_
                refine Holds.block ?_
                have y1 : IntKind.u64.wrap ((q : Int) - 1) = ((q - 1 : Nat) : Int) := by rw [wrap_u64]; omega
                have y2 : IntKind.u64.wrap ((r : Int) + (Y1 : Int)) = ((r + Y1 : Nat) : Int) := by rw [wrap_u64]; omega
                refine Holds.step (Px := px) (T := TT) (ρ := fun _ => []) TTe (by simp (maxSteps := 100000) (disch := omega) only [go_sem, V.isAgg, V.flat, ↓reduceIte, Nat.reduceAdd, Nat.reduceSub, Nat.reduceLT, Nat.reduceEqDiff, reduceCtorEq, Nat.reduceLeDiff, Nat.reduceBEq, Nat.reduceMul, Int.reduceToNat, y1]; rfl) (by repeat' first | exact trivial | constructor) ?_
                refine Holds.step (Px := px) (T := TT) (ρ := fun _ => []) TTe (by simp (maxSteps := 100000) (disch := omega) only [go_sem, V.isAgg, V.flat, ↓reduceIte, Nat.reduceAdd, Nat.reduceSub, Nat.reduceLT, Nat.reduceEqDiff, reduceCtorEq, Nat.reduceLeDiff, Nat.reduceBEq, Nat.reduceMul, Int.reduceToNat, y2]; rfl) (by repeat' first | exact trivial | constructor) ?_
                by_cases hb : 4294967296 ≤ r + Y1
                · have hb' : (4294967296 : Int) ≤ ((r + Y1 : Nat) : Int) := by omega
                  have m1 := mul_small (q := q - 1) (Y0 := Y0) (by omega) (by omega)
                  have hd := digit_done (q := q - 1) (r := r + Y1) hQ (by omega) c2 (by omega) (by omega)
                  refine Holds.step (Px := px) (T := TT) (ρ := fun _ => []) TTe (by simp (maxSteps := 100000) (disch := omega) only [go_sem, V.isAgg, V.flat, ↓reduceIte, Nat.reduceAdd, Nat.reduceSub, Nat.reduceLT, Nat.reduceEqDiff, reduceCtorEq, Nat.reduceLeDiff, Nat.reduceBEq, Nat.reduceMul, Int.reduceToNat, hb']; rfl) (by repeat' first | exact trivial | constructor) ?_
                  refine Holds.condT rfl (Holds.exit (blockQ_other (by decide) ⟨rfl, fun a w h => ?_⟩))
                  rw [← hd]
                  exact Rel.keep [15, 9, 10, 13, 14, 11, 2, 8] [] h
                · have hb' : ¬ (4294967296 : Int) ≤ ((r + Y1 : Nat) : Int) := by omega
                  refine Holds.step (Px := px) (T := TT) (ρ := fun _ => []) TTe (by simp (maxSteps := 100000) (disch := omega) only [go_sem, V.isAgg, V.flat, ↓reduceIte, Nat.reduceAdd, Nat.reduceSub, Nat.reduceLT, Nat.reduceEqDiff, reduceCtorEq, Nat.reduceLeDiff, Nat.reduceBEq, Nat.reduceMul, Int.reduceToNat, hb']; rfl) (by repeat' first | exact trivial | constructor) ?_
                  refine Holds.condF rfl (Holds.skip ?_)
                  exact ⟨(q - 1, r + Y1), ⟨c2, by show Q ≤ q - 1; omega, by show q - 1 ≤ _; omega, by show r + Y1 < _; omega⟩, (show q - 1 < q by omega), fun a w h => Rel.keep [15, 16, 9, 10, 13, 14, 11, 2, 8] [] h⟩
            · have hq1 : q < 4294967296 := by omega
              have hc' : q * Y0 ≤ r * 4294967296 + u1 := by omega
              have hd := digit_done hQ (by omega) i1 i2 hc'
              have m1 := mul_small (q := q) (Y0 := Y0) (by omega) (by omega)
              have x1 := mulN q Y0
              obtain ⟨m, hm⟩ : ∃ m, m = q * Y0 := ⟨_, rfl⟩
              rw [← hm] at m1 hc' x1
              have x2 := wrapN m (by omega)
              have x3 : IntKind.u64.wrap ((4294967296 : Int) * (r : Int)) = ((4294967296 * r : Nat) : Int) := by rw [wrap_u64]; omega
              have x4 : IntKind.u64.wrap (((4294967296 * r : Nat) : Int) + (u1 : Int)) = ((4294967296 * r + u1 : Nat) : Int) := by rw [wrap_u64]; omega
              have x5 : ¬ ((4294967296 * r + u1 : Nat) : Int) < (m : Int) := by omega
              have x6 : ¬ (4294967296 : Int) ≤ (q : Int) := by omega
              refine Holds.seq ?_
              refine Holds.step (Px := px) (T := TT) (ρ := fun _ => []) TTe (by simp (maxSteps := 100000) (disch := omega) only [go_sem, V.isAgg, V.flat, ↓reduceIte, Nat.reduceAdd, Nat.reduceSub, Nat.reduceLT, Nat.reduceEqDiff, reduceCtorEq, Nat.reduceLeDiff, Nat.reduceBEq, Nat.reduceMul, Int.reduceToNat, x1, x2, x3, x4, x5, x6]; rfl) (by repeat' first | exact trivial | constructor) ?_
              refine Holds.condF rfl (Holds.exit ⟨rfl, fun a w h => ?_⟩)
              rw [← hd]
              exact Rel.keep [15, 9, 10, 13, 14, 11, 2, 8] [] h
          · intro σ hσ
            refine Holds.from hσ ?_
            clear w1 w2 w3 w4 w5 w6 w7 w8 w9 w10 w11 w12 w13 w14 w15 ws hlz es ikd3 ikd31 und3 und31 y0 h0 h0' eq1 br1 hq hr
            have eT := Nat.div_add_mod (U * 4294967296 + u1) (Y1 * 4294967296 + Y0)
            rw [← hQ, ← eY] at eT
            have bT : (U * 4294967296 + u1) % Y < Y := Nat.mod_lt _ (by omega)
            obtain ⟨W, hW⟩ : ∃ W, W = (U * 4294967296 + u1) % Y := ⟨_, rfl⟩
            rw [← hW] at eT bT
            have z1 := mulN Q Y
            have eT' : U * 4294967296 + u1 = Q * Y + W := by rw [Nat.mul_comm Q Y]; exact eT.symm
            obtain ⟨P, hP⟩ : ∃ P, P = Q * Y := ⟨_, rfl⟩
            rw [← hP] at z1 eT'
            have z2 : IntKind.u64.wrap ((U : Int) * 4294967296) = ((U * 4294967296 % 18446744073709551616 : Nat) : Int) := by rw [wrap_u64]; omega
            have z3 : IntKind.u64.wrap (((U * 4294967296 % 18446744073709551616 : Nat) : Int) + (u1 : Int)) = (((P + W) % 18446744073709551616 : Nat) : Int) := by rw [wrap_u64]; omega
            have z4 := wrapM P
            have z5 : IntKind.u64.wrap ((((P + W) % 18446744073709551616 : Nat) : Int) - ((P % 18446744073709551616 : Nat) : Int)) = (W : Int) := by rw [wrap_u64]; omega
            have w16 := quoN W Y1
            have bq2 := digit_first (U := W) (u := u0) (Y1 := Y1) (Y0 := Y0) (by omega) (by omega) (by omega) (by omega)
            have eq2 : W / Y1 * Y1 + W % Y1 = W := by rw [Nat.mul_comm]; exact Nat.div_add_mod W Y1
            have br2 : W % Y1 < Y1 := Nat.mod_lt _ (by omega)
            obtain ⟨q, hq⟩ : ∃ a, a = W / Y1 := ⟨_, rfl⟩
            obtain ⟨r, hr⟩ : ∃ a, a = W % Y1 := ⟨_, rfl⟩
            rw [← hq] at w16 bq2 eq2
            rw [← hr] at eq2 br2
            obtain ⟨Q2, hQ2⟩ : ∃ a, a = (W * 4294967296 + u0) / (Y1 * 4294967296 + Y0) := ⟨_, rfl⟩
            rw [← hQ2] at bq2
            have w17 := wrapN q (by omega)
            have w18 := mulN q Y1
            have w19 := wrapN (q * Y1) (by omega)
            have w20 : IntKind.u64.wrap ((W : Int) - ((q * Y1 : Nat) : Int)) = (r : Int) := by rw [wrap_u64]; omega
            refine Holds.step (Px := px) (T := TT) (ρ := fun _ => []) TTe (by simp (maxSteps := 100000) (disch := omega) only [go_sem, V.isAgg, V.flat, ↓reduceIte, Nat.reduceAdd, Nat.reduceSub, Nat.reduceLT, Nat.reduceEqDiff, reduceCtorEq, Nat.reduceLeDiff, Nat.reduceBEq, Nat.reduceMul, Int.reduceToNat, z1, z2, z3, z4, z5]; rfl) (by repeat' first | exact trivial | constructor) ?_
            refine Holds.step (Px := px) (T := TT) (ρ := fun _ => []) TTe (by simp (maxSteps := 100000) (disch := omega) only [go_sem, V.isAgg, V.flat, ↓reduceIte, Nat.reduceAdd, Nat.reduceSub, Nat.reduceLT, Nat.reduceEqDiff, reduceCtorEq, Nat.reduceLeDiff, Nat.reduceBEq, Nat.reduceMul, Int.reduceToNat, Y1n, w16, w17]; rfl) (by repeat' first | exact trivial | constructor) ?_
            refine Holds.step (Px := px) (T := TT) (ρ := fun _ => []) TTe (by simp (maxSteps := 100000) (disch := omega) only [go_sem, V.isAgg, V.flat, ↓reduceIte, Nat.reduceAdd, Nat.reduceSub, Nat.reduceLT, Nat.reduceEqDiff, reduceCtorEq, Nat.reduceLeDiff, Nat.reduceBEq, Nat.reduceMul, Int.reduceToNat, w18, w19, w20]; rfl) (by repeat' first | exact trivial | constructor) ?_
            refine Holds.next (fun σ => ∀ a w, Rel cx w0 σ a w → Rel cx w0 { nt := 135, env := [(18, .v true (.int .u64 Q2)), (17, .v true (.int .u64 W)), (15, .v true (.int .u64 Q)), (14, .v true (.int .u64 u0)), (2, .v true (.int .u64 Y)), (8, .v true (.int .u64 s))], mem := [] } a w) ?_ ?_
            · clear w16 w17 w18 w19 w20 z1 z2 z3 z4 z5 eT eT' hP hW bT hlo eLo elo hLo hL1 hu1 hu0 hU pw pw2 b1 bL1 bLo hY hY1 hY0 hY63 hY64 eY bU bu1 hs Y1n hy hhi hQ bq1
              refine Holds.loopB (fun i : Nat × Nat => { nt := 135, env := [(18, .v true (.int .u64 i.1)), (16, .v true (.int .u64 i.2)), (17, .v true (.int .u64 W)), (15, .v true (.int .u64 Q)), (9, .v true (.int .u64 Y1)), (10, .v true (.int .u64 Y0)), (14, .v true (.int .u64 u0)), (2, .v true (.int .u64 Y)), (8, .v true (.int .u64 s))], mem := [] }) (fun i => i.1 * Y1 + i.2 = W ∧ Q2 ≤ i.1 ∧ i.1 ≤ 4294967297 ∧ i.2 < 4294967296) (fun i => i.1) (q, r) ⟨eq2, bq2.1, bq2.2.1, by show r < _; omega⟩ (fun a w h => Rel.keep [18, 16, 17, 15, 9, 10, 14, 2, 8] [] h) ?_
              rintro ⟨q, r⟩ ⟨i1, i2, i3, i4⟩
              simp only at i1 i2 i3 i4
              by_cases hc : 4294967296 ≤ q ∨ r * 4294967296 + u0 < q * Y0
              · obtain ⟨c1, c2⟩ := digit_less (by omega) hQ2 bq2.2.2 (by omega) i1 hc
                refine Holds.next (fun σ => ∀ a w, Rel cx w0 σ a w → Rel cx w0 { nt := 135, env := [(18, .v true (.int .u64 q)), (16, .v true (.int .u64 r)), (17, .v true (.int .u64 W)), (15, .v true (.int .u64 Q)), (9, .v true (.int .u64 Y1)), (10, .v true (.int .u64 Y0)), (14, .v true (.int .u64 u0)), (2, .v true (.int .u64 Y)), (8, .v true (.int .u64 s))], mem := [] } a w) ?_ ?_
                · by_cases hq1 : 4294967296 ≤ q
                  · refine Holds.step (Px := px) (T := TT) (ρ := fun _ => []) TTe (by simp (maxSteps := 100000) (disch := omega) only [go_sem, V.isAgg, V.flat, ↓reduceIte, Nat.reduceAdd, Nat.reduceSub, Nat.reduceLT, Nat.reduceEqDiff, reduceCtorEq, Nat.reduceLeDiff, Nat.reduceBEq, Nat.reduceMul, Int.reduceToNat, hq1]; rfl) (by repeat' first | exact trivial | constructor) ?_
                    exact Holds.condT rfl (Holds.skip fun a w h => Rel.keep [18, 16, 17, 15, 9, 10, 14, 2, 8] [] h)
                  · have hc' : r * 4294967296 + u0 < q * Y0 := by omega
                    have m1 := mul_small (q := q) (Y0 := Y0) (by omega) (by omega)
                    have x1 := mulN q Y0
                    obtain ⟨m, hm⟩ : ∃ m, m = q * Y0 := ⟨_, rfl⟩
                    rw [← hm] at m1 hc' x1
                    have x2 := wrapN m (by omega)
                    have x3 : IntKind.u64.wrap ((4294967296 : Int) * (r : Int)) = ((4294967296 * r : Nat) : Int) := by rw [wrap_u64]; omega
                    have x4 : IntKind.u64.wrap (((4294967296 * r : Nat) : Int) + (u0 : Int)) = ((4294967296 * r + u0 : Nat) : Int) := by rw [wrap_u64]; omega
                    have x5 : ((4294967296 * r + u0 : Nat) : Int) < (m : Int) := by omega
                    have x6 : ¬ (4294967296 : Int) ≤ (q : Int) := by omega
                    refine Holds.step (Px := px) (T := TT) (ρ := fun _ => []) TTe (by simp (maxSteps := 100000) (disch := omega) only [go_sem, V.isAgg, V.flat, ↓reduceIte, Nat.reduceAdd, Nat.reduceSub, Nat.reduceLT, Nat.reduceEqDiff, reduceCtorEq, Nat.reduceLeDiff, Nat.reduceBEq, Nat.reduceMul, Int.reduceToNat, x1, x2, x3, x4, x5, x6]; rfl) (by repeat' first | exact trivial | constructor) ?_
                    exact Holds.condT rfl (Holds.skip fun a w h => Rel.keep [18, 16, 17, 15, 9, 10, 14, 2, 8] [] h)
                · intro σ hσ
                  refine Holds.from hσ ?_
                  refine Holds.block ?_
                  have y1 : IntKind.u64.wrap ((q : Int) - 1) = ((q - 1 : Nat) : Int) := by rw [wrap_u64]; omega
                  have y2 : IntKind.u64.wrap ((r : Int) + (Y1 : Int)) = ((r + Y1 : Nat) : Int) := by rw [wrap_u64]; omega
                  refine Holds.step (Px := px) (T := TT) (ρ := fun _ => []) TTe (by simp (maxSteps := 100000) (disch := omega) only [go_sem, V.isAgg, V.flat, ↓reduceIte, Nat.reduceAdd, Nat.reduceSub, Nat.reduceLT, Nat.reduceEqDiff, reduceCtorEq, Nat.reduceLeDiff, Nat.reduceBEq, Nat.reduceMul, Int.reduceToNat, y1]; rfl) (by repeat' first | exact trivial | constructor) ?_
                  refine Holds.step (Px := px) (T := TT) (ρ := fun _ => []) TTe (by simp (maxSteps := 100000) (disch := omega) only [go_sem, V.isAgg, V.flat, ↓reduceIte, Nat.reduceAdd, Nat.reduceSub, Nat.reduceLT, Nat.reduceEqDiff, reduceCtorEq, Nat.reduceLeDiff, Nat.reduceBEq, Nat.reduceMul, Int.reduceToNat, y2]; rfl) (by repeat' first | exact trivial | constructor) ?_
                  by_cases hb : 4294967296 ≤ r + Y1
                  · have hb' : (4294967296 : Int) ≤ ((r + Y1 : Nat) : Int) := by omega
                    have m1 := mul_small (q := q - 1) (Y0 := Y0) (by omega) (by omega)
                    have hd := digit_done (q := q - 1) (r := r + Y1) hQ2 (by omega) c2 (by omega) (by omega)
                    refine Holds.step (Px := px) (T := TT) (ρ := fun _ => []) TTe (by simp (maxSteps := 100000) (disch := omega) only [go_sem, V.isAgg, V.flat, ↓reduceIte, Nat.reduceAdd, Nat.reduceSub, Nat.reduceLT, Nat.reduceEqDiff, reduceCtorEq, Nat.reduceLeDiff, Nat.reduceBEq, Nat.reduceMul, Int.reduceToNat, hb']; rfl) (by repeat' first | exact trivial | constructor) ?_
                    refine Holds.condT rfl (Holds.exit (blockQ_other (by decide) ⟨rfl, fun a w h => ?_⟩))
                    rw [← hd]
                    exact Rel.keep [18, 17, 15, 14, 2, 8] [] h
                  · have hb' : ¬ (4294967296 : Int) ≤ ((r + Y1 : Nat) : Int) := by omega
                    refine Holds.step (Px := px) (T := TT) (ρ := fun _ => []) TTe (by simp (maxSteps := 100000) (disch := omega) only [go_sem, V.isAgg, V.flat, ↓reduceIte, Nat.reduceAdd, Nat.reduceSub, Nat.reduceLT, Nat.reduceEqDiff, reduceCtorEq, Nat.reduceLeDiff, Nat.reduceBEq, Nat.reduceMul, Int.reduceToNat, hb']; rfl) (by repeat' first | exact trivial | constructor) ?_
                    refine Holds.condF rfl (Holds.skip ?_)
                    exact ⟨(q - 1, r + Y1), ⟨c2, by show Q2 ≤ q - 1; omega, by show q - 1 ≤ _; omega, by show r + Y1 < _; omega⟩, (show q - 1 < q by omega), fun a w h => Rel.keep [18, 16, 17, 15, 9, 10, 14, 2, 8] [] h⟩
              · have hq1 : q < 4294967296 := by omega
                have hc' : q * Y0 ≤ r * 4294967296 + u0 := by omega
                have hd := digit_done hQ2 (by omega) i1 i2 hc'
                have m1 := mul_small (q := q) (Y0 := Y0) (by omega) (by omega)
                have x1 := mulN q Y0
                obtain ⟨m, hm⟩ : ∃ m, m = q * Y0 := ⟨_, rfl⟩
                rw [← hm] at m1 hc' x1
                have x2 := wrapN m (by omega)
                have x3 : IntKind.u64.wrap ((4294967296 : Int) * (r : Int)) = ((4294967296 * r : Nat) : Int) := by rw [wrap_u64]; omega
                have x4 : IntKind.u64.wrap (((4294967296 * r : Nat) : Int) + (u0 : Int)) = ((4294967296 * r + u0 : Nat) : Int) := by rw [wrap_u64]; omega
                have x5 : ¬ ((4294967296 * r + u0 : Nat) : Int) < (m : Int) := by omega
                have x6 : ¬ (4294967296 : Int) ≤ (q : Int) := by omega
                refine Holds.seq ?_
                refine Holds.step (Px := px) (T := TT) (ρ := fun _ => []) TTe (by simp (maxSteps := 100000) (disch := omega) only [go_sem, V.isAgg, V.flat, ↓reduceIte, Nat.reduceAdd, Nat.reduceSub, Nat.reduceLT, Nat.reduceEqDiff, reduceCtorEq, Nat.reduceLeDiff, Nat.reduceBEq, Nat.reduceMul, Int.reduceToNat, x1, x2, x3, x4, x5, x6]; rfl) (by repeat' first | exact trivial | constructor) ?_
                refine Holds.condF rfl (Holds.exit ⟨rfl, fun a w h => ?_⟩)
                rw [← hd]
                exact Rel.keep [18, 17, 15, 14, 2, 8] [] h
            · intro σ hσ
              refine Holds.from hσ ?_
              clear w16 w17 w18 w19 w20 z1 z2 z3 z4 z5 eT hW Y1n
              have eR := Nat.div_add_mod (W * 4294967296 + u0) (Y1 * 4294967296 + Y0)
              rw [← hQ2, ← eY] at eR
              have bRm : (W * 4294967296 + u0) % Y < Y := Nat.mod_lt _ (by omega)
              obtain ⟨Rm, hR⟩ : ∃ Rm, Rm = (W * 4294967296 + u0) % Y := ⟨_, rfl⟩
              rw [← hR] at eR bRm
              have eR' : W * 4294967296 + u0 = Q2 * Y + Rm := by rw [Nat.mul_comm Q2 Y]; exact eR.symm
              have v1 := mulN Q2 Y
              obtain ⟨P2, hP2⟩ : ∃ P2, P2 = Q2 * Y := ⟨_, rfl⟩
              rw [← hP2] at v1 eR'
              have dq := div_whole (by omega) hY hU elo eLo hP eT' hP2 eR' bRm
              rw [dq.1]
              have dq2 := dq.2
              have bQ2 : Q2 < 4294967296 := bq2.2.2
              have bRm2 : Rm < 18446744073709551616 := by omega
              clear dq hU elo hLo hL1 hY1 hY0 eY bq2 eq2 br2 eR hQ2 hQ bU bLo bL1 b1 pw2 hu1 hu0 hY63 hY64
              have v2 : IntKind.u64.wrap ((Q : Int) * 4294967296) = ((Q * 4294967296 : Nat) : Int) := by rw [wrap_u64]; omega
              have v3 : IntKind.u64.wrap (((Q * 4294967296 : Nat) : Int) + (Q2 : Int)) = ((Q * 4294967296 + Q2 : Nat) : Int) := by rw [wrap_u64]; omega
              have v4 : IntKind.u64.wrap ((W : Int) * 4294967296) = ((W * 4294967296 % 18446744073709551616 : Nat) : Int) := by rw [wrap_u64]; omega
              have v5 : IntKind.u64.wrap (((W * 4294967296 % 18446744073709551616 : Nat) : Int) + (u0 : Int)) = (((P2 + Rm) % 18446744073709551616 : Nat) : Int) := by rw [wrap_u64]; omega
              have v6 := wrapM P2
              have v7 : IntKind.u64.wrap ((((P2 + Rm) % 18446744073709551616 : Nat) : Int) - ((P2 % 18446744073709551616 : Nat) : Int)) = (Rm : Int) := by rw [wrap_u64]; omega
              have v8 := shrG Rm s (by omega)
              rw [show Rm / 2 ^ s = (hi * 18446744073709551616 + lo) % y from by rw [dq2]; exact Nat.mul_div_cancel _ pw] at v8
              refine Holds.step (Px := px) (T := TT) (ρ := fun _ => []) TTe (by simp (maxSteps := 100000) (disch := omega) only [go_sem, V.isAgg, V.flat, ↓reduceIte, Nat.reduceAdd, Nat.reduceSub, Nat.reduceLT, Nat.reduceEqDiff, reduceCtorEq, Nat.reduceLeDiff, Nat.reduceBEq, Nat.reduceMul, Int.reduceToNat, v1, v2, v3, v4, v5, v6, v7, v8]; rfl) (by repeat' first | exact trivial | constructor) ?_
              exact Holds.ret (RetOk.vs rfl (by exact ⟨⟨rfl, fun h => h⟩, ⟨rfl, fun h => h⟩, trivial⟩) rfl)
end Go.Proofs.YtobacemgcjnahaaGreatDoor.L
