/-
  Mj Mk
-/
import Derived.Test.YtjmclobbfabnpaaGreatH1
import Derived.Test.YtjmclobbfabnpaaGreatG4
import Derived.Lib.Mul64
import Derived.Laws.Bits64b
import Derived.Test.YtjmclobbfabnpaaGreatH2
set_option linter.unusedSimpArgs false
set_option linter.unusedVariables false
/-
  bits.Mul64, words.more.
-/
namespace Go.Proofs.YtjmclobbfabnpaaGreat.L
open Go Go.RowKit Go.Proofs
attribute [local go_sem] evalOps_nil evalOps_cons runW_t runW_f runE_s runP_s wantA evalOp effOp letters okDst coreA St.opv St.get St.at look constA St.put St.upd St.set decide_true List.all_nil List.all_cons Bool.and_true Bool.true_and and_self and_true true_and if_true if_false true_or Int.sub_zero List.nil_append List.cons_append List.append_nil Option.isSome_some List.getElem?_toArray List.getElem?_cons_succ List.getElem?_cons_zero Option.bind_some Option.map_some Option.map_none beq_self_eq_true Bool.false_beq Bool.true_beq Bool.not_true Bool.not_false Bool.false_eq_true cond_true cond_false binA binI List.map_cons List.map_nil boundA List.length_nil List.length_cons Nat.zero_mul Nat.one_mul Nat.mul_one Nat.zero_add Nat.add_zero Nat.zero_le Option.toList St.freshB AV.ment AV.ments Blk.ment V.sizes Nat.lt_add_one Bool.or_true Bool.true_or Bool.or_false Bool.false_or Bool.or_self if_pos if_neg decide_false decide_eq_true decide_eq_false wrap_i64 Int.toNat_natCast minA maxA Int.natCast_add Int.cast_ofNat_Int Option.isSome_none false_implies true_implies forall_const List.drop_zero Int.toNat_zero Int.add_sub_cancel lenA sliceA loadA indexAddrA partA fitsT V.atP V.offP V.size List.length_map List.getElem?_map Int.toNat_natCast_add_one Int.ofNat_eq_natCast TY calleeA capArg knotA capArgs toArgs toArg callA R.res R.mems R.blks R.av R.names R.nw invokeA storeA storeV fieldAddrA liveB V.off V.offs V.setP List.set_cons_zero List.set_cons_succ buildA buildP partsA appendA srcA copyA boxOk makeA AV.pure List.take_succ_cons List.take_zero nilA words entry List.zipIdx_cons List.zipIdx_nil Arg.av Arg.avs

theorem maskN (a : Nat) (ha : a < 18446744073709551616) : bitI .and .u64 (a : Int) 4294967295 = ((a % 4294967296 : Nat) : Int) := by
  have h := bits_and_u64_nat a 4294967295 ha (by omega)
  have e : a &&& 4294967295 = a % 4294967296 := Nat.and_two_pow_sub_one_eq_mod a 32
  rw [e] at h
  exact h
theorem shrN (a : Nat) : Int.fdiv (a : Int) (2 ^ min (32 : Nat) 64) = ((a / 4294967296 : Nat) : Int) := by
  show Int.fdiv (a : Int) 4294967296 = _
  rw [Int.fdiv_eq_ediv_of_nonneg _ (by omega)]
  omega
theorem mulN (a b : Nat) : (a : Int) * (b : Int) = ((a * b : Nat) : Int) := (Int.natCast_mul a b).symm
theorem addN (a b : Nat) : (a : Int) + (b : Int) = ((a + b : Nat) : Int) := (Int.natCast_add a b).symm
theorem wrapN (a : Nat) (ha : a < 18446744073709551616) : IntKind.u64.wrap (a : Int) = (a : Int) := by rw [wrap_u64]; omega
theorem wrapM (a : Nat) : IntKind.u64.wrap (a : Int) = ((a % 18446744073709551616 : Nat) : Int) := by rw [wrap_u64]; omega

theorem mul64_ok (x y : Nat) (hx : x < 18446744073709551616) (hy : y < 18446744073709551616) :
    FnOk Tryz.prog 59 [.v (.int .u64 x), .v (.int .u64 y)] [.v true (.int .u64 ((x * y / 18446744073709551616 : Nat) : Int)), .v true (.int .u64 ((x * y % 18446744073709551616 : Nat) : Int))] := by
  obtain ⟨bd, bt, bw, hhi⟩ := Lib.mul64_hi x y hx hy
  obtain ⟨x0, e1⟩ : ∃ a, a = x % 4294967296 := ⟨_, rfl⟩
  obtain ⟨x1, e2⟩ : ∃ a, a = x / 4294967296 := ⟨_, rfl⟩
  obtain ⟨y0, e3⟩ : ∃ a, a = y % 4294967296 := ⟨_, rfl⟩
  obtain ⟨y1, e4⟩ : ∃ a, a = y / 4294967296 := ⟨_, rfl⟩
  have ba := Lib.half_mul_le (a := x1) (b := y1) (by omega) (by omega)
  have bb := Lib.half_mul_le (a := x1) (b := y0) (by omega) (by omega)
  have bc := Lib.half_mul_le (a := x0) (b := y1) (by omega) (by omega)
  rw [← e1, ← e2, ← e3, ← e4] at hhi
  rw [← e1, ← e3] at bd
  rw [← e1, ← e2, ← e3] at bt
  rw [← e1, ← e2, ← e3, ← e4] at bw
  obtain ⟨w0', e5⟩ : ∃ a, a = x0 * y0 := ⟨_, rfl⟩
  obtain ⟨p, e6⟩ : ∃ a, a = x1 * y0 := ⟨_, rfl⟩
  obtain ⟨q, e7⟩ : ∃ a, a = x0 * y1 := ⟨_, rfl⟩
  obtain ⟨r, e8⟩ : ∃ a, a = x1 * y1 := ⟨_, rfl⟩
  rw [← e5] at bd
  rw [← e5, ← e6] at bt
  rw [← e5, ← e6, ← e7] at bw
  rw [← e5, ← e6, ← e7, ← e8] at hhi
  obtain ⟨v, e9⟩ : ∃ a, a = w0' / 4294967296 := ⟨_, rfl⟩
  rw [← e9] at bt bw hhi
  obtain ⟨t, e10⟩ : ∃ a, a = p + v := ⟨_, rfl⟩
  rw [← e10] at bt bw hhi
  obtain ⟨w1, e11⟩ : ∃ a, a = t % 4294967296 := ⟨_, rfl⟩
  obtain ⟨w2, e12⟩ : ∃ a, a = t / 4294967296 := ⟨_, rfl⟩
  rw [← e11] at bw hhi
  rw [← e12] at hhi
  obtain ⟨w3, e13⟩ : ∃ a, a = w1 + q := ⟨_, rfl⟩
  rw [← e13] at bw hhi
  obtain ⟨w4, e14⟩ : ∃ a, a = w3 / 4294967296 := ⟨_, rfl⟩
  rw [← e14] at hhi
  obtain ⟨u, e15⟩ : ∃ a, a = r + w2 := ⟨_, rfl⟩
  obtain ⟨h, e16⟩ : ∃ a, a = u + w4 := ⟨_, rfl⟩
  obtain ⟨lo, e17⟩ : ∃ a, a = x * y % 18446744073709551616 := ⟨_, rfl⟩
  have f1 : bitI .and .u64 (x : Int) 4294967295 = x0 := by rw [maskN x hx, e1]
  have f2 : Int.fdiv (x : Int) (2 ^ min (32 : Nat) 64) = x1 := by rw [shrN, e2]
  have f3 : bitI .and .u64 (y : Int) 4294967295 = y0 := by rw [maskN y hy, e3]
  have f4 : Int.fdiv (y : Int) (2 ^ min (32 : Nat) 64) = y1 := by rw [shrN, e4]
  have f5 : IntKind.u64.wrap ((x0 : Int) * y0) = w0' := by rw [mulN, ← e5, wrapN _ bd]
  have f6 : IntKind.u64.wrap ((x1 : Int) * y0) = p := by rw [mulN, ← e6, wrapN _ (by omega)]
  have f7 : IntKind.u64.wrap ((x0 : Int) * y1) = q := by rw [mulN, ← e7, wrapN _ (by omega)]
  have f8 : IntKind.u64.wrap ((x1 : Int) * y1) = r := by rw [mulN, ← e8, wrapN _ (by omega)]
  have f9 : Int.fdiv (w0' : Int) (2 ^ min (32 : Nat) 64) = v := by rw [shrN, e9]
  have f10 : IntKind.u64.wrap ((p : Int) + v) = t := by rw [addN, ← e10, wrapN _ bt]
  have f11 : bitI .and .u64 (t : Int) 4294967295 = w1 := by rw [maskN t bt, e11]
  have f12 : Int.fdiv (t : Int) (2 ^ min (32 : Nat) 64) = w2 := by rw [shrN, e12]
  have f13 : IntKind.u64.wrap ((w1 : Int) + q) = w3 := by rw [addN, ← e13, wrapN _ bw]
  have f14 : Int.fdiv (w3 : Int) (2 ^ min (32 : Nat) 64) = w4 := by rw [shrN, e14]
  have f15 : IntKind.u64.wrap ((r : Int) + w2) = u := by rw [addN, ← e15, wrapN _ (by omega)]
  have f16 : IntKind.u64.wrap ((u : Int) + w4) = h := by rw [addN, ← e16, wrapN _ (by omega)]
  have f17 : IntKind.u64.wrap ((x : Int) * y) = lo := by rw [mulN, wrapM, e17]
  have hh : x * y / 18446744073709551616 = h := by rw [← hhi, e16, e15]
  rw [hh, ← e17]
  refine FnOk.of Tryz.func59 rfl rfl fun cx w0 => ?_
  rw [show Tryz.f59.ntmps = 51 from rfl]
  refine Holds.step (Px := px) (T := TT) (ρ := fun _ => []) TTe (by simp (maxSteps := 100000) (disch := omega) only [go_sem, V.isAgg, V.flat, ↓reduceIte, Nat.reduceAdd, Nat.reduceSub, Nat.reduceLT, Nat.reduceEqDiff, reduceCtorEq, Nat.reduceLeDiff, Nat.reduceBEq, Nat.reduceMul, Int.reduceToNat, entry, List.length_cons, List.length_nil, List.zipIdx_cons, List.zipIdx_nil, Arg.av]; rfl) (by repeat' first | exact trivial | constructor) ?_
  refine Holds.step (Px := px) (T := TT) (ρ := fun _ => []) TTe (by simp (maxSteps := 100000) (disch := omega) only [go_sem, V.isAgg, V.flat, ↓reduceIte, Nat.reduceAdd, Nat.reduceSub, Nat.reduceLT, Nat.reduceEqDiff, reduceCtorEq, Nat.reduceLeDiff, Nat.reduceBEq, Nat.reduceMul, Int.reduceToNat, f1]; rfl) (by repeat' first | exact trivial | constructor) ?_
  refine Holds.step (Px := px) (T := TT) (ρ := fun _ => []) TTe (by simp (maxSteps := 100000) (disch := omega) only [go_sem, V.isAgg, V.flat, ↓reduceIte, Nat.reduceAdd, Nat.reduceSub, Nat.reduceLT, Nat.reduceEqDiff, reduceCtorEq, Nat.reduceLeDiff, Nat.reduceBEq, Nat.reduceMul, Int.reduceToNat, Int.reduceToNat, f2]; rfl) (by repeat' first | exact trivial | constructor) ?_
  refine Holds.step (Px := px) (T := TT) (ρ := fun _ => []) TTe (by simp (maxSteps := 100000) (disch := omega) only [go_sem, V.isAgg, V.flat, ↓reduceIte, Nat.reduceAdd, Nat.reduceSub, Nat.reduceLT, Nat.reduceEqDiff, reduceCtorEq, Nat.reduceLeDiff, Nat.reduceBEq, Nat.reduceMul, Int.reduceToNat, f3]; rfl) (by repeat' first | exact trivial | constructor) ?_
  refine Holds.step (Px := px) (T := TT) (ρ := fun _ => []) TTe (by simp (maxSteps := 100000) (disch := omega) only [go_sem, V.isAgg, V.flat, ↓reduceIte, Nat.reduceAdd, Nat.reduceSub, Nat.reduceLT, Nat.reduceEqDiff, reduceCtorEq, Nat.reduceLeDiff, Nat.reduceBEq, Nat.reduceMul, Int.reduceToNat, Int.reduceToNat, f4]; rfl) (by repeat' first | exact trivial | constructor) ?_
  refine Holds.step (Px := px) (T := TT) (ρ := fun _ => []) TTe (by simp (maxSteps := 100000) (disch := omega) only [go_sem, V.isAgg, V.flat, ↓reduceIte, Nat.reduceAdd, Nat.reduceSub, Nat.reduceLT, Nat.reduceEqDiff, reduceCtorEq, Nat.reduceLeDiff, Nat.reduceBEq, Nat.reduceMul, Int.reduceToNat, f5]; rfl) (by repeat' first | exact trivial | constructor) ?_
  refine Holds.step (Px := px) (T := TT) (ρ := fun _ => []) TTe (by simp (maxSteps := 100000) (disch := omega) only [go_sem, V.isAgg, V.flat, ↓reduceIte, Nat.reduceAdd, Nat.reduceSub, Nat.reduceLT, Nat.reduceEqDiff, reduceCtorEq, Nat.reduceLeDiff, Nat.reduceBEq, Nat.reduceMul, Int.reduceToNat, Int.reduceToNat, f6, f9, f10]; rfl) (by repeat' first | exact trivial | constructor) ?_
  refine Holds.step (Px := px) (T := TT) (ρ := fun _ => []) TTe (by simp (maxSteps := 100000) (disch := omega) only [go_sem, V.isAgg, V.flat, ↓reduceIte, Nat.reduceAdd, Nat.reduceSub, Nat.reduceLT, Nat.reduceEqDiff, reduceCtorEq, Nat.reduceLeDiff, Nat.reduceBEq, Nat.reduceMul, Int.reduceToNat, f11]; rfl) (by repeat' first | exact trivial | constructor) ?_
  refine Holds.step (Px := px) (T := TT) (ρ := fun _ => []) TTe (by simp (maxSteps := 100000) (disch := omega) only [go_sem, V.isAgg, V.flat, ↓reduceIte, Nat.reduceAdd, Nat.reduceSub, Nat.reduceLT, Nat.reduceEqDiff, reduceCtorEq, Nat.reduceLeDiff, Nat.reduceBEq, Nat.reduceMul, Int.reduceToNat, Int.reduceToNat, f12]; rfl) (by repeat' first | exact trivial | constructor) ?_
  refine Holds.step (Px := px) (T := TT) (ρ := fun _ => []) TTe (by simp (maxSteps := 100000) (disch := omega) only [go_sem, V.isAgg, V.flat, ↓reduceIte, Nat.reduceAdd, Nat.reduceSub, Nat.reduceLT, Nat.reduceEqDiff, reduceCtorEq, Nat.reduceLeDiff, Nat.reduceBEq, Nat.reduceMul, Int.reduceToNat, f7, f13]; rfl) (by repeat' first | exact trivial | constructor) ?_
  refine Holds.step (Px := px) (T := TT) (ρ := fun _ => []) TTe (by simp (maxSteps := 100000) (disch := omega) only [go_sem, V.isAgg, V.flat, ↓reduceIte, Nat.reduceAdd, Nat.reduceSub, Nat.reduceLT, Nat.reduceEqDiff, reduceCtorEq, Nat.reduceLeDiff, Nat.reduceBEq, Nat.reduceMul, Int.reduceToNat, Int.reduceToNat, f8, f14, f15, f16]; rfl) (by repeat' first | exact trivial | constructor) ?_
  refine Holds.step (Px := px) (T := TT) (ρ := fun _ => []) TTe (by simp (maxSteps := 100000) (disch := omega) only [go_sem, V.isAgg, V.flat, ↓reduceIte, Nat.reduceAdd, Nat.reduceSub, Nat.reduceLT, Nat.reduceEqDiff, reduceCtorEq, Nat.reduceLeDiff, Nat.reduceBEq, Nat.reduceMul, Int.reduceToNat, f17]; rfl) (by repeat' first | exact trivial | constructor) ?_
  exact Holds.ret ⟨_, [], rfl, ⟨⟨rfl, fun h => h⟩, ⟨rfl, fun h => h⟩, trivial⟩, by simp [R.names, R.mems, R.blks], by simp, rfl⟩

theorem add64N (a b c : Nat) (hc : c ≤ 1) {s t : Nat} (hs : s = (a + b + c) % 18446744073709551616) (ht : t = (a + b + c) / 18446744073709551616) : FnOk Tryz.prog 60 [.v (.int .u64 a), .v (.int .u64 b), .v (.int .u64 c)] [.v true (.int .u64 s), .v true (.int .u64 t)] := by
  have h := add64_ok a b c (by omega) (by omega) (by omega) (by omega)
  rw [show ((a : Int) + b + c) % 18446744073709551616 = (s : Int) from by omega, show ((a : Int) + b + c) / 18446744073709551616 = (t : Int) from by omega] at h
  exact h

theorem tsz141 : tsz Tryz.prog 158 = some 2 := by kernel_rfl
theorem agg141 : aggT Tryz.prog 158 = some true := by kernel_rfl
theorem zt141 : TT.zt 158 = some (.v true (.agg [(.int .u64 0), (.int .u64 0)])) := rfl

theorem plc141 : plc Tryz.prog 158 = some [(0, 1), (1, 1)] := by kernel_rfl

theorem more_ok (x y c d : Nat) (hx : x < 18446744073709551616) (hy : y < 18446744073709551616) (hc : c < 18446744073709551616) (hd : d < 18446744073709551616) :
    FnOk Tryz.prog 122 [.v (.int .u64 x), .v (.int .u64 y), .v (.int .u64 c), .v (.int .u64 d)] [.v true (.agg [.int .u64 ((x * y + c + d) % 18446744073709551616 : Nat), .int .u64 ((x * y + c + d) / 18446744073709551616 : Nat)])] := by
  have hm := mul64_ok x y hx hy
  have hb : x * y ≤ 18446744073709551615 * 18446744073709551615 := Nat.mul_le_mul (by omega) (by omega)
  obtain ⟨X, hX⟩ : ∃ X, X = x * y := ⟨_, rfl⟩
  rw [← hX] at hm hb ⊢
  obtain ⟨hi, h1⟩ : ∃ a, a = X / 18446744073709551616 := ⟨_, rfl⟩
  obtain ⟨lo, h2⟩ : ∃ a, a = X % 18446744073709551616 := ⟨_, rfl⟩
  rw [← h1, ← h2] at hm
  obtain ⟨s, h3⟩ : ∃ a, a = (lo + c + 0) % 18446744073709551616 := ⟨_, rfl⟩
  obtain ⟨k, h4⟩ : ∃ a, a = (lo + c + 0) / 18446744073709551616 := ⟨_, rfl⟩
  obtain ⟨g, h5⟩ : ∃ a, a = hi + k := ⟨_, rfl⟩
  obtain ⟨s2, h6⟩ : ∃ a, a = (s + d + 0) % 18446744073709551616 := ⟨_, rfl⟩
  obtain ⟨k2, h7⟩ : ∃ a, a = (s + d + 0) / 18446744073709551616 := ⟨_, rfl⟩
  obtain ⟨g2, h8⟩ : ∃ a, a = g + k2 := ⟨_, rfl⟩
  have e1 : (X + c + d) % 18446744073709551616 = s2 := by omega
  have e2 : (X + c + d) / 18446744073709551616 = g2 := by omega
  rw [e1, e2]
  have f1 : IntKind.u64.wrap ((hi : Int) + k) = g := by rw [addN, ← h5, wrapN _ (by omega)]
  have f2 : IntKind.u64.wrap ((g : Int) + k2) = g2 := by rw [addN, ← h8, wrapN _ (by omega)]
  refine FnOk.of Tryz.func122 rfl rfl fun cx w0 => ?_
  rw [show Tryz.f122.ntmps = 38 from rfl]
  refine Holds.step (Px := px) (T := TT) (ρ := fun _ => []) TTe (by simp (maxSteps := 100000) (disch := omega) only [go_sem, V.isAgg, V.flat, ↓reduceIte, Nat.reduceAdd, Nat.reduceSub, Nat.reduceLT, Nat.reduceEqDiff, reduceCtorEq, Nat.reduceLeDiff, Nat.reduceBEq, Nat.reduceMul, Int.reduceToNat, entry, List.length_cons, List.length_nil, List.zipIdx_cons, List.zipIdx_nil, Arg.av, zt141, AV.pure]; rfl) (by repeat' first | exact trivial | constructor) ?_
  refine Holds.step (Px := px) (T := TT) (ρ := fun _ => [.v true (.int .u64 hi), .v true (.int .u64 lo)]) TTe (by simp (maxSteps := 100000) (disch := omega) only [go_sem, V.isAgg, V.flat, ↓reduceIte, Nat.reduceAdd, Nat.reduceSub, Nat.reduceLT, Nat.reduceEqDiff, reduceCtorEq, Nat.reduceLeDiff, Nat.reduceBEq, Nat.reduceMul, Int.reduceToNat, calleeA, capArg, knotA, capArgs, toArgs, toArg, callA, R.res, R.mems, R.blks, R.av, R.names, R.nw]; rfl) (by first | exact hm | (repeat' first | exact trivial | exact hm | constructor)) ?_
  refine Holds.step (Px := px) (T := TT) (ρ := fun _ => [.v true (.int .u64 s), .v true (.int .u64 k)]) TTe (by simp (maxSteps := 100000) (disch := omega) only [go_sem, V.isAgg, V.flat, ↓reduceIte, Nat.reduceAdd, Nat.reduceSub, Nat.reduceLT, Nat.reduceEqDiff, reduceCtorEq, Nat.reduceLeDiff, Nat.reduceBEq, Nat.reduceMul, Int.reduceToNat, calleeA, capArg, knotA, capArgs, toArgs, toArg, callA, R.res, R.mems, R.blks, R.av, R.names, R.nw]; rfl) (by first | exact add64N lo c 0 (by omega) h3 h4 | (repeat' first | exact trivial | exact add64N lo c 0 (by omega) h3 h4 | constructor)) ?_
  refine Holds.step (Px := px) (T := TT) (ρ := fun _ => []) TTe (by simp (maxSteps := 100000) (disch := omega) only [go_sem, V.isAgg, V.flat, ↓reduceIte, Nat.reduceAdd, Nat.reduceSub, Nat.reduceLT, Nat.reduceEqDiff, reduceCtorEq, Nat.reduceLeDiff, Nat.reduceBEq, Nat.reduceMul, Int.reduceToNat, f1]; rfl) (by repeat' first | exact trivial | constructor) ?_
  refine Holds.step (Px := px) (T := TT) (ρ := fun _ => [.v true (.int .u64 s2), .v true (.int .u64 k2)]) TTe (by simp (maxSteps := 100000) (disch := omega) only [go_sem, V.isAgg, V.flat, ↓reduceIte, Nat.reduceAdd, Nat.reduceSub, Nat.reduceLT, Nat.reduceEqDiff, reduceCtorEq, Nat.reduceLeDiff, Nat.reduceBEq, Nat.reduceMul, Int.reduceToNat, calleeA, capArg, knotA, capArgs, toArgs, toArg, callA, R.res, R.mems, R.blks, R.av, R.names, R.nw]; rfl) (by first | exact add64N s d 0 (by omega) h6 h7 | (repeat' first | exact trivial | exact add64N s d 0 (by omega) h6 h7 | constructor)) ?_
  refine Holds.step (Px := px) (T := TT) (ρ := fun _ => []) TTe (by simp (maxSteps := 100000) (disch := omega) only [go_sem, V.isAgg, V.flat, ↓reduceIte, Nat.reduceAdd, Nat.reduceSub, Nat.reduceLT, Nat.reduceEqDiff, reduceCtorEq, Nat.reduceLeDiff, Nat.reduceBEq, Nat.reduceMul, Int.reduceToNat, f2, buildA, buildP, zt141, plc141, V.offs, storeA, storeV, tsz141, agg141, V.setP, List.set_cons_zero, List.set_cons_succ]; rfl) (by repeat' first | exact trivial | constructor) ?_
  exact Holds.ret (RetOk.vs (show resAVs Tryz.prog _ _ [ResultVar.cell 8 158] = _ from by simp (maxSteps := 100000) (disch := omega) only [resAVs, AV.isPtr, go_sem, V.isAgg, V.flat, ↓reduceIte, Nat.reduceAdd, Nat.reduceSub, Nat.reduceLT, Nat.reduceEqDiff, reduceCtorEq, Nat.reduceLeDiff, Nat.reduceBEq, Nat.reduceMul, Int.reduceToNat, tsz141, agg141]; rfl) (by exact ⟨⟨rfl, fun h => h⟩, trivial⟩) rfl)
/-
  words.MulWord and its parts.
-/

theorem more_okI (x y c : Int) (hx : 0 ≤ x ∧ x < 18446744073709551616) (hy : 0 ≤ y ∧ y < 18446744073709551616) (hc : 0 ≤ c ∧ c < 18446744073709551616) :
    FnOk Tryz.prog 122 [.v (.int .u64 x), .v (.int .u64 y), .v (.int .u64 c), .v (.int .u64 0)] [.v true (.agg [.int .u64 ((x * y + c) % 18446744073709551616), .int .u64 ((x * y + c) / 18446744073709551616)])] := by
  obtain ⟨x, rfl⟩ : ∃ n : Nat, x = n := ⟨x.toNat, by omega⟩
  obtain ⟨y, rfl⟩ : ∃ n : Nat, y = n := ⟨y.toNat, by omega⟩
  obtain ⟨c, rfl⟩ : ∃ n : Nat, c = n := ⟨c.toNat, by omega⟩
  have h := more_ok x y c 0 (by omega) (by omega) (by omega) (by omega)
  have e : ((x * y + c + 0 : Nat) : Int) = x * y + c := by rw [Nat.add_zero, Int.natCast_add, Int.natCast_mul]
  rw [Int.natCast_emod, Int.natCast_ediv, e] at h
  exact h

theorem step123_ok (x : List Int) (w c : Int) (i : Nat) (hi : i < x.length) (hl : x.length < 1000000000) (ox : okW x) (hw : 0 ≤ w ∧ w < 18446744073709551616) (hc : 0 ≤ c ∧ c < 18446744073709551616) :
    FnOk Tryz.prog 121 [.v (.int .i64 i), .v (.int .u64 c), .el (words x), .el (.int .u64 w)] [.v true (.agg [.int .u64 ((x.getD i 0 * w + c) % 18446744073709551616), .int .u64 ((x.getD i 0 * w + c) / 18446744073709551616)])] := by
  refine FnOk.of Tryz.func121 rfl rfl fun cx w0 => ?_
  rw [show Tryz.f121.ntmps = 14 from rfl]
  refine Holds.step (Px := px) (T := TT) (ρ := fun _ => []) TTe (by simp (maxSteps := 100000) (disch := omega) only [go_sem, V.isAgg, V.flat, ↓reduceIte, Nat.reduceAdd, Nat.reduceSub, Nat.reduceLT, Nat.reduceEqDiff, reduceCtorEq, Nat.reduceLeDiff, Nat.reduceBEq, Nat.reduceMul, Int.reduceToNat, entry, List.length_cons, List.length_nil, List.zipIdx_cons, List.zipIdx_nil, Arg.av, zt141, AV.pure]; rfl) (by repeat' first | exact trivial | constructor) ?_
  refine Holds.dstep (Px := px) (T := TT) (ρ := fun _ => [.v true (.agg [.int .u64 ((x.getD i 0 * w + c) % 18446744073709551616), .int .u64 ((x.getD i 0 * w + c) / 18446744073709551616)])]) [] mixed (by kernel_rfl) TTe (by simp (maxSteps := 100000) (disch := omega) only [go_sem, V.isAgg, V.flat, ↓reduceIte, Nat.reduceAdd, Nat.reduceSub, Nat.reduceLT, Nat.reduceEqDiff, reduceCtorEq, Nat.reduceLeDiff, Nat.reduceBEq, Nat.reduceMul, Int.reduceToNat, words, tsz22, agg22, esz22, tsz69, agg69, get_map hi, calleeA, capArg, knotA, capArgs, toArgs, toArg, callA, R.res, R.mems, R.blks, R.av, R.names, R.nw, storeA, storeV, tsz141, agg141, V.setP]; rfl) (by first | exact more_okI _ _ _ (okW_getD ox i) hw hc | (repeat' first | exact trivial | exact more_okI _ _ _ (okW_getD ox i) hw hc | constructor)) (by rfl) (by rfl) (by rfl) ?_
  exact Holds.ret (RetOk.vs (show resAVs Tryz.prog _ _ [ResultVar.cell 6 158] = _ from by simp (maxSteps := 100000) (disch := omega) only [resAVs, AV.isPtr, go_sem, V.isAgg, V.flat, ↓reduceIte, Nat.reduceAdd, Nat.reduceSub, Nat.reduceLT, Nat.reduceEqDiff, reduceCtorEq, Nat.reduceLeDiff, Nat.reduceBEq, Nat.reduceMul, Int.reduceToNat, tsz141, agg141]; rfl) (by exact ⟨⟨rfl, fun h => h⟩, trivial⟩) rfl)

/-- A row times a word: k words of it, and the carry. -/
def mulI (x : List Int) (w c : Int) : Nat → List Int × Int
  | 0 => ([], c)
  | k + 1 => ((mulI x w c k).1 ++ [(x.getD k 0 * w + (mulI x w c k).2) % 18446744073709551616], (x.getD k 0 * w + (mulI x w c k).2) / 18446744073709551616)

theorem mulI_ok {x : List Int} {w c : Int} (ox : okW x) (hw : 0 ≤ w ∧ w < 18446744073709551616) (hc : 0 ≤ c ∧ c < 18446744073709551616) : ∀ k, okW (mulI x w c k).1 ∧ (0 ≤ (mulI x w c k).2 ∧ (mulI x w c k).2 < 18446744073709551616) ∧ (mulI x w c k).1.length = k
  | 0 => ⟨(fun n h => by cases h), hc, rfl⟩
  | k + 1 => by
    obtain ⟨h1, h2, h3⟩ := mulI_ok ox hw hc k
    have h4 := okW_getD ox k
    have h5 : x.getD k 0 * w ≤ 18446744073709551615 * 18446744073709551615 := Int.mul_le_mul (by omega) (by omega) (by omega) (by omega)
    have h6 : 0 ≤ x.getD k 0 * w := Int.mul_nonneg h4.1 hw.1
    rw [mulI]
    refine ⟨fun n hn => ?_, by simp only; omega, by simp only; rw [List.length_append, h3]; rfl⟩
    rcases List.mem_append.1 hn with hn | hn
    · exact h1 n hn
    · rw [List.mem_singleton] at hn
      omega

theorem carrying_ok (x : List Int) (w c : Int) (s : Nat) (hl : x.length < 1000000000) (ox : okW x) (hw : 0 ≤ w ∧ w < 18446744073709551616) (hc : 0 ≤ c ∧ c < 18446744073709551616) :
    FnOk Tryz.prog 120 [.v (words x), .v (.int .u64 c), .fn 121 [.el (words x), .el (.int .u64 w)]] [.own s 52 1 true ((mulI x w c x.length).1.map fun n => .int .u64 n), .v true (.int .u64 (mulI x w c x.length).2)] := by
  refine FnOk.of Tryz.func120 rfl rfl fun cx w0 => ?_
  rw [show Tryz.f120.ntmps = 33 from rfl]
  have fld0 : fld Tryz.prog 158 0 = some (0, 1, false) := by kernel_rfl
  have fld1 : fld Tryz.prog 158 1 = some (1, 1, false) := by kernel_rfl
  refine Holds.step (Px := px) (T := TT) (ρ := fun _ => []) TTe (by simp (maxSteps := 100000) (disch := omega) only [go_sem, V.isAgg, V.flat, ↓reduceIte, Nat.reduceAdd, Nat.reduceSub, Nat.reduceLT, Nat.reduceEqDiff, reduceCtorEq, Nat.reduceLeDiff, Nat.reduceBEq, Nat.reduceMul, Int.reduceToNat, entry, List.length_cons, List.length_nil, List.zipIdx_cons, List.zipIdx_nil, Arg.av, Arg.avs]; rfl) (by repeat' first | exact trivial | constructor) ?_
  refine Holds.step (Px := px) (T := TT) (ρ := fun _ => []) TTe (by simp (maxSteps := 100000) (disch := omega) only [go_sem, V.isAgg, V.flat, ↓reduceIte, Nat.reduceAdd, Nat.reduceSub, Nat.reduceLT, Nat.reduceEqDiff, reduceCtorEq, Nat.reduceLeDiff, Nat.reduceBEq, Nat.reduceMul, Int.reduceToNat, words, elt22, tsz69, tby69, zt69]; rfl) (by repeat' first | exact trivial | constructor) ?_
  refine Holds.next (fun σ => ∀ a w', Rel cx w0 σ a w' → Rel cx w0 { nt := 33, env := [(8, .own 300 0 x.length), (1, .v true (.int .u64 (mulI x w c x.length).2))], mem := [(300, .buf 52 1 true ((mulI x w c x.length).1.map fun n => .int .u64 n))] } a w') ?_ ?_
  · refine Holds.step (Px := px) (T := TT) (ρ := fun _ => []) TTe (by simp (maxSteps := 100000) (disch := omega) only [go_sem, V.isAgg, V.flat, ↓reduceIte, Nat.reduceAdd, Nat.reduceSub, Nat.reduceLT, Nat.reduceEqDiff, reduceCtorEq, Nat.reduceLeDiff, Nat.reduceBEq, Nat.reduceMul, Int.reduceToNat, elt22]; rfl) (by repeat' first | exact trivial | constructor) ?_
    refine Holds.loopB (fun k : Nat => { nt := 33, env := [(16, .v true (.int .i64 (k : Int))), (15, .v true (.int .i64 (x.length : Int))), (8, .own 300 0 k), (1, .v true (.int .u64 (mulI x w c k).2)), (2, .fn 121 [.el false (words x), .el false (.int .u64 w)])], mem := [(300, .buf 52 1 true ((mulI x w c k).1.map fun n => .int .u64 n))] })
      (fun k => k ≤ x.length) (fun k => x.length - k) 0 (Nat.zero_le _) (fun a w' h => Rel.ren (s := 13) (s' := 300) (Rel.keep [16, 15, 8, 1, 2] [13] h) (by decide) rfl rfl) ?_
    intro k hk
    obtain ⟨h1, h2, h3⟩ := mulI_ok ox hw hc k
    by_cases hend : k = x.length
    · refine Holds.step (Px := px) (T := TT) (ρ := fun _ => []) TTe (by simp (maxSteps := 100000) (disch := omega) only [go_sem, V.isAgg, V.flat, ↓reduceIte, Nat.reduceAdd, Nat.reduceSub, Nat.reduceLT, Nat.reduceEqDiff, reduceCtorEq, Nat.reduceLeDiff, Nat.reduceBEq, Nat.reduceMul, Int.reduceToNat]; rfl) (by repeat' first | exact trivial | constructor) ?_
      refine Holds.seq ?_
      refine Holds.condF rfl (Holds.exit ⟨rfl, fun a w' h => ?_⟩)
      rw [← hend]
      exact Rel.keep [8, 1] [300] h
    · have hkl : k < x.length := by omega
      refine Holds.step (Px := px) (T := TT) (ρ := fun _ => []) TTe (by simp (maxSteps := 100000) (disch := omega) only [go_sem, V.isAgg, V.flat, ↓reduceIte, Nat.reduceAdd, Nat.reduceSub, Nat.reduceLT, Nat.reduceEqDiff, reduceCtorEq, Nat.reduceLeDiff, Nat.reduceBEq, Nat.reduceMul, Int.reduceToNat]; rfl) (by repeat' first | exact trivial | constructor) ?_
      refine Holds.seq ?_
      refine Holds.condT rfl (Holds.skip ?_)
      refine Holds.seq ?_
      refine Holds.block ?_
      refine Holds.step (Px := px) (T := TT) (ρ := fun _ => []) TTe (by simp (maxSteps := 100000) (disch := omega) only [go_sem, V.isAgg, V.flat, ↓reduceIte, Nat.reduceAdd, Nat.reduceSub, Nat.reduceLT, Nat.reduceEqDiff, reduceCtorEq, Nat.reduceLeDiff, Nat.reduceBEq, Nat.reduceMul, Int.reduceToNat]; rfl) (by repeat' first | exact trivial | constructor) ?_
      refine Holds.step (Px := px) (T := TT) (ρ := fun _ => [.v true (.agg [.int .u64 ((x.getD k 0 * w + (mulI x w c k).2) % 18446744073709551616), .int .u64 ((x.getD k 0 * w + (mulI x w c k).2) / 18446744073709551616)])]) TTe (by simp (maxSteps := 100000) (disch := omega) only [go_sem, V.isAgg, V.flat, ↓reduceIte, Nat.reduceAdd, Nat.reduceSub, Nat.reduceLT, Nat.reduceEqDiff, reduceCtorEq, Nat.reduceLeDiff, Nat.reduceBEq, Nat.reduceMul, Int.reduceToNat, calleeA, capArg, knotA, capArgs, toArgs, toArg, callA, R.res, R.mems, R.blks, R.av, R.names, R.nw, zt141, AV.pure, storeA, storeV, tsz141, agg141, V.setP]; rfl) (by first | exact step123_ok x w _ k hkl hl ox hw h2 | (repeat' first | exact trivial | exact step123_ok x w _ k hkl hl ox hw h2 | constructor)) ?_
      refine Holds.from (σ' := { nt := 33, env := [(16, .v true (.int .i64 (k : Int))), (15, .v true (.int .i64 (x.length : Int))), (8, .own 300 0 k), (1, .v true (.int .u64 (mulI x w c k).2)), (2, .fn 121 [.el false (words x), .el false (.int .u64 w)]), (10, .ptr 10 0 [] 0)], mem := [(300, .buf 52 1 true ((mulI x w c k).1.map fun n => .int .u64 n)), (10, .box 158 (.v true (.agg [.int .u64 ((x.getD k 0 * w + (mulI x w c k).2) % 18446744073709551616), .int .u64 ((x.getD k 0 * w + (mulI x w c k).2) / 18446744073709551616)])))] }) (fun a w' h => Rel.keep [16, 15, 8, 1, 2, 10] [300, 10] h) ?_
      refine Holds.dregionT (Px := px) (T := TT) (ρ := fun _ => []) [(1, 4), (2, 4), (4, 5), (4, 6)] mixed (by kernel_rfl) TTe (by simp (maxSteps := 100000) (disch := omega) only [go_sem, V.isAgg, V.flat, ↓reduceIte, Nat.reduceAdd, Nat.reduceSub, Nat.reduceLT, Nat.reduceEqDiff, reduceCtorEq, Nat.reduceLeDiff, Nat.reduceBEq, Nat.reduceMul, Int.reduceToNat, h3]; rfl) (by repeat' constructor) (by rfl) (by rfl) (by simp (maxSteps := 100000) (disch := omega) only [trc_nil, trc_cons, effW_t, effW_f, trcE_s, opSites_eq, sitesOf, AV.sitesL, AV.sites, Op.operands, Call.operands, List.map_nil, List.filter_nil, List.append_toArray, List.toList_toArray, List.filter_cons, List.contains_cons, List.contains_nil, go_sem, V.isAgg, V.flat, ↓reduceIte, Nat.reduceAdd, Nat.reduceSub, Nat.reduceLT, Nat.reduceEqDiff, reduceCtorEq, Nat.reduceLeDiff, Nat.reduceBEq, Nat.reduceMul, Int.reduceToNat, h3]; rfl) (by rfl) ?_
      show Holds _ _ _ _ _ _ _
      refine Holds.region (Px := px) (T := TT) (ρ := fun _ => []) TTe (by simp (maxSteps := 100000) (disch := omega) only [go_sem, V.isAgg, V.flat, ↓reduceIte, Nat.reduceAdd, Nat.reduceSub, Nat.reduceLT, Nat.reduceEqDiff, reduceCtorEq, Nat.reduceLeDiff, Nat.reduceBEq, Nat.reduceMul, Int.reduceToNat]; rfl) (by repeat' first | exact trivial | constructor) ?_
      refine ⟨k + 1, (by show k + 1 ≤ x.length; omega), (show x.length - (k + 1) < x.length - k by omega), fun a w' h => ?_⟩
      have := Rel.ren (s := 27) (s' := 300) (Rel.keep [16, 15, 8, 1, 2] [27] h) (by decide) rfl rfl
      simp only [mulI, List.map_append]
      exact this
  · intro σ hσ
    refine Holds.from hσ ?_
    refine Holds.step (Px := px) (T := TT) (ρ := fun _ => []) TTe (by simp (maxSteps := 100000) (disch := omega) only [go_sem, V.isAgg, V.flat, ↓reduceIte, Nat.reduceAdd, Nat.reduceSub, Nat.reduceLT, Nat.reduceEqDiff, reduceCtorEq, Nat.reduceLeDiff, Nat.reduceBEq, Nat.reduceMul, Int.reduceToNat]; rfl) (by repeat' first | exact trivial | constructor) ?_
    exact Holds.ret ⟨_, [(s, 300)], rfl, ⟨⟨by simp [srcOf], rfl, by rw [List.length_map, (mulI_ok ox hw hc x.length).2.2], by simp [St.at, look]⟩, ⟨rfl, fun h => h⟩, trivial⟩, by simp [R.names, R.mems, R.blks], by simp, by simp [R.names, R.mems, R.blks]⟩

/-- The row and the high word of a product by a word. -/
def mulRow (x : List Int) (w : Int) : List Int := (mulI x w 0 x.length).1
def mulHigh (x : List Int) (w : Int) : Int := (mulI x w 0 x.length).2

theorem MulWord_ok (x : List Int) (w : Int) (s : Nat) (hl : x.length ≤ 4096) (ox : okW x) (hw : 0 ≤ w ∧ w < 18446744073709551616) :
    FnOk Tryz.prog 118 [.v (words x), .v (.int .u64 w), .v (.int .u64 0)] [.own s 52 1 true ((mulRow x w).map fun n => .int .u64 n), .v true (.int .u64 (mulHigh x w)), .v true (.int .i64 0)] := by
  refine FnOk.of Tryz.func118 rfl rfl fun cx w0 => ?_
  rw [show Tryz.f118.ntmps = 24 from rfl]
  refine Holds.step (Px := px) (T := TT) (ρ := fun _ => []) TTe (by simp (maxSteps := 100000) (disch := omega) only [go_sem, V.isAgg, V.flat, ↓reduceIte, Nat.reduceAdd, Nat.reduceSub, Nat.reduceLT, Nat.reduceEqDiff, reduceCtorEq, Nat.reduceLeDiff, Nat.reduceBEq, Nat.reduceMul, Int.reduceToNat, List.length_cons, List.length_nil]; rfl) (by repeat' first | exact trivial | constructor) ?_
  have hfew : FnOk Tryz.prog 119 [.v (.sl 1 [.sl 1 (x.map fun n => .int .u64 n)])] [.v true (.bool true)] := by
    have := wfew_ok [x] (by simp) (by simp; omega)
    rw [show (!([x].any longL)) = true from by simp [longL]; omega] at this
    exact this
  refine Holds.next (fun σ => ∀ a w', Rel cx w0 σ a w' → Rel cx w0 { nt := 24, env := [(2, .v true (.int .u64 0)), (3, .ptr 3 0 [] 0), (4, .ptr 4 0 [] 0)], mem := [(3, .box 23 (.v false (words x))), (4, .box 52 (.v true (.int .u64 w)))] } a w') ?_ ?_
  · refine Holds.step (Px := px) (T := TT) (ρ := fun _ => [.v true (.bool true)]) TTe (by simp (maxSteps := 100000) (disch := omega) only [go_sem, V.isAgg, V.flat, ↓reduceIte, Nat.reduceAdd, Nat.reduceSub, Nat.reduceLT, Nat.reduceEqDiff, reduceCtorEq, Nat.reduceLeDiff, Nat.reduceBEq, Nat.reduceMul, Int.reduceToNat]; rfl) (by first | exact hfew | (repeat' first | exact trivial | exact hfew | constructor)) ?_
    exact Holds.condF rfl (Holds.skip fun a w' h => Rel.keep [2, 3, 4] [3, 4] h)
  · intro σ hσ
    refine Holds.from hσ ?_
    refine Holds.step (Px := px) (T := TT) (ρ := fun _ => [.own 301 52 1 true ((mulRow x w).map fun n => .int .u64 n), .v true (.int .u64 (mulHigh x w))]) TTe (by simp (maxSteps := 100000) (disch := omega) only [go_sem, V.isAgg, V.flat, ↓reduceIte, Nat.reduceAdd, Nat.reduceSub, Nat.reduceLT, Nat.reduceEqDiff, reduceCtorEq, Nat.reduceLeDiff, Nat.reduceBEq, Nat.reduceMul, Int.reduceToNat]; rfl) (by first | exact carrying_ok x w 0 301 (by omega) ox hw (by omega) | (repeat' first | exact trivial | exact carrying_ok x w 0 301 (by omega) ox hw (by omega) | constructor)) ?_
    refine Holds.step (Px := px) (T := TT) (ρ := fun _ => []) TTe (by simp (maxSteps := 100000) (disch := omega) only [go_sem, V.isAgg, V.flat, ↓reduceIte, Nat.reduceAdd, Nat.reduceSub, Nat.reduceLT, Nat.reduceEqDiff, reduceCtorEq, Nat.reduceLeDiff, Nat.reduceBEq, Nat.reduceMul, Int.reduceToNat]; rfl) (by repeat' first | exact trivial | constructor) ?_
    exact Holds.ret ⟨_, [(s, 301)], rfl, ⟨⟨by simp [srcOf], rfl, by simp, by simp [St.at, look]⟩, ⟨rfl, fun h => h⟩, ⟨rfl, fun h => h⟩, trivial⟩, by simp [R.names, R.mems, R.blks], by simp, by simp [R.names, R.mems, R.blks]⟩

theorem rows_ok (x y : List Int) (s1 s2 : Nat) (hs : s1 ≠ s2) : FnOk Tryz.prog 115 [.v (words x), .v (words y)] [.clo 117 [(s2, 24, false, words y), (s1, 24, false, words x)]] := by
  refine FnOk.of Tryz.func115 rfl rfl fun cx w0 => ?_
  rw [show Tryz.f115.ntmps = 6 from rfl]
  refine Holds.step (Px := px) (T := TT) (ρ := fun _ => []) TTe (by simp (maxSteps := 100000) (disch := omega) only [go_sem, V.isAgg, V.flat, ↓reduceIte, Nat.reduceAdd, Nat.reduceSub, Nat.reduceLT, Nat.reduceEqDiff, reduceCtorEq, Nat.reduceLeDiff, Nat.reduceBEq, Nat.reduceMul, Int.reduceToNat, List.length_cons, List.length_nil]; rfl) (by repeat' first | exact trivial | constructor) ?_
  refine Holds.step (Px := px) (T := TT) (ρ := fun _ => []) TTe (by simp (maxSteps := 100000) (disch := omega) only [go_sem, V.isAgg, V.flat, ↓reduceIte, Nat.reduceAdd, Nat.reduceSub, Nat.reduceLT, Nat.reduceEqDiff, reduceCtorEq, Nat.reduceLeDiff, Nat.reduceBEq, Nat.reduceMul, Int.reduceToNat]; rfl) (by repeat' first | exact trivial | constructor) ?_
  exact Holds.ret ⟨_, [(s1, 2), (s2, 3)], rfl, ⟨⟨rfl, by simp [retCaps, srcOf, St.at, look, hs, words, V.flat]⟩, trivial⟩, by simp [R.names, R.mems, R.blks, Ne.symm hs], by simp, by simp [R.names, R.mems, R.blks]⟩
end Go.Proofs.YtjmclobbfabnpaaGreat.L
