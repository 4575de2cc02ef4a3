/-
  Qc
-/
import Derived.Test.YtjmclobbfabnpaaGreatJ6
set_option linter.unusedSimpArgs false
set_option linter.unusedVariables false
/-
  fast.low, Karatsuba's way with few words, fast.LowMul.
-/
namespace Go.Proofs.YtjmclobbfabnpaaGreat.L
open Go Go.RowKit Go.Proofs
attribute [local go_sem] evalOps_nil evalOps_cons runW_t runW_f runE_s runP_s wantA evalOp effOp letters okDst coreA St.opv St.get St.at look constA St.put St.upd St.set decide_true List.all_nil List.all_cons Bool.and_true Bool.true_and and_self and_true true_and if_true if_false true_or Int.sub_zero List.nil_append List.cons_append List.append_nil Option.isSome_some List.getElem?_toArray List.getElem?_cons_succ List.getElem?_cons_zero Option.bind_some Option.map_some Option.map_none beq_self_eq_true Bool.false_beq Bool.true_beq Bool.not_true Bool.not_false Bool.false_eq_true cond_true cond_false binA binI List.map_cons List.map_nil boundA List.length_nil List.length_cons Nat.zero_mul Nat.one_mul Nat.mul_one Nat.zero_add Nat.add_zero Nat.zero_le Option.toList St.freshB AV.ment AV.ments Blk.ment V.sizes Nat.lt_add_one Bool.or_true Bool.true_or Bool.or_false Bool.false_or Bool.or_self if_pos if_neg decide_false decide_eq_true decide_eq_false wrap_i64 Int.toNat_natCast minA maxA Int.natCast_add Int.cast_ofNat_Int Option.isSome_none false_implies true_implies forall_const List.drop_zero Int.toNat_zero Int.add_sub_cancel lenA sliceA loadA indexAddrA partA fitsT V.atP V.offP V.size List.length_map List.getElem?_map Int.toNat_natCast_add_one Int.ofNat_eq_natCast TY calleeA capArg knotA capArgs toArgs toArg callA R.res R.mems R.blks R.av R.names R.nw invokeA storeA storeV fieldAddrA liveB V.off V.offs V.setP List.set_cons_zero List.set_cons_succ buildA buildP partsA appendA srcA copyA boxOk makeA AV.pure List.take_succ_cons List.take_zero nilA words entry List.zipIdx_cons List.zipIdx_nil Arg.av Arg.avs

theorem low_ok (x : List Int) (n : Nat) (hx : x.length < 1000000) : FnOk Tryz.prog 103 [.v (words x), .v (.int .i64 n)] [.v true (words (trimL (x.take n)))] := by
  obtain ⟨c, hc⟩ : ∃ c, c = min n x.length := ⟨_, rfl⟩
  have hmin : (if (x.length : Int) < (n : Int) then (x.length : Int) else n) = c := by
    rw [hc]; split <;> omega
  have htk : x.take c = x.take n := by
    rw [hc]
    by_cases h : n ≤ x.length
    · rw [Nat.min_eq_left h]
    · rw [Nat.min_eq_right (by omega), List.take_length, List.take_of_length_le (by omega)]
  have htm : List.take c (List.map (fun n => V.int .u64 n) x) = List.map (fun n => V.int .u64 n) (x.take n) := by rw [← List.map_take, htk]
  have hT := Trim_ok (x.take n) (by rw [List.length_take]; omega)
  refine FnOk.of Tryz.func103 rfl rfl fun cx w0 => ?_
  rw [show Tryz.f103.ntmps = 14 from rfl]
  refine Holds.step (Px := px) (T := TT) (ρ := fun _ => []) TTe (by simp (maxSteps := 100000) (disch := omega) only [go_sem, V.isAgg, V.flat, ↓reduceIte, Nat.reduceAdd, Nat.reduceSub, Nat.reduceLT, Nat.reduceEqDiff, reduceCtorEq, Nat.reduceLeDiff, Nat.reduceBEq, Nat.reduceMul, Int.reduceToNat, List.length_cons, List.length_nil]; rfl) (by repeat' first | exact trivial | constructor) ?_
  refine Holds.step (Px := px) (T := TT) (ρ := fun _ => []) TTe (by simp (maxSteps := 100000) (disch := omega) only [go_sem, V.isAgg, V.flat, ↓reduceIte, Nat.reduceAdd, Nat.reduceSub, Nat.reduceLT, Nat.reduceEqDiff, reduceCtorEq, Nat.reduceLeDiff, Nat.reduceBEq, Nat.reduceMul, Int.reduceToNat, hmin]; rfl) (by repeat' first | exact trivial | constructor) ?_
  refine Holds.step (Px := px) (T := TT) (ρ := fun _ => [.v true (words (trimL (x.take n)))]) TTe (by simp (maxSteps := 100000) (disch := omega) only [go_sem, V.isAgg, V.flat, ↓reduceIte, Nat.reduceAdd, Nat.reduceSub, Nat.reduceLT, Nat.reduceEqDiff, reduceCtorEq, Nat.reduceLeDiff, Nat.reduceBEq, Nat.reduceMul, Int.reduceToNat, htm]; rfl) (by first | exact hT | (repeat' first | exact trivial | exact hT | constructor)) ?_
  exact Holds.ret (RetOk.vs rfl (by exact ⟨⟨rfl, fun h => h⟩, trivial⟩) rfl)

/-- A way's number. -/
def wayV (least : Int) : V := .agg [.int .i64 least]

theorem grow_few (X Y : List Int) (least : Int) (hX : X.length < 100000) (hY : Y.length < 100000) (h : (trimL X).length + (trimL Y).length ≤ 4096) (hl : ((trimL X).length : Int) < least ∨ ((trimL Y).length : Int) < least) (oX : okW X) (oY : okW Y) :
    FnOk Tryz.prog 101 [.v (words X), .v (words Y), .el (wayV least), .knot 101 (wayV least)] [.v true (words (prodL (trimL X) (trimL Y)))] := by
  have h1 := Trim_ok X (by omega)
  have h2 := Trim_ok Y (by omega)
  have h3 := plain_ok (trimL X) (trimL Y) h (trimL_ok oX) (trimL_ok oY)
  obtain ⟨x, hx⟩ : ∃ x, x = trimL X := ⟨_, rfl⟩
  obtain ⟨y, hy⟩ : ∃ y, y = trimL Y := ⟨_, rfl⟩
  rw [← hx] at h1 h3 h hl
  rw [← hy] at h2 h3 h hl
  rw [← hx, ← hy]
  have hmin : (if (y.length : Int) < (x.length : Int) then (y.length : Int) else x.length) < least := by split <;> omega
  refine FnOk.of Tryz.func101 rfl rfl fun cx w0 => ?_
  rw [show Tryz.f101.ntmps = 100 from rfl]
  refine Holds.step (Px := px) (T := TT) (ρ := fun _ => []) TTe (by simp (maxSteps := 100000) (disch := omega) only [go_sem, V.isAgg, V.flat, ↓reduceIte, Nat.reduceAdd, Nat.reduceSub, Nat.reduceLT, Nat.reduceEqDiff, reduceCtorEq, Nat.reduceLeDiff, Nat.reduceBEq, Nat.reduceMul, Int.reduceToNat, List.length_cons, List.length_nil, wayV]; rfl) (by repeat' first | exact trivial | constructor) ?_
  refine Holds.step (Px := px) (T := TT) (ρ := fun d => if d = 16 then [.v true (words x)] else [.v true (words y)]) TTe (by simp (maxSteps := 100000) (disch := omega) only [go_sem, V.isAgg, V.flat, ↓reduceIte, Nat.reduceAdd, Nat.reduceSub, Nat.reduceLT, Nat.reduceEqDiff, reduceCtorEq, Nat.reduceLeDiff, Nat.reduceBEq, Nat.reduceMul, Int.reduceToNat]; rfl) (by first | exact ⟨h1, h2⟩ | (repeat' first | exact trivial | exact h1 | exact h2 | constructor)) ?_
  refine Holds.seq ?_
  refine Holds.step (Px := px) (T := TT) (ρ := fun _ => []) TTe (by simp (maxSteps := 100000) (disch := omega) only [go_sem, V.isAgg, V.flat, ↓reduceIte, Nat.reduceAdd, Nat.reduceSub, Nat.reduceLT, Nat.reduceEqDiff, reduceCtorEq, Nat.reduceLeDiff, Nat.reduceBEq, Nat.reduceMul, Int.reduceToNat, hmin]; rfl) (by repeat' first | exact trivial | constructor) ?_
  refine Holds.condT rfl ?_
  refine Holds.step (Px := px) (T := TT) (ρ := fun _ => [.v true (words (prodL x y))]) TTe (by simp (maxSteps := 100000) (disch := omega) only [go_sem, V.isAgg, V.flat, ↓reduceIte, Nat.reduceAdd, Nat.reduceSub, Nat.reduceLT, Nat.reduceEqDiff, reduceCtorEq, Nat.reduceLeDiff, Nat.reduceBEq, Nat.reduceMul, Int.reduceToNat]; rfl) (by first | exact h3 | (repeat' first | exact trivial | exact h3 | constructor)) ?_
  exact Holds.ret (RetOk.vs rfl (by exact ⟨⟨rfl, fun h => h⟩, trivial⟩) rfl)

theorem tsz53 : tsz Tryz.prog 69 = some 1 := by kernel_rfl
theorem agg53 : aggT Tryz.prog 69 = some false := by kernel_rfl
theorem zt53 : TT.zt 69 = some (.v true .nfun) := rfl

theorem kmul_of (X Y : List Int) (least : Int) (p : List Int) (h : FnOk Tryz.prog 101 [.v (words X), .v (words Y), .el (wayV least), .knot 101 (wayV least)] [.v true (words p)]) :
    FnOk Tryz.prog 100 [.v (wayV least), .v (words X), .v (words Y)] [.v true (words p)] := by
  refine FnOk.of Tryz.func100 rfl rfl fun cx w0 => ?_
  rw [show Tryz.f100.ntmps = 13 from rfl]
  refine Holds.step (Px := px) (T := TT) (ρ := fun _ => []) TTe (by simp (maxSteps := 100000) (disch := omega) only [go_sem, V.isAgg, V.flat, ↓reduceIte, Nat.reduceAdd, Nat.reduceSub, Nat.reduceLT, Nat.reduceEqDiff, reduceCtorEq, Nat.reduceLeDiff, Nat.reduceBEq, Nat.reduceMul, Int.reduceToNat, List.length_cons, List.length_nil, wayV]; rfl) (by repeat' first | exact trivial | constructor) ?_
  refine Holds.step (Px := px) (T := TT) (ρ := fun _ => []) TTe (by simp (maxSteps := 100000) (disch := omega) only [go_sem, V.isAgg, V.flat, ↓reduceIte, Nat.reduceAdd, Nat.reduceSub, Nat.reduceLT, Nat.reduceEqDiff, reduceCtorEq, Nat.reduceLeDiff, Nat.reduceBEq, Nat.reduceMul, Int.reduceToNat, zt53]; rfl) (by repeat' first | exact trivial | constructor) ?_
  refine Holds.step (Px := px) (T := TT) (ρ := fun _ => []) TTe (by simp (maxSteps := 100000) (disch := omega) only [go_sem, V.isAgg, V.flat, ↓reduceIte, Nat.reduceAdd, Nat.reduceSub, Nat.reduceLT, Nat.reduceEqDiff, reduceCtorEq, Nat.reduceLeDiff, Nat.reduceBEq, Nat.reduceMul, Int.reduceToNat, tsz53, agg53, AV.isV, V.size]; rfl) (by repeat' first | exact trivial | constructor) ?_
  refine Holds.step (Px := px) (T := TT) (ρ := fun _ => [.v true (words p)]) TTe (by simp (maxSteps := 100000) (disch := omega) only [go_sem, V.isAgg, V.flat, ↓reduceIte, Nat.reduceAdd, Nat.reduceSub, Nat.reduceLT, Nat.reduceEqDiff, reduceCtorEq, Nat.reduceLeDiff, Nat.reduceBEq, Nat.reduceMul, Int.reduceToNat, tsz53, agg53]; rfl) (by first | exact h | (repeat' first | exact trivial | exact h | constructor)) ?_
  exact Holds.ret (RetOk.vs rfl (by exact ⟨⟨rfl, fun h => h⟩, trivial⟩) rfl)

theorem val_take {l : List Int} (ol : okW l) (n : Nat) : val (l.take n) = val l % 18446744073709551616 ^ n := by
  have h := val_append (l.take n) (l.drop n)
  rw [List.take_append_drop, List.length_take] at h
  have hlt := val_lt (okW_take ol n)
  rw [List.length_take] at hlt
  rcases Nat.lt_or_ge n l.length with hn | hn
  · rw [Nat.min_eq_left (by omega)] at h hlt
    rw [h, Nat.add_mul_mod_self_left, Nat.mod_eq_of_lt hlt]
  · rw [List.take_of_length_le hn]
    have h2 := val_lt ol
    have h3 : 18446744073709551616 ^ l.length ≤ 18446744073709551616 ^ n := Nat.pow_le_pow_right (by decide) hn
    rw [Nat.mod_eq_of_lt (by omega)]
end Go.Proofs.YtjmclobbfabnpaaGreat.L
