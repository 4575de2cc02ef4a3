/-
  Xt Xu Xv Xw Xx Ya Yb Yc Yd Ye Yf Lzq Fa Fb
-/
import Derived.Test.YtlpolbeikangpaaGreatDoorW6
import Derived.Deep.RegionWith
import Derived.Test.YtlpolbeikangpaaGreatDoorW3
import Derived.Test.YtlpolbeikangpaaGreatDoorRows
import Derived.Test.YtlpolbeikangpaaGreatDoorW4
import Derived.Test.YtlpolbeikangpaaGreatDoorW1
import Derived.ProofKit
import Derived.OpenShut
import Derived.LaidMore
import Derived.Lay
import Derived.SevenTiedAt
import Derived.Stop.Joined
set_option linter.unusedSimpArgs false
set_option linter.unusedVariables false
set_option maxRecDepth 100000
namespace Go.Proofs.YtlpolbeikangpaaGreatDoor.L
open Go Go.RowKit Go.Proofs
attribute [local go_sem] evalOps_nil evalOps_cons runW_t runW_f runE_s runP_s wantA evalOp effOp letters okDst coreA St.opv St.get St.at look constA St.put St.upd St.set decide_true List.all_nil List.all_cons Bool.and_true Bool.true_and and_self and_true true_and if_true if_false true_or Int.sub_zero List.nil_append List.cons_append List.append_nil Option.isSome_some List.getElem?_toArray List.getElem?_cons_succ List.getElem?_cons_zero Option.bind_some Option.map_some Option.map_none beq_self_eq_true Bool.false_beq Bool.true_beq Bool.not_true Bool.not_false Bool.false_eq_true cond_true cond_false binA binI List.map_cons List.map_nil boundA List.length_nil List.length_cons Nat.zero_mul Nat.one_mul Nat.mul_one Nat.zero_add Nat.add_zero Nat.zero_le Option.toList St.freshB AV.ment AV.ments Blk.ment V.sizes Nat.lt_add_one Bool.or_true Bool.true_or Bool.or_false Bool.false_or Bool.or_self if_pos if_neg decide_false decide_eq_true decide_eq_false wrap_i64 Int.toNat_natCast minA maxA Int.natCast_add Int.cast_ofNat_Int Option.isSome_none false_implies true_implies forall_const List.drop_zero Int.toNat_zero Int.add_sub_cancel lenA sliceA loadA indexAddrA partA fitsT V.atP V.offP V.size List.length_map List.getElem?_map Int.toNat_natCast_add_one Int.ofNat_eq_natCast TY calleeA capArg knotA capArgs toArgs toArg callA R.res R.mems R.blks R.av R.names R.nw invokeA storeA storeV fieldAddrA liveB V.off V.offs V.setP List.set_cons_zero List.set_cons_succ buildA buildP partsA appendA srcA copyA boxOk makeA AV.pure List.take_succ_cons List.take_zero nilA words unA entry List.zipIdx_cons List.zipIdx_nil Arg.av Arg.avs
set_option maxHeartbeats 2000000 in
theorem Text_gen (k P kd0 e0 kd ex E : Int) (n0 ng : Bool) (L ms : List V) (res : List UInt8)
 (hN : FnOk Tryz.prog 49 [.v (.agg [.int .i64 k, .int .i64 P]), .v (.int .i64 0), .v (.bool false), .v (.agg [.int .i64 kd0, .bool n0, .int .i64 e0, .sl 1 L])] [.v true (.agg [.int .i64 kd, .bool ng, .int .i64 ex, .sl 1 ms]), .v true (.int .i64 E)])
 (hE : E ≠ 0 → res = []) (h3 : E = 0 → kd = 3 ∨ kd = 2 → res = spL kd ng) (h0 : E = 0 → kd = 0 → res = smL ng [48])
 (h1 : E = 0 → ¬ (kd = 3 ∨ kd = 2) → kd ≠ 0 → ∃ d x, FnOk Tryz.prog 53 [.v (.agg [.int .i64 k, .int .i64 P]), .v (.agg [.int .i64 kd, .bool ng, .int .i64 ex, .sl 1 ms])] [.v true (.str (bs d)), .v true (.int .i64 x)] ∧ d.length < 900000 ∧ (-1000000 < x ∧ x < 1000000) ∧ (layL d x).length < 10000000 ∧ res = smL ng (layL d x)) :
 FnOk Tryz.prog 14 [.v (.agg [.int .i64 k, .int .i64 P]), .v (.agg [.int .i64 kd0, .bool n0, .int .i64 e0, .sl 1 L])] [.v true (.str (bs res)), .v true (.int .i64 E)] := by
 refine FnOk.of Tryz.func14 rfl rfl fun cx w0 => ?_
 rw [show Tryz.f14.ntmps = 40 from rfl]
 refine Holds.step (Px := px) (T := TT) (ρ := fun _ => []) TTe (by simp (maxSteps := 100000) (disch := omega) only [go_sem, V.isAgg, V.flat, ↓reduceIte, Nat.reduceAdd, Nat.reduceSub, Nat.reduceLT, Nat.reduceEqDiff, reduceCtorEq, Nat.reduceLeDiff, Nat.reduceBEq, Nat.reduceMul, Int.reduceToNat, List.length_cons, List.length_nil]; rfl) (by repeat' first | exact trivial | constructor) ?_
 refine Holds.step (Px := px) (T := TT) (ρ := fun _ => [.v true (.agg [.int .i64 kd, .bool ng, .int .i64 ex, .sl 1 ms]), .v true (.int .i64 E)]) TTe (by simp (maxSteps := 100000) (disch := omega) only [go_sem, V.isAgg, V.flat, ↓reduceIte, Nat.reduceAdd, Nat.reduceSub, Nat.reduceLT, Nat.reduceEqDiff, reduceCtorEq, Nat.reduceLeDiff, Nat.reduceBEq, Nat.reduceMul, Int.reduceToNat]; rfl) (by first | exact hN | (repeat' first | exact trivial | exact hN | constructor)) ?_
 refine Holds.seq ?_
 by_cases hE0 : E = 0
 ·subst hE0
  have h3 := h3 rfl
  have h0 := h0 rfl
  have h1 := h1 rfl
  clear hE hN
  refine Holds.step (Px := px) (T := TT) (ρ := fun _ => []) TTe (by simp (maxSteps := 100000) (disch := omega) only [go_sem, V.isAgg, V.flat, ↓reduceIte, Nat.reduceAdd, Nat.reduceSub, Nat.reduceLT, Nat.reduceEqDiff, reduceCtorEq, Nat.reduceLeDiff, Nat.reduceBEq, Nat.reduceMul, Int.reduceToNat]; rfl) (by repeat' first | exact trivial | constructor) ?_
  refine Holds.condF rfl (Holds.skip ?_)
  show Holds _ _ _ _ _ _ _
  have hS := sSpecial_ok kd ng ex 0 ms
  refine Holds.seq ?_
  by_cases hk : kd = 3 ∨ kd = 2
  ·rw [h3 hk]
   rw [decide_eq_true hk] at hS
   obtain ⟨s, hs⟩ : ∃ s, s = bs (spL kd ng) := ⟨_, rfl⟩
   rw [← hs] at hS ⊢
   clear h3 h0 h1 hs
   refine Holds.step (Px := px) (T := TT) (ρ := fun _ => [.v true (.str s), .v true (.bool true)]) TTe (by simp (maxSteps := 100000) (disch := omega) only [go_sem, V.isAgg, V.flat, ↓reduceIte, Nat.reduceAdd, Nat.reduceSub, Nat.reduceLT, Nat.reduceEqDiff, reduceCtorEq, Nat.reduceLeDiff, Nat.reduceBEq, Nat.reduceMul, Int.reduceToNat]; rfl) (by first | exact hS | (repeat' first | exact trivial | exact hS | constructor)) ?_
   refine Holds.step (Px := px) (T := TT) (ρ := fun _ => []) TTe (by simp (maxSteps := 100000) (disch := omega) only [go_sem, V.isAgg, V.flat, ↓reduceIte, Nat.reduceAdd, Nat.reduceSub, Nat.reduceLT, Nat.reduceEqDiff, reduceCtorEq, Nat.reduceLeDiff, Nat.reduceBEq, Nat.reduceMul, Int.reduceToNat]; rfl) (by repeat' first | exact trivial | constructor) ?_
   refine Holds.condT rfl ?_
   refine Holds.step (Px := px) (T := TT) (ρ := fun _ => []) TTe (by simp (maxSteps := 100000) (disch := omega) only [go_sem, V.isAgg, V.flat, ↓reduceIte, Nat.reduceAdd, Nat.reduceSub, Nat.reduceLT, Nat.reduceEqDiff, reduceCtorEq, Nat.reduceLeDiff, Nat.reduceBEq, Nat.reduceMul, Int.reduceToNat]; rfl) (by repeat' first | exact trivial | constructor) ?_
   exact Holds.ret (RetOk.vs rfl (by exact ⟨⟨rfl, id⟩, ⟨rfl, id⟩, trivial⟩) rfl)
  ·rw [decide_eq_false hk] at hS
   have h1 := h1 hk
   obtain ⟨s, hs⟩ : ∃ s, s = bs (spL kd ng) := ⟨_, rfl⟩
   rw [← hs] at hS
   clear h3 hs
   refine Holds.step (Px := px) (T := TT) (ρ := fun _ => [.v true (.str s), .v true (.bool false)]) TTe (by simp (maxSteps := 100000) (disch := omega) only [go_sem, V.isAgg, V.flat, ↓reduceIte, Nat.reduceAdd, Nat.reduceSub, Nat.reduceLT, Nat.reduceEqDiff, reduceCtorEq, Nat.reduceLeDiff, Nat.reduceBEq, Nat.reduceMul, Int.reduceToNat]; rfl) (by first | exact hS | (repeat' first | exact trivial | exact hS | constructor)) ?_
   refine Holds.step (Px := px) (T := TT) (ρ := fun _ => []) TTe (by simp (maxSteps := 100000) (disch := omega) only [go_sem, V.isAgg, V.flat, ↓reduceIte, Nat.reduceAdd, Nat.reduceSub, Nat.reduceLT, Nat.reduceEqDiff, reduceCtorEq, Nat.reduceLeDiff, Nat.reduceBEq, Nat.reduceMul, Int.reduceToNat]; rfl) (by repeat' first | exact trivial | constructor) ?_
   refine Holds.condF rfl (Holds.skip ?_)
   show Holds _ _ _ _ _ _ _
   refine Holds.seq ?_
   by_cases hz : kd = 0
   ·rw [h0 hz]
    subst hz
    have hM := sMinus_ok ng [48] (by decide)
    obtain ⟨t, ht⟩ : ∃ s, s = bs (smL ng [48]) := ⟨_, rfl⟩
    rw [← ht] at hM ⊢
    have hM : FnOk Tryz.prog 51 [.v (.bool ng), .v (.str ⟨#[48]⟩)] [.v true (.str t)] := hM
    clear h0 h1 ht
    refine Holds.step (Px := px) (T := TT) (ρ := fun _ => []) TTe (by simp (maxSteps := 100000) (disch := omega) only [go_sem, V.isAgg, V.flat, ↓reduceIte, Nat.reduceAdd, Nat.reduceSub, Nat.reduceLT, Nat.reduceEqDiff, reduceCtorEq, Nat.reduceLeDiff, Nat.reduceBEq, Nat.reduceMul, Int.reduceToNat]; rfl) (by repeat' first | exact trivial | constructor) ?_
    refine Holds.condT rfl ?_
    refine Holds.step (Px := px) (T := TT) (ρ := fun _ => [.v true (.str t)]) TTe (by simp (maxSteps := 100000) (disch := omega) only [go_sem, V.isAgg, V.flat, ↓reduceIte, Nat.reduceAdd, Nat.reduceSub, Nat.reduceLT, Nat.reduceEqDiff, reduceCtorEq, Nat.reduceLeDiff, Nat.reduceBEq, Nat.reduceMul, Int.reduceToNat]; rfl) (by first | exact hM | (repeat' first | exact trivial | exact hM | constructor)) ?_
    exact Holds.ret (RetOk.vs rfl (by exact ⟨⟨rfl, id⟩, ⟨rfl, id⟩, trivial⟩) rfl)
   ·obtain ⟨d, x, c1, c2, c3, c4, c5⟩ := h1 hz
    rw [c5]
    have hY := layout_ok d x c2 (by omega)
    have hM := sMinus_ok ng (layL d x) c4
    obtain ⟨t1, ht1⟩ : ∃ s, s = bs d := ⟨_, rfl⟩
    obtain ⟨t2, ht2⟩ : ∃ s, s = bs (layL d x) := ⟨_, rfl⟩
    obtain ⟨t3, ht3⟩ : ∃ s, s = bs (smL ng (layL d x)) := ⟨_, rfl⟩
    rw [← ht1] at c1 hY
    rw [← ht2] at hY hM
    rw [← ht3] at hM ⊢
    clear h0 h1 ht1 ht2 ht3 c2 c3 c4 c5
    refine Holds.step (Px := px) (T := TT) (ρ := fun _ => []) TTe (by simp (maxSteps := 100000) (disch := omega) only [go_sem, V.isAgg, V.flat, ↓reduceIte, Nat.reduceAdd, Nat.reduceSub, Nat.reduceLT, Nat.reduceEqDiff, reduceCtorEq, Nat.reduceLeDiff, Nat.reduceBEq, Nat.reduceMul, Int.reduceToNat, hz]; rfl) (by repeat' first | exact trivial | constructor) ?_
    refine Holds.condF rfl (Holds.skip ?_)
    show Holds _ _ _ _ _ _ _
    refine Holds.dstep (Px := px) (T := TT) (ρ := fun y => if y = 35 then [.v true (.str t1), .v true (.int .i64 x)] else if y = 38 then [.v true (.str t2)] else [.v true (.str t3)]) [] mixed (by kernel_rfl) TTe (by simp (maxSteps := 100000) (disch := omega) only [go_sem, V.isAgg, V.flat, ↓reduceIte, Nat.reduceAdd, Nat.reduceSub, Nat.reduceLT, Nat.reduceEqDiff, reduceCtorEq, Nat.reduceLeDiff, Nat.reduceBEq, Nat.reduceMul, Int.reduceToNat]; rfl) (by first | exact ⟨c1, hY, hM⟩ | (repeat' first | exact trivial | exact c1 | exact hY | exact hM | constructor)) (by rfl) (by rfl) (by rfl) ?_
    exact Holds.ret (RetOk.vs rfl (by exact ⟨⟨rfl, id⟩, ⟨rfl, id⟩, trivial⟩) rfl)
 ·rw [hE hE0]
  refine Holds.step (Px := px) (T := TT) (ρ := fun _ => []) TTe (by simp (maxSteps := 100000) (disch := omega) only [go_sem, V.isAgg, V.flat, ↓reduceIte, Nat.reduceAdd, Nat.reduceSub, Nat.reduceLT, Nat.reduceEqDiff, reduceCtorEq, Nat.reduceLeDiff, Nat.reduceBEq, Nat.reduceMul, Int.reduceToNat, hE0]; rfl) (by repeat' first | exact trivial | constructor) ?_
  refine Holds.condT rfl ?_
  refine Holds.step (Px := px) (T := TT) (ρ := fun _ => []) TTe (by simp (maxSteps := 100000) (disch := omega) only [go_sem, V.isAgg, V.flat, ↓reduceIte, Nat.reduceAdd, Nat.reduceSub, Nat.reduceLT, Nat.reduceEqDiff, reduceCtorEq, Nat.reduceLeDiff, Nat.reduceBEq, Nat.reduceMul, Int.reduceToNat]; rfl) (by repeat' first | exact trivial | constructor) ?_
  exact Holds.ret (RetOk.vs rfl (by exact ⟨⟨rfl, id⟩, ⟨rfl, id⟩, trivial⟩) rfl)
set_option maxHeartbeats 2000000 in
theorem Shortest_gen (k P kd0 e0 kd ex E x : Int) (n0 ng : Bool) (L ms : List V) (s : ByteArray)
 (hN : FnOk Tryz.prog 87 [.v (.agg [.int .i64 k, .int .i64 P]), .v (.int .i64 0), .v (.bool false), .v (.agg [.int .i64 kd0, .bool n0, .int .i64 e0, .sl 1 L])] [.v true (.agg [.int .i64 kd, .bool ng, .int .i64 ex, .sl 1 ms]), .v true (.int .i64 E)])
 (hE : E ≠ 0 → s = ⟨#[]⟩ ∧ x = 0)
 (h1 : E = 0 → FnOk Tryz.prog 53 [.v (.agg [.int .i64 k, .int .i64 P]), .v (.agg [.int .i64 kd, .bool ng, .int .i64 ex, .sl 1 ms])] [.v true (.str s), .v true (.int .i64 x)]) :
 FnOk Tryz.prog 28 [.v (.agg [.int .i64 k, .int .i64 P]), .v (.agg [.int .i64 kd0, .bool n0, .int .i64 e0, .sl 1 L])] [.v true (.str s), .v true (.int .i64 x), .v true (.int .i64 E)] := by
 refine FnOk.of Tryz.func28 rfl rfl fun cx w0 => ?_
 rw [show Tryz.f28.ntmps = 24 from rfl]
 refine Holds.step (Px := px) (T := TT) (ρ := fun _ => []) TTe (by simp (maxSteps := 100000) (disch := omega) only [go_sem, V.isAgg, V.flat, ↓reduceIte, Nat.reduceAdd, Nat.reduceSub, Nat.reduceLT, Nat.reduceEqDiff, reduceCtorEq, Nat.reduceLeDiff, Nat.reduceBEq, Nat.reduceMul, Int.reduceToNat, List.length_cons, List.length_nil]; rfl) (by repeat' first | exact trivial | constructor) ?_
 refine Holds.step (Px := px) (T := TT) (ρ := fun _ => [.v true (.agg [.int .i64 kd, .bool ng, .int .i64 ex, .sl 1 ms]), .v true (.int .i64 E)]) TTe (by simp (maxSteps := 100000) (disch := omega) only [go_sem, V.isAgg, V.flat, ↓reduceIte, Nat.reduceAdd, Nat.reduceSub, Nat.reduceLT, Nat.reduceEqDiff, reduceCtorEq, Nat.reduceLeDiff, Nat.reduceBEq, Nat.reduceMul, Int.reduceToNat]; rfl) (by first | exact hN | (repeat' first | exact trivial | exact hN | constructor)) ?_
 refine Holds.seq ?_
 by_cases hE0 : E = 0
 ·subst hE0
  have h1 := h1 rfl
  clear hE hN
  refine Holds.step (Px := px) (T := TT) (ρ := fun _ => []) TTe (by simp (maxSteps := 100000) (disch := omega) only [go_sem, V.isAgg, V.flat, ↓reduceIte, Nat.reduceAdd, Nat.reduceSub, Nat.reduceLT, Nat.reduceEqDiff, reduceCtorEq, Nat.reduceLeDiff, Nat.reduceBEq, Nat.reduceMul, Int.reduceToNat]; rfl) (by repeat' first | exact trivial | constructor) ?_
  refine Holds.condF rfl (Holds.skip ?_)
  show Holds _ _ _ _ _ _ _
  refine Holds.step (Px := px) (T := TT) (ρ := fun _ => [.v true (.str s), .v true (.int .i64 x)]) TTe (by simp (maxSteps := 100000) (disch := omega) only [go_sem, V.isAgg, V.flat, ↓reduceIte, Nat.reduceAdd, Nat.reduceSub, Nat.reduceLT, Nat.reduceEqDiff, reduceCtorEq, Nat.reduceLeDiff, Nat.reduceBEq, Nat.reduceMul, Int.reduceToNat]; rfl) (by first | exact h1 | (repeat' first | exact trivial | exact h1 | constructor)) ?_
  refine Holds.step (Px := px) (T := TT) (ρ := fun _ => []) TTe (by simp (maxSteps := 100000) (disch := omega) only [go_sem, V.isAgg, V.flat, ↓reduceIte, Nat.reduceAdd, Nat.reduceSub, Nat.reduceLT, Nat.reduceEqDiff, reduceCtorEq, Nat.reduceLeDiff, Nat.reduceBEq, Nat.reduceMul, Int.reduceToNat]; rfl) (by repeat' first | exact trivial | constructor) ?_
  exact Holds.ret (RetOk.vs rfl (by exact ⟨⟨rfl, id⟩, ⟨rfl, id⟩, ⟨rfl, id⟩, trivial⟩) rfl)
 ·obtain ⟨rfl, rfl⟩ := hE hE0
  refine Holds.step (Px := px) (T := TT) (ρ := fun _ => []) TTe (by simp (maxSteps := 100000) (disch := omega) only [go_sem, V.isAgg, V.flat, ↓reduceIte, Nat.reduceAdd, Nat.reduceSub, Nat.reduceLT, Nat.reduceEqDiff, reduceCtorEq, Nat.reduceLeDiff, Nat.reduceBEq, Nat.reduceMul, Int.reduceToNat, hE0]; rfl) (by repeat' first | exact trivial | constructor) ?_
  refine Holds.condT rfl ?_
  refine Holds.step (Px := px) (T := TT) (ρ := fun _ => []) TTe (by simp (maxSteps := 100000) (disch := omega) only [go_sem, V.isAgg, V.flat, ↓reduceIte, Nat.reduceAdd, Nat.reduceSub, Nat.reduceLT, Nat.reduceEqDiff, reduceCtorEq, Nat.reduceLeDiff, Nat.reduceBEq, Nat.reduceMul, Int.reduceToNat]; rfl) (by repeat' first | exact trivial | constructor) ?_
  exact Holds.ret (RetOk.vs rfl (by exact ⟨⟨rfl, id⟩, ⟨rfl, id⟩, ⟨rfl, id⟩, trivial⟩) rfl)
def outB (n lo hi : Int) : Bool := decide (n < lo ∨ hi < n)
set_option maxHeartbeats 2000000 in
theorem Digits_gen (k P r kd0 e0 kd ex E x n : Int) (n0 ng b : Bool) (L ms : List V) (s : ByteArray)
 (hN : FnOk Tryz.prog 87 [.v (.agg [.int .i64 k, .int .i64 P]), .v (.int .i64 r), .v (.bool (outB n 1 1200)), .v (.agg [.int .i64 kd0, .bool n0, .int .i64 e0, .sl 1 L])] [.v true (.agg [.int .i64 kd, .bool ng, .int .i64 ex, .sl 1 ms]), .v true (.int .i64 E)])
 (hE : E ≠ 0 → s = ⟨#[]⟩ ∧ x = 0 ∧ b = false)
 (h1 : E = 0 → FnOk Tryz.prog 83 [.v (.int .i64 r), .v (.agg [.int .i64 kd, .bool ng, .int .i64 ex, .sl 1 ms]), .v (.int .i64 n)] [.v true (.str s), .v true (.int .i64 x), .v true (.bool b)]) :
 FnOk Tryz.prog 30 [.v (.agg [.int .i64 k, .int .i64 P]), .v (.int .i64 r), .v (.agg [.int .i64 kd0, .bool n0, .int .i64 e0, .sl 1 L]), .v (.int .i64 n)] [.v true (.str s), .v true (.int .i64 x), .v true (.bool b), .v true (.int .i64 E)] := by
 obtain ⟨ob, hob⟩ : ∃ b, b = outB n 1 1200 := ⟨_, rfl⟩
 rw [← hob] at hN
 refine FnOk.of Tryz.func30 rfl rfl fun cx w0 => ?_
 rw [show Tryz.f30.ntmps = 39 from rfl]
 refine Holds.step (Px := px) (T := TT) (ρ := fun _ => []) TTe (by simp (maxSteps := 100000) (disch := omega) only [go_sem, V.isAgg, V.flat, ↓reduceIte, Nat.reduceAdd, Nat.reduceSub, Nat.reduceLT, Nat.reduceEqDiff, reduceCtorEq, Nat.reduceLeDiff, Nat.reduceBEq, Nat.reduceMul, Int.reduceToNat, List.length_cons, List.length_nil]; rfl) (by repeat' first | exact trivial | constructor) ?_
 refine Holds.next (fun σ => ∀ a w, Rel cx w0 σ a w → Rel cx w0 { nt := 39, env := [(11, .v true (.int .i64 E)), (6, .ptr 6 0 [] 0), (1, .v true (.int .i64 r)), (3, .v true (.int .i64 n))], mem := [(6, .box 28 (.v false (.agg [.int .i64 kd, .bool ng, .int .i64 ex, .sl 1 ms])))] } a w) ?_ ?_
 ·by_cases g1 : n < 1
  ·have : ob = true := by rw [hob]; exact decide_eq_true (.inl g1)
   subst this
   refine Holds.region (Px := px) (T := TT) (ρ := fun _ => [.v true (.agg [.int .i64 kd, .bool ng, .int .i64 ex, .sl 1 ms]), .v true (.int .i64 E)]) TTe (by simp (maxSteps := 100000) (disch := omega) only [go_sem, V.isAgg, V.flat, ↓reduceIte, Nat.reduceAdd, Nat.reduceSub, Nat.reduceLT, Nat.reduceEqDiff, reduceCtorEq, Nat.reduceLeDiff, Nat.reduceBEq, Nat.reduceMul, Int.reduceToNat, g1]; rfl) (by first | exact hN | (repeat' first | exact trivial | exact hN | constructor)) ?_
   exact fun a w h => Rel.keep [11, 6, 1, 3] [6] h
  ·by_cases g2 : 1200 < n
   ·have : ob = true := by rw [hob]; exact decide_eq_true (.inr g2)
    subst this
    refine Holds.region (Px := px) (T := TT) (ρ := fun _ => [.v true (.agg [.int .i64 kd, .bool ng, .int .i64 ex, .sl 1 ms]), .v true (.int .i64 E)]) TTe (by simp (maxSteps := 100000) (disch := omega) only [go_sem, V.isAgg, V.flat, ↓reduceIte, Nat.reduceAdd, Nat.reduceSub, Nat.reduceLT, Nat.reduceEqDiff, reduceCtorEq, Nat.reduceLeDiff, Nat.reduceBEq, Nat.reduceMul, Int.reduceToNat, g1, g2]; rfl) (by first | exact hN | (repeat' first | exact trivial | exact hN | constructor)) ?_
    exact fun a w h => Rel.keep [11, 6, 1, 3] [6] h
   ·have : ob = false := by rw [hob]; exact decide_eq_false (by omega)
    subst this
    refine Holds.region (Px := px) (T := TT) (ρ := fun _ => [.v true (.agg [.int .i64 kd, .bool ng, .int .i64 ex, .sl 1 ms]), .v true (.int .i64 E)]) TTe (by simp (maxSteps := 100000) (disch := omega) only [go_sem, V.isAgg, V.flat, ↓reduceIte, Nat.reduceAdd, Nat.reduceSub, Nat.reduceLT, Nat.reduceEqDiff, reduceCtorEq, Nat.reduceLeDiff, Nat.reduceBEq, Nat.reduceMul, Int.reduceToNat, g1, g2]; rfl) (by first | exact hN | (repeat' first | exact trivial | exact hN | constructor)) ?_
    exact fun a w h => Rel.keep [11, 6, 1, 3] [6] h
 ·intro σ hσ
  refine Holds.from hσ ?_
  clear hN hob
  refine Holds.seq ?_
  by_cases hE0 : E = 0
  ·subst hE0
   have h1 := h1 rfl
   clear hE
   refine Holds.step (Px := px) (T := TT) (ρ := fun _ => []) TTe (by simp (maxSteps := 100000) (disch := omega) only [go_sem, V.isAgg, V.flat, ↓reduceIte, Nat.reduceAdd, Nat.reduceSub, Nat.reduceLT, Nat.reduceEqDiff, reduceCtorEq, Nat.reduceLeDiff, Nat.reduceBEq, Nat.reduceMul, Int.reduceToNat]; rfl) (by repeat' first | exact trivial | constructor) ?_
   refine Holds.condF rfl (Holds.skip ?_)
   show Holds _ _ _ _ _ _ _
   refine Holds.step (Px := px) (T := TT) (ρ := fun _ => [.v true (.str s), .v true (.int .i64 x), .v true (.bool b)]) TTe (by simp (maxSteps := 100000) (disch := omega) only [go_sem, V.isAgg, V.flat, ↓reduceIte, Nat.reduceAdd, Nat.reduceSub, Nat.reduceLT, Nat.reduceEqDiff, reduceCtorEq, Nat.reduceLeDiff, Nat.reduceBEq, Nat.reduceMul, Int.reduceToNat]; rfl) (by first | exact h1 | (repeat' first | exact trivial | exact h1 | constructor)) ?_
   refine Holds.step (Px := px) (T := TT) (ρ := fun _ => []) TTe (by simp (maxSteps := 100000) (disch := omega) only [go_sem, V.isAgg, V.flat, ↓reduceIte, Nat.reduceAdd, Nat.reduceSub, Nat.reduceLT, Nat.reduceEqDiff, reduceCtorEq, Nat.reduceLeDiff, Nat.reduceBEq, Nat.reduceMul, Int.reduceToNat]; rfl) (by repeat' first | exact trivial | constructor) ?_
   exact Holds.ret (RetOk.vs rfl (by exact ⟨⟨rfl, id⟩, ⟨rfl, id⟩, ⟨rfl, id⟩, ⟨rfl, id⟩, trivial⟩) rfl)
  ·obtain ⟨rfl, rfl, rfl⟩ := hE hE0
   refine Holds.step (Px := px) (T := TT) (ρ := fun _ => []) TTe (by simp (maxSteps := 100000) (disch := omega) only [go_sem, V.isAgg, V.flat, ↓reduceIte, Nat.reduceAdd, Nat.reduceSub, Nat.reduceLT, Nat.reduceEqDiff, reduceCtorEq, Nat.reduceLeDiff, Nat.reduceBEq, Nat.reduceMul, Int.reduceToNat, hE0]; rfl) (by repeat' first | exact trivial | constructor) ?_
   refine Holds.condT rfl ?_
   refine Holds.step (Px := px) (T := TT) (ρ := fun _ => []) TTe (by simp (maxSteps := 100000) (disch := omega) only [go_sem, V.isAgg, V.flat, ↓reduceIte, Nat.reduceAdd, Nat.reduceSub, Nat.reduceLT, Nat.reduceEqDiff, reduceCtorEq, Nat.reduceLeDiff, Nat.reduceBEq, Nat.reduceMul, Int.reduceToNat]; rfl) (by repeat' first | exact trivial | constructor) ?_
   exact Holds.ret (RetOk.vs rfl (by exact ⟨⟨rfl, id⟩, ⟨rfl, id⟩, ⟨rfl, id⟩, ⟨rfl, id⟩, trivial⟩) rfl)
set_option maxHeartbeats 2000000 in
theorem Places_gen (k P r kd0 e0 kd ex E n : Int) (n0 ng b : Bool) (L ms : List V) (s : ByteArray)
 (hN : FnOk Tryz.prog 49 [.v (.agg [.int .i64 k, .int .i64 P]), .v (.int .i64 r), .v (.bool (outB n 0 1200)), .v (.agg [.int .i64 kd0, .bool n0, .int .i64 e0, .sl 1 L])] [.v true (.agg [.int .i64 kd, .bool ng, .int .i64 ex, .sl 1 ms]), .v true (.int .i64 E)])
 (hE : E ≠ 0 → s = ⟨#[]⟩ ∧ b = false) (h3 : E = 0 → kd = 3 ∨ kd = 2 → s = bs (spL kd ng) ∧ b = true)
 (h1 : E = 0 → ¬ (kd = 3 ∨ kd = 2) → ∃ (u v q : List Int) (t1 t2 : ByteArray), FnOk Tryz.prog 80 [.v (.agg [.int .i64 kd, .bool ng, .int .i64 ex, .sl 1 ms]), .v (.int .i64 n)] [.v true (words u), .v true (words v)] ∧
   FnOk Tryz.prog 81 [.v (.int .i64 r), .v (.bool ng), .v (words u), .v (words v)] [.v true (words q), .v true (.bool b)] ∧ FnOk Tryz.prog 54 [.v (words q)] [.v true (.str t1)] ∧ FnOk Tryz.prog 56 [.v (.str t1), .v (.int .i64 n)] [.v true (.str t2)] ∧ FnOk Tryz.prog 51 [.v (.bool ng), .v (.str t2)] [.v true (.str s)]) :
 FnOk Tryz.prog 23 [.v (.agg [.int .i64 k, .int .i64 P]), .v (.int .i64 r), .v (.agg [.int .i64 kd0, .bool n0, .int .i64 e0, .sl 1 L]), .v (.int .i64 n)] [.v true (.str s), .v true (.bool b), .v true (.int .i64 E)] := by
 obtain ⟨ob, hob⟩ : ∃ b, b = outB n 0 1200 := ⟨_, rfl⟩
 rw [← hob] at hN
 refine FnOk.of Tryz.func23 rfl rfl fun cx w0 => ?_
 rw [show Tryz.f23.ntmps = 64 from rfl]
 refine Holds.step (Px := px) (T := TT) (ρ := fun _ => []) TTe (by simp (maxSteps := 100000) (disch := omega) only [go_sem, V.isAgg, V.flat, ↓reduceIte, Nat.reduceAdd, Nat.reduceSub, Nat.reduceLT, Nat.reduceEqDiff, reduceCtorEq, Nat.reduceLeDiff, Nat.reduceBEq, Nat.reduceMul, Int.reduceToNat, List.length_cons, List.length_nil]; rfl) (by repeat' first | exact trivial | constructor) ?_
 refine Holds.next (fun σ => ∀ a w, Rel cx w0 σ a w → Rel cx w0 { nt := 64, env := [(11, .v true (.int .i64 E)), (6, .ptr 6 0 [] 0), (1, .v true (.int .i64 r)), (3, .v true (.int .i64 n))], mem := [(6, .box 28 (.v false (.agg [.int .i64 kd, .bool ng, .int .i64 ex, .sl 1 ms])))] } a w) ?_ ?_
 ·by_cases g1 : n < 0
  ·have : ob = true := by rw [hob]; exact decide_eq_true (.inl g1)
   subst this
   refine Holds.region (Px := px) (T := TT) (ρ := fun _ => [.v true (.agg [.int .i64 kd, .bool ng, .int .i64 ex, .sl 1 ms]), .v true (.int .i64 E)]) TTe (by simp (maxSteps := 100000) (disch := omega) only [go_sem, V.isAgg, V.flat, ↓reduceIte, Nat.reduceAdd, Nat.reduceSub, Nat.reduceLT, Nat.reduceEqDiff, reduceCtorEq, Nat.reduceLeDiff, Nat.reduceBEq, Nat.reduceMul, Int.reduceToNat, g1]; rfl) (by first | exact hN | (repeat' first | exact trivial | exact hN | constructor)) ?_
   exact fun a w h => Rel.keep [11, 6, 1, 3] [6] h
  ·by_cases g2 : 1200 < n
   ·have : ob = true := by rw [hob]; exact decide_eq_true (.inr g2)
    subst this
    refine Holds.region (Px := px) (T := TT) (ρ := fun _ => [.v true (.agg [.int .i64 kd, .bool ng, .int .i64 ex, .sl 1 ms]), .v true (.int .i64 E)]) TTe (by simp (maxSteps := 100000) (disch := omega) only [go_sem, V.isAgg, V.flat, ↓reduceIte, Nat.reduceAdd, Nat.reduceSub, Nat.reduceLT, Nat.reduceEqDiff, reduceCtorEq, Nat.reduceLeDiff, Nat.reduceBEq, Nat.reduceMul, Int.reduceToNat, g1, g2]; rfl) (by first | exact hN | (repeat' first | exact trivial | exact hN | constructor)) ?_
    exact fun a w h => Rel.keep [11, 6, 1, 3] [6] h
   ·have : ob = false := by rw [hob]; exact decide_eq_false (by omega)
    subst this
    refine Holds.region (Px := px) (T := TT) (ρ := fun _ => [.v true (.agg [.int .i64 kd, .bool ng, .int .i64 ex, .sl 1 ms]), .v true (.int .i64 E)]) TTe (by simp (maxSteps := 100000) (disch := omega) only [go_sem, V.isAgg, V.flat, ↓reduceIte, Nat.reduceAdd, Nat.reduceSub, Nat.reduceLT, Nat.reduceEqDiff, reduceCtorEq, Nat.reduceLeDiff, Nat.reduceBEq, Nat.reduceMul, Int.reduceToNat, g1, g2]; rfl) (by first | exact hN | (repeat' first | exact trivial | exact hN | constructor)) ?_
    exact fun a w h => Rel.keep [11, 6, 1, 3] [6] h
 ·intro σ hσ
  refine Holds.from hσ ?_
  clear hN hob
  refine Holds.seq ?_
  by_cases hE0 : E = 0
  ·subst hE0
   have h1 := h1 rfl
   have h3 := h3 rfl
   clear hE
   refine Holds.step (Px := px) (T := TT) (ρ := fun _ => []) TTe (by simp (maxSteps := 100000) (disch := omega) only [go_sem, V.isAgg, V.flat, ↓reduceIte, Nat.reduceAdd, Nat.reduceSub, Nat.reduceLT, Nat.reduceEqDiff, reduceCtorEq, Nat.reduceLeDiff, Nat.reduceBEq, Nat.reduceMul, Int.reduceToNat]; rfl) (by repeat' first | exact trivial | constructor) ?_
   refine Holds.condF rfl (Holds.skip ?_)
   show Holds _ _ _ _ _ _ _
   have hS := sSpecial_ok kd ng ex 0 ms
   refine Holds.seq ?_
   by_cases hk : kd = 3 ∨ kd = 2
   ·obtain ⟨hs, rfl⟩ := h3 hk
    rw [decide_eq_true hk, ← hs] at hS
    clear h3 h1 hs
    refine Holds.step (Px := px) (T := TT) (ρ := fun _ => [.v true (.str s), .v true (.bool true)]) TTe (by simp (maxSteps := 100000) (disch := omega) only [go_sem, V.isAgg, V.flat, ↓reduceIte, Nat.reduceAdd, Nat.reduceSub, Nat.reduceLT, Nat.reduceEqDiff, reduceCtorEq, Nat.reduceLeDiff, Nat.reduceBEq, Nat.reduceMul, Int.reduceToNat]; rfl) (by first | exact hS | (repeat' first | exact trivial | exact hS | constructor)) ?_
    refine Holds.step (Px := px) (T := TT) (ρ := fun _ => []) TTe (by simp (maxSteps := 100000) (disch := omega) only [go_sem, V.isAgg, V.flat, ↓reduceIte, Nat.reduceAdd, Nat.reduceSub, Nat.reduceLT, Nat.reduceEqDiff, reduceCtorEq, Nat.reduceLeDiff, Nat.reduceBEq, Nat.reduceMul, Int.reduceToNat]; rfl) (by repeat' first | exact trivial | constructor) ?_
    refine Holds.condT rfl ?_
    refine Holds.step (Px := px) (T := TT) (ρ := fun _ => []) TTe (by simp (maxSteps := 100000) (disch := omega) only [go_sem, V.isAgg, V.flat, ↓reduceIte, Nat.reduceAdd, Nat.reduceSub, Nat.reduceLT, Nat.reduceEqDiff, reduceCtorEq, Nat.reduceLeDiff, Nat.reduceBEq, Nat.reduceMul, Int.reduceToNat]; rfl) (by repeat' first | exact trivial | constructor) ?_
    exact Holds.ret (RetOk.vs rfl (by exact ⟨⟨rfl, id⟩, ⟨rfl, id⟩, ⟨rfl, id⟩, trivial⟩) rfl)
   ·obtain ⟨u, v, q, t1, t2, c1, c2, c3, c4, c5⟩ := h1 hk
    rw [decide_eq_false hk] at hS
    obtain ⟨t0, ht⟩ : ∃ s, s = bs (spL kd ng) := ⟨_, rfl⟩
    rw [← ht] at hS
    clear h3 h1 ht
    refine Holds.step (Px := px) (T := TT) (ρ := fun _ => [.v true (.str t0), .v true (.bool false)]) TTe (by simp (maxSteps := 100000) (disch := omega) only [go_sem, V.isAgg, V.flat, ↓reduceIte, Nat.reduceAdd, Nat.reduceSub, Nat.reduceLT, Nat.reduceEqDiff, reduceCtorEq, Nat.reduceLeDiff, Nat.reduceBEq, Nat.reduceMul, Int.reduceToNat]; rfl) (by first | exact hS | (repeat' first | exact trivial | exact hS | constructor)) ?_
    refine Holds.step (Px := px) (T := TT) (ρ := fun _ => []) TTe (by simp (maxSteps := 100000) (disch := omega) only [go_sem, V.isAgg, V.flat, ↓reduceIte, Nat.reduceAdd, Nat.reduceSub, Nat.reduceLT, Nat.reduceEqDiff, reduceCtorEq, Nat.reduceLeDiff, Nat.reduceBEq, Nat.reduceMul, Int.reduceToNat]; rfl) (by repeat' first | exact trivial | constructor) ?_
    refine Holds.condF rfl (Holds.skip ?_)
    show Holds _ _ _ _ _ _ _
    refine Holds.step (Px := px) (T := TT) (ρ := fun _ => [.v true (words u), .v true (words v)]) TTe (by simp (maxSteps := 100000) (disch := omega) only [go_sem, V.isAgg, V.flat, ↓reduceIte, Nat.reduceAdd, Nat.reduceSub, Nat.reduceLT, Nat.reduceEqDiff, reduceCtorEq, Nat.reduceLeDiff, Nat.reduceBEq, Nat.reduceMul, Int.reduceToNat]; rfl) (by first | exact c1 | (repeat' first | exact trivial | exact c1 | constructor)) ?_
    refine Holds.step (Px := px) (T := TT) (ρ := fun _ => [.v true (words q), .v true (.bool b)]) TTe (by simp (maxSteps := 100000) (disch := omega) only [go_sem, V.isAgg, V.flat, ↓reduceIte, Nat.reduceAdd, Nat.reduceSub, Nat.reduceLT, Nat.reduceEqDiff, reduceCtorEq, Nat.reduceLeDiff, Nat.reduceBEq, Nat.reduceMul, Int.reduceToNat]; rfl) (by first | exact c2 | (repeat' first | exact trivial | exact c2 | constructor)) ?_
    refine Holds.dstep (Px := px) (T := TT) (ρ := fun y => if y = 59 then [.v true (.str t1)] else if y = 61 then [.v true (.str t2)] else [.v true (.str s)]) [] mixed (by kernel_rfl) TTe (by simp (maxSteps := 100000) (disch := omega) only [go_sem, V.isAgg, V.flat, ↓reduceIte, Nat.reduceAdd, Nat.reduceSub, Nat.reduceLT, Nat.reduceEqDiff, reduceCtorEq, Nat.reduceLeDiff, Nat.reduceBEq, Nat.reduceMul, Int.reduceToNat]; rfl) (by first | exact ⟨c3, c4, c5⟩ | (repeat' first | exact trivial | exact c3 | exact c4 | exact c5 | constructor)) (by rfl) (by rfl) (by rfl) ?_
    exact Holds.ret (RetOk.vs rfl (by exact ⟨⟨rfl, id⟩, ⟨rfl, id⟩, ⟨rfl, id⟩, trivial⟩) rfl)
  ·obtain ⟨rfl, rfl⟩ := hE hE0
   refine Holds.step (Px := px) (T := TT) (ρ := fun _ => []) TTe (by simp (maxSteps := 100000) (disch := omega) only [go_sem, V.isAgg, V.flat, ↓reduceIte, Nat.reduceAdd, Nat.reduceSub, Nat.reduceLT, Nat.reduceEqDiff, reduceCtorEq, Nat.reduceLeDiff, Nat.reduceBEq, Nat.reduceMul, Int.reduceToNat, hE0]; rfl) (by repeat' first | exact trivial | constructor) ?_
   refine Holds.condT rfl ?_
   refine Holds.step (Px := px) (T := TT) (ρ := fun _ => []) TTe (by simp (maxSteps := 100000) (disch := omega) only [go_sem, V.isAgg, V.flat, ↓reduceIte, Nat.reduceAdd, Nat.reduceSub, Nat.reduceLT, Nat.reduceEqDiff, reduceCtorEq, Nat.reduceLeDiff, Nat.reduceBEq, Nat.reduceMul, Int.reduceToNat]; rfl) (by repeat' first | exact trivial | constructor) ?_
   exact Holds.ret (RetOk.vs rfl (by exact ⟨⟨rfl, id⟩, ⟨rfl, id⟩, ⟨rfl, id⟩, trivial⟩) rfl)
set_option maxHeartbeats 2000000 in
theorem Exact_gen (k P kd0 e0 kd ex E : Int) (n0 ng : Bool) (L ms : List V) (s : ByteArray) (hx : -1000000 < ex ∧ ex < 1000000)
 (hN : FnOk Tryz.prog 49 [.v (.agg [.int .i64 k, .int .i64 P]), .v (.int .i64 0), .v (.bool false), .v (.agg [.int .i64 kd0, .bool n0, .int .i64 e0, .sl 1 L])] [.v true (.agg [.int .i64 kd, .bool ng, .int .i64 ex, .sl 1 ms]), .v true (.int .i64 E)])
 (hE : E ≠ 0 → s = ⟨#[]⟩) (h3 : E = 0 → kd = 3 ∨ kd = 2 → s = bs (spL kd ng))
 (h1 : E = 0 → ¬ (kd = 3 ∨ kd = 2) → 0 ≤ ex → ∃ (u : List Int) (t : ByteArray), FnOk Tryz.prog 55 [.v (.sl 1 ms), .v (.int .i64 ex)] [.v true (words u)] ∧ FnOk Tryz.prog 54 [.v (words u)] [.v true (.str t)] ∧ FnOk Tryz.prog 51 [.v (.bool ng), .v (.str t)] [.v true (.str s)])
 (h2 : E = 0 → ¬ (kd = 3 ∨ kd = 2) → ex < 0 → ∃ (u v : List Int) (t t2 : ByteArray), FnOk Tryz.prog 58 [.v (.sl 1 [.int .u64 5]), .v (.int .i64 (-ex))] [.v true (words u)] ∧ FnOk Tryz.prog 57 [.v (.sl 1 ms), .v (words u)] [.v true (words v)] ∧ FnOk Tryz.prog 54 [.v (words v)] [.v true (.str t)] ∧ FnOk Tryz.prog 56 [.v (.str t), .v (.int .i64 (-ex))] [.v true (.str t2)] ∧ FnOk Tryz.prog 51 [.v (.bool ng), .v (.str t2)] [.v true (.str s)]) :
 FnOk Tryz.prog 15 [.v (.agg [.int .i64 k, .int .i64 P]), .v (.agg [.int .i64 kd0, .bool n0, .int .i64 e0, .sl 1 L])] [.v true (.str s), .v true (.int .i64 E)] := by
 refine FnOk.of Tryz.func15 rfl rfl fun cx w0 => ?_
 rw [show Tryz.f15.ntmps = 54 from rfl]
 refine Holds.step (Px := px) (T := TT) (ρ := fun _ => []) TTe (by simp (maxSteps := 100000) (disch := omega) only [go_sem, V.isAgg, V.flat, ↓reduceIte, Nat.reduceAdd, Nat.reduceSub, Nat.reduceLT, Nat.reduceEqDiff, reduceCtorEq, Nat.reduceLeDiff, Nat.reduceBEq, Nat.reduceMul, Int.reduceToNat, List.length_cons, List.length_nil]; rfl) (by repeat' first | exact trivial | constructor) ?_
 refine Holds.step (Px := px) (T := TT) (ρ := fun _ => [.v true (.agg [.int .i64 kd, .bool ng, .int .i64 ex, .sl 1 ms]), .v true (.int .i64 E)]) TTe (by simp (maxSteps := 100000) (disch := omega) only [go_sem, V.isAgg, V.flat, ↓reduceIte, Nat.reduceAdd, Nat.reduceSub, Nat.reduceLT, Nat.reduceEqDiff, reduceCtorEq, Nat.reduceLeDiff, Nat.reduceBEq, Nat.reduceMul, Int.reduceToNat]; rfl) (by first | exact hN | (repeat' first | exact trivial | exact hN | constructor)) ?_
 clear hN
 refine Holds.seq ?_
 by_cases hE0 : E = 0
 ·subst hE0
  have h1 := h1 rfl
  have h2 := h2 rfl
  have h3 := h3 rfl
  clear hE
  refine Holds.step (Px := px) (T := TT) (ρ := fun _ => []) TTe (by simp (maxSteps := 100000) (disch := omega) only [go_sem, V.isAgg, V.flat, ↓reduceIte, Nat.reduceAdd, Nat.reduceSub, Nat.reduceLT, Nat.reduceEqDiff, reduceCtorEq, Nat.reduceLeDiff, Nat.reduceBEq, Nat.reduceMul, Int.reduceToNat]; rfl) (by repeat' first | exact trivial | constructor) ?_
  refine Holds.condF rfl (Holds.skip ?_)
  show Holds _ _ _ _ _ _ _
  have hS := sSpecial_ok kd ng ex 0 ms
  refine Holds.seq ?_
  by_cases hk : kd = 3 ∨ kd = 2
  ·have hs := h3 hk
   rw [decide_eq_true hk, ← hs] at hS
   clear h3 h1 h2 hs
   refine Holds.step (Px := px) (T := TT) (ρ := fun _ => [.v true (.str s), .v true (.bool true)]) TTe (by simp (maxSteps := 100000) (disch := omega) only [go_sem, V.isAgg, V.flat, ↓reduceIte, Nat.reduceAdd, Nat.reduceSub, Nat.reduceLT, Nat.reduceEqDiff, reduceCtorEq, Nat.reduceLeDiff, Nat.reduceBEq, Nat.reduceMul, Int.reduceToNat]; rfl) (by first | exact hS | (repeat' first | exact trivial | exact hS | constructor)) ?_
   refine Holds.step (Px := px) (T := TT) (ρ := fun _ => []) TTe (by simp (maxSteps := 100000) (disch := omega) only [go_sem, V.isAgg, V.flat, ↓reduceIte, Nat.reduceAdd, Nat.reduceSub, Nat.reduceLT, Nat.reduceEqDiff, reduceCtorEq, Nat.reduceLeDiff, Nat.reduceBEq, Nat.reduceMul, Int.reduceToNat]; rfl) (by repeat' first | exact trivial | constructor) ?_
   refine Holds.condT rfl ?_
   refine Holds.step (Px := px) (T := TT) (ρ := fun _ => []) TTe (by simp (maxSteps := 100000) (disch := omega) only [go_sem, V.isAgg, V.flat, ↓reduceIte, Nat.reduceAdd, Nat.reduceSub, Nat.reduceLT, Nat.reduceEqDiff, reduceCtorEq, Nat.reduceLeDiff, Nat.reduceBEq, Nat.reduceMul, Int.reduceToNat]; rfl) (by repeat' first | exact trivial | constructor) ?_
   exact Holds.ret (RetOk.vs rfl (by exact ⟨⟨rfl, id⟩, ⟨rfl, id⟩, trivial⟩) rfl)
  ·have h1 := h1 hk
   have h2 := h2 hk
   rw [decide_eq_false hk] at hS
   obtain ⟨t0, ht⟩ : ∃ s, s = bs (spL kd ng) := ⟨_, rfl⟩
   rw [← ht] at hS
   clear h3 ht
   refine Holds.step (Px := px) (T := TT) (ρ := fun _ => [.v true (.str t0), .v true (.bool false)]) TTe (by simp (maxSteps := 100000) (disch := omega) only [go_sem, V.isAgg, V.flat, ↓reduceIte, Nat.reduceAdd, Nat.reduceSub, Nat.reduceLT, Nat.reduceEqDiff, reduceCtorEq, Nat.reduceLeDiff, Nat.reduceBEq, Nat.reduceMul, Int.reduceToNat]; rfl) (by first | exact hS | (repeat' first | exact trivial | exact hS | constructor)) ?_
   refine Holds.step (Px := px) (T := TT) (ρ := fun _ => []) TTe (by simp (maxSteps := 100000) (disch := omega) only [go_sem, V.isAgg, V.flat, ↓reduceIte, Nat.reduceAdd, Nat.reduceSub, Nat.reduceLT, Nat.reduceEqDiff, reduceCtorEq, Nat.reduceLeDiff, Nat.reduceBEq, Nat.reduceMul, Int.reduceToNat]; rfl) (by repeat' first | exact trivial | constructor) ?_
   refine Holds.condF rfl (Holds.skip ?_)
   show Holds _ _ _ _ _ _ _
   have wn : IntKind.i64.wrap (0 - ex) = -ex := by rw [wrap_i64] <;> omega
   have w2 : (if -ex < 0 then (0 : Int) else -ex) = ((-ex).toNat : Int) := by split <;> omega
   refine Holds.step (Px := px) (T := TT) (ρ := fun _ => []) TTe (by simp (maxSteps := 100000) (disch := omega) only [go_sem, V.isAgg, V.flat, ↓reduceIte, Nat.reduceAdd, Nat.reduceSub, Nat.reduceLT, Nat.reduceEqDiff, reduceCtorEq, Nat.reduceLeDiff, Nat.reduceBEq, Nat.reduceMul, Int.reduceToNat, unA, wn, w2]; rfl) (by repeat' first | exact trivial | constructor) ?_
   refine Holds.from (σ' := { nt := 54, env := [(9, .v true (.int .i64 ((-ex).toNat : Nat))), (3, .ptr 3 0 [] 0)], mem := [(3, .box 28 (.v false (.agg [.int .i64 kd, .bool ng, .int .i64 ex, .sl 1 ms])))] }) (fun a w h => Rel.keep [9, 3] [3] h) ?_
   refine Holds.seq ?_
   by_cases g : 0 ≤ ex
   ·obtain ⟨u, t, c1, c2, c3⟩ := h1 g
    clear h1 h2
    refine Holds.step (Px := px) (T := TT) (ρ := fun _ => []) TTe (by simp (maxSteps := 100000) (disch := omega) only [go_sem, V.isAgg, V.flat, ↓reduceIte, Nat.reduceAdd, Nat.reduceSub, Nat.reduceLT, Nat.reduceEqDiff, reduceCtorEq, Nat.reduceLeDiff, Nat.reduceBEq, Nat.reduceMul, Int.reduceToNat, g]; rfl) (by repeat' first | exact trivial | constructor) ?_
    refine Holds.condT rfl ?_
    refine Holds.dstep (Px := px) (T := TT) (ρ := fun y => if y = 39 then [.v true (words u)] else if y = 40 then [.v true (.str t)] else [.v true (.str s)]) [] mixed (by kernel_rfl) TTe (by simp (maxSteps := 100000) (disch := omega) only [go_sem, V.isAgg, V.flat, ↓reduceIte, Nat.reduceAdd, Nat.reduceSub, Nat.reduceLT, Nat.reduceEqDiff, reduceCtorEq, Nat.reduceLeDiff, Nat.reduceBEq, Nat.reduceMul, Int.reduceToNat]; rfl) (by first | exact ⟨c1, c2, c3⟩ | (repeat' first | exact trivial | exact c1 | exact c2 | exact c3 | constructor)) (by rfl) (by rfl) (by rfl) ?_
    exact Holds.ret (RetOk.vs rfl (by exact ⟨⟨rfl, id⟩, ⟨rfl, id⟩, trivial⟩) rfl)
   ·obtain ⟨u, v, t, t2, c1, c2, c3, c4, c5⟩ := h2 (by omega)
    clear h1 h2
    have en : -ex = ((-ex).toNat : Int) := by omega
    rw [en] at c1 c4
    obtain ⟨m, hm⟩ : ∃ m, m = (-ex).toNat := ⟨_, rfl⟩
    rw [← hm] at c1 c4 ⊢
    refine Holds.step (Px := px) (T := TT) (ρ := fun _ => []) TTe (by simp (maxSteps := 100000) (disch := omega) only [go_sem, V.isAgg, V.flat, ↓reduceIte, Nat.reduceAdd, Nat.reduceSub, Nat.reduceLT, Nat.reduceEqDiff, reduceCtorEq, Nat.reduceLeDiff, Nat.reduceBEq, Nat.reduceMul, Int.reduceToNat, g]; rfl) (by repeat' first | exact trivial | constructor) ?_
    refine Holds.condF rfl (Holds.skip ?_)
    show Holds _ _ _ _ _ _ _
    refine Holds.dstep (Px := px) (T := TT) (ρ := fun y => if y = 48 then [.v true (words u)] else if y = 49 then [.v true (words v)] else if y = 50 then [.v true (.str t)] else if y = 52 then [.v true (.str t2)] else [.v true (.str s)]) [] mixed (by kernel_rfl) TTe (by simp (maxSteps := 100000) (disch := omega) only [go_sem, V.isAgg, V.flat, ↓reduceIte, Nat.reduceAdd, Nat.reduceSub, Nat.reduceLT, Nat.reduceEqDiff, reduceCtorEq, Nat.reduceLeDiff, Nat.reduceBEq, Nat.reduceMul, Int.reduceToNat]; rfl) (by first | exact ⟨c1, c2, c3, c4, c5⟩ | (repeat' first | exact trivial | exact c1 | exact c2 | exact c3 | exact c4 | exact c5 | constructor)) (by rfl) (by rfl) (by rfl) ?_
    exact Holds.ret (RetOk.vs rfl (by exact ⟨⟨rfl, id⟩, ⟨rfl, id⟩, trivial⟩) rfl)
 ·obtain rfl := hE hE0
  refine Holds.step (Px := px) (T := TT) (ρ := fun _ => []) TTe (by simp (maxSteps := 100000) (disch := omega) only [go_sem, V.isAgg, V.flat, ↓reduceIte, Nat.reduceAdd, Nat.reduceSub, Nat.reduceLT, Nat.reduceEqDiff, reduceCtorEq, Nat.reduceLeDiff, Nat.reduceBEq, Nat.reduceMul, Int.reduceToNat, hE0]; rfl) (by repeat' first | exact trivial | constructor) ?_
  refine Holds.condT rfl ?_
  refine Holds.step (Px := px) (T := TT) (ρ := fun _ => []) TTe (by simp (maxSteps := 100000) (disch := omega) only [go_sem, V.isAgg, V.flat, ↓reduceIte, Nat.reduceAdd, Nat.reduceSub, Nat.reduceLT, Nat.reduceEqDiff, reduceCtorEq, Nat.reduceLeDiff, Nat.reduceBEq, Nat.reduceMul, Int.reduceToNat]; rfl) (by repeat' first | exact trivial | constructor) ?_
  exact Holds.ret (RetOk.vs rfl (by exact ⟨⟨rfl, id⟩, ⟨rfl, id⟩, trivial⟩) rfl)
set_option maxHeartbeats 2000000 in
theorem Scientific_gen (k P r kd0 e0 kd ex E n : Int) (n0 ng b : Bool) (L ms : List V) (s : ByteArray)
 (hN : FnOk Tryz.prog 49 [.v (.agg [.int .i64 k, .int .i64 P]), .v (.int .i64 r), .v (.bool (outB n 0 1199)), .v (.agg [.int .i64 kd0, .bool n0, .int .i64 e0, .sl 1 L])] [.v true (.agg [.int .i64 kd, .bool ng, .int .i64 ex, .sl 1 ms]), .v true (.int .i64 E)])
 (hE : E ≠ 0 → s = ⟨#[]⟩ ∧ b = false) (h3 : E = 0 → kd = 3 ∨ kd = 2 → s = bs (spL kd ng) ∧ b = true)
 (h1 : E = 0 → (0 ≤ n ∧ n ≤ 1199) ∧ (¬ (kd = 3 ∨ kd = 2) → ∃ (d : ByteArray) (x : Int) (t1 t2 : ByteArray), (kd = 1 → FnOk Tryz.prog 83 [.v (.int .i64 r), .v (.agg [.int .i64 kd, .bool ng, .int .i64 ex, .sl 1 ms]), .v (.int .i64 (n + 1))] [.v true (.str d), .v true (.int .i64 x), .v true (.bool b)]) ∧ (kd ≠ 1 → d = bs (z48 (n + 1).toNat) ∧ x = 0 ∧ b = true) ∧
   FnOk Tryz.prog 84 [.v (.str d)] [.v true (.str t1)] ∧ t1.size ≤ 10000 ∧ FnOk Tryz.prog 64 [.v (.int .i64 x), .v (.int .i64 2)] [.v true (.str t2)] ∧ t2.size ≤ 10000 ∧ FnOk Tryz.prog 51 [.v (.bool ng), .v (.str ((t1 ++ ⟨#[101]⟩) ++ t2))] [.v true (.str s)])) :
 FnOk Tryz.prog 24 [.v (.agg [.int .i64 k, .int .i64 P]), .v (.int .i64 r), .v (.agg [.int .i64 kd0, .bool n0, .int .i64 e0, .sl 1 L]), .v (.int .i64 n)] [.v true (.str s), .v true (.bool b), .v true (.int .i64 E)] := by
 obtain ⟨ob, hob⟩ : ∃ b, b = outB n 0 1199 := ⟨_, rfl⟩
 rw [← hob] at hN
 refine FnOk.of Tryz.func24 rfl rfl fun cx w0 => ?_
 rw [show Tryz.f24.ntmps = 65 from rfl]
 refine Holds.step (Px := px) (T := TT) (ρ := fun _ => []) TTe (by simp (maxSteps := 100000) (disch := omega) only [go_sem, V.isAgg, V.flat, ↓reduceIte, Nat.reduceAdd, Nat.reduceSub, Nat.reduceLT, Nat.reduceEqDiff, reduceCtorEq, Nat.reduceLeDiff, Nat.reduceBEq, Nat.reduceMul, Int.reduceToNat, List.length_cons, List.length_nil]; rfl) (by repeat' first | exact trivial | constructor) ?_
 refine Holds.next (fun σ => ∀ a w, Rel cx w0 σ a w → Rel cx w0 { nt := 65, env := [(11, .v true (.int .i64 E)), (6, .ptr 6 0 [] 0), (1, .v true (.int .i64 r)), (3, .v true (.int .i64 n))], mem := [(6, .box 28 (.v false (.agg [.int .i64 kd, .bool ng, .int .i64 ex, .sl 1 ms])))] } a w) ?_ ?_
 ·by_cases g1 : n < 0
  ·have : ob = true := by rw [hob]; exact decide_eq_true (.inl g1)
   subst this
   refine Holds.region (Px := px) (T := TT) (ρ := fun _ => [.v true (.agg [.int .i64 kd, .bool ng, .int .i64 ex, .sl 1 ms]), .v true (.int .i64 E)]) TTe (by simp (maxSteps := 100000) (disch := omega) only [go_sem, V.isAgg, V.flat, ↓reduceIte, Nat.reduceAdd, Nat.reduceSub, Nat.reduceLT, Nat.reduceEqDiff, reduceCtorEq, Nat.reduceLeDiff, Nat.reduceBEq, Nat.reduceMul, Int.reduceToNat, g1]; rfl) (by first | exact hN | (repeat' first | exact trivial | exact hN | constructor)) ?_
   exact fun a w h => Rel.keep [11, 6, 1, 3] [6] h
  ·by_cases g2 : 1199 < n
   ·have : ob = true := by rw [hob]; exact decide_eq_true (.inr g2)
    subst this
    refine Holds.region (Px := px) (T := TT) (ρ := fun _ => [.v true (.agg [.int .i64 kd, .bool ng, .int .i64 ex, .sl 1 ms]), .v true (.int .i64 E)]) TTe (by simp (maxSteps := 100000) (disch := omega) only [go_sem, V.isAgg, V.flat, ↓reduceIte, Nat.reduceAdd, Nat.reduceSub, Nat.reduceLT, Nat.reduceEqDiff, reduceCtorEq, Nat.reduceLeDiff, Nat.reduceBEq, Nat.reduceMul, Int.reduceToNat, g1, g2]; rfl) (by first | exact hN | (repeat' first | exact trivial | exact hN | constructor)) ?_
    exact fun a w h => Rel.keep [11, 6, 1, 3] [6] h
   ·have : ob = false := by rw [hob]; exact decide_eq_false (by omega)
    subst this
    refine Holds.region (Px := px) (T := TT) (ρ := fun _ => [.v true (.agg [.int .i64 kd, .bool ng, .int .i64 ex, .sl 1 ms]), .v true (.int .i64 E)]) TTe (by simp (maxSteps := 100000) (disch := omega) only [go_sem, V.isAgg, V.flat, ↓reduceIte, Nat.reduceAdd, Nat.reduceSub, Nat.reduceLT, Nat.reduceEqDiff, reduceCtorEq, Nat.reduceLeDiff, Nat.reduceBEq, Nat.reduceMul, Int.reduceToNat, g1, g2]; rfl) (by first | exact hN | (repeat' first | exact trivial | exact hN | constructor)) ?_
    exact fun a w h => Rel.keep [11, 6, 1, 3] [6] h
 ·intro σ hσ
  refine Holds.from hσ ?_
  clear hN hob
  refine Holds.seq ?_
  by_cases hE0 : E = 0
  ·subst hE0
   obtain ⟨hn, h1⟩ := h1 rfl
   have h3 := h3 rfl
   clear hE
   refine Holds.step (Px := px) (T := TT) (ρ := fun _ => []) TTe (by simp (maxSteps := 100000) (disch := omega) only [go_sem, V.isAgg, V.flat, ↓reduceIte, Nat.reduceAdd, Nat.reduceSub, Nat.reduceLT, Nat.reduceEqDiff, reduceCtorEq, Nat.reduceLeDiff, Nat.reduceBEq, Nat.reduceMul, Int.reduceToNat]; rfl) (by repeat' first | exact trivial | constructor) ?_
   refine Holds.condF rfl (Holds.skip ?_)
   show Holds _ _ _ _ _ _ _
   have hS := sSpecial_ok kd ng ex 0 ms
   refine Holds.seq ?_
   by_cases hk : kd = 3 ∨ kd = 2
   ·obtain ⟨hs, rfl⟩ := h3 hk
    rw [decide_eq_true hk, ← hs] at hS
    clear h3 h1 hs
    refine Holds.step (Px := px) (T := TT) (ρ := fun _ => [.v true (.str s), .v true (.bool true)]) TTe (by simp (maxSteps := 100000) (disch := omega) only [go_sem, V.isAgg, V.flat, ↓reduceIte, Nat.reduceAdd, Nat.reduceSub, Nat.reduceLT, Nat.reduceEqDiff, reduceCtorEq, Nat.reduceLeDiff, Nat.reduceBEq, Nat.reduceMul, Int.reduceToNat]; rfl) (by first | exact hS | (repeat' first | exact trivial | exact hS | constructor)) ?_
    refine Holds.step (Px := px) (T := TT) (ρ := fun _ => []) TTe (by simp (maxSteps := 100000) (disch := omega) only [go_sem, V.isAgg, V.flat, ↓reduceIte, Nat.reduceAdd, Nat.reduceSub, Nat.reduceLT, Nat.reduceEqDiff, reduceCtorEq, Nat.reduceLeDiff, Nat.reduceBEq, Nat.reduceMul, Int.reduceToNat]; rfl) (by repeat' first | exact trivial | constructor) ?_
    refine Holds.condT rfl ?_
    refine Holds.step (Px := px) (T := TT) (ρ := fun _ => []) TTe (by simp (maxSteps := 100000) (disch := omega) only [go_sem, V.isAgg, V.flat, ↓reduceIte, Nat.reduceAdd, Nat.reduceSub, Nat.reduceLT, Nat.reduceEqDiff, reduceCtorEq, Nat.reduceLeDiff, Nat.reduceBEq, Nat.reduceMul, Int.reduceToNat]; rfl) (by repeat' first | exact trivial | constructor) ?_
    exact Holds.ret (RetOk.vs rfl (by exact ⟨⟨rfl, id⟩, ⟨rfl, id⟩, ⟨rfl, id⟩, trivial⟩) rfl)
   ·obtain ⟨d, x, t1, t2, c1, c0, c2, l2, c3, l3, c4⟩ := h1 hk
    rw [decide_eq_false hk] at hS
    obtain ⟨t0, ht⟩ : ∃ s, s = bs (spL kd ng) := ⟨_, rfl⟩
    rw [← ht] at hS
    have hZ := repeat_ok (n + 1).toNat (by omega)
    rw [show (((n + 1).toNat : Nat) : Int) = n + 1 from by omega] at hZ
    obtain ⟨z, hz⟩ : ∃ z, z = bs (z48 (n + 1).toNat) := ⟨_, rfl⟩
    rw [← hz] at hZ c0
    have w1 : IntKind.i64.wrap (n + 1) = n + 1 := by rw [wrap_i64] <;> omega
    clear h3 h1 ht hz
    refine Holds.step (Px := px) (T := TT) (ρ := fun _ => [.v true (.str t0), .v true (.bool false)]) TTe (by simp (maxSteps := 100000) (disch := omega) only [go_sem, V.isAgg, V.flat, ↓reduceIte, Nat.reduceAdd, Nat.reduceSub, Nat.reduceLT, Nat.reduceEqDiff, reduceCtorEq, Nat.reduceLeDiff, Nat.reduceBEq, Nat.reduceMul, Int.reduceToNat]; rfl) (by first | exact hS | (repeat' first | exact trivial | exact hS | constructor)) ?_
    refine Holds.step (Px := px) (T := TT) (ρ := fun _ => []) TTe (by simp (maxSteps := 100000) (disch := omega) only [go_sem, V.isAgg, V.flat, ↓reduceIte, Nat.reduceAdd, Nat.reduceSub, Nat.reduceLT, Nat.reduceEqDiff, reduceCtorEq, Nat.reduceLeDiff, Nat.reduceBEq, Nat.reduceMul, Int.reduceToNat]; rfl) (by repeat' first | exact trivial | constructor) ?_
    refine Holds.condF rfl (Holds.skip ?_)
    show Holds _ _ _ _ _ _ _
    refine Holds.step (Px := px) (T := TT) (ρ := fun _ => [.v true (.str z)]) TTe (by simp (maxSteps := 100000) (disch := omega) only [go_sem, V.isAgg, V.flat, ↓reduceIte, Nat.reduceAdd, Nat.reduceSub, Nat.reduceLT, Nat.reduceEqDiff, reduceCtorEq, Nat.reduceLeDiff, Nat.reduceBEq, Nat.reduceMul, Int.reduceToNat, w1]; rfl) (by first | exact hZ | (repeat' first | exact trivial | exact hZ | constructor)) ?_
    refine Holds.next (fun σ => ∀ a w, Rel cx w0 σ a w → Rel cx w0 { nt := 65, env := [(14, .v true (.str d)), (15, .v true (.int .i64 x)), (16, .v true (.bool b)), (6, .ptr 6 0 [] 0)], mem := [(6, .box 28 (.v false (.agg [.int .i64 kd, .bool ng, .int .i64 ex, .sl 1 ms])))] } a w) ?_ ?_
    ·by_cases h : kd = 1
     ·have c1 := c1 h
      subst h
      refine Holds.step (Px := px) (T := TT) (ρ := fun _ => []) TTe (by simp (maxSteps := 100000) (disch := omega) only [go_sem, V.isAgg, V.flat, ↓reduceIte, Nat.reduceAdd, Nat.reduceSub, Nat.reduceLT, Nat.reduceEqDiff, reduceCtorEq, Nat.reduceLeDiff, Nat.reduceBEq, Nat.reduceMul, Int.reduceToNat]; rfl) (by repeat' first | exact trivial | constructor) ?_
      refine Holds.condT rfl ?_
      refine Holds.region (Px := px) (T := TT) (ρ := fun _ => [.v true (.str d), .v true (.int .i64 x), .v true (.bool b)]) TTe (by simp (maxSteps := 100000) (disch := omega) only [go_sem, V.isAgg, V.flat, ↓reduceIte, Nat.reduceAdd, Nat.reduceSub, Nat.reduceLT, Nat.reduceEqDiff, reduceCtorEq, Nat.reduceLeDiff, Nat.reduceBEq, Nat.reduceMul, Int.reduceToNat, w1]; rfl) (by first | exact c1 | (repeat' first | exact trivial | exact c1 | constructor)) ?_
      exact fun a w h => Rel.keep [14, 15, 16, 6] [6] h
     ·obtain ⟨rfl, rfl, rfl⟩ := c0 h
      refine Holds.step (Px := px) (T := TT) (ρ := fun _ => []) TTe (by simp (maxSteps := 100000) (disch := omega) only [go_sem, V.isAgg, V.flat, ↓reduceIte, Nat.reduceAdd, Nat.reduceSub, Nat.reduceLT, Nat.reduceEqDiff, reduceCtorEq, Nat.reduceLeDiff, Nat.reduceBEq, Nat.reduceMul, Int.reduceToNat, h]; rfl) (by repeat' first | exact trivial | constructor) ?_
      exact Holds.condF rfl (Holds.skip fun a w h => Rel.keep [14, 15, 16, 6] [6] h)
    ·intro σ hσ
     refine Holds.from hσ ?_
     have a1 : t1.size + (#[(101 : UInt8)]).size ≤ 9223372036854775807 := by show t1.size + 1 ≤ _; omega
     have a2 : t1.size + (#[(101 : UInt8)]).size + t2.size ≤ 9223372036854775807 := by show t1.size + 1 + _ ≤ _; omega
     clear c0 c1 hZ hS l2 l3
     refine Holds.dstep (Px := px) (T := TT) (ρ := fun y => if y = 58 then [.v true (.str t1)] else if y = 61 then [.v true (.str t2)] else [.v true (.str s)]) [] mixed (by kernel_rfl) TTe (by simp (maxSteps := 100000) (disch := omega) only [go_sem, V.isAgg, V.flat, ↓reduceIte, Nat.reduceAdd, Nat.reduceSub, Nat.reduceLT, Nat.reduceEqDiff, reduceCtorEq, Nat.reduceLeDiff, Nat.reduceBEq, Nat.reduceMul, Int.reduceToNat, a1, a2]; rfl) (by first | exact ⟨c2, c3, c4⟩ | (repeat' first | exact trivial | exact c2 | exact c3 | exact c4 | constructor)) (by rfl) (by rfl) (by rfl) ?_
     exact Holds.ret (RetOk.vs rfl (by exact ⟨⟨rfl, id⟩, ⟨rfl, id⟩, ⟨rfl, id⟩, trivial⟩) rfl)
  ·obtain ⟨rfl, rfl⟩ := hE hE0
   refine Holds.step (Px := px) (T := TT) (ρ := fun _ => []) TTe (by simp (maxSteps := 100000) (disch := omega) only [go_sem, V.isAgg, V.flat, ↓reduceIte, Nat.reduceAdd, Nat.reduceSub, Nat.reduceLT, Nat.reduceEqDiff, reduceCtorEq, Nat.reduceLeDiff, Nat.reduceBEq, Nat.reduceMul, Int.reduceToNat, hE0]; rfl) (by repeat' first | exact trivial | constructor) ?_
   refine Holds.condT rfl ?_
   refine Holds.step (Px := px) (T := TT) (ρ := fun _ => []) TTe (by simp (maxSteps := 100000) (disch := omega) only [go_sem, V.isAgg, V.flat, ↓reduceIte, Nat.reduceAdd, Nat.reduceSub, Nat.reduceLT, Nat.reduceEqDiff, reduceCtorEq, Nat.reduceLeDiff, Nat.reduceBEq, Nat.reduceMul, Int.reduceToNat]; rfl) (by repeat' first | exact trivial | constructor) ?_
   exact Holds.ret (RetOk.vs rfl (by exact ⟨⟨rfl, id⟩, ⟨rfl, id⟩, ⟨rfl, id⟩, trivial⟩) rfl)
theorem rep_flt {w : World} {ok : Nat → Prop} {k : Int} {neg : Bool} {e : Int} {l : List Int} {cs : List Value} (h : Rep w ok (fltW k neg e l) cs) : ∃ sv, cs = [.int .i64 k, .bool neg, .int .i64 e, sv] ∧ ∃ ds, Rep w ok (words l) ds ∧ sv = (words l).toVal ds := by
 unfold fltW at h
 rw [Rep, RepL] at h
 obtain ⟨a1, r1, rfl, h1, h⟩ := h
 rw [RepL] at h
 obtain ⟨a2, r2, rfl, h2, h⟩ := h
 rw [RepL] at h
 obtain ⟨a3, r3, rfl, h3, h⟩ := h
 rw [RepL] at h
 obtain ⟨a4, r4, rfl, h4, h⟩ := h
 rw [RepL] at h
 subst h
 rw [Rep] at h1
 rw [Rep] at h2
 rw [Rep] at h3
 subst h1
 subst h2
 subst h3
 have hl := Rep.length h4
 have : ∃ x, a4 = [x] := by
  rw [show (words l).size = 1 from rfl] at hl
  exact List.length_eq_one_iff.1 hl
 obtain ⟨x, rfl⟩ := this
 exact ⟨x, rfl, [x], h4, rfl⟩
theorem rep_flt_of {w : World} {ok : Nat → Prop} {k : Int} {neg : Bool} {e : Int} {l : List Int} {ds : List Value} (h : Rep w ok (words l) ds) : Rep w ok (fltW k neg e l) [.int .i64 k, .bool neg, .int .i64 e, (words l).toVal ds] := by
 have hl := Rep.length h
 rw [show (words l).size = 1 from rfl] at hl
 obtain ⟨x, rfl⟩ := List.length_eq_one_iff.1 hl
 unfold fltW
 rw [Rep, RepL]
 refine ⟨[.int .i64 k], _, rfl, by rw [Rep], ?_⟩
 rw [RepL]
 refine ⟨[.bool neg], _, rfl, by rw [Rep], ?_⟩
 rw [RepL]
 refine ⟨[.int .i64 e], _, rfl, by rw [Rep], ?_⟩
 rw [RepL]
 exact ⟨[x], [], rfl, h, by rw [RepL]⟩
theorem args_flt {w : World} {k : Int} {neg : Bool} {e : Int} {l : List Int} {sv : Value} {al : List Arg} {vs : List Value} (h : WV w l sv) (hr : ArgsRep w (fun _ => True) al vs) : ArgsRep w (fun _ => True) (.v (fltW k neg e l) :: al) (.agg #[.int .i64 k, .bool neg, .int .i64 e, sv] :: vs) := by
 rw [ArgsRep]
 obtain ⟨ds, h1, rfl⟩ := h
 exact ⟨_, _, rfl, by rw [ArgRep]; exact ⟨_, rep_flt_of h1, rfl⟩, hr⟩
theorem args_b {w : World} {b : Bool} {al : List Arg} {vs : List Value} (hr : ArgsRep w (fun _ => True) al vs) : ArgsRep w (fun _ => True) (.v (.bool b) :: al) (.bool b :: vs) := by
 rw [ArgsRep]
 exact ⟨_, _, rfl, by rw [ArgRep]; exact ⟨[.bool b], by rw [Rep], rfl⟩, hr⟩
theorem args_s {w : World} {b : ByteArray} {al : List Arg} {vs : List Value} (hr : ArgsRep w (fun _ => True) al vs) : ArgsRep w (fun _ => True) (.v (.str b) :: al) (.string b :: vs) := by
 rw [ArgsRep]
 exact ⟨_, _, rfl, by rw [ArgRep]; exact ⟨[.string b], by rw [Rep], rfl⟩, hr⟩
theorem args_fmt {w : World} {k P : Int} {al : List Arg} {vs : List Value} (hr : ArgsRep w (fun _ => True) al vs) : ArgsRep w (fun _ => True) (.v (fmtV k P) :: al) (.agg #[.int .i64 k, .int .i64 P] :: vs) := by
 rw [ArgsRep]
 refine ⟨_, _, rfl, ?_, hr⟩
 rw [ArgRep]
 refine ⟨[.int .i64 k, .int .i64 P], ?_, rfl⟩
 unfold fmtV
 rw [Rep, RepL]
 refine ⟨[.int .i64 k], _, rfl, by rw [Rep], ?_⟩
 rw [RepL]
 exact ⟨[.int .i64 P], [], rfl, by rw [Rep], by rw [RepL]⟩
theorem WVB.kept {B : Nat} {w w' : World} {l : List Int} {v : Value} (h : WVB B w l v) (hb : Below w.heap.size w w') : WVB B w' l v := by
 obtain ⟨cs, h1, h2⟩ := h
 refine ⟨cs, Rep.mono (fun b o v hb' hv => ?_) (fun b hb' => ⟨hb'.1, Nat.lt_of_lt_of_le hb'.2 hb.size⟩) h1, h2⟩
 rw [← hv]
 exact World.cell?_of_block (w := w) (a := ⟨b, o, none⟩) (hb.block b hb'.2)
theorem WVB.wv {B : Nat} {w : World} {l : List Int} {v : Value} (h : WVB B w l v) : WV w l v := h.to (Nat.le_refl _) fun _ _ _ => rfl
structure HxW (w wx : World) (cs : List Value) (l : List Int) (sv : Value) : Prop where
 below : Below w.heap.size w wx
 blk : wx.heap[w.heap.size + 1]? = some (.cells cs.toArray 28 (0, 0))
 wv : WVB (w.heap.size + 2) wx l sv
theorem HxW.kept {w wx wy : World} {cs : List Value} {l : List Int} {sv : Value} (h : HxW w wx cs l sv) (hb : Below wx.heap.size wx wy) : HxW w wy cs l sv where
 below := h.below.trans ⟨hb.os, hb.tape, hb.output, hb.size, fun k hk => hb.block k (Nat.lt_of_lt_of_le hk h.below.size)⟩
 blk := by
  rw [← h.blk]
  refine hb.block _ ?_
  rcases Nat.lt_or_ge (w.heap.size + 1) wx.heap.size with h1 | h1
  ·exact h1
  ·have := h.blk; rw [Array.getElem?_eq_none h1] at this; cases this
 wv := h.wv.kept hb
def bitZ (m : Nat) (z : Int) : Bool := if 0 ≤ z then bitN m z.toNat else false
def hxP (m : Nat) (at_ : Int) : Nat → Nat
 | 0 => 0
 | i + 1 => 2 * hxP m at_ i + if bitZ m (at_ - i) then 1 else 0
theorem hxP_lt (m : Nat) (at_ : Int) : ∀ i, hxP m at_ i < 2 ^ i
 | 0 => by simp [hxP]
 | i + 1 => by rw [hxP, Nat.pow_succ]; have := hxP_lt m at_ i; split <;> omega
def hexC (d : Nat) : UInt8 := if d < 10 then UInt8.ofNat (48 + d) else UInt8.ofNat (87 + d)
def hxL (m : Nat) : Nat → Int → List UInt8
 | 0, _ => []
 | g + 1, at_ => hexC (hxP m at_ 4) :: hxL m g (at_ - 4)
theorem HxW.cells {w wx : World} {a b c d : Value} {l : List Int} {sv : Value} (h : HxW w wx [a, b, c, d] l sv) : wx.cell? ⟨w.heap.size + 1, 0, none⟩ = some a ∧ wx.cell? ⟨w.heap.size + 1, 1, none⟩ = some b ∧ wx.cell? ⟨w.heap.size + 1, 2, none⟩ = some c ∧ wx.cell? ⟨w.heap.size + 1, 3, none⟩ = some d := by
 have := h.blk
 exact ⟨by rw [Lib.cell_of_heap this]; rfl, by rw [Lib.cell_of_heap this]; rfl, by rw [Lib.cell_of_heap this]; rfl, by rw [Lib.cell_of_heap this]; rfl⟩
def hxD (m : Nat) : List UInt8 := hxL m ((blN m - 1 + 3) / 4) (((blN m - 1 : Nat) : Int) - 1)
def hxS (kd : Int) (ng : Bool) (ex : Int) (m : Nat) : List UInt8 := if kd = 3 ∨ kd = 2 then spL kd ng else if kd = 0 then smL ng [48, 120, 48, 112, 43, 48] else smL ng (48 :: 120 :: 49 :: (if hxD m = [] then [] else 46 :: hxD m) ++ 112 :: sgL (ex + (blN m - 1 : Nat)) 1)
def hxR (E kd : Int) (ng : Bool) (ex : Int) (m : Nat) : List UInt8 := if E = 0 then hxS kd ng ex m else []
theorem FnOk.calls2 {P : Program} {f : FuncId} {args : List Arg} {n1 n2 : Bool} {y1 y2 : V} {v1 v2 : Value} {w : World} (h : FnOk P f args [.v n1 y1, .v n2 y2]) (hent : ∀ vs w, (callFunc f vs).run P w = .ok (.enter f vs) w)
 (hy1 : ∀ w ok cs, Rep w ok y1 cs → y1.toVal cs = v1) (hy2 : ∀ w ok cs, Rep w ok y2 cs → y2.toVal cs = v2) {vs : List Value} (hG : GL w) (ha : ArgsRep w (fun _ => True) args vs) : Calls P f vs.toArray w fun e w' => e = .returned (.tuple #[v1, v2]) ∧ Below w.heap.size w w' := by
 refine (h.callsV hent hG ha).mono ?_
 rintro e w' ⟨val, μ', rfl, h1, h2⟩
 rw [show R.res [R.v n1 y1, R.v n2 y2] = .tup [.v n1 y1, .v n2 y2] from rfl, RepA] at h2
 obtain ⟨vs, rfl, h2⟩ := h2
 rw [RepAL] at h2
 obtain ⟨v1, vr, rfl, h3, h4⟩ := h2
 rw [RepAL] at h4
 obtain ⟨v2, vr, rfl, h5, h6⟩ := h4
 rw [RepAL] at h6
 subst h6
 rw [RepA] at h3 h5
 obtain ⟨cs, h7, rfl⟩ := h3
 obtain ⟨ds, h8, rfl⟩ := h5
 rw [hy1 _ _ _ h7, hy2 _ _ _ h8]
 exact ⟨rfl, h1⟩
theorem rep_s {s : ByteArray} : ∀ (w : World) ok cs, Rep w ok (.str s) cs → (V.str s).toVal cs = .string s := fun w ok cs h => by rw [Rep] at h; subst h; rfl
theorem rep_b {b : Bool} : ∀ (w : World) ok cs, Rep w ok (.bool b) cs → (V.bool b).toVal cs = .bool b := fun w ok cs h => by rw [Rep] at h; subst h; rfl
theorem rep_i {k : IntKind} {n : Int} : ∀ (w : World) ok cs, Rep w ok (.int k n) cs → (V.int k n).toVal cs = .int k n := fun w ok cs h => by rw [Rep] at h; subst h; rfl
theorem special_calls (kd ex : Int) (ng : Bool) (m : Nat) (v : Value) (w : World) (hG : GL w) (hv : WV w (digs m) v) : Calls Tryz.prog 50 #[.agg #[.int .i64 kd, .bool ng, .int .i64 ex, v]] w fun e w' => e = .returned (.tuple #[.string (bs (spL kd ng)), .bool (decide (kd = 3 ∨ kd = 2))]) ∧ Below w.heap.size w w' :=
 (sSpecial_ok kd ng ex 0 ((digs m).map fun n => .int .u64 n)).calls2 (enters_of Tryz.func50 (by kernel_rfl) rfl) rep_s rep_b hG (vs := [.agg #[.int .i64 kd, .bool ng, .int .i64 ex, v]]) (args_flt (l := digs m) hv args_0)
theorem minus_calls (ng : Bool) (l : List UInt8) (hl : l.length < 10000000) (w : World) (hG : GL w) : Calls Tryz.prog 51 #[.bool ng, .string (bs l)] w fun e w' => e = .returned (.string (bs (smL ng l))) ∧ Below w.heap.size w w' :=
 (sMinus_ok ng l hl).calls1 (enters_of Tryz.func51 (by kernel_rfl) rfl) rep_s hG (vs := [.bool ng, .string (bs l)]) (args_b (args_s args_0))
theorem len_calls (m : Nat) (hm : (digs m).length < 100000) (v : Value) (w : World) (hG : GL w) (hv : WV w (digs m) v) : Calls Tryz.prog 59 #[v] w fun e w' => e = .returned (.int .i64 (blN m : Nat)) ∧ Below w.heap.size w w' := by
 have := wLen_ok (digs m) hm (digs_ok m).1
 rw [(digs_ok m).2.2] at this
 exact this.calls1 (enters_of Tryz.func59 (by kernel_rfl) rfl) rep_i hG (vs := [v]) (args_wv hv args_0)
theorem signed_calls (n : Int) (hn : -4611686018427387904 < n ∧ n < 4611686018427387904) (w : World) (hG : GL w) : Calls Tryz.prog 64 #[.int .i64 n, .int .i64 1] w fun e w' => e = .returned (.string (bs (sgL n 1))) ∧ Below w.heap.size w w' :=
 (signed_ok n 1 hn (by decide)).calls1 (enters_of Tryz.func64 (by kernel_rfl) rfl) rep_s hG (vs := [.int .i64 n, .int .i64 1]) (args_i (args_i args_0))
theorem hex_get : ∀ (d : Nat) (h : d < (ByteArray.mk #[48, 49, 50, 51, 52, 53, 54, 55, 56, 57, 97, 98, 99, 100, 101, 102]).size), (ByteArray.mk #[48, 49, 50, 51, 52, 53, 54, 55, 56, 57, 97, 98, 99, 100, 101, 102])[d] = hexC d
 | 0, _ => rfl | 1, _ => rfl | 2, _ => rfl | 3, _ => rfl | 4, _ => rfl | 5, _ => rfl | 6, _ => rfl | 7, _ => rfl
 | 8, _ => rfl | 9, _ => rfl | 10, _ => rfl | 11, _ => rfl | 12, _ => rfl | 13, _ => rfl | 14, _ => rfl | 15, _ => rfl
 | n + 16, h => absurd h (by show ¬ n + 16 < 16; omega)
theorem bit_calls (m : Nat) (z : Int) (hm : (digs m).length < 100000) (hz : z < 1000000) (v : Value) (w : World) (hG : GL w) (hv : WV w (digs m) v) : Calls Tryz.prog 60 #[v, .int .i64 z] w fun e w' => e = .returned (.bool (bitZ m z)) ∧ Below w.heap.size w w' := by
 have h : FnOk Tryz.prog 60 [.v (words (digs m)), .v (.int .i64 z)] [.v true (.bool (bitZ m z))] := by
  unfold bitZ
  split
  ·have := wBit_ok (digs m) z.toNat hm (by omega) (digs_ok m).1
   rw [(digs_ok m).2.2, show ((z.toNat : Nat) : Int) = z from by omega] at this
   exact this
  ·exact wBitN_ok _ z (by omega)
 exact h.calls1 (enters_of Tryz.func60 (by kernel_rfl) rfl) (fun w ok cs h => by rw [Rep] at h; subst h; rfl) hG (vs := [v, .int .i64 z]) (args_wv hv (args_i args_0))
set_option maxHeartbeats 4000000 in
set_option maxRecDepth 1000000 in
theorem hex_calls (k P kd0 e0 kd ex E : Int) (n0 ng : Bool) (l : List Int) (m : Nat) (sv : Value) (w : World) (RS : List UInt8) (hRS : RS = hxR E kd ng ex m) (hG : GL w) (hv : WV w l sv)     (hm : m < 2 ^ 256) (hx : -1000000 < ex ∧ ex < 1000000) (hmk : kd ≠ 0 → ¬ (kd = 3 ∨ kd = 2) → 0 < m)
 (hN : FnOk Tryz.prog 49 [.v (fmtV k P), .v (.int .i64 0), .v (.bool false), .v (fltW kd0 n0 e0 l)] [.v true (fltW kd ng ex (digs m)), .v true (.int .i64 E)]) :
 Calls Tryz.prog 16 #[.agg #[.int .i64 k, .int .i64 P], .agg #[.int .i64 kd0, .bool n0, .int .i64 e0, sv]] w fun e w' => e = .returned (.tuple #[.string (bs RS), .int .i64 E]) ∧ Below w.heap.size w w' := by
 have cN : ∀ wx, GL wx → WV wx l sv → Calls Tryz.prog 49 #[.agg #[.int .i64 k, .int .i64 P], .int .i64 0, .bool false, .agg #[.int .i64 kd0, .bool n0, .int .i64 e0, sv]] wx fun e w' => ∃ sv', e = .returned (.tuple #[.agg #[.int .i64 kd, .bool ng, .int .i64 ex, sv'], .int .i64 E]) ∧ WVB wx.heap.size w' (digs m) sv' ∧ Below wx.heap.size wx w' := fun wx hg hv => by
  refine (hN.callsV (enters_of Tryz.func49 (by kernel_rfl) rfl) (vs := [_, _, _, _]) hg (args_fmt (args_i (args_b (args_flt hv args_0))))).mono ?_
  rintro e w' ⟨val, μ', rfl, h1, h2⟩
  rw [show R.res [R.v true (fltW kd ng ex (digs m)), R.v true (.int .i64 E)] = .tup [.v true (fltW kd ng ex (digs m)), .v true (.int .i64 E)] from rfl, RepA] at h2
  obtain ⟨vs, rfl, h2⟩ := h2
  rw [RepAL] at h2
  obtain ⟨v1, vr, rfl, h3, h4⟩ := h2
  rw [RepAL] at h4
  obtain ⟨v2, vr, rfl, h5, h6⟩ := h4
  rw [RepAL] at h6
  subst h6
  rw [repA_int.1 h5]
  rw [RepA] at h3
  obtain ⟨cs, h7, rfl⟩ := h3
  obtain ⟨x, rfl, ds, h8, rfl⟩ := rep_flt h7
  refine ⟨_, rfl, ⟨ds, Rep.mono (fun _ _ _ _ hv => hv) (fun b hb => ⟨?_, hb.1⟩) h8, rfl⟩, h1⟩
  rcases hb.2.2 with h | h
  ·exact h
  ·cases h.1
 have HRS : Hid (RS = hxR E kd ng ex m) := hRS
 clear hN hRS
 have hb0 : Below w.heap.size w ((w.alloc (Obj.cells #[Value.int IntKind.i64 k, Value.int IntKind.i64 P] 23)).alloc (Obj.cells #[Value.int IntKind.i64 kd0, Value.bool n0, Value.int IntKind.i64 e0, sv] 28)) := ((Below.refl _ _).alloc (Nat.le_refl _) _).alloc (by simp) _
 have cN1 := cN _ (hG.below hb0 (Nat.le_refl _)) (hv.below hb0)
 clear cN
 obtain ⟨w0, hw0⟩ : ∃ W, W = ((w.alloc (Obj.cells #[Value.int IntKind.i64 k, Value.int IntKind.i64 P] 23)).alloc (Obj.cells #[Value.int IntKind.i64 kd0, Value.bool n0, Value.int IntKind.i64 e0, sv] 28)) := ⟨_, rfl⟩
 have hblk : w0.heap[w.heap.size + 1]? = some (.cells #[.int .i64 kd0, .bool n0, .int .i64 e0, sv] 28 (0, 0)) := by
  rw [hw0]
  have := (MapKept.heap_alloc (w.alloc (Obj.cells #[Value.int IntKind.i64 k, Value.int IntKind.i64 P] 23)) (Obj.cells #[Value.int IntKind.i64 kd0, Value.bool n0, Value.int IntKind.i64 e0, sv] 28)).1
  simpa using this
 rw [← hw0] at hb0 cN1
 have hsz0 : w0.heap.size = w.heap.size + 2 := by rw [hw0]; simp
 obtain ⟨A0, cap0, rfl⟩ := hv.shape
 go_enter Tryz.func16, Tryz.ntmps16
 go_wp2_with fail
 rw [← hw0]
 clear hw0
 refine cN1.mono ?_
 rintro e w1 ⟨sv', rfl, hv', hb1⟩
 have hblk1 : w1.heap[w.heap.size + 1]? = some (.cells #[.int .i64 kd0, .bool n0, .int .i64 e0, .slice A0 l.length cap0] 28 (0, 0)) := (hb1.block _ (by omega)).trans hblk
 have c0 : w1.cell? ⟨w.heap.size + 1, 0, none⟩ = some (.int .i64 kd0) := by rw [Lib.cell_of_heap hblk1]; rfl
 have c1 : w1.cell? ⟨w.heap.size + 1, 1, none⟩ = some (.bool n0) := by rw [Lib.cell_of_heap hblk1]; rfl
 have c2 : w1.cell? ⟨w.heap.size + 1, 2, none⟩ = some (.int .i64 e0) := by rw [Lib.cell_of_heap hblk1]; rfl
 have c3 : w1.cell? ⟨w.heap.size + 1, 3, none⟩ = some (.slice A0 l.length cap0) := by rw [Lib.cell_of_heap hblk1]; rfl
 have f0 := Lib.frozen_of_heap hblk1 0
 have f1 := Lib.frozen_of_heap hblk1 1
 have f2 := Lib.frozen_of_heap hblk1 2
 have f3 := Lib.frozen_of_heap hblk1 3
 obtain ⟨A, c, rfl⟩ := hv'.wv.shape
 have HS : Hid (HxW w ((((w1.setCell ⟨w.heap.size + 1, 0, none⟩ (Value.int IntKind.i64 kd)).setCell ⟨w.heap.size + 1, 1, none⟩ (Value.bool ng)).setCell ⟨w.heap.size + 1, 2, none⟩ (Value.int IntKind.i64 ex)).setCell ⟨w.heap.size + 1, 3, none⟩ (Value.slice A (digs m).length c)) [.int .i64 kd, .bool ng, .int .i64 ex, .slice A (digs m).length c] (digs m) (.slice A (digs m).length c)) := by
  refine ⟨?_, ?_, ?_⟩
  ·have h1 : Below w.heap.size w w1 := hb0.trans ⟨hb1.os, hb1.tape, hb1.output, hb1.size, fun k hk => hb1.block k (by omega)⟩
   exact (((h1.setCell (p := ⟨w.heap.size + 1, 0, none⟩) (by simp) _).setCell (p := ⟨w.heap.size + 1, 1, none⟩) (by simp) _).setCell (p := ⟨w.heap.size + 1, 2, none⟩) (by simp) _).setCell (p := ⟨w.heap.size + 1, 3, none⟩) (by simp) _
  ·exact set_cells (cs := [.int .i64 kd, .bool ng, .int .i64 ex, .slice A0 l.length cap0]) (set_cells (cs := [.int .i64 kd, .bool ng, .int .i64 e0, .slice A0 l.length cap0]) (set_cells (cs := [.int .i64 kd, .bool n0, .int .i64 e0, .slice A0 l.length cap0]) (set_cells (cs := [.int .i64 kd0, .bool n0, .int .i64 e0, .slice A0 l.length cap0]) hblk1)))
  ·obtain ⟨cs, h1, h2⟩ := hv'
   rw [hsz0] at h1
   refine ⟨cs, Rep.mono (fun b o v hb' hv => ?_) (fun b hb' => ⟨hb'.1, by simpa using hb'.2⟩) h1, h2⟩
   rw [World.cell?_setCell_other _ _ _ _ (by simp), World.cell?_setCell_other _ _ _ _ (by simp), World.cell?_setCell_other _ _ _ _ (by simp), World.cell?_setCell_other _ _ _ _ (by simp)]
   exact hv
 clear hv' hb1 hb0 cN1 hv hblk hblk1
 by_cases hE : E = 0
 ·subst hE
  go_wp2_with fail
  generalize hw2 : ((((w1.setCell ⟨w.heap.size + 1, 0, none⟩ (Value.int IntKind.i64 kd)).setCell ⟨w.heap.size + 1, 1, none⟩ (Value.bool ng)).setCell ⟨w.heap.size + 1, 2, none⟩ (Value.int IntKind.i64 ex)).setCell ⟨w.heap.size + 1, 3, none⟩ (Value.slice A (digs m).length c)) = w2 at HS ⊢
  clear hw2 c0 c1 c2 c3 f0 f1 f2 f3
  have HG0 : Hid (GL w) := hG
  have HG : ∀ wx, Hid (HxW w wx [.int .i64 kd, .bool ng, .int .i64 ex, .slice A (digs m).length c] (digs m) (.slice A (digs m).length c)) → GL wx := fun wx h => HG0.out.below h.out.below (Nat.le_refl _)
  clear hG
  refine (special_calls kd ex ng m _ _ (HG _ HS) HS.out.wv.wv).mono ?_
  rintro e w3 ⟨rfl, hb3⟩
  have HS3 := hid_mk (HS.out.kept hb3)
  have HB3 := HS3.out.below
  clear HS hb3
  obtain ⟨k0, k1, k2, k3⟩ := HS3.out.cells
  by_cases hsp : kd = 3 ∨ kd = 2
  ·have e1 : RS = spL kd ng := by rw [HRS.out]; unfold hxR hxS; rw [if_pos rfl, if_pos hsp]
   go_wp2
   go_ret2
   exact ⟨by rw [e1]; rfl, HB3⟩
  ·by_cases hz : kd = 0
   ·have e1 : RS = smL ng [48, 120, 48, 112, 43, 48] := by rw [HRS.out]; unfold hxR hxS; rw [if_pos rfl]; rw [if_neg hsp, if_pos hz]
    subst hz
    go_wp2_with fail
    refine (minus_calls ng [48, 120, 48, 112, 43, 48] (by decide) _ (HG _ HS3)).mono ?_
    rintro e w4 ⟨rfl, hb4⟩
    go_wp2
    go_ret2
    exact ⟨by rw [e1]; rfl, (HS3.out.kept hb4).below⟩
   ·have HR : Hid (RS = smL ng (48 :: 120 :: 49 :: (if hxD m = [] then [] else 46 :: hxD m) ++ 112 :: sgL (ex + (blN m - 1 : Nat)) 1)) := by have := HRS.out; unfold hxR hxS at this; rw [if_pos rfl, if_neg hsp, if_neg hz] at this; exact this
    obtain ⟨n1, hn1⟩ : ∃ n1, blN m = n1 + 1 := ⟨blN m - 1, by have := (bl_le (hmk hz hsp)).2; omega⟩
    have HR : Hid (RS = smL ng (48 :: 120 :: 49 :: (if hxD m = [] then [] else 46 :: hxD m) ++ 112 :: sgL (ex + n1) 1)) := by have := HR.out; rw [hn1] at this; exact this
    have HD : Hid (hxL m ((n1 + 3) / 4) ((n1 : Int) - 1) = hxD m) := by unfold hxD; rw [hn1]; exact rfl
    obtain ⟨DD, hDD⟩ : ∃ D, D = hxD m := ⟨_, rfl⟩
    rw [← hDD] at HR HD
    have hL := len_calls m (by have := digs_lenB (n := 4) hm (by decide); omega) _ _ (HG _ HS3) HS3.out.wv.wv
    have HBl : Hid ((digs m).length < 100) := by have := digs_lenB (n := 4) hm (by decide); exact (by omega : (digs m).length < 100)
    have hn1b : n1 ≤ 255 := by have := bl_lt hm; omega
    rw [hn1, Int.natCast_add] at hL
    clear hDD hn1 hm hmk
    go_wp2_with fail
    refine hL.mono ?_
    rintro e w4 ⟨rfl, hb4⟩
    have HS4 := hid_mk (HS3.out.kept hb4)
    clear HS3 HB3 hb4 k0 k1 k2 k3 hL
    go_wp2_with fail
    go_loopg [11] ((n1 + 3) / 4) (fun g v11 wx => ∃ (at_ : Int) (dl : List UInt8), v11 = .int .i64 at_ ∧ (4 * (g : Int) ≤ at_ + 4 ∧ at_ + 4 ≤ 4 * (g : Int) + 3 ∧ at_ ≤ 255) ∧ dl.length + g ≤ 100 ∧ Hid (dl ++ hxL m g at_ = DD) ∧ Hid (Below w4.heap.size w4 wx) ∧ Hid (Lib.IsBuilder 104 5 w4.heap.size w4.heap.size (Lib.byteCells dl) wx))
    case atStart =>
     refine ⟨(n1 : Int) - 1, [], ?_, by omega, by simp; omega, HD, (Below.refl _ _).alloc (Nat.le_refl _) _, Lib.fresh_isBuilder 104 5 w4⟩
     simp
    case round =>
     obtain ⟨at_, dl, rfl, hat, hdl, HL, HBb, HBu⟩ := hrel
     have HSx := hid_mk (HS4.out.kept HBb.out)
     rcases Nat.eq_zero_or_pos gk with h0 | h0
     ·subst h0
      have g0 : ¬ (0 : Int) ≤ at_ := by omega
      have HL : Hid (dl = DD) := by have := HL.out; rw [hxL, List.append_nil] at this; exact this
      have hbl := Tryz.Builder_Len w4.heap.size w4.heap.size (Lib.byteCells dl) wr HBu.out
      rw [Lib.byteCells_length] at hbl
      have HR : Hid (RS = smL ng (48 :: 120 :: 49 :: (if dl = [] then [] else 46 :: dl) ++ 112 :: sgL (ex + n1) 1)) := by have := HR.out; rw [← HL.out] at this; exact this
      have hsl := sgL_len (ex + n1) 1 (by omega) (by decide)
      obtain ⟨k0, k1, k2, k3⟩ := HSx.out.cells
      go_wp2_with fail
      refine hbl.mono ?_
      rintro e w7 ⟨rfl, rfl⟩
      rcases Nat.eq_zero_or_pos dl.length with hd0 | hd0
      ·rw [hd0]
       go_wp2
       have hM := fun wx hg => minus_calls ng (48 :: 120 :: 49 :: [] ++ 112 :: sgL (ex + n1) 1) (by simp; omega) wx hg
       have eM : bs (48 :: 120 :: 49 :: [] ++ 112 :: sgL (ex + n1) 1) = ByteArray.mk #[48, 120, 49] ++ ByteArray.mk #[112] ++ bs (sgL (ex + n1) 1) := by
        rw [show ByteArray.mk #[112] = bs [112] from rfl, show ByteArray.mk #[48, 120, 49] = bs [48, 120, 49] from rfl, bs_app, bs_app]; rfl
       rw [eM] at hM
       have hfin : RS = smL ng (48 :: 120 :: 49 :: [] ++ 112 :: sgL (ex + n1) 1) := by
        rw [HR.out, if_pos (List.length_eq_zero_iff.1 hd0)]
       have HF := hid_mk hfin
       have HSd := hid_mk (HSx.out.kept ((Below.refl _ _).drew))
       have hw : IntKind.i64.wrap (ex + (n1 : Int)) = ex + n1 := by rw [wrap_i64] <;> omega
       clear hfin eM
       go_region_with (first
        | (go_at_call 64; refine (signed_calls (ex + n1) (by omega) _ (HG _ HSd)).mono ?_; rintro e w9 ⟨rfl, hb9⟩; have HS9 := hid_mk (HSd.out.kept hb9); obtain ⟨l0, l1, l2, l3⟩ := HS9.out.cells)
        | (go_at_call 51; refine (hM _ (HG _ HS9)).mono ?_; rintro e w10 ⟨rfl, hb10⟩; have HB10 := hid_mk (HS9.out.kept hb10).below))
       all_goals (
        go_wp2
        go_ret2
        exact ⟨by rw [HF.out]; rfl, HB10⟩)
      ·have hdl0 : (0 : Int) < (dl.length : Nat) := by omega
       go_wp2_with fail
       refine (Tryz.Builder_String w4.heap.size w4.heap.size dl _ HBu.out HBb.out.size).mono ?_
       rintro e w8 ⟨rfl, hb8⟩
       have HB8 : Hid (Below w4.heap.size w4 w8) := HBb.out.trans hb8
       have HS8 := hid_mk (HS4.out.kept HB8.out)
       clear hb8
       obtain ⟨k0, k1, k2, k3⟩ := HS8.out.cells
       go_wp2
       generalize hS : (ByteArray.mk #[48, 120, 49] ++ (ByteArray.mk #[46] ++ ByteArray.mk dl.toArray)) = S
       have hSe : S = bs (48 :: 120 :: 49 :: 46 :: dl) := by rw [← hS]; exact (by rw [show ByteArray.mk #[46] = bs [46] from rfl, show ByteArray.mk #[48, 120, 49] = bs [48, 120, 49] from rfl, bs_app, bs_app]; rfl)
       have hSz : S.size ≤ 1000 := by rw [hSe, bs_size]; simp; omega
       have HSe := hid_mk hSe
       have hSz1 : S.size + (ByteArray.mk #[112]).size ≤ 9223372036854775807 := by show S.size + 1 ≤ _; omega
       have hSz2 : S.size + 1 ≤ 9223372036854775807 := by omega
       clear hS hSe
       have hM := fun wx hg => minus_calls ng (48 :: 120 :: 49 :: 46 :: dl ++ 112 :: sgL (ex + n1) 1) (by simp; omega) wx hg
       have eM : bs (48 :: 120 :: 49 :: 46 :: dl ++ 112 :: sgL (ex + n1) 1) = S ++ ByteArray.mk #[112] ++ bs (sgL (ex + n1) 1) := by
        rw [HSe.out, show ByteArray.mk #[112] = bs [112] from rfl, bs_app, bs_app, List.append_assoc]; rfl
       rw [eM] at hM
       have hfin : RS = smL ng (48 :: 120 :: 49 :: 46 :: dl ++ 112 :: sgL (ex + n1) 1) := by
        rw [HR.out, if_neg (fun h => by rw [h] at hd0; exact absurd hd0 (by decide))]
       have HF := hid_mk hfin
       have HSd := hid_mk (HS8.out.kept ((Below.refl _ _).drew))
       have hw : IntKind.i64.wrap (ex + (n1 : Int)) = ex + n1 := by rw [wrap_i64] <;> omega
       clear hfin eM
       go_region_with (first
        | (go_at_call 64; refine (signed_calls (ex + n1) (by omega) _ (HG _ HSd)).mono ?_; rintro e w9 ⟨rfl, hb9⟩; have HS9 := hid_mk (HSd.out.kept hb9); obtain ⟨l0, l1, l2, l3⟩ := HS9.out.cells)
        | (go_at_call 51; refine (hM _ (HG _ HS9)).mono ?_; rintro e w10 ⟨rfl, hb10⟩; have HB10 := hid_mk (HS9.out.kept hb10).below))
       all_goals (
        go_wp2
        go_ret2
        exact ⟨by rw [HF.out]; rfl, HB10⟩)
     ·obtain ⟨g, rfl⟩ : ∃ g, gk = g + 1 := ⟨gk - 1, by omega⟩
      have g0 : (0 : Int) ≤ at_ := by omega
      go_wp2
      obtain ⟨wo, hwo⟩ : ∃ W, W = wr := ⟨_, rfl⟩
      subst hwo
      go_loopg [12, 47] 4 (fun h v12 v47 wy => ∃ i : Nat, h + i = 4 ∧ v47 = .int .i64 i ∧ v12 = .int .i64 (hxP m at_ i : Nat) ∧ Hid (Below wo.heap.size wo wy))
      case atStart => exact ⟨0, rfl, rfl, rfl, Below.refl _ _⟩
      case round =>
       obtain ⟨i, hi, rfl, rfl, HY⟩ := hrel
       have HSy := hid_mk (HSx.out.kept HY.out)
       rcases Nat.eq_zero_or_pos gk with h0 | h0
       ·subst h0
        obtain rfl : i = 4 := by omega
        have hp16 := hxP_lt m at_ 4
        have hp : ((hxP m at_ 4 : Nat) : Int) < 16 := by omega
        have hLs : (dl ++ [hexC (hxP m at_ 4)]) ++ hxL m g (at_ - 4) = DD := by rw [List.append_assoc]; exact HL.out
        have HLs := hid_mk hLs
        obtain ⟨d, hd⟩ : ∃ d, d = hxP m at_ 4 := ⟨_, rfl⟩
        rw [← hd] at hp HLs ⊢
        clear hp16 hLs hd
        go_wp2_with fail
        simp only [hex_get]
        refine (Tryz.Builder_WriteByte w4.heap.size w4.heap.size (Lib.byteCells dl) ((hexC d).toNat : Nat) _ (builder_kept HBu.out fun k hk => HY.out.block k hk) (by rw [Lib.byteCells_length]; omega) (by have := HBb.out.size; have := HY.out.size; omega)).mono ?_
        rintro e w8 ⟨rfl, h8, hb8⟩
        have h8 : Lib.BuilderAt 104 5 w4.heap.size w4.heap.size (.pointer (some ⟨w4.heap.size, 0, none⟩)) (Lib.byteCells (dl ++ [hexC d])) w8 := by rw [Lib.byteCells_append]; exact h8
        have HB8 : Hid (Below w4.heap.size w4 w8) := (HBb.out.trans ⟨HY.out.os, HY.out.tape, HY.out.output, HY.out.size, fun k hk => HY.out.block k (by have := HBb.out.size; omega)⟩).trans hb8
        have H8 : Hid (Lib.IsBuilder 104 5 w4.heap.size w4.heap.size (Lib.byteCells (dl ++ [hexC d])) w8) := .inr h8
        clear h8 hb8
        go_wp2
        go_roundg g
        case measure => omega
        case rel => exact ⟨at_ - 4, dl ++ [hexC d], by first | rfl | simp, by omega, by simp; omega, HLs, HB8, H8⟩
       ·obtain ⟨h, rfl⟩ : ∃ h, gk = h + 1 := ⟨gk - 1, by omega⟩
        have hi4 : (i : Int) < 4 := by omega
        obtain ⟨k0, k1, k2, k3⟩ := HSy.out.cells
        have hB := bit_calls m (at_ - i) (by have := HBl.out; omega) (by omega) _ _ (HG _ HSy) HSy.out.wv.wv
        have hp16 := hxP_lt m at_ i
        have hp : hxP m at_ i < 16 := Nat.lt_of_lt_of_le hp16 (Nat.pow_le_pow_right (n := 2) (by decide) (show i ≤ 4 by omega))
        have hst : hxP m at_ (i + 1) = 2 * hxP m at_ i + if bitZ m (at_ - i) then 1 else 0 := rfl
        obtain ⟨q, hq⟩ : ∃ q, q = hxP m at_ i := ⟨_, rfl⟩
        rw [← hq] at hp hst ⊢
        cases hbz : bitZ m (at_ - i) with
        | true =>
          rw [hbz] at hB hst
          have HST : Hid (hxP m at_ (i + 1) = 2 * q + 1) := hst
          clear hp16 hq hbz hst
          go_wp2_with fail
          refine hB.mono ?_
          rintro e w6 ⟨rfl, hb6⟩
          have HB6 : Hid (Below wo.heap.size wo w6) := HY.out.trans ⟨hb6.os, hb6.tape, hb6.output, hb6.size, fun k hk => hb6.block k (by have := HY.out.size; omega)⟩
          clear hb6
          go_wp2
          go_roundg h
          case measure => omega
          case rel => exact ⟨i + 1, by omega, by first | rfl | simp, by rw [HST.out]; simp; omega, HB6⟩
        | false =>
          rw [hbz] at hB hst
          have HST : Hid (hxP m at_ (i + 1) = 2 * q) := hst
          clear hp16 hq hbz hst
          go_wp2_with fail
          refine hB.mono ?_
          rintro e w6 ⟨rfl, hb6⟩
          have HB6 : Hid (Below wo.heap.size wo w6) := HY.out.trans ⟨hb6.os, hb6.tape, hb6.output, hb6.size, fun k hk => hb6.block k (by have := HY.out.size; omega)⟩
          clear hb6
          go_wp2
          go_roundg h
          case measure => omega
          case rel => exact ⟨i + 1, by omega, by first | rfl | simp, by rw [HST.out]; simp; omega, HB6⟩
 ·have e1 : RS = [] := by rw [HRS.out]; exact if_neg hE
  go_wp2
  go_ret2
  exact ⟨by rw [e1]; rfl, HS.out.below⟩
theorem Hex_gen (k P kd0 e0 kd ex E : Int) (n0 ng : Bool) (l : List Int) (m : Nat) (hm : m < 2 ^ 256) (hx : -1000000 < ex ∧ ex < 1000000) (hmk : kd ≠ 0 → ¬ (kd = 3 ∨ kd = 2) → 0 < m)
 (hN : FnOk Tryz.prog 49 [.v (fmtV k P), .v (.int .i64 0), .v (.bool false), .v (fltW kd0 n0 e0 l)] [.v true (fltW kd ng ex (digs m)), .v true (.int .i64 E)]) :
 FnOk Tryz.prog 16 [.v (fmtV k P), .v (fltW kd0 n0 e0 l)] [.v true (.str (bs (hxR E kd ng ex m))), .v true (.int .i64 E)] := by
 refine FnOk.plain (val := .tuple #[.string (bs (hxR E kd ng ex m)), .int .i64 E]) (enters_of Tryz.func16 (by kernel_rfl) rfl) rfl (fun cx w μ mem => ?_) fun w O vs hG ha => ?_
 ·show RepA cx w μ mem (.tup [.v true (.str _), .v true (.int .i64 _)]) _
  rw [RepA]
  refine ⟨_, rfl, ?_⟩
  rw [RepAL]; refine ⟨_, _, rfl, repA_str.2 rfl, ?_⟩
  rw [RepAL]; refine ⟨_, _, rfl, repA_int.2 rfl, ?_⟩
  rw [RepAL]
 ·rw [ArgsRep] at ha
  obtain ⟨v1, vr, rfl, h1, h2⟩ := ha
  rw [ArgsRep] at h2
  obtain ⟨v2, vr, rfl, h3, h4⟩ := h2
  rw [ArgsRep] at h4
  subst h4
  rw [ArgRep] at h1
  rw [ArgRep] at h3
  obtain ⟨cs, h5, rfl⟩ := h1
  obtain ⟨ds, h6, rfl⟩ := h3
  obtain ⟨sv, rfl, xs, h7, rfl⟩ := rep_flt h6
  unfold fmtV at h5
  rw [Rep, RepL] at h5
  obtain ⟨a, b, rfl, h8, h9⟩ := h5
  rw [RepL] at h9
  obtain ⟨a2, b2, rfl, h10, h11⟩ := h9
  rw [RepL] at h11
  rw [Rep] at h8
  rw [Rep] at h10
  subst h8
  subst h10
  subst h11
  exact hex_calls k P kd0 e0 kd ex E n0 ng l m _ w _ rfl hG ⟨xs, Rep.mono (fun _ _ _ _ hv => hv) (fun b hb => ⟨hb.1, trivial⟩) h7, rfl⟩ hm hx hmk hN
def unW : List V → Option (List Int)
 | [] => some []
 | .int .u64 n :: r => (unW r).map (n :: ·)
 | _ => none
theorem unW_eq : ∀ {l : List V} {x : List Int}, unW l = some x → l = x.map fun n => .int .u64 n
 | [], x, h => by cases h; rfl
 | .int .u64 n :: r, x, h => by
   rw [unW] at h
   obtain ⟨y, hy, rfl⟩ := Option.map_eq_some_iff.1 h
   rw [unW_eq hy]; rfl
def okB (x : List Int) : Bool := x.all fun n => decide (0 ≤ n ∧ n < 18446744073709551616)
theorem okB_eq {x : List Int} (h : okB x = true) : okW x := fun n hn => of_decide_eq_true (List.all_eq_true.1 h n hn)
theorem hex_half : FnOk Tryz.prog 16 [.v (fmtV 5 11), .v (fltW 1 false (-13) [819])] [.v true (.str (bs [48, 120, 49, 46, 57, 57, 56, 112, 45, 52])), .v true (.int .i64 0)] := by
 have hN := number_ok 5 11 0 false 1 false (-13) [819] (by decide) (by intro n hn; simp at hn; omega) (by decide)
 rw [show (decide ((0 : Int) ≤ 0 ∧ (0 : Int) ≤ 4) && !false) = true from rfl] at hN
 have e1 : nuE 5 11 true 1 false (-13) [819] = 0 := by kernel_rfl
 have e2 : nuV 5 11 true 1 false (-13) [819] = fltW 1 false (-13) (digs 819) := by
  unfold nuV
  rw [if_pos e1]
  kernel_rfl
 rw [e1, e2] at hN
 exact Hex_gen 5 11 1 (-13) 1 (-13) 0 false false [819] 819 (by decide) (by decide) (fun _ _ => by decide) hN
def extE (f : FuncId) (l : List Arg) : Option (List R) :=
 match f, l with
 | 16, [.v (.agg [.int .i64 5, .int .i64 11]), .v (.agg [.int .i64 1, .bool false, .int .i64 (-13), .sl 1 [.int .u64 819]])] => some [.v true (.str (bs [48, 120, 49, 46, 57, 57, 56, 112, 45, 52])), .v true (.int .i64 0)]
 | 54, [.v (.sl 1 l)] => match unW l with
   | some x => if x.length < 900 ∧ okB x = true then some [.v true (.str ⟨(decG (val x)).toArray⟩)] else none
   | none => none
 | 82, [.v (.str s), .v (.int .i64 (.ofNat n))] => if s.data.toList = [48] ∧ n ≤ 1000000 then some [.v true (.str (bs (z48 n)))] else none
 | 132, [.v (.str s), .v (.str t)] => if t.data.toList = [48] ∧ s.data.toList.length < 1000000 then some [.v true (.str (bs (trR s.data.toList)))] else none
 | 142, [.v (.int .i64 (.ofNat n))] => if n < 4611686018427387904 then some [.v true (.str (bs (decG n)))] else none
 | 139, [.v (.int .u64 x), .v (.int .u64 y), .v (.int .u64 c)] => if 0 ≤ x ∧ 0 ≤ y ∧ 0 ≤ c ∧ c ≤ 1 then some [.v true (.int .u64 ((x + y + c) % 18446744073709551616)), .v true (.int .u64 ((x + y + c) / 18446744073709551616))] else none
 | 252, [.v (.int .u64 x), .v (.int .u64 y), .v (.int .u64 c)] => if 0 ≤ x ∧ x < 18446744073709551616 ∧ 0 ≤ y ∧ y < 18446744073709551616 ∧ 0 ≤ c ∧ c ≤ 1 then some [.v true (.int .u64 ((x - y - c) % 18446744073709551616)), .v true (.int .u64 (if x < y + c then 1 else 0))] else none
 | _, _ => none
theorem str_of {s : ByteArray} {l : List UInt8} (h : s.data.toList = l) : s = bs l := by rw [bs_of s, h]
theorem extE_ok (f : FuncId) (l : List Arg) (rs : List R) (h : extE f l = some rs) : FnOk Tryz.prog f l rs := by
 unfold extE at h
 split at h
 ·cases h; exact hex_half
 ·split at h
  ·next x hx =>
   split at h
   ·next hs => cases h; rw [unW_eq hx]; exact wDecimal_ok x hs.1 (okB_eq hs.2)
   ·cases h
  ·cases h
 ·split at h
  ·next hs => cases h; rw [str_of hs.1]; exact repeat_ok _ hs.2
  ·cases h
 ·split at h
  ·next hs => cases h; rw [str_of hs.1]; have := trimRight_ok _ hs.2; rw [← bs_of] at this; exact this
  ·cases h
 ·split at h
  ·next hs => cases h; exact itoa_ok _ hs
  ·cases h
 ·split at h
  ·next hs => cases h; exact add64_ok _ _ _ hs.1 hs.2.1 hs.2.2.1 hs.2.2.2
  ·cases h
 ·split at h
  ·next hs => cases h; exact sub64_ok _ _ _ hs.1 hs.2.1 hs.2.2.1 hs.2.2.2.1 hs.2.2.2.2.1 hs.2.2.2.2.2
  ·cases h
 ·cases h
theorem aw_text : FnOk Tryz.prog 14 [.v (fmtV 5 11), .v (fltW 1 false (-13) [819])] [.v true (.str ⟨#[48, 46, 49]⟩), .v true (.int .i64 0)] :=
 runF_ok (Px := px) (T := TT) rfl mixed extE_ok (fuel := 100000) 1000 _ _ _ (by kernel_rfl)
theorem aw_exact : FnOk Tryz.prog 15 [.v (fmtV 5 11), .v (fltW 1 false (-13) [819])] [.v true (.str ⟨#[48, 46, 48, 57, 57, 57, 55, 53, 53, 56, 53, 57, 51, 55, 53]⟩), .v true (.int .i64 0)] :=
 runF_ok (Px := px) (T := TT) rfl mixed extE_ok (fuel := 100000) 1000 _ _ _ (by kernel_rfl)
theorem aw_sci : FnOk Tryz.prog 24 [.v (fmtV 5 11), .v (.int .i64 0), .v (fltW 1 false 10 [1]), .v (.int .i64 2)] [.v true (.str ⟨#[49, 46, 48, 50, 101, 43, 48, 51]⟩), .v true (.bool false), .v true (.int .i64 0)] :=
 runF_ok (Px := px) (T := TT) rfl mixed extE_ok (fuel := 100000) 1000 _ _ _ (by kernel_rfl)
theorem aw_dec : FnOk Tryz.prog 33 [.v (.agg [.int .i64 0, .bool false, words [120], .int .i64 (-2)])] [.v true (.str ⟨#[49, 46, 50, 48]⟩), .v true (.int .i64 0)] :=
 runF_ok (Px := px) (T := TT) rfl mixed extE_ok (fuel := 100000) 1000 _ _ _ (by kernel_rfl)
set_option maxHeartbeats 2000000 in
theorem awake_ok : FnOk Tryz.prog 13 [] [.v true (.bool true)] := by
 have h1 := aw_text
 have h2 := aw_exact
 have h4 := aw_sci
 have h5 := aw_dec
 have h3 := hex_half
 unfold fmtV fltW words at h1 h2 h3 h4
 unfold words at h5
 rw [List.map_cons, List.map_nil] at h1 h2 h3 h4 h5
 have h3 : FnOk Tryz.prog 16 [.v (.agg [.int .i64 5, .int .i64 11]), .v (.agg [.int .i64 1, .bool false, .int .i64 (-13), .sl 1 [.int .u64 819]])] [.v true (.str ⟨#[48, 120, 49, 46, 57, 57, 56, 112, 45, 52]⟩), .v true (.int .i64 0)] := h3
 refine FnOk.of Tryz.func13 rfl rfl fun cx w0 => ?_
 rw [show Tryz.f13.ntmps = 91 from rfl]
 refine Holds.step (Px := px) (T := TT) (ρ := fun _ => []) TTe (by simp (maxSteps := 100000) (disch := omega) only [go_sem, V.isAgg, V.flat, ↓reduceIte, Nat.reduceAdd, Nat.reduceSub, Nat.reduceLT, Nat.reduceEqDiff, reduceCtorEq, Nat.reduceLeDiff, Nat.reduceBEq, Nat.reduceMul, Int.reduceToNat, List.length_cons, List.length_nil]; rfl) (by repeat' first | exact trivial | constructor) ?_
 refine Holds.step (Px := px) (T := TT) (ρ := fun _ => []) TTe (by simp (maxSteps := 100000) (disch := omega) only [go_sem, V.isAgg, V.flat, ↓reduceIte, Nat.reduceAdd, Nat.reduceSub, Nat.reduceLT, Nat.reduceEqDiff, reduceCtorEq, Nat.reduceLeDiff, Nat.reduceBEq, Nat.reduceMul, Int.reduceToNat]; rfl) (by repeat' first | exact trivial | constructor) ?_
 refine Holds.seq (Holds.regionZ (Px := px) (T := TT) (ρ := fun _ => []) (k := 1) (σ2 := { nt := 91, env := [(15, .v true (.sl 1 [.int .u64 819])), (1, .ptr 1 0 [] 0)], mem := [(1, .box 23 (.v true (.agg [.int .i64 5, .int .i64 11])))] }) TTe (by simp (maxSteps := 100000) (disch := omega) only [List.take_succ_cons, List.take_zero, go_sem, V.isAgg, V.flat, ↓reduceIte, Nat.reduceAdd, Nat.reduceSub, Nat.reduceLT, Nat.reduceEqDiff, reduceCtorEq, Nat.reduceLeDiff, Nat.reduceBEq, Nat.reduceMul, Int.reduceToNat]; rfl) (by repeat' first | exact trivial | constructor) (Nat.le_of_ble_eq_true rfl) (by exact fun a w h => Rel.keep [15, 1] [1] (Rel.freeze (s := 15) h rfl)) ⟨_, _, by simp (maxSteps := 100000) (disch := omega) only [List.drop_succ_cons, List.drop_zero, go_sem, V.isAgg, V.flat, ↓reduceIte, Nat.reduceAdd, Nat.reduceSub, Nat.reduceLT, Nat.reduceEqDiff, reduceCtorEq, Nat.reduceLeDiff, Nat.reduceBEq, Nat.reduceMul, Int.reduceToNat]; rfl, by repeat' first | exact trivial | assumption | constructor, ?_⟩); show Holds _ _ _ _ _ _ _
 refine Holds.step (Px := px) (T := TT) (ρ := fun _ => [.v true (.str ⟨#[48, 46, 49]⟩), .v true (.int .i64 0)]) TTe (by simp (maxSteps := 100000) (disch := omega) only [go_sem, V.isAgg, V.flat, ↓reduceIte, Nat.reduceAdd, Nat.reduceSub, Nat.reduceLT, Nat.reduceEqDiff, reduceCtorEq, Nat.reduceLeDiff, Nat.reduceBEq, Nat.reduceMul, Int.reduceToNat]; rfl) (by first | exact h1 | (repeat' first | exact trivial | exact h1 | constructor)) ?_
 refine Holds.step (Px := px) (T := TT) (ρ := fun _ => [.v true (.str ⟨#[48, 46, 48, 57, 57, 57, 55, 53, 53, 56, 53, 57, 51, 55, 53]⟩), .v true (.int .i64 0)]) TTe (by simp (maxSteps := 100000) (disch := omega) only [go_sem, V.isAgg, V.flat, ↓reduceIte, Nat.reduceAdd, Nat.reduceSub, Nat.reduceLT, Nat.reduceEqDiff, reduceCtorEq, Nat.reduceLeDiff, Nat.reduceBEq, Nat.reduceMul, Int.reduceToNat]; rfl) (by first | exact h2 | (repeat' first | exact trivial | exact h2 | constructor)) ?_
 refine Holds.step (Px := px) (T := TT) (ρ := fun _ => [.v true (.str ⟨#[48, 120, 49, 46, 57, 57, 56, 112, 45, 52]⟩), .v true (.int .i64 0)]) TTe (by simp (maxSteps := 100000) (disch := omega) only [go_sem, V.isAgg, V.flat, ↓reduceIte, Nat.reduceAdd, Nat.reduceSub, Nat.reduceLT, Nat.reduceEqDiff, reduceCtorEq, Nat.reduceLeDiff, Nat.reduceBEq, Nat.reduceMul, Int.reduceToNat]; rfl) (by first | exact h3 | (repeat' first | exact trivial | exact h3 | constructor)) ?_
 refine Holds.from (σ' := { nt := 91, env := [(3, (.v true (.str ⟨#[48, 46, 49]⟩))), (4, (.v true (.int .i64 0))), (5, (.v true (.str ⟨#[48, 46, 48, 57, 57, 57, 55, 53, 53, 56, 53, 57, 51, 55, 53]⟩))), (6, (.v true (.int .i64 0))), (7, (.v true (.str ⟨#[48, 120, 49, 46, 57, 57, 56, 112, 45, 52]⟩))), (8, (.v true (.int .i64 0))), (1, .ptr 1 0 [] 0)], mem := [(1, .box 23 (.v true (.agg [.int .i64 5, .int .i64 11])))] }) (fun a w h => Rel.keep [3, 4, 5, 6, 7, 8, 1] [1] h) ?_
 refine Holds.seq (Holds.regionZ (Px := px) (T := TT) (ρ := fun _ => [.v true (.str ⟨#[49, 46, 48, 50, 101, 43, 48, 51]⟩), .v true (.bool false), .v true (.int .i64 0)]) (k := 2) (σ2 := { nt := 91, env := [(36, .v true (.agg [.int .i64 5, .int .i64 11])), (37, .v true (.sl 1 [.int .u64 1])), (3, (.v true (.str ⟨#[48, 46, 49]⟩))), (4, (.v true (.int .i64 0))), (5, (.v true (.str ⟨#[48, 46, 48, 57, 57, 57, 55, 53, 53, 56, 53, 57, 51, 55, 53]⟩))), (6, (.v true (.int .i64 0))), (7, (.v true (.str ⟨#[48, 120, 49, 46, 57, 57, 56, 112, 45, 52]⟩))), (8, (.v true (.int .i64 0)))], mem := [] }) TTe (by simp (maxSteps := 100000) (disch := omega) only [List.take_succ_cons, List.take_zero, go_sem, V.isAgg, V.flat, ↓reduceIte, Nat.reduceAdd, Nat.reduceSub, Nat.reduceLT, Nat.reduceEqDiff, reduceCtorEq, Nat.reduceLeDiff, Nat.reduceBEq, Nat.reduceMul, Int.reduceToNat]; rfl) (by first | exact h4 | (repeat' first | exact trivial | exact h4 | constructor)) (Nat.le_of_ble_eq_true rfl) (by exact fun a w h => Rel.keep [36, 37, 3, 4, 5, 6, 7, 8] [] (Rel.freeze (s := 37) h rfl)) ⟨_, _, by simp (maxSteps := 100000) (disch := omega) only [List.drop_succ_cons, List.drop_zero, go_sem, V.isAgg, V.flat, ↓reduceIte, Nat.reduceAdd, Nat.reduceSub, Nat.reduceLT, Nat.reduceEqDiff, reduceCtorEq, Nat.reduceLeDiff, Nat.reduceBEq, Nat.reduceMul, Int.reduceToNat]; rfl, by repeat' first | exact trivial | assumption | constructor, ?_⟩); show Holds _ _ _ _ _ _ _
 refine Holds.from (σ' := { nt := 91, env := [(3, (.v true (.str ⟨#[48, 46, 49]⟩))), (4, (.v true (.int .i64 0))), (5, (.v true (.str ⟨#[48, 46, 48, 57, 57, 57, 55, 53, 53, 56, 53, 57, 51, 55, 53]⟩))), (6, (.v true (.int .i64 0))), (7, (.v true (.str ⟨#[48, 120, 49, 46, 57, 57, 56, 112, 45, 52]⟩))), (8, (.v true (.int .i64 0))), (9, (.v true (.str ⟨#[49, 46, 48, 50, 101, 43, 48, 51]⟩))), (10, .v true (.bool false)), (11, (.v true (.int .i64 0)))], mem := [] }) (fun a w h => Rel.keep [3, 4, 5, 6, 7, 8, 9, 10, 11] [] h) ?_
 refine Holds.seq (Holds.regionZ (Px := px) (T := TT) (ρ := fun _ => [.v true (.str ⟨#[49, 46, 50, 48]⟩), .v true (.int .i64 0)]) (k := 1) (σ2 := { nt := 91, env := [(44, .v true (.sl 1 [.int .u64 120])), (3, (.v true (.str ⟨#[48, 46, 49]⟩))), (4, (.v true (.int .i64 0))), (5, (.v true (.str ⟨#[48, 46, 48, 57, 57, 57, 55, 53, 53, 56, 53, 57, 51, 55, 53]⟩))), (6, (.v true (.int .i64 0))), (7, (.v true (.str ⟨#[48, 120, 49, 46, 57, 57, 56, 112, 45, 52]⟩))), (8, (.v true (.int .i64 0))), (9, (.v true (.str ⟨#[49, 46, 48, 50, 101, 43, 48, 51]⟩))), (10, .v true (.bool false)), (11, (.v true (.int .i64 0)))], mem := [] }) TTe (by simp (maxSteps := 100000) (disch := omega) only [List.take_succ_cons, List.take_zero, go_sem, V.isAgg, V.flat, ↓reduceIte, Nat.reduceAdd, Nat.reduceSub, Nat.reduceLT, Nat.reduceEqDiff, reduceCtorEq, Nat.reduceLeDiff, Nat.reduceBEq, Nat.reduceMul, Int.reduceToNat]; rfl) (by first | exact h5 | (repeat' first | exact trivial | exact h5 | constructor)) (Nat.le_of_ble_eq_true rfl) (by exact fun a w h => Rel.keep [44, 3, 4, 5, 6, 7, 8, 9, 10, 11] [] (Rel.freeze (s := 44) h rfl)) ⟨_, _, by simp (maxSteps := 100000) (disch := omega) only [List.drop_succ_cons, List.drop_zero, go_sem, V.isAgg, V.flat, ↓reduceIte, Nat.reduceAdd, Nat.reduceSub, Nat.reduceLT, Nat.reduceEqDiff, reduceCtorEq, Nat.reduceLeDiff, Nat.reduceBEq, Nat.reduceMul, Int.reduceToNat]; rfl, by repeat' first | exact trivial | assumption | constructor, ?_⟩); show Holds _ _ _ _ _ _ _
 refine Holds.step (Px := px) (T := TT) (ρ := fun _ => []) TTe (by simp (maxSteps := 100000) (disch := omega) only [go_sem, V.isAgg, V.flat, ↓reduceIte, Nat.reduceAdd, Nat.reduceSub, Nat.reduceLT, Nat.reduceEqDiff, reduceCtorEq, Nat.reduceLeDiff, Nat.reduceBEq, Nat.reduceMul, Int.reduceToNat, unA, eq_self]; rfl) (by repeat' first | exact trivial | constructor) ?_
 exact Holds.ret (RetOk.vs rfl (by exact ⟨⟨rfl, id⟩, trivial⟩) rfl)
set_option maxHeartbeats 1000000 in
theorem fShort_ok (kd : Int) (neg : Bool) (e : Int) (L : List V) : FnOk Tryz.prog 12 [.v (.sl 4 [.agg [.int .i64 kd, .bool neg, .int .i64 e, .sl 1 L]])] [.v true (.bool (decide (L.length ≤ 40)))] := by
 obtain ⟨n, hn⟩ : ∃ n, n = L.length := ⟨_, rfl⟩
 rw [← hn]
 have hn' := hn.symm
 refine FnOk.of Tryz.func12 rfl rfl fun cx w0 => ?_
 rw [show Tryz.f12.ntmps = 17 from rfl]
 refine Holds.step (Px := px) (T := TT) (ρ := fun _ => []) TTe (by simp (maxSteps := 100000) (disch := omega) only [go_sem, V.isAgg, V.flat, ↓reduceIte, Nat.reduceAdd, Nat.reduceSub, Nat.reduceLT, Nat.reduceEqDiff, reduceCtorEq, Nat.reduceLeDiff, Nat.reduceBEq, Nat.reduceMul, Int.reduceToNat, List.length_cons, List.length_nil]; rfl) (by repeat' first | exact trivial | constructor) ?_
 refine Holds.next (fun σ => n ≤ 40 ∧ ∀ a w, Rel cx w0 σ a w → Rel cx w0 { nt := 17, env := [], mem := [] } a w) ?_ ?_
 ·refine Holds.step (Px := px) (T := TT) (ρ := fun _ => []) TTe (by simp (maxSteps := 100000) (disch := omega) only [go_sem, V.isAgg, V.flat, ↓reduceIte, Nat.reduceAdd, Nat.reduceSub, Nat.reduceLT, Nat.reduceEqDiff, reduceCtorEq, Nat.reduceLeDiff, Nat.reduceBEq, Nat.reduceMul, Int.reduceToNat]; rfl) (by repeat' first | exact trivial | constructor) ?_
  refine Holds.loopB (fun i : Nat => { nt := 17, env := [(3, .v true (.int .i64 i)), (0, .v false (.sl 4 [.agg [.int .i64 kd, .bool neg, .int .i64 e, .sl 1 L]]))], mem := [] }) (fun i => i = 0 ∨ i = 1 ∧ n ≤ 40) (fun i => 1 - i) 0 (.inl rfl) (fun a w h => Rel.keep [3, 0] [] h) ?_
  rintro i hi
  by_cases hi0 : i = 0
  ·subst hi0
   refine Holds.seq ?_
   refine Holds.step (Px := px) (T := TT) (ρ := fun _ => []) TTe (by simp (maxSteps := 100000) (disch := omega) only [go_sem, V.isAgg, V.flat, ↓reduceIte, Nat.reduceAdd, Nat.reduceSub, Nat.reduceLT, Nat.reduceEqDiff, reduceCtorEq, Nat.reduceLeDiff, Nat.reduceBEq, Nat.reduceMul, Int.reduceToNat]; rfl) (by repeat' first | exact trivial | constructor) ?_
   refine Holds.condT rfl (Holds.skip ?_)
   show Holds _ _ _ _ _ _ _
   refine Holds.next (fun σ => n ≤ 40 ∧ ∀ a w, Rel cx w0 σ a w → Rel cx w0 { nt := 17, env := [(3, .v true (.int .i64 0)), (0, .v false (.sl 4 [.agg [.int .i64 kd, .bool neg, .int .i64 e, .sl 1 L]]))], mem := [] } a w) ?_ ?_
   ·refine Holds.blockN ?_
    by_cases hs : n ≤ 40
    ·have g : ¬ (40 : Int) < (L.length : Int) := by omega
     refine Holds.step (Px := px) (T := TT) (ρ := fun _ => []) TTe (by simp (maxSteps := 100000) (disch := omega) only [go_sem, V.isAgg, V.flat, ↓reduceIte, Nat.reduceAdd, Nat.reduceSub, Nat.reduceLT, Nat.reduceEqDiff, reduceCtorEq, Nat.reduceLeDiff, Nat.reduceBEq, Nat.reduceMul, Int.reduceToNat, g]; rfl) (by repeat' first | exact trivial | constructor) ?_
     exact Holds.condF rfl (Holds.skip ⟨hs, fun a w h => Rel.keep [3, 0] [] h⟩)
    ·have g : (40 : Int) < (L.length : Int) := by omega
     refine Holds.step (Px := px) (T := TT) (ρ := fun _ => []) TTe (by simp (maxSteps := 100000) (disch := omega) only [go_sem, V.isAgg, V.flat, ↓reduceIte, Nat.reduceAdd, Nat.reduceSub, Nat.reduceLT, Nat.reduceEqDiff, reduceCtorEq, Nat.reduceLeDiff, Nat.reduceBEq, Nat.reduceMul, Int.reduceToNat, g]; rfl) (by repeat' first | exact trivial | constructor) ?_
     refine Holds.condT rfl ?_
     refine Holds.step (Px := px) (T := TT) (ρ := fun _ => []) TTe (by simp (maxSteps := 100000) (disch := omega) only [go_sem, V.isAgg, V.flat, ↓reduceIte, Nat.reduceAdd, Nat.reduceSub, Nat.reduceLT, Nat.reduceEqDiff, reduceCtorEq, Nat.reduceLeDiff, Nat.reduceBEq, Nat.reduceMul, Int.reduceToNat]; rfl) (by repeat' first | exact trivial | constructor) ?_
     rw [decide_eq_false hs]
     exact Holds.ret (RetOk.vs rfl (by exact ⟨⟨rfl, id⟩, trivial⟩) rfl)
   ·rintro σ ⟨hs, hσ⟩
    refine Holds.from hσ ?_
    refine Holds.region (Px := px) (T := TT) (ρ := fun _ => []) TTe (by simp (maxSteps := 100000) (disch := omega) only [go_sem, V.isAgg, V.flat, ↓reduceIte, Nat.reduceAdd, Nat.reduceSub, Nat.reduceLT, Nat.reduceEqDiff, reduceCtorEq, Nat.reduceLeDiff, Nat.reduceBEq, Nat.reduceMul, Int.reduceToNat]; rfl) (by repeat' first | exact trivial | constructor) ?_
    exact ⟨1, .inr ⟨rfl, hs⟩, (show 1 - 1 < 1 - 0 by decide), fun a w h => Rel.keep [3, 0] [] h⟩
  ·have hi1 : i = 1 ∧ n ≤ 40 := by omega
   obtain ⟨rfl, hs⟩ := hi1
   refine Holds.seq ?_
   refine Holds.step (Px := px) (T := TT) (ρ := fun _ => []) TTe (by simp (maxSteps := 100000) (disch := omega) only [go_sem, V.isAgg, V.flat, ↓reduceIte, Nat.reduceAdd, Nat.reduceSub, Nat.reduceLT, Nat.reduceEqDiff, reduceCtorEq, Nat.reduceLeDiff, Nat.reduceBEq, Nat.reduceMul, Int.reduceToNat]; rfl) (by repeat' first | exact trivial | constructor) ?_
   exact Holds.condF rfl (Holds.exit ⟨rfl, hs, fun a w h => Rel.keep [] [] h⟩)
 ·rintro σ ⟨hs, hσ⟩
  refine Holds.from hσ ?_
  rw [decide_eq_true hs]
  refine Holds.step (Px := px) (T := TT) (ρ := fun _ => []) TTe (by simp (maxSteps := 100000) (disch := omega) only [go_sem, V.isAgg, V.flat, ↓reduceIte, Nat.reduceAdd, Nat.reduceSub, Nat.reduceLT, Nat.reduceEqDiff, reduceCtorEq, Nat.reduceLeDiff, Nat.reduceBEq, Nat.reduceMul, Int.reduceToNat]; rfl) (by repeat' first | exact trivial | constructor) ?_
  exact Holds.ret (RetOk.vs rfl (by exact ⟨⟨rfl, id⟩, trivial⟩) rfl)
set_option maxHeartbeats 1000000 in
theorem decBig_ok (kd e : Int) (neg : Bool) (L : List V) (h : 4096 < L.length) : FnOk Tryz.prog 33 [.v (.agg [.int .i64 kd, .bool neg, .sl 1 L, .int .i64 e])] [.v true (.str ⟨#[]⟩), .v true (.int .i64 2)] := by
 refine FnOk.of Tryz.func33 rfl rfl fun cx w0 => ?_
 rw [show Tryz.f33.ntmps = 65 from rfl]
 refine Holds.step (Px := px) (T := TT) (ρ := fun _ => []) TTe (by simp (maxSteps := 100000) (disch := omega) only [go_sem, V.isAgg, V.flat, ↓reduceIte, Nat.reduceAdd, Nat.reduceSub, Nat.reduceLT, Nat.reduceEqDiff, reduceCtorEq, Nat.reduceLeDiff, Nat.reduceBEq, Nat.reduceMul, Int.reduceToNat, List.length_cons, List.length_nil]; rfl) (by repeat' first | exact trivial | constructor) ?_
 have g : (4096 : Int) < (L.length : Int) := by omega
 refine Holds.seq ?_
 refine Holds.step (Px := px) (T := TT) (ρ := fun _ => []) TTe (by simp (maxSteps := 100000) (disch := omega) only [go_sem, V.isAgg, V.flat, ↓reduceIte, Nat.reduceAdd, Nat.reduceSub, Nat.reduceLT, Nat.reduceEqDiff, reduceCtorEq, Nat.reduceLeDiff, Nat.reduceBEq, Nat.reduceMul, Int.reduceToNat, g]; rfl) (by repeat' first | exact trivial | constructor) ?_
 refine Holds.condT rfl ?_
 refine Holds.step (Px := px) (T := TT) (ρ := fun _ => []) TTe (by simp (maxSteps := 100000) (disch := omega) only [go_sem, V.isAgg, V.flat, ↓reduceIte, Nat.reduceAdd, Nat.reduceSub, Nat.reduceLT, Nat.reduceEqDiff, reduceCtorEq, Nat.reduceLeDiff, Nat.reduceBEq, Nat.reduceMul, Int.reduceToNat]; rfl) (by repeat' first | exact trivial | constructor) ?_
 exact Holds.ret (RetOk.vs rfl (by exact ⟨⟨rfl, id⟩, ⟨rfl, id⟩, trivial⟩) rfl)
theorem nuE_big {k P : Int} {okr : Bool} {kd : Int} {neg : Bool} {e : Int} {l : List Int} (h : 4096 < l.length) : nuE k P okr kd neg e l = 2 := by unfold nuE; rw [if_pos h]
theorem num_big (k P r : Int) (out : Bool) (kd : Int) (neg : Bool) (e : Int) (l : List Int) (h : 4096 < l.length) (hl : l.length < 5000) (ol : okW l) (he : -9223372036854775808 ≤ e ∧ e < 9223372036854775808) :
 FnOk Tryz.prog 49 [.v (fmtV k P), .v (.int .i64 r), .v (.bool out), .v (fltW kd neg e l)] [.v true (.agg [.int .i64 0, .bool false, .int .i64 0, .sl 1 []]), .v true (.int .i64 2)] := by
 have := number_ok k P r out kd neg e l hl ol he
 unfold nuV at this
 rw [nuE_big h, if_neg (by decide)] at this
 exact this
theorem fin_big (k P r : Int) (out : Bool) (kd : Int) (neg : Bool) (e : Int) (l : List Int) (h : 4096 < l.length) (hl : l.length < 5000) (ol : okW l) (he : -9223372036854775808 ≤ e ∧ e < 9223372036854775808) :
 FnOk Tryz.prog 87 [.v (fmtV k P), .v (.int .i64 r), .v (.bool out), .v (fltW kd neg e l)] [.v true (.agg [.int .i64 0, .bool false, .int .i64 0, .sl 1 []]), .v true (.int .i64 2)] := by
 have := finite_ok k P r out kd neg e l hl ol he
 have e2 : fiE k P (decide (0 ≤ r ∧ r ≤ 4) && !out) kd neg e l = 2 := by unfold fiE; rw [nuE_big h, if_pos (show (2 : Int) ≠ 0 by decide)]
 unfold fiV at this
 rw [e2, if_neg (show ¬ (2 : Int) = 0 by decide)] at this
 exact this
theorem big_all (k P r kd e : Int) (neg : Bool) (l : List Int) (h : 4096 < l.length) (hl : l.length < 5000) (ol : okW l) (he : -9223372036854775808 ≤ e ∧ e < 9223372036854775808) :
 FnOk Tryz.prog 28 [.v (fmtV k P), .v (fltW kd neg e l)] [.v true (.str ⟨#[]⟩), .v true (.int .i64 0), .v true (.int .i64 2)] ∧
 FnOk Tryz.prog 30 [.v (fmtV k P), .v (.int .i64 r), .v (fltW kd neg e l), .v (.int .i64 0)] [.v true (.str ⟨#[]⟩), .v true (.int .i64 0), .v true (.bool false), .v true (.int .i64 2)] ∧
 FnOk Tryz.prog 14 [.v (fmtV k P), .v (fltW kd neg e l)] [.v true (.str ⟨#[]⟩), .v true (.int .i64 2)] ∧
 FnOk Tryz.prog 23 [.v (fmtV k P), .v (.int .i64 r), .v (fltW kd neg e l), .v (.int .i64 (-1))] [.v true (.str ⟨#[]⟩), .v true (.bool false), .v true (.int .i64 2)] ∧
 FnOk Tryz.prog 24 [.v (fmtV k P), .v (.int .i64 r), .v (fltW kd neg e l), .v (.int .i64 (-1))] [.v true (.str ⟨#[]⟩), .v true (.bool false), .v true (.int .i64 2)] ∧
 FnOk Tryz.prog 15 [.v (fmtV k P), .v (fltW kd neg e l)] [.v true (.str ⟨#[]⟩), .v true (.int .i64 2)] ∧
 FnOk Tryz.prog 16 [.v (fmtV k P), .v (fltW kd neg e l)] [.v true (.str ⟨#[]⟩), .v true (.int .i64 2)] := by
 have n2 : ¬ (2 : Int) = 0 := by decide
 refine ⟨?_, ?_, ?_, ?_, ?_, ?_, ?_⟩
 ·exact Shortest_gen k P kd e 0 0 2 0 neg false _ [] _ (fin_big k P 0 false kd neg e l h hl ol he) (fun _ => ⟨rfl, rfl⟩) (fun h => absurd h n2)
 ·exact Digits_gen k P r kd e 0 0 2 0 0 neg false false _ [] _ (fin_big k P r _ kd neg e l h hl ol he) (fun _ => ⟨rfl, rfl, rfl⟩) (fun h => absurd h n2)
 ·exact Text_gen k P kd e 0 0 2 neg false _ [] [] (num_big k P 0 false kd neg e l h hl ol he) (fun _ => rfl) (fun h => absurd h n2) (fun h => absurd h n2) (fun h => absurd h n2)
 ·exact Places_gen k P r kd e 0 0 2 (-1) neg false false _ [] _ (num_big k P r _ kd neg e l h hl ol he) (fun _ => ⟨rfl, rfl⟩) (fun h => absurd h n2) (fun h => absurd h n2)
 ·exact Scientific_gen k P r kd e 0 0 2 (-1) neg false false _ [] _ (num_big k P r _ kd neg e l h hl ol he) (fun _ => ⟨rfl, rfl⟩) (fun h => absurd h n2) (fun h => absurd h n2)
 ·exact Exact_gen k P kd e 0 0 2 neg false _ [] _ (by decide) (num_big k P 0 false kd neg e l h hl ol he) (fun _ => rfl) (fun h => absurd h n2) (fun h => absurd h n2) (fun h => absurd h n2)
 ·exact Hex_gen k P kd e 0 0 2 neg false l 0 (by decide) (by decide) (fun h => absurd rfl h) (num_big k P 0 false kd neg e l h hl ol he)
def longL (l : List Int) : List Int := l ++ List.replicate (4097 - l.length) 0
theorem longL_len {l : List Int} (h : l.length ≤ 40) : (longL l).length = 4097 := by unfold longL; rw [List.length_append, List.length_replicate]; omega
theorem longL_ok {l : List Int} (h : okW l) : okW (longL l) := fun n hn => by
 unfold longL at hn
 rcases List.mem_append.1 hn with h1 | h1
 ·exact h n h1
 ·rw [(List.mem_replicate.1 h1).2]; decide
theorem long_step {l : List Int} {N i : Nat} (hi : i < l.length) (hN : l.length ≤ N) : (l.take i ++ List.replicate (N - i) (0 : Int)).set i (l.getD i 0) = l.take (i + 1) ++ List.replicate (N - (i + 1)) 0 := by
 have h1 : (l.take i).length = i := by rw [List.length_take]; omega
 rw [List.set_append_right _ _ (by omega), h1, Nat.sub_self, show N - i = (N - (i + 1)) + 1 from by omega, List.replicate_succ, List.set_cons_zero, List.take_add_one, List.append_assoc, List.getElem?_eq_getElem hi, List.getD_eq_getElem?_getD, List.getElem?_eq_getElem hi]
 rfl
set_option maxHeartbeats 1000000 in
theorem fLong_ok (kd : Int) (neg : Bool) (e : Int) (l : List Int) (hl : l.length ≤ 40) (ol : okW l) : FnOk Tryz.prog 32 [.v (fltW kd neg e l)] [.v false (fltW kd neg e (longL l))] := by
 unfold fltW words
 have hfin : (l.take l.length ++ List.replicate (4097 - l.length) (0 : Int)) = longL l := by rw [List.take_length]; rfl
 refine FnOk.of Tryz.func32 rfl rfl fun cx w0 => ?_
 rw [show Tryz.f32.ntmps = 28 from rfl]
 refine Holds.step (Px := px) (T := TT) (ρ := fun _ => []) TTe (by simp (maxSteps := 100000) (disch := omega) only [go_sem, V.isAgg, V.flat, ↓reduceIte, Nat.reduceAdd, Nat.reduceSub, Nat.reduceLT, Nat.reduceEqDiff, reduceCtorEq, Nat.reduceLeDiff, Nat.reduceBEq, Nat.reduceMul, Int.reduceToNat, List.length_cons, List.length_nil]; rfl) (by repeat' first | exact trivial | constructor) ?_
 refine Holds.step (Px := px) (T := TT) (ρ := fun _ => []) TTe (by simp (maxSteps := 100000) (disch := omega) only [go_sem, V.isAgg, V.flat, ↓reduceIte, Nat.reduceAdd, Nat.reduceSub, Nat.reduceLT, Nat.reduceEqDiff, reduceCtorEq, Nat.reduceLeDiff, Nat.reduceBEq, Nat.reduceMul, Int.reduceToNat, tby76]; rfl) (by repeat' first | exact trivial | constructor) ?_
 obtain ⟨N, hN⟩ : ∃ N, N = 4097 := ⟨_, rfl⟩
 have hNI : (4097 : Int) = (N : Int) := by omega
 refine Holds.next (fun σ => ∀ a w, Rel cx w0 σ a w → Rel cx w0 { nt := 28, env := [(3, .own 5 0 N), (1, .ptr 1 0 [] 0), (2, .ptr 2 0 [] 0)], mem := [(5, .buf 91 1 true ((l.take l.length ++ List.replicate (N - l.length) (0 : Int)).map fun n => .int .u64 n)), (1, .box 28 (.v false (.agg [.int .i64 kd, .bool neg, .int .i64 e, .sl 1 (l.map fun n => .int .u64 n)]))), (2, .box 28 (.v true (.agg [.int .i64 0, .bool false, .int .i64 0, .sl 1 []])))] } a w) ?_ ?_
 ·refine Holds.step (Px := px) (T := TT) (ρ := fun _ => []) TTe (by simp (maxSteps := 100000) (disch := omega) only [go_sem, V.isAgg, V.flat, ↓reduceIte, Nat.reduceAdd, Nat.reduceSub, Nat.reduceLT, Nat.reduceEqDiff, reduceCtorEq, Nat.reduceLeDiff, Nat.reduceBEq, Nat.reduceMul, Int.reduceToNat]; rfl) (by repeat' first | exact trivial | constructor) ?_
  refine Holds.loopB (fun i : Nat => { nt := 28, env := [(4, .v true (.int .i64 i)), (3, .own 5 0 N), (1, .ptr 1 0 [] 0), (2, .ptr 2 0 [] 0)], mem := [(5, .buf 91 1 true ((l.take i ++ List.replicate (N - i) (0 : Int)).map fun n => .int .u64 n)), (1, .box 28 (.v false (.agg [.int .i64 kd, .bool neg, .int .i64 e, .sl 1 (l.map fun n => .int .u64 n)]))), (2, .box 28 (.v true (.agg [.int .i64 0, .bool false, .int .i64 0, .sl 1 []])))] }) (fun i => i ≤ l.length) (fun i => l.length - i) 0 (Nat.zero_le _) (fun a w h => ?_) ?_
  ·have := Rel.keep [4, 3, 1, 2] [5, 1, 2] h
   rw [hN, List.take_zero, List.nil_append, Nat.sub_zero, List.map_replicate]
   exact this
  ·intro i hi
   refine Holds.seq ?_
   by_cases h : i = l.length
   ·have g : ¬ (i : Int) < l.length := by omega
    refine Holds.step (Px := px) (T := TT) (ρ := fun _ => []) TTe (by simp (maxSteps := 100000) (disch := omega) only [go_sem, V.isAgg, V.flat, ↓reduceIte, Nat.reduceAdd, Nat.reduceSub, Nat.reduceLT, Nat.reduceEqDiff, reduceCtorEq, Nat.reduceLeDiff, Nat.reduceBEq, Nat.reduceMul, Int.reduceToNat, g]; rfl) (by repeat' first | exact trivial | constructor) ?_
    refine Holds.condF rfl (Holds.exit ⟨rfl, fun a w hr => ?_⟩)
    have := Rel.keep [3, 1, 2] [5, 1, 2] hr
    rw [h] at this
    exact this
   ·have g1 : (i : Int) < l.length := by omega
    have g2 : (i : Int) < 40 := by omega
    obtain ⟨u, hu, hu64⟩ := natW (okW_getD ol i)
    have gl := get_map (l := l) (i := i) (by omega)
    have hst := long_step (l := l) (N := N) (i := i) (by omega) (by omega)
    rw [hu] at gl hst
    have lZ : (l.take i ++ List.replicate (N - i) (0 : Int)).length = N := by rw [List.length_append, List.length_take, List.length_replicate]; omega
    obtain ⟨Z, hZ⟩ : ∃ Z, Z = l.take i ++ List.replicate (N - i) (0 : Int) := ⟨_, rfl⟩
    rw [← hZ] at hst lZ ⊢
    have gZ := get_map (l := Z) (i := i) (by omega)
    have g0 : (0 : Int) ≤ (i : Int) := by omega
    have g3 : (i : Int) < N := by omega
    have wk : IntKind.i64.wrap ((i : Int) + 1) = ((i + 1 : Nat) : Int) := by rw [wrap_i64] <;> omega
    clear hZ hu
    refine Holds.step (Px := px) (T := TT) (ρ := fun _ => []) TTe (by simp (maxSteps := 100000) (disch := omega) only [go_sem, V.isAgg, V.flat, ↓reduceIte, Nat.reduceAdd, Nat.reduceSub, Nat.reduceLT, Nat.reduceEqDiff, reduceCtorEq, Nat.reduceLeDiff, Nat.reduceBEq, Nat.reduceMul, Int.reduceToNat, g1, g2]; rfl) (by repeat' first | exact trivial | constructor) ?_
    refine Holds.condT rfl (Holds.skip ?_)
    show Holds _ _ _ _ _ _ _
    refine Holds.next (fun σ => ∀ a w, Rel cx w0 σ a w → Rel cx w0 { nt := 28, env := [(4, .v true (.int .i64 i)), (3, .own 5 0 N), (1, .ptr 1 0 [] 0), (2, .ptr 2 0 [] 0)], mem := [(5, .buf 91 1 true ((Z.set i (u : Int)).map fun n => .int .u64 n)), (1, .box 28 (.v false (.agg [.int .i64 kd, .bool neg, .int .i64 e, .sl 1 (l.map fun n => .int .u64 n)]))), (2, .box 28 (.v true (.agg [.int .i64 0, .bool false, .int .i64 0, .sl 1 []])))] } a w) ?_ ?_
    ·refine Holds.blockN ?_
     refine Holds.region (Px := px) (T := TT) (ρ := fun _ => []) TTe (by simp (maxSteps := 100000) (disch := omega) only [go_sem, V.isAgg, V.flat, ↓reduceIte, Nat.reduceAdd, Nat.reduceSub, Nat.reduceLT, Nat.reduceEqDiff, reduceCtorEq, Nat.reduceLeDiff, Nat.reduceBEq, Nat.reduceMul, Int.reduceToNat, gl, gZ, lZ, g0, g3, g1]; rfl) (by repeat' first | exact trivial | constructor) ?_
     intro a w h
     have := Rel.keep [4, 3, 1, 2] [5, 1, 2] h
     rw [List.map_set]
     exact this
    ·intro σ hσ
     refine Holds.from hσ ?_
     rw [hst]
     refine Holds.region (Px := px) (T := TT) (ρ := fun _ => []) TTe (by simp (maxSteps := 100000) (disch := omega) only [go_sem, V.isAgg, V.flat, ↓reduceIte, Nat.reduceAdd, Nat.reduceSub, Nat.reduceLT, Nat.reduceEqDiff, reduceCtorEq, Nat.reduceLeDiff, Nat.reduceBEq, Nat.reduceMul, Int.reduceToNat, wk]; rfl) (by repeat' first | exact trivial | constructor) ?_
     exact ⟨i + 1, (by show i + 1 ≤ l.length; omega), (show l.length - (i + 1) < l.length - i by omega), fun a w h => Rel.keep [4, 3, 1, 2] [5, 1, 2] h⟩
 ·intro σ hσ
  rw [hN, hfin] at hσ
  have hlen := longL_len hl
  have htk : List.take 4097 ((longL l).map fun n => V.int .u64 n) = (longL l).map fun n => V.int .u64 n := List.take_of_length_le (by rw [List.length_map]; omega)
  obtain ⟨Z, hZ⟩ : ∃ Z, Z = longL l := ⟨_, rfl⟩
  rw [← hZ] at hσ htk ⊢
  refine Holds.from (σ' := { nt := 28, env := [(3, .v true (.sl 1 (Z.map fun n => .int .u64 n))), (1, .ptr 1 0 [] 0), (2, .ptr 2 0 [] 0)], mem := [(1, .box 28 (.v false (.agg [.int .i64 kd, .bool neg, .int .i64 e, .sl 1 (l.map fun n => .int .u64 n)]))), (2, .box 28 (.v true (.agg [.int .i64 0, .bool false, .int .i64 0, .sl 1 []])))] }) (fun a w h => by
   have := Rel.keep [3, 1, 2] [1, 2] (Rel.freeze (s := 5) (e := 91) (z := 1) (nw := true) (xs := Z.map fun n => .int .u64 n) (hσ a w h) rfl)
   rw [← htk]
   exact this) ?_
  clear hσ htk hZ hfin hlen
  refine Holds.step (Px := px) (T := TT) (ρ := fun _ => []) TTe (by simp (maxSteps := 100000) (disch := omega) only [go_sem, V.isAgg, V.flat, ↓reduceIte, Nat.reduceAdd, Nat.reduceSub, Nat.reduceLT, Nat.reduceEqDiff, reduceCtorEq, Nat.reduceLeDiff, Nat.reduceBEq, Nat.reduceMul, Int.reduceToNat]; rfl) (by repeat' first | exact trivial | constructor) ?_
  refine Holds.step (Px := px) (T := TT) (ρ := fun _ => []) TTe (by simp (maxSteps := 100000) (disch := omega) only [go_sem, V.isAgg, V.flat, ↓reduceIte, Nat.reduceAdd, Nat.reduceSub, Nat.reduceLT, Nat.reduceEqDiff, reduceCtorEq, Nat.reduceLeDiff, Nat.reduceBEq, Nat.reduceMul, Int.reduceToNat]; rfl) (by repeat' first | exact trivial | constructor) ?_
  exact Holds.ret (RetOk.vs rfl (by exact ⟨⟨rfl, id⟩, trivial⟩) rfl)
set_option maxHeartbeats 4000000 in
theorem SL_walk (k P r kd e : Int) (neg : Bool) (l : List Int) (ol : okW l) (he : -9223372036854775808 ≤ e ∧ e < 9223372036854775808) :
 FnOk Tryz.prog 7 [.v (fmtV k P), .v (.int .i64 r), .v (fltW kd neg e l)] [.v true (.bool true)] := by
 have hA := awake_ok
 have hS := fShort_ok kd neg e (l.map fun n => .int .u64 n)
 rw [List.length_map] at hS
 by_cases h : l.length ≤ 40
 ·rw [decide_eq_true h] at hS
  have hL := fLong_ok kd neg e l h ol
  obtain ⟨h1, h2, h3, h4, h5, h6, h7⟩ := big_all k P r kd e neg (longL l) (by rw [longL_len h]; decide) (by rw [longL_len h]; decide) (longL_ok ol) he
  have h8 := decBig_ok 0 1099511627776 false ((longL l).map fun n => .int .u64 n) (by rw [List.length_map, longL_len h]; decide)
  unfold fltW words at hL h1 h2 h3 h4 h5 h6 h7 ⊢
  unfold fmtV at h1 h2 h3 h4 h5 h6 h7 ⊢
  obtain ⟨L, hLL⟩ : ∃ L, L = (longL l).map fun n => V.int .u64 n := ⟨_, rfl⟩
  rw [← hLL] at hL h1 h2 h3 h4 h5 h6 h7 h8
  obtain ⟨M, hM⟩ : ∃ L, L = l.map fun n => V.int .u64 n := ⟨_, rfl⟩
  rw [← hM] at hL hS ⊢
  clear hM hLL he ol h
  refine FnOk.of Tryz.func7 rfl rfl fun cx w0 => ?_
  rw [show Tryz.f7.ntmps = 164 from rfl]
  refine Holds.step (Px := px) (T := TT) (ρ := fun _ => []) TTe (by simp (maxSteps := 100000) (disch := omega) only [go_sem, V.isAgg, V.flat, ↓reduceIte, Nat.reduceAdd, Nat.reduceSub, Nat.reduceLT, Nat.reduceEqDiff, reduceCtorEq, Nat.reduceLeDiff, Nat.reduceBEq, Nat.reduceMul, Int.reduceToNat, List.length_cons, List.length_nil]; rfl) (by repeat' first | exact trivial | constructor) ?_
  refine Holds.seq ?_
  refine Holds.step (Px := px) (T := TT) (ρ := fun _ => [.v true (.bool true)]) TTe (by simp (maxSteps := 100000) (disch := omega) only [go_sem, V.isAgg, V.flat, ↓reduceIte, Nat.reduceAdd, Nat.reduceSub, Nat.reduceLT, Nat.reduceEqDiff, reduceCtorEq, Nat.reduceLeDiff, Nat.reduceBEq, Nat.reduceMul, Int.reduceToNat, unA]; rfl) (by first | exact hS | (repeat' first | exact trivial | exact hS | constructor)) ?_
  refine Holds.condF rfl (Holds.skip ?_)
  show Holds _ _ _ _ _ _ _
  refine Holds.step (Px := px) (T := TT) (ρ := fun _ => [.v false (.agg [.int .i64 kd, .bool neg, .int .i64 e, .sl 1 L])]) TTe (by simp (maxSteps := 100000) (disch := omega) only [go_sem, V.isAgg, V.flat, ↓reduceIte, Nat.reduceAdd, Nat.reduceSub, Nat.reduceLT, Nat.reduceEqDiff, reduceCtorEq, Nat.reduceLeDiff, Nat.reduceBEq, Nat.reduceMul, Int.reduceToNat]; rfl) (by first | exact hL | (repeat' first | exact trivial | exact hL | constructor)) ?_
  refine Holds.from (σ' := { nt := 164, env := [(1, .v true (.int .i64 r)), (3, .ptr 3 0 [] 0), (7, .ptr 7 0 [] 0)], mem := [(3, .box 23 (.v false (.agg [.int .i64 k, .int .i64 P]))), (7, .box 28 (.v false (.agg [.int .i64 kd, .bool neg, .int .i64 e, .sl 1 L])))] }) (fun a w h => Rel.keep [1, 3, 7] [3, 7] h) ?_
  clear hS hL
  refine Holds.step (Px := px) (T := TT) (ρ := fun _ => [.v true (.str ⟨#[]⟩), .v true (.int .i64 0), .v true (.int .i64 2)]) TTe (by simp (maxSteps := 100000) (disch := omega) only [go_sem, V.isAgg, V.flat, ↓reduceIte, Nat.reduceAdd, Nat.reduceSub, Nat.reduceLT, Nat.reduceEqDiff, reduceCtorEq, Nat.reduceLeDiff, Nat.reduceBEq, Nat.reduceMul, Int.reduceToNat]; rfl) (by first | exact h1 | (repeat' first | exact trivial | exact h1 | constructor)) ?_
  refine Holds.step (Px := px) (T := TT) (ρ := fun _ => [.v true (.str ⟨#[]⟩), .v true (.int .i64 0), .v true (.bool false), .v true (.int .i64 2)]) TTe (by simp (maxSteps := 100000) (disch := omega) only [go_sem, V.isAgg, V.flat, ↓reduceIte, Nat.reduceAdd, Nat.reduceSub, Nat.reduceLT, Nat.reduceEqDiff, reduceCtorEq, Nat.reduceLeDiff, Nat.reduceBEq, Nat.reduceMul, Int.reduceToNat]; rfl) (by first | exact h2 | (repeat' first | exact trivial | exact h2 | constructor)) ?_
  refine Holds.step (Px := px) (T := TT) (ρ := fun _ => [.v true (.str ⟨#[]⟩), .v true (.int .i64 2)]) TTe (by simp (maxSteps := 100000) (disch := omega) only [go_sem, V.isAgg, V.flat, ↓reduceIte, Nat.reduceAdd, Nat.reduceSub, Nat.reduceLT, Nat.reduceEqDiff, reduceCtorEq, Nat.reduceLeDiff, Nat.reduceBEq, Nat.reduceMul, Int.reduceToNat]; rfl) (by first | exact h3 | (repeat' first | exact trivial | exact h3 | constructor)) ?_
  refine Holds.from (σ' := { nt := 164, env := [(8, .v true (.str ⟨#[]⟩)), (9, .v true (.int .i64 0)), (10, .v true (.int .i64 2)), (11, .v true (.str ⟨#[]⟩)), (12, .v true (.int .i64 0)), (13, .v true (.bool false)), (14, .v true (.int .i64 2)), (15, .v true (.str ⟨#[]⟩)), (16, .v true (.int .i64 2)), (1, .v true (.int .i64 r)), (3, .ptr 3 0 [] 0), (7, .ptr 7 0 [] 0)], mem := [(3, .box 23 (.v false (.agg [.int .i64 k, .int .i64 P]))), (7, .box 28 (.v false (.agg [.int .i64 kd, .bool neg, .int .i64 e, .sl 1 L])))] }) (fun a w h => Rel.keep [8, 9, 10, 11, 12, 13, 14, 15, 16, 1, 3, 7] [3, 7] h) ?_
  clear h1 h2 h3
  refine Holds.step (Px := px) (T := TT) (ρ := fun _ => [.v true (.str ⟨#[]⟩), .v true (.bool false), .v true (.int .i64 2)]) TTe (by simp (maxSteps := 100000) (disch := omega) only [go_sem, V.isAgg, V.flat, ↓reduceIte, Nat.reduceAdd, Nat.reduceSub, Nat.reduceLT, Nat.reduceEqDiff, reduceCtorEq, Nat.reduceLeDiff, Nat.reduceBEq, Nat.reduceMul, Int.reduceToNat]; rfl) (by first | exact h4 | (repeat' first | exact trivial | exact h4 | constructor)) ?_
  refine Holds.step (Px := px) (T := TT) (ρ := fun _ => [.v true (.str ⟨#[]⟩), .v true (.bool false), .v true (.int .i64 2)]) TTe (by simp (maxSteps := 100000) (disch := omega) only [go_sem, V.isAgg, V.flat, ↓reduceIte, Nat.reduceAdd, Nat.reduceSub, Nat.reduceLT, Nat.reduceEqDiff, reduceCtorEq, Nat.reduceLeDiff, Nat.reduceBEq, Nat.reduceMul, Int.reduceToNat]; rfl) (by first | exact h5 | (repeat' first | exact trivial | exact h5 | constructor)) ?_
  refine Holds.step (Px := px) (T := TT) (ρ := fun _ => [.v true (.str ⟨#[]⟩), .v true (.int .i64 2)]) TTe (by simp (maxSteps := 100000) (disch := omega) only [go_sem, V.isAgg, V.flat, ↓reduceIte, Nat.reduceAdd, Nat.reduceSub, Nat.reduceLT, Nat.reduceEqDiff, reduceCtorEq, Nat.reduceLeDiff, Nat.reduceBEq, Nat.reduceMul, Int.reduceToNat]; rfl) (by first | exact h6 | (repeat' first | exact trivial | exact h6 | constructor)) ?_
  refine Holds.step (Px := px) (T := TT) (ρ := fun _ => [.v true (.str ⟨#[]⟩), .v true (.int .i64 2)]) TTe (by simp (maxSteps := 100000) (disch := omega) only [go_sem, V.isAgg, V.flat, ↓reduceIte, Nat.reduceAdd, Nat.reduceSub, Nat.reduceLT, Nat.reduceEqDiff, reduceCtorEq, Nat.reduceLeDiff, Nat.reduceBEq, Nat.reduceMul, Int.reduceToNat]; rfl) (by first | exact h7 | (repeat' first | exact trivial | exact h7 | constructor)) ?_
  refine Holds.step (Px := px) (T := TT) (ρ := fun _ => [.v true (.str ⟨#[]⟩), .v true (.int .i64 2)]) TTe (by simp (maxSteps := 100000) (disch := omega) only [go_sem, V.isAgg, V.flat, ↓reduceIte, Nat.reduceAdd, Nat.reduceSub, Nat.reduceLT, Nat.reduceEqDiff, reduceCtorEq, Nat.reduceLeDiff, Nat.reduceBEq, Nat.reduceMul, Int.reduceToNat]; rfl) (by first | exact h8 | (repeat' first | exact trivial | exact h8 | constructor)) ?_
  refine Holds.from (σ' := { nt := 164, env := [(8, .v true (.str ⟨#[]⟩)), (9, .v true (.int .i64 0)), (10, .v true (.int .i64 2)), (11, .v true (.str ⟨#[]⟩)), (12, .v true (.int .i64 0)), (13, .v true (.bool false)), (14, .v true (.int .i64 2)), (15, .v true (.str ⟨#[]⟩)), (16, .v true (.int .i64 2)), (17, .v true (.str ⟨#[]⟩)), (18, .v true (.bool false)), (19, .v true (.int .i64 2)), (20, .v true (.str ⟨#[]⟩)), (21, .v true (.bool false)), (22, .v true (.int .i64 2)), (23, .v true (.str ⟨#[]⟩)), (24, .v true (.int .i64 2)), (25, .v true (.str ⟨#[]⟩)), (26, .v true (.int .i64 2)), (27, .v true (.str ⟨#[]⟩)), (28, .v true (.int .i64 2))], mem := [] }) (fun a w h => Rel.keep [8, 9, 10, 11, 12, 13, 14, 15, 16, 17, 18, 19, 20, 21, 22, 23, 24, 25, 26, 27, 28] [] h) ?_
  clear h4 h5 h6 h7 h8
  have ap : (ByteArray.mk #[] ++ ByteArray.mk #[] : ByteArray) = ByteArray.mk #[] := rfl
  have sz1 : (#[] : Array UInt8).size + (#[] : Array UInt8).size ≤ 9223372036854775807 := by decide
  have sz2 : (ByteArray.mk #[]).size + (ByteArray.mk #[]).size ≤ 9223372036854775807 := by decide
  refine Holds.step (Px := px) (T := TT) (ρ := fun _ => [.v true (.bool true)]) TTe (by simp (maxSteps := 100000) (disch := omega) only [go_sem, V.isAgg, V.flat, ↓reduceIte, Nat.reduceAdd, Nat.reduceSub, Nat.reduceLT, Nat.reduceEqDiff, reduceCtorEq, Nat.reduceLeDiff, Nat.reduceBEq, Nat.reduceMul, Int.reduceToNat, unA, eq_self, ap, sz1, sz2, List.append_eq]; rfl) (by first | exact hA | (repeat' first | exact trivial | exact hA | constructor)) ?_
  exact Holds.ret (RetOk.vs rfl (by exact ⟨⟨rfl, id⟩, trivial⟩) rfl)
 ·rw [decide_eq_false h] at hS
  unfold fltW words fmtV
  obtain ⟨M, hM⟩ : ∃ L, L = l.map fun n => V.int .u64 n := ⟨_, rfl⟩
  rw [← hM] at hS ⊢
  clear hM he ol h
  refine FnOk.of Tryz.func7 rfl rfl fun cx w0 => ?_
  rw [show Tryz.f7.ntmps = 164 from rfl]
  refine Holds.step (Px := px) (T := TT) (ρ := fun _ => []) TTe (by simp (maxSteps := 100000) (disch := omega) only [go_sem, V.isAgg, V.flat, ↓reduceIte, Nat.reduceAdd, Nat.reduceSub, Nat.reduceLT, Nat.reduceEqDiff, reduceCtorEq, Nat.reduceLeDiff, Nat.reduceBEq, Nat.reduceMul, Int.reduceToNat, List.length_cons, List.length_nil]; rfl) (by repeat' first | exact trivial | constructor) ?_
  refine Holds.seq ?_
  refine Holds.step (Px := px) (T := TT) (ρ := fun _ => [.v true (.bool false)]) TTe (by simp (maxSteps := 100000) (disch := omega) only [go_sem, V.isAgg, V.flat, ↓reduceIte, Nat.reduceAdd, Nat.reduceSub, Nat.reduceLT, Nat.reduceEqDiff, reduceCtorEq, Nat.reduceLeDiff, Nat.reduceBEq, Nat.reduceMul, Int.reduceToNat, unA]; rfl) (by first | exact hS | (repeat' first | exact trivial | exact hS | constructor)) ?_
  refine Holds.condT rfl ?_
  refine Holds.step (Px := px) (T := TT) (ρ := fun _ => [.v true (.bool true)]) TTe (by simp (maxSteps := 100000) (disch := omega) only [go_sem, V.isAgg, V.flat, ↓reduceIte, Nat.reduceAdd, Nat.reduceSub, Nat.reduceLT, Nat.reduceEqDiff, reduceCtorEq, Nat.reduceLeDiff, Nat.reduceBEq, Nat.reduceMul, Int.reduceToNat]; rfl) (by first | exact hA | (repeat' first | exact trivial | exact hA | constructor)) ?_
  exact Holds.ret (RetOk.vs rfl (by exact ⟨⟨rfl, id⟩, trivial⟩) rfl)
end Go.Proofs.YtlpolbeikangpaaGreatDoor.L
namespace Go.Proofs.YtlpolbeikangpaaGreatDoor.L
open Go Go.RowKit Go.ChangeShapes Go.WideShapes Go.ChangeAt
variable {H : Type} {enc : TypeId × Value → H} {P : Program}
theorem openIc {t e : TypeId} {k : IntKind} {W : World} {cs : List Value} {x : DataW H × List MemPlace} {fuel : Nat} (ht : P.underlying t = some (.slice e)) (he : P.underlying e = some (.int k)) (hc : P.cellsOf e = 1)
 (hf : DataW.trod enc P W 0 (fun _ => true) true fuel t cs = some x) : ∃ (l : List Int), (∀ n ∈ l, (Lit.int k n).wf = true) ∧ Rep W (fun b => b < W.heap.size ∧ True) (.sl 1 (l.map fun n => .int k n)) cs := by
 rcases open_ints ht he hc hf with ⟨rfl, _⟩ | ⟨a, len, cap, zs, rfl, _, hl, hm, hz, _, hcell, hwz⟩
 ·exact ⟨[], (fun n hn => by cases hn), by rw [Rep]; exact .inl ⟨rfl, _, _, rfl⟩⟩
 ·simp only [if_true] at hz
  refine ⟨zs.take len, fun n hn => hwz n (List.mem_of_mem_take hn), ?_⟩
  rw [Rep]
  by_cases hl0 : len = 0
  ·subst hl0
   exact .inl ⟨by simp, _, _, rfl⟩
  ·obtain ⟨b, off, spot⟩ := a
   have hspot : spot = none := by simpa [Addr.add] using World.cell?_spot (hcell 0 (by omega))
   subst hspot
   have hb : b < W.heap.size := by
    have := hcell 0 (by omega)
    refine Nat.lt_of_not_le fun hle => ?_
    simp [World.cell?, Addr.add, Array.getElem?_eq_none hle] at this
   have hlen : ((zs.take len).map fun n => V.int k n).length = len := by rw [List.length_map, List.length_take]; omega
   refine .inr ⟨b, off, cap, by rw [hlen]; exact hl, ⟨hb, trivial⟩, by rw [hlen], ?_⟩
   refine RepF.row (repF_ints _) fun j hj => ?_
   rw [List.length_map, List.length_take] at hj
   have h1 := hcell j (by omega)
   rw [add_plain] at h1
   rw [h1, List.getElem?_map, List.getElem?_take_of_lt (by omega), List.getElem?_eq_getElem (by omega), List.getD_eq_getElem?_getD, List.getElem?_eq_getElem (by omega)]
   rfl
theorem openFlt {r : Reach} {b0 : Nat} {t e : TypeId} {f0 f1 f2 f3 : Field} {k0 k2 k3 : IntKind} {W : World} {v : Value} {d : DataW H} {ps : List MemPlace} (ht : P.underlying t = some (.struct #[f0, f1, f2, f3])) (hc : P.cellsOf t = 4) (o0 : f0.offset = 0) (o1 : f1.offset = 1) (o2 : f2.offset = 2) (o3 : f3.offset = 3)
 (c0 : P.cellsOf f0.type = 1) (c1 : P.cellsOf f1.type = 1) (c2 : P.cellsOf f2.type = 1) (c3 : P.cellsOf f3.type = 1) (u0 : P.underlying f0.type = some (.int k0)) (u1 : P.underlying f1.type = some .bool) (u2 : P.underlying f2.type = some (.int k2)) (u3 : P.underlying f3.type = some (.slice e))
 (ue : P.underlying e = some (.int k3)) (ce : P.cellsOf e = 1) (hval : Value.okWide P W r b0 t v) (hd : DataW.Trod enc P W 0 (fun _ => true) true t v d ps) :
 ∃ (a : Int) (b : Bool) (c : Int) (l : List Int), (Lit.int k0 a).wf = true ∧ (Lit.int k2 c).wf = true ∧ (∀ n ∈ l, (Lit.int k3 n).wf = true) ∧ ArgRep W (fun _ => True) (.v (.agg [.int k0 a, .bool b, .int k2 c, .sl 1 (l.map fun n => .int k3 n)])) v := by
 obtain ⟨cs, rfl, hsz⟩ := okWide_struct ht hval
 obtain ⟨fuel, hf⟩ := hd
 obtain ⟨xs, n, _, hx, hl, hlen, hg⟩ := DataW.trod_struct ht hf
 rw [Value.cells] at hg
 obtain ⟨cs⟩ := cs
 match cs, hsz.trans hc with
 | [x0, x1, x2, x3], _ =>
   match xs, hlen with
   | [y0, y1, y2, y3], _ =>
     have g0 := hg 0 f0 rfl
     have g1 := hg 1 f1 rfl
     have g2 := hg 2 f2 rfl
     have g3 := hg 3 f3 rfl
     rw [o0, c0, cells1 (c := x0) rfl] at g0
     rw [o1, c1, cells1 (c := x1) rfl] at g1
     rw [o2, c2, cells1 (c := x2) rfl] at g2
     rw [o3, c3, cells1 (c := x3) rfl] at g3
     obtain ⟨a, ha, _, wa⟩ := DataW.trod_int u0 (x := y0) g0
     obtain ⟨b, hb, _⟩ := DataW.trod_bool u1 (x := y1) g1
     obtain ⟨c, hc2, _, wc⟩ := DataW.trod_int u2 (x := y2) g2
     obtain ⟨l, wl, hrep⟩ := openIc u3 ue ce g3
     cases ha; cases hb; cases hc2
     refine ⟨a, b, c, l, wa, wc, wl, ?_⟩
     rw [ArgRep]
     refine ⟨[.int k0 a, .bool b, .int k2 c, x3], ?_, rfl⟩
     rw [Rep, RepL]
     refine ⟨[.int k0 a], _, rfl, by rw [Rep], ?_⟩
     rw [RepL]
     refine ⟨[.bool b], _, rfl, by rw [Rep], ?_⟩
     rw [RepL]
     refine ⟨[.int k2 c], _, rfl, by rw [Rep], ?_⟩
     rw [RepL]
     exact ⟨[x3], [], rfl, hrep, by rw [RepL]⟩
end Go.Proofs.YtlpolbeikangpaaGreatDoor.L
namespace Go.Proofs.YtlpolbeikangpaaGreatDoor.L
open Go Go.RowKit Go.Proofs Go.ChangeShapes Go.WideShapes Go.ChangeAt
theorem laidVars_mem {P : Program} {w : World} {n : String} {d : DataW Unit} : ∀ {l : List (String × DataW Unit)} {ps : List MemPlace}, DataW.LaidVars P w l ps → (n, d) ∈ l →
 ∃ g t cs fuel p, P.globalNamed n = some g ∧ (P.globals[g]?).map (·.type) = some t ∧ w.var? P n = some cs ∧ DataW.trod (fun _ => ()) P w 0 (fun _ => true) false fuel t cs.toList = some (d, p)
 | [], _, _, hm => by cases hm
 | x :: r, ps, h, hm => by
   obtain ⟨g, t, cs, fuel, p, q, h1, h2, h3, h4, h5, _⟩ := h
   rcases List.mem_cons.1 hm with rfl | hm
   ·exact ⟨g, t, cs, fuel, p, h1, h2, h3, h4⟩
   ·exact laidVars_mem h5 hm
theorem repL_ints {w : World} {ok : Nat → Prop} {k : IntKind} : ∀ zs : List Int, RepL w ok (zs.map fun n => V.int k n) (zs.map fun n => Value.int k n)
 | [] => by rw [List.map_nil, List.map_nil, RepL]
 | z :: r => by
   rw [List.map_cons, List.map_cons, RepL]
   exact ⟨[.int k z], _, rfl, by rw [Rep], repL_ints r⟩
theorem ints_cells {P : Program} {w : World} {t e : TypeId} {n : Nat} {k : IntKind} {zs : List Int} {fuel : Nat} {cs : List Value} {p : List MemPlace} (hu : P.underlying t = some (.array n e)) (he : P.underlying e = some (.int k)) (c1 : P.cellsOf e = 1) (ct : P.cellsOf t = n) (hn : zs.length = n)
 (h : DataW.trod (fun _ => ()) P w 0 (fun _ => true) false fuel t cs = some (.agg (zs.map fun z => .lit (.int k z)), p)) : cs = zs.map fun n => Value.int k n := by
 obtain ⟨xs, m, _, ex, hl0, hl, hel⟩ := DataW.trod_array hu h
 have e3 : (xs.map (·.1)) = zs.map fun n => .lit (.int k n) := (DataW.agg.inj (Prod.mk.inj ex).1).symm
 apply List.ext_getElem
 ·rw [hl0, ct, List.length_map, hn]
 ·intro r h1 h2
  rw [List.length_map] at h2
  have hE := hel r (by omega)
  rw [c1, Nat.mul_one, List.getElem?_eq_getElem (by omega)] at hE
  obtain ⟨z, e1, e2, _⟩ := DataW.trod_int he hE
  have e4 : (xs.map (·.1))[r]? = (zs.map fun n => (DataW.lit (.int k n) : DataW Unit))[r]? := by rw [e3]
  rw [List.getElem?_map, List.getElem?_map, List.getElem?_eq_getElem (by omega : r < xs.length), List.getElem?_eq_getElem h2, e2] at e4
  have hz : z = zs[r] := by simpa using e4
  have h0 : ((cs.drop r).take 1)[0]? = some (.int k z) := by rw [e1]; rfl
  have h3 : cs[r]? = some (.int k z) := by simpa using h0
  rw [List.getElem?_eq_getElem h1] at h3
  rw [Option.some.inj h3, List.getElem_map, hz]
theorem gl_one {W : World} {nm : String} {g : Nat} {cs : Array Value} {x : V} {ok : Nat → Prop} (hg : Tryz.prog.globalNamed nm = some g) (hv : W.var? Tryz.prog nm = some cs) (hr : Rep W ok x cs.toList) :
 g < W.heap.size ∧ ∃ cs, Rep W ok x cs ∧ ∃ t f, W.heap[g]? = some (.cells cs.toArray t f) := by
 unfold World.var? at hv
 rw [hg, Option.bind_some] at hv
 split at hv
 ·next cs' t f h =>
  cases hv
  exact ⟨(Array.getElem?_eq_some_iff.1 h).1, cs.toList, hr, t, f, by rw [h]⟩
 ·cases hv
def intOf' : V → Int
 | .int _ n => n
 | _ => 0
def intsOf' : V → List Int
 | .agg fs => fs.map intOf'
 | _ => []
def pow10Z : List Int := intsOf' pow10V
def bruijnZ : List Int := intsOf' bruijnV
theorem pow10V_eq : pow10V = .agg (pow10Z.map fun n => .int .u64 n) := by kernel_rfl
theorem bruijnV_eq : bruijnV = .agg (bruijnZ.map fun n => .int .u8 n) := by kernel_rfl
theorem pow10D_eq : Rows.laid_internal_strconv_uint64pow10 = (.agg (pow10Z.map fun n => .lit (.int .u64 n)) : DataW Unit) := by kernel_rfl
theorem bruijnD_eq : Rows.laid_math_bits_deBruijn64tab = (.agg (bruijnZ.map fun n => .lit (.int .u8 n)) : DataW Unit) := by kernel_rfl
def LAID : List (String × DataW Unit) := Rows.shortestLargeRow.laid
theorem laid_GL {W : World} (h : laidMetH Tryz.prog LAID W) : GL W := by
 have hF := h.funcs (n := "reckoner/fin.more") (d := .agg [.iface "func" (.lit (.string [114, 101, 99, 107, 111, 110, 101, 114, 47, 102, 105, 110, 46, 109, 111, 114, 101, 36, 49])), .iface "func" (.lit (.string [114, 101, 99, 107, 111, 110, 101, 114, 47, 102, 105, 110, 46, 109, 111, 114, 101, 36, 50])), .iface "func" (.lit (.string [114, 101, 99, 107, 111, 110, 101, 114, 47, 102, 105, 110, 46, 109, 111, 114, 101, 36, 51])), .iface "func" (.lit (.string [114, 101, 99, 107, 111, 110, 101, 114, 47, 102, 105, 110, 46, 109, 111, 114, 101, 36, 52])), .iface "func" (.lit (.string [114, 101, 99, 107, 111, 110, 101, 114, 47, 102, 105, 110, 46, 109, 111, 114, 101, 36, 53]))]) (by
  show _ ∈ Rows.shortestLargeRow.laid
  simp only [Rows.shortestLargeRow, Rows.laid_reckoner_fin_more, List.mem_cons, true_or, or_true])
 have hP : laidMet Tryz.prog (LAID.filter fun x => x.2.handleName?.isNone) W := by
  unfold laidMetH at h
  have e : (LAID.filter fun x => x.2.handleName?.isSome) = [("reckoner/fin.more", Rows.laid_reckoner_fin_more)] := by rfl
  rw [e] at h
  exact h.1
 obtain ⟨ps, hL, _, _⟩ := hP
 have hm1 : ("internal/strconv.uint64pow10", (Rows.laid_internal_strconv_uint64pow10 : DataW Unit)) ∈ LAID.filter fun x => x.2.handleName?.isNone := by
  rw [List.mem_filter]
  exact ⟨by show _ ∈ Rows.shortestLargeRow.laid; simp only [Rows.shortestLargeRow, List.mem_cons, true_or, or_true], rfl⟩
 have hm2 : ("math/bits.deBruijn64tab", (Rows.laid_math_bits_deBruijn64tab : DataW Unit)) ∈ LAID.filter fun x => x.2.handleName?.isNone := by
  rw [List.mem_filter]
  exact ⟨by show _ ∈ Rows.shortestLargeRow.laid; simp only [Rows.shortestLargeRow, List.mem_cons, true_or, or_true], rfl⟩
 intro q hq
 simp only [GLOB, List.mem_cons, List.not_mem_nil, or_false] at hq
 rcases hq with rfl | rfl | rfl
 ·obtain ⟨g, t, cs, fuel, p, hg, ht, hv, hd⟩ := hF
  obtain rfl := Option.some.inj ((show Tryz.prog.globalNamed "reckoner/fin.more" = some 0 by kernel_rfl).symm.trans hg)
  obtain rfl := Option.some.inj ((show (Tryz.prog.globals[0]?).map (·.type) = some 244 by kernel_rfl).symm.trans ht)
  obtain ⟨xs, m, _, ex, hl0, hl, hel⟩ := DataW.trod_array Tryz.underlying244 hd
  have c1 : Tryz.prog.cellsOf 243 = 1 := by kernel_rfl
  have ct : Tryz.prog.cellsOf 244 = 5 := by kernel_rfl
  have e3 := (DataW.agg.inj (Prod.mk.inj ex).1).symm
  have one : ∀ (i : Nat) (f : FuncId) (s : UInt8), i < 5 → (xs.map (·.1))[i]? = some (.held [114, 101, 99, 107, 111, 110, 101, 114, 47, 102, 105, 110, 46, 109, 111, 114, 101, 36, s]) →
   ((List.range Tryz.prog.funcs.size).filter fun f => (Tryz.prog.funcs[f]?).any (·.name.toUTF8.data.toList == [114, 101, 99, 107, 111, 110, 101, 114, 47, 102, 105, 110, 46, 109, 111, 114, 101, 36, s])) = [f] → cs.toList[i]? = some (.func (.func f) #[] #[]) := by
   intro i f s hi hx hone
   have hE := hel i hi
   rw [c1, Nat.mul_one] at hE
   rw [List.getElem?_map] at hx
   cases hxi : xs[i]? with
   | none => rw [hxi] at hx; cases hx
   | some y =>
     rw [hxi] at hx hE
     obtain ⟨y1, y2⟩ := y
     simp only [Option.map_some, Option.some.injEq] at hx
     subst hx
     have hlt : i < cs.toList.length := by rw [hl0, ct]; exact hi
     have h1 : ((cs.toList.drop i).take 1) = [cs.toList[i]] := by rw [List.drop_eq_getElem_cons hlt]; rfl
     rw [h1] at hE
     have := func_of_trod (f0 := f) Tryz.underlying243 hone hE
     rw [List.getElem?_eq_getElem hlt, this]
  have k0 := one 0 311 49 (by decide) (by rw [e3]; rfl) (by kernel_rfl)
  have k1 := one 1 312 50 (by decide) (by rw [e3]; rfl) (by kernel_rfl)
  have k2 := one 2 313 51 (by decide) (by rw [e3]; rfl) (by kernel_rfl)
  have k3 := one 3 314 52 (by decide) (by rw [e3]; rfl) (by kernel_rfl)
  have k4 := one 4 315 53 (by decide) (by rw [e3]; rfl) (by kernel_rfl)
  rw [ct] at hl0
  have hc : cs.toList = [.func (.func 311) #[] #[], .func (.func 312) #[] #[], .func (.func 313) #[] #[], .func (.func 314) #[] #[], .func (.func 315) #[] #[]] := by
   match hcs : cs.toList, hl0 with
   | [a, b, c, d, e], _ =>
     rw [hcs] at k0 k1 k2 k3 k4
     simp only [List.getElem?_cons_zero, List.getElem?_cons_succ, Option.some.injEq] at k0 k1 k2 k3 k4
     rw [k0, k1, k2, k3, k4]
  refine gl_one hg hv ?_
  rw [hc]
  unfold moreV
  rw [Rep, RepL]; refine ⟨[_], _, rfl, by rw [Rep], ?_⟩
  rw [RepL]; refine ⟨[_], _, rfl, by rw [Rep], ?_⟩
  rw [RepL]; refine ⟨[_], _, rfl, by rw [Rep], ?_⟩
  rw [RepL]; refine ⟨[_], _, rfl, by rw [Rep], ?_⟩
  rw [RepL]; refine ⟨[_], _, rfl, by rw [Rep], ?_⟩
  rw [RepL]
 ·obtain ⟨g, t, cs, fuel, p, hg, ht, hv, hd⟩ := laidVars_mem hL hm2
  obtain rfl := Option.some.inj ((show Tryz.prog.globalNamed "math/bits.deBruijn64tab" = some 3 by kernel_rfl).symm.trans hg)
  obtain rfl := Option.some.inj ((show (Tryz.prog.globals[3]?).map (·.type) = some 280 by kernel_rfl).symm.trans ht)
  rw [bruijnD_eq] at hd
  have hc := ints_cells Tryz.underlying280 Tryz.underlying5 (by kernel_rfl) (by kernel_rfl) (by kernel_rfl) hd
  refine gl_one hg hv ?_
  rw [bruijnV_eq, hc, Rep]
  exact repL_ints _
 ·obtain ⟨g, t, cs, fuel, p, hg, ht, hv, hd⟩ := laidVars_mem hL hm1
  obtain rfl := Option.some.inj ((show Tryz.prog.globalNamed "internal/strconv.uint64pow10" = some 7 by kernel_rfl).symm.trans hg)
  obtain rfl := Option.some.inj ((show (Tryz.prog.globals[7]?).map (·.type) = some 296 by kernel_rfl).symm.trans ht)
  rw [pow10D_eq] at hd
  have hc := ints_cells Tryz.underlying296 Tryz.underlying91 (by kernel_rfl) (by kernel_rfl) (by kernel_rfl) hd
  refine gl_one hg hv ?_
  rw [pow10V_eq, hc, Rep]
  exact repL_ints _
def PLAIN : List (String × DataW Unit) := LAID.filter fun x => x.2.handleName?.isNone
noncomputable def witBase (os : Os) : World :=
 { World.holding Tryz.prog os ⟨#[], #[], []⟩ with heap := ⟨Lay.setRows (World.holding Tryz.prog os ⟨#[], #[], []⟩).heap.toList [(0, [.func (.func 311) #[] #[], .func (.func 312) #[] #[], .func (.func 313) #[] #[], .func (.func 314) #[] #[], .func (.func 315) #[] #[]])]⟩ }
noncomputable def wit (os : Os) : World := (witBase os).layVars Tryz.prog PLAIN
theorem wit_os (os : Os) : (wit os).os = os := (World.layVars_os _ _ _).trans rfl
theorem wit_plain (os : Os) (args : Array Value) : laidMet Tryz.prog PLAIN ((wit os).forCall (fun _ _ => 0) ⟨#[], args, []⟩).memory := by
 have e1 : (PLAIN.filter fun x => (PLAIN.map (·.1)).contains x.1) = PLAIN := List.filter_eq_self.2 fun x hx => List.contains_iff_mem.2 (List.mem_map.2 ⟨x, hx, rfl⟩)
 have e2 : (PLAIN.filter fun x => !(PLAIN.map (·.1)).contains x.1) = [] := List.filter_eq_nil_iff.2 fun x hx => by rw [List.contains_iff_mem.2 (List.mem_map.2 ⟨x, hx, rfl⟩)]; simp
 have hf : (witBase os).layFits Tryz.prog PLAIN [] = true := by kernel_rfl
 have hi : (witBase os).layIfaces Tryz.prog PLAIN (wit os) = true := by kernel_rfl
 have h : laidMet Tryz.prog PLAIN (wit os) := laidMet_layVars (w0 := witBase os) (PLAIN.map (·.1)) [] (by rw [e1]; rfl) (by rw [e1]; exact hf) (by rw [e1]; exact hi) (by rw [e2]; exact LaidIn.none)
 exact h.of_heap (by simp [World.memory, World.forCall, Input.heap])
theorem wit_met (os : Os) (args : Array Value) : laidMetH Tryz.prog LAID ((wit os).forCall (fun _ _ => 0) ⟨#[], args, []⟩).memory :=
 laidMetH_of_parts3 (fuel := 8) (wit_plain os args) (by kernel_rfl) (by kernel_rfl)
end Go.Proofs.YtlpolbeikangpaaGreatDoor.L
