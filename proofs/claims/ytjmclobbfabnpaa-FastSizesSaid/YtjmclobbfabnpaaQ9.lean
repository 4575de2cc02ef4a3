/-
  Um Un
-/
import Derived.Test.YtjmclobbfabnpaaQ7
import Derived.Test.YtjmclobbfabnpaaH9
set_option linter.unusedSimpArgs false
set_option linter.unusedVariables false
/-
  Numbers that are too large; shifts by part of a word.
-/
namespace Go.Proofs.Ytjmclobbfabnpaa.L
open Go Go.RowKit Go.Proofs
attribute [local go_sem] evalOps_nil evalOps_cons runW_t runW_f runE_s runP_s wantA evalOp effOp letters okDst coreA St.opv St.get St.at look constA St.put St.upd St.set decide_true List.all_nil List.all_cons Bool.and_true Bool.true_and and_self and_true true_and if_true if_false true_or Int.sub_zero List.nil_append List.cons_append List.append_nil Option.isSome_some List.getElem?_toArray List.getElem?_cons_succ List.getElem?_cons_zero Option.bind_some Option.map_some Option.map_none beq_self_eq_true Bool.false_beq Bool.true_beq Bool.not_true Bool.not_false Bool.false_eq_true cond_true cond_false binA binI List.map_cons List.map_nil boundA List.length_nil List.length_cons Nat.zero_mul Nat.one_mul Nat.mul_one Nat.zero_add Nat.add_zero Nat.zero_le Option.toList St.freshB AV.ment AV.ments Blk.ment V.sizes Nat.lt_add_one Bool.or_true Bool.true_or Bool.or_false Bool.false_or Bool.or_self if_pos if_neg decide_false decide_eq_true decide_eq_false wrap_i64 Int.toNat_natCast minA maxA Int.natCast_add Int.cast_ofNat_Int Option.isSome_none false_implies true_implies forall_const List.drop_zero Int.toNat_zero Int.add_sub_cancel lenA sliceA loadA indexAddrA partA fitsT V.atP V.offP V.size List.length_map List.getElem?_map Int.toNat_natCast_add_one Int.ofNat_eq_natCast TY calleeA capArg knotA capArgs toArgs toArg callA R.res R.mems R.blks R.av R.names R.nw invokeA storeA storeV fieldAddrA liveB V.off V.offs V.setP List.set_cons_zero List.set_cons_succ buildA buildP partsA appendA srcA copyA boxOk makeA AV.pure List.take_succ_cons List.take_zero nilA words entry List.zipIdx_cons List.zipIdx_nil Arg.av Arg.avs

theorem opened_big {ps : List (Bool × List Int)} (hn : ps.length < 1000000) (hps : ∀ p ∈ ps, p.2.length < 1000000 ∧ okW p.2) (hb : bigP ps = true) :
    FnOk Try.prog 55 [.v (intsV ps)] [.v true (.sl 2 []), .v true (.bool false)] := by
  have h := opened_ok ps hn hps
  rw [opR, if_pos hb] at h
  exact h

theorem Value_size (ps : List (Bool × List Int)) (t : Int) (hn : ps.length < 1000000) (hps : ∀ p ∈ ps, p.2.length < 1000000 ∧ okW p.2) (hb : bigP ps = true) :
    FnOk Try.prog 36 [.v (intsV ps), .v (.int .i64 t)] [.v true (.agg [.bool false, .sl 1 []]), .v true (.int .i64 2)] := by
  have hO := opened_big hn hps hb
  refine FnOk.of Try.func36 rfl rfl fun cx w0 => ?_
  rw [show Try.f36.ntmps = 34 from rfl]
  refine Holds.step (Px := px) (T := TT) (ρ := fun _ => []) TTe (by simp (maxSteps := 100000) (disch := omega) only [go_sem, V.isAgg, V.flat, ↓reduceIte, Nat.reduceAdd, Nat.reduceSub, Nat.reduceLT, Nat.reduceEqDiff, reduceCtorEq, Nat.reduceLeDiff, Nat.reduceBEq, Nat.reduceMul, Int.reduceToNat, List.length_cons, List.length_nil]; rfl) (by repeat' first | exact trivial | constructor) ?_
  refine Holds.step (Px := px) (T := TT) (ρ := fun _ => [.v true (.sl 2 []), .v true (.bool false)]) TTe (by simp (maxSteps := 100000) (disch := omega) only [go_sem, V.isAgg, V.flat, ↓reduceIte, Nat.reduceAdd, Nat.reduceSub, Nat.reduceLT, Nat.reduceEqDiff, reduceCtorEq, Nat.reduceLeDiff, Nat.reduceBEq, Nat.reduceMul, Int.reduceToNat]; rfl) (by first | exact hO | (repeat' first | exact trivial | exact hO | constructor)) ?_
  refine Holds.seq ?_
  refine Holds.step (Px := px) (T := TT) (ρ := fun _ => []) TTe (by simp (maxSteps := 100000) (disch := omega) only [go_sem, V.isAgg, V.flat, ↓reduceIte, Nat.reduceAdd, Nat.reduceSub, Nat.reduceLT, Nat.reduceEqDiff, reduceCtorEq, Nat.reduceLeDiff, Nat.reduceBEq, Nat.reduceMul, Int.reduceToNat, unA]; rfl) (by repeat' first | exact trivial | constructor) ?_
  refine Holds.condT rfl ?_
  refine Holds.step (Px := px) (T := TT) (ρ := fun _ => []) TTe (by simp (maxSteps := 100000) (disch := omega) only [go_sem, V.isAgg, V.flat, ↓reduceIte, Nat.reduceAdd, Nat.reduceSub, Nat.reduceLT, Nat.reduceEqDiff, reduceCtorEq, Nat.reduceLeDiff, Nat.reduceBEq, Nat.reduceMul, Int.reduceToNat]; rfl) (by repeat' first | exact trivial | constructor) ?_
  exact Holds.ret (RetOk.vs (show resAVs Try.prog _ _ [ResultVar.cell 4 42, ResultVar.tmp 5] = _ from by simp (maxSteps := 100000) (disch := omega) only [resAVs, AV.isPtr, go_sem, V.isAgg, V.flat, ↓reduceIte, Nat.reduceAdd, Nat.reduceSub, Nat.reduceLT, Nat.reduceEqDiff, reduceCtorEq, Nat.reduceLeDiff, Nat.reduceBEq, Nat.reduceMul, Int.reduceToNat]; rfl) (by exact ⟨⟨rfl, fun h => h⟩, ⟨rfl, fun h => h⟩, trivial⟩) rfl)

def zero5 : V := .agg [.agg [.bool false, .sl 1 []], .agg [.bool false, .sl 1 []], .agg [.bool false, .sl 1 []], .agg [.bool false, .sl 1 []], .agg [.bool false, .sl 1 []]]
theorem Five_size (ps : List (Bool × List Int)) (hn : ps.length < 1000000) (hps : ∀ p ∈ ps, p.2.length < 1000000 ∧ okW p.2) (hb : bigP ps = true) :
    FnOk Try.prog 20 [.v (intsV ps)] [.v true zero5, .v true (.int .i64 2)] := by
  have hO := opened_big hn hps hb
  unfold zero5
  refine FnOk.of Try.func20 rfl rfl fun cx w0 => ?_
  rw [show Try.f20.ntmps = 23 from rfl]
  refine Holds.step (Px := px) (T := TT) (ρ := fun _ => []) TTe (by simp (maxSteps := 100000) (disch := omega) only [go_sem, V.isAgg, V.flat, ↓reduceIte, Nat.reduceAdd, Nat.reduceSub, Nat.reduceLT, Nat.reduceEqDiff, reduceCtorEq, Nat.reduceLeDiff, Nat.reduceBEq, Nat.reduceMul, Int.reduceToNat, List.length_cons, List.length_nil]; rfl) (by repeat' first | exact trivial | constructor) ?_
  refine Holds.step (Px := px) (T := TT) (ρ := fun _ => [.v true (.sl 2 []), .v true (.bool false)]) TTe (by simp (maxSteps := 100000) (disch := omega) only [go_sem, V.isAgg, V.flat, ↓reduceIte, Nat.reduceAdd, Nat.reduceSub, Nat.reduceLT, Nat.reduceEqDiff, reduceCtorEq, Nat.reduceLeDiff, Nat.reduceBEq, Nat.reduceMul, Int.reduceToNat]; rfl) (by first | exact hO | (repeat' first | exact trivial | exact hO | constructor)) ?_
  refine Holds.seq ?_
  refine Holds.step (Px := px) (T := TT) (ρ := fun _ => []) TTe (by simp (maxSteps := 100000) (disch := omega) only [go_sem, V.isAgg, V.flat, ↓reduceIte, Nat.reduceAdd, Nat.reduceSub, Nat.reduceLT, Nat.reduceEqDiff, reduceCtorEq, Nat.reduceLeDiff, Nat.reduceBEq, Nat.reduceMul, Int.reduceToNat, unA]; rfl) (by repeat' first | exact trivial | constructor) ?_
  refine Holds.condT rfl ?_
  refine Holds.step (Px := px) (T := TT) (ρ := fun _ => []) TTe (by simp (maxSteps := 100000) (disch := omega) only [go_sem, V.isAgg, V.flat, ↓reduceIte, Nat.reduceAdd, Nat.reduceSub, Nat.reduceLT, Nat.reduceEqDiff, reduceCtorEq, Nat.reduceLeDiff, Nat.reduceBEq, Nat.reduceMul, Int.reduceToNat]; rfl) (by repeat' first | exact trivial | constructor) ?_
  exact Holds.ret (RetOk.vs (show resAVs Try.prog _ _ [ResultVar.cell 2 43, ResultVar.tmp 3] = _ from by simp (maxSteps := 100000) (disch := omega) only [resAVs, AV.isPtr, go_sem, V.isAgg, V.flat, ↓reduceIte, Nat.reduceAdd, Nat.reduceSub, Nat.reduceLT, Nat.reduceEqDiff, reduceCtorEq, Nat.reduceLeDiff, Nat.reduceBEq, Nat.reduceMul, Int.reduceToNat]; rfl) (by exact ⟨⟨rfl, fun h => h⟩, ⟨rfl, fun h => h⟩, trivial⟩) rfl)

theorem Back_size (p0 p1 p2 p3 p4 : Bool × List Int) (hps : ∀ p ∈ [p0, p1, p2, p3, p4], p.2.length < 1000000 ∧ okW p.2) (hb : bigP [p0, p1, p2, p3, p4] = true) :
    FnOk Try.prog 21 [.v (.agg [pV p0, pV p1, pV p2, pV p3, pV p4])] [.v true zero5, .v true (.int .i64 2)] := by
  have hO := opened_big (by simp) hps hb
  rw [show intsV [p0, p1, p2, p3, p4] = .sl 2 [pV p0, pV p1, pV p2, pV p3, pV p4] from rfl] at hO
  unfold zero5
  refine FnOk.of Try.func21 rfl rfl fun cx w0 => ?_
  rw [show Try.f21.ntmps = 29 from rfl]
  refine Holds.step (Px := px) (T := TT) (ρ := fun _ => []) TTe (by simp (maxSteps := 100000) (disch := omega) only [go_sem, V.isAgg, V.flat, ↓reduceIte, Nat.reduceAdd, Nat.reduceSub, Nat.reduceLT, Nat.reduceEqDiff, reduceCtorEq, Nat.reduceLeDiff, Nat.reduceBEq, Nat.reduceMul, Int.reduceToNat, List.length_cons, List.length_nil]; rfl) (by repeat' first | exact trivial | constructor) ?_
  refine Holds.step (Px := px) (T := TT) (ρ := fun _ => [.v true (.sl 2 []), .v true (.bool false)]) TTe (by simp (maxSteps := 100000) (disch := omega) only [go_sem, V.isAgg, V.flat, ↓reduceIte, Nat.reduceAdd, Nat.reduceSub, Nat.reduceLT, Nat.reduceEqDiff, reduceCtorEq, Nat.reduceLeDiff, Nat.reduceBEq, Nat.reduceMul, Int.reduceToNat, -V.isAgg, -V.flat, isAgg_agg, isAgg_int, isAgg_bool, isAgg_sl, flat_agg, flat_int, flat_bool, flat_sl, pV_size, pV_agg]; rfl) (by first | exact hO | (repeat' first | exact trivial | exact hO | constructor)) ?_
  refine Holds.seq ?_
  refine Holds.step (Px := px) (T := TT) (ρ := fun _ => []) TTe (by simp (maxSteps := 100000) (disch := omega) only [go_sem, V.isAgg, V.flat, ↓reduceIte, Nat.reduceAdd, Nat.reduceSub, Nat.reduceLT, Nat.reduceEqDiff, reduceCtorEq, Nat.reduceLeDiff, Nat.reduceBEq, Nat.reduceMul, Int.reduceToNat, unA]; rfl) (by repeat' first | exact trivial | constructor) ?_
  refine Holds.condT rfl ?_
  refine Holds.step (Px := px) (T := TT) (ρ := fun _ => []) TTe (by simp (maxSteps := 100000) (disch := omega) only [go_sem, V.isAgg, V.flat, ↓reduceIte, Nat.reduceAdd, Nat.reduceSub, Nat.reduceLT, Nat.reduceEqDiff, reduceCtorEq, Nat.reduceLeDiff, Nat.reduceBEq, Nat.reduceMul, Int.reduceToNat]; rfl) (by repeat' first | exact trivial | constructor) ?_
  exact Holds.ret (RetOk.vs (show resAVs Try.prog _ _ [ResultVar.cell 2 43, ResultVar.tmp 3] = _ from by simp (maxSteps := 100000) (disch := omega) only [resAVs, AV.isPtr, go_sem, V.isAgg, V.flat, ↓reduceIte, Nat.reduceAdd, Nat.reduceSub, Nat.reduceLT, Nat.reduceEqDiff, reduceCtorEq, Nat.reduceLeDiff, Nat.reduceBEq, Nat.reduceMul, Int.reduceToNat]; rfl) (by exact ⟨⟨rfl, fun h => h⟩, ⟨rfl, fun h => h⟩, trivial⟩) rfl)

theorem Join_size (ls : List (List Int)) (n : Int) (hl : ls.length < 1000000) (hls : ∀ l ∈ ls, l.length < 1000000) (hb : (ls.any fun l => decide (4096 < l.length)) = true) :
    FnOk Try.prog 39 [.v (natsV ls), .v (.int .i64 n)] [.v true (words []), .v true (.int .i64 2)] := by
  have hlg : FnOk Try.prog 47 [.v (natsV ls)] [.v true (.bool true)] := by
    have := large_ok ls (by omega) (fun l hl => by have := hls l hl; omega)
    rw [hb] at this
    exact this
  refine FnOk.of Try.func39 rfl rfl fun cx w0 => ?_
  rw [show Try.f39.ntmps = 49 from rfl]
  refine Holds.step (Px := px) (T := TT) (ρ := fun _ => []) TTe (by simp (maxSteps := 100000) (disch := omega) only [go_sem, V.isAgg, V.flat, ↓reduceIte, Nat.reduceAdd, Nat.reduceSub, Nat.reduceLT, Nat.reduceEqDiff, reduceCtorEq, Nat.reduceLeDiff, Nat.reduceBEq, Nat.reduceMul, Int.reduceToNat, List.length_cons, List.length_nil]; rfl) (by repeat' first | exact trivial | constructor) ?_
  refine Holds.seq ?_
  refine Holds.step (Px := px) (T := TT) (ρ := fun _ => [.v true (.bool true)]) TTe (by simp (maxSteps := 100000) (disch := omega) only [go_sem, V.isAgg, V.flat, ↓reduceIte, Nat.reduceAdd, Nat.reduceSub, Nat.reduceLT, Nat.reduceEqDiff, reduceCtorEq, Nat.reduceLeDiff, Nat.reduceBEq, Nat.reduceMul, Int.reduceToNat]; rfl) (by first | exact hlg | (repeat' first | exact trivial | exact hlg | constructor)) ?_
  refine Holds.condT rfl ?_
  refine Holds.step (Px := px) (T := TT) (ρ := fun _ => []) TTe (by simp (maxSteps := 100000) (disch := omega) only [go_sem, V.isAgg, V.flat, ↓reduceIte, Nat.reduceAdd, Nat.reduceSub, Nat.reduceLT, Nat.reduceEqDiff, reduceCtorEq, Nat.reduceLeDiff, Nat.reduceBEq, Nat.reduceMul, Int.reduceToNat]; rfl) (by repeat' first | exact trivial | constructor) ?_
  exact Holds.ret ⟨_, [], rfl, ⟨rfl, ⟨rfl, fun h => h⟩, trivial⟩, by simp [R.names, R.mems, R.blks], by simp, rfl⟩

theorem LowMul_size (X Y : List Int) (n : Int) (hX : X.length < 1000000) (hY : Y.length < 1000000) (hb : 4096 < X.length ∨ 4096 < Y.length) : FnOk Try.prog 34 [.v (words X), .v (words Y), .v (.int .i64 n)] [.v true (words []), .v true (.int .i64 2)] := by
  have hlg := large2_yes hX hY hb
  refine FnOk.of Try.func34 rfl rfl fun cx w0 => ?_
  rw [show Try.f34.ntmps = 28 from rfl]
  refine Holds.step (Px := px) (T := TT) (ρ := fun _ => []) TTe (by simp (maxSteps := 100000) (disch := omega) only [go_sem, V.isAgg, V.flat, ↓reduceIte, Nat.reduceAdd, Nat.reduceSub, Nat.reduceLT, Nat.reduceEqDiff, reduceCtorEq, Nat.reduceLeDiff, Nat.reduceBEq, Nat.reduceMul, Int.reduceToNat, List.length_cons, List.length_nil]; rfl) (by repeat' first | exact trivial | constructor) ?_
  refine Holds.seq ?_
  refine Holds.step (Px := px) (T := TT) (ρ := fun _ => [.v true (.bool true)]) TTe (by simp (maxSteps := 100000) (disch := omega) only [go_sem, V.isAgg, V.flat, ↓reduceIte, Nat.reduceAdd, Nat.reduceSub, Nat.reduceLT, Nat.reduceEqDiff, reduceCtorEq, Nat.reduceLeDiff, Nat.reduceBEq, Nat.reduceMul, Int.reduceToNat]; rfl) (by first | exact hlg | (repeat' first | exact trivial | exact hlg | constructor)) ?_
  refine Holds.condT rfl ?_
  refine Holds.step (Px := px) (T := TT) (ρ := fun _ => []) TTe (by simp (maxSteps := 100000) (disch := omega) only [go_sem, V.isAgg, V.flat, ↓reduceIte, Nat.reduceAdd, Nat.reduceSub, Nat.reduceLT, Nat.reduceEqDiff, reduceCtorEq, Nat.reduceLeDiff, Nat.reduceBEq, Nat.reduceMul, Int.reduceToNat]; rfl) (by repeat' first | exact trivial | constructor) ?_
  exact Holds.ret ⟨_, [], rfl, ⟨rfl, ⟨rfl, fun h => h⟩, trivial⟩, by simp [R.names, R.mems, R.blks], by simp, rfl⟩

theorem LowMulG_ok (X Y : List Int) (n : Nat) (hX : X.length ≤ 4096) (hY : Y.length ≤ 4096) (hn : n ≤ 2060) (oX : okW X) (oY : okW Y)
    (cX : 64 ≤ (digs (val X % 18446744073709551616 ^ n)).length) (cY : 64 ≤ (digs (val Y % 18446744073709551616 ^ n)).length) :
    FnOk Try.prog 34 [.v (words X), .v (words Y), .v (.int .i64 n)] [.v true (words (digs ((val X * val Y) % 18446744073709551616 ^ n))), .v true (.int .i64 0)] := by
  have hlg := large2_no hX hY
  have l1 := low_ok X n (by omega)
  have l2 := low_ok Y n (by omega)
  rw [trim_digs (okW_take oX n), val_take oX] at l1
  rw [trim_digs (okW_take oY n), val_take oY] at l2
  obtain ⟨ox, _, vx⟩ := digs_ok (val X % 18446744073709551616 ^ n)
  obtain ⟨oy, _, vy⟩ := digs_ok (val Y % 18446744073709551616 ^ n)
  have tx : (digs (val X % 18446744073709551616 ^ n)).length ≤ n := digs_len (Nat.mod_lt _ (Nat.pow_pos (by decide)))
  have ty : (digs (val Y % 18446744073709551616 ^ n)).length ≤ n := digs_len (Nat.mod_lt _ (Nat.pow_pos (by decide)))
  have hk := kmul_of _ _ 64 _ (grow_all 64 (by decide) (by decide) _ (digs (val X % 18446744073709551616 ^ n)) (digs (val Y % 18446744073709551616 ^ n)) (Nat.lt_succ_self _) ox oy (by omega) (by omega) (.inr (by rw [trim_digs_digs, trim_digs_digs]; exact ⟨cX, cY⟩)))
  have hlen := digs_len (mul_lt_pow ox oy)
  rw [vx, vy] at hk hlen
  obtain ⟨op, _, vp⟩ := digs_ok (val X % 18446744073709551616 ^ n * (val Y % 18446744073709551616 ^ n))
  have l3 := low_ok (digs (val X % 18446744073709551616 ^ n * (val Y % 18446744073709551616 ^ n))) n (by omega)
  rw [trim_digs (okW_take op n), val_take op, vp, ← Nat.mul_mod] at l3
  obtain ⟨x, hx⟩ : ∃ x, x = digs (val X % 18446744073709551616 ^ n) := ⟨_, rfl⟩
  obtain ⟨y, hy⟩ : ∃ y, y = digs (val Y % 18446744073709551616 ^ n) := ⟨_, rfl⟩
  obtain ⟨p, hp⟩ : ∃ p, p = digs (val X % 18446744073709551616 ^ n * (val Y % 18446744073709551616 ^ n)) := ⟨_, rfl⟩
  obtain ⟨D, hD⟩ : ∃ D, D = digs ((val X * val Y) % 18446744073709551616 ^ n) := ⟨_, rfl⟩
  rw [← hx] at l1 hk
  rw [← hy] at l2 hk
  rw [← hp] at hk l3
  rw [← hD] at l3 ⊢
  clear hx hy hp hD cX cY tx ty hlen
  refine FnOk.of Try.func34 rfl rfl fun cx w0 => ?_
  rw [show Try.f34.ntmps = 28 from rfl]
  refine Holds.step (Px := px) (T := TT) (ρ := fun _ => []) TTe (by simp (maxSteps := 100000) (disch := omega) only [go_sem, V.isAgg, V.flat, ↓reduceIte, Nat.reduceAdd, Nat.reduceSub, Nat.reduceLT, Nat.reduceEqDiff, reduceCtorEq, Nat.reduceLeDiff, Nat.reduceBEq, Nat.reduceMul, Int.reduceToNat, List.length_cons, List.length_nil]; rfl) (by repeat' first | exact trivial | constructor) ?_
  refine Holds.next (fun σ => ∀ a w, Rel cx w0 σ a w → Rel cx w0 { nt := 28, env := [(0, .v false (words X)), (1, .v false (words Y)), (2, .v true (.int .i64 n))], mem := [] } a w) ?_ ?_
  · refine Holds.step (Px := px) (T := TT) (ρ := fun _ => [.v true (.bool false)]) TTe (by simp (maxSteps := 100000) (disch := omega) only [go_sem, V.isAgg, V.flat, ↓reduceIte, Nat.reduceAdd, Nat.reduceSub, Nat.reduceLT, Nat.reduceEqDiff, reduceCtorEq, Nat.reduceLeDiff, Nat.reduceBEq, Nat.reduceMul, Int.reduceToNat]; rfl) (by first | exact hlg | (repeat' first | exact trivial | exact hlg | constructor)) ?_
    exact Holds.condF rfl (Holds.skip fun a w h => Rel.keep [0, 1, 2] [] h)
  · intro σ hσ
    refine Holds.from hσ ?_
    refine Holds.next (fun σ => ∀ a w, Rel cx w0 σ a w → Rel cx w0 { nt := 28, env := [(0, .v false (words X)), (1, .v false (words Y)), (2, .v true (.int .i64 n))], mem := [] } a w) ?_ ?_
    · refine Holds.step (Px := px) (T := TT) (ρ := fun _ => []) TTe (by simp (maxSteps := 100000) (disch := omega) only [go_sem, V.isAgg, V.flat, ↓reduceIte, Nat.reduceAdd, Nat.reduceSub, Nat.reduceLT, Nat.reduceEqDiff, reduceCtorEq, Nat.reduceLeDiff, Nat.reduceBEq, Nat.reduceMul, Int.reduceToNat]; rfl) (by repeat' first | exact trivial | constructor) ?_
      exact Holds.condF rfl (Holds.skip fun a w h => Rel.keep [0, 1, 2] [] h)
    · intro σ hσ
      refine Holds.from hσ ?_
      refine Holds.step (Px := px) (T := TT) (ρ := fun t => if t = 21 then [.v true (words x)] else if t = 24 then [.v true (words y)] else if t = 25 then [.v true (words p)] else [.v true (words D)]) TTe (by simp (maxSteps := 100000) (disch := omega) only [go_sem, V.isAgg, V.flat, ↓reduceIte, Nat.reduceAdd, Nat.reduceSub, Nat.reduceLT, Nat.reduceEqDiff, reduceCtorEq, Nat.reduceLeDiff, Nat.reduceBEq, Nat.reduceMul, Int.reduceToNat, wayV]; rfl) (by first | exact ⟨l1, l2, hk, l3⟩ | (repeat' first | exact trivial | exact l1 | exact l2 | exact hk | exact l3 | constructor)) ?_
      exact Holds.ret (RetOk.vs rfl (by exact ⟨⟨rfl, fun h => h⟩, ⟨rfl, fun h => h⟩, trivial⟩) rfl)

/-! The way that suits. -/
theorem MulT_of (X Y : List Int) (F : List Int) (E : Int) (hX : 256 < X.length) (hY : 256 < Y.length) (lX : X.length < 1000000) (lY : Y.length < 1000000) (h : FnOk Try.prog 62 [.v (words X), .v (words Y), .v (.int .i64 64), .v (.iface 95 (wayV 64))] [.v true (words F), .v true (.int .i64 E)]) :
    FnOk Try.prog 27 [.v (words X), .v (words Y)] [.v true (words F), .v true (.int .i64 E)] := by
  have hm : (256 : Int) < (if (Y.length : Int) < (X.length : Int) then (Y.length : Int) else X.length) := by split <;> omega
  obtain ⟨mn, hmn⟩ : ∃ mn : Int, mn = (if (Y.length : Int) < (X.length : Int) then (Y.length : Int) else X.length) := ⟨_, rfl⟩
  rw [← hmn] at hm
  refine FnOk.of Try.func27 rfl rfl fun cx w0 => ?_
  rw [show Try.f27.ntmps = 26 from rfl]
  refine Holds.step (Px := px) (T := TT) (ρ := fun _ => []) TTe (by simp (maxSteps := 100000) (disch := omega) only [go_sem, V.isAgg, V.flat, ↓reduceIte, Nat.reduceAdd, Nat.reduceSub, Nat.reduceLT, Nat.reduceEqDiff, reduceCtorEq, Nat.reduceLeDiff, Nat.reduceBEq, Nat.reduceMul, Int.reduceToNat, List.length_cons, List.length_nil]; rfl) (by repeat' first | exact trivial | constructor) ?_
  refine Holds.seq ?_
  refine Holds.step (Px := px) (T := TT) (ρ := fun _ => []) TTe (by simp (maxSteps := 100000) (disch := omega) only [go_sem, V.isAgg, V.flat, ↓reduceIte, Nat.reduceAdd, Nat.reduceSub, Nat.reduceLT, Nat.reduceEqDiff, reduceCtorEq, Nat.reduceLeDiff, Nat.reduceBEq, Nat.reduceMul, Int.reduceToNat, ← hmn]; rfl) (by repeat' first | exact trivial | constructor) ?_
  refine Holds.condT rfl ?_
  refine Holds.step (Px := px) (T := TT) (ρ := fun _ => [.v true (words F), .v true (.int .i64 E)]) TTe (by simp (maxSteps := 100000) (disch := omega) only [go_sem, V.isAgg, V.flat, ↓reduceIte, Nat.reduceAdd, Nat.reduceSub, Nat.reduceLT, Nat.reduceEqDiff, reduceCtorEq, Nat.reduceLeDiff, Nat.reduceBEq, Nat.reduceMul, Int.reduceToNat, ifc95]; rfl) (by first | exact h | (repeat' first | exact trivial | exact h | constructor)) ?_
  exact Holds.ret (RetOk.vs rfl (by exact ⟨⟨rfl, fun h => h⟩, ⟨rfl, fun h => h⟩, trivial⟩) rfl)
theorem MulK_of (X Y : List Int) (F : List Int) (E : Int) (hX : X.length ≤ 256) (lY : Y.length < 1000000) (h : FnOk Try.prog 62 [.v (words X), .v (words Y), .v (.int .i64 64), .v (.iface 96 (wayV 64))] [.v true (words F), .v true (.int .i64 E)]) :
    FnOk Try.prog 27 [.v (words X), .v (words Y)] [.v true (words F), .v true (.int .i64 E)] := by
  have hm : (if (Y.length : Int) < (X.length : Int) then (Y.length : Int) else X.length) ≤ 256 := by split <;> omega
  obtain ⟨mn, hmn⟩ : ∃ mn : Int, mn = (if (Y.length : Int) < (X.length : Int) then (Y.length : Int) else X.length) := ⟨_, rfl⟩
  rw [← hmn] at hm
  refine FnOk.of Try.func27 rfl rfl fun cx w0 => ?_
  rw [show Try.f27.ntmps = 26 from rfl]
  refine Holds.step (Px := px) (T := TT) (ρ := fun _ => []) TTe (by simp (maxSteps := 100000) (disch := omega) only [go_sem, V.isAgg, V.flat, ↓reduceIte, Nat.reduceAdd, Nat.reduceSub, Nat.reduceLT, Nat.reduceEqDiff, reduceCtorEq, Nat.reduceLeDiff, Nat.reduceBEq, Nat.reduceMul, Int.reduceToNat, List.length_cons, List.length_nil]; rfl) (by repeat' first | exact trivial | constructor) ?_
  refine Holds.next (fun σ => ∀ a w, Rel cx w0 σ a w → Rel cx w0 { nt := 26, env := [(0, .v false (words X)), (1, .v false (words Y))], mem := [] } a w) ?_ ?_
  · refine Holds.step (Px := px) (T := TT) (ρ := fun _ => []) TTe (by simp (maxSteps := 100000) (disch := omega) only [go_sem, V.isAgg, V.flat, ↓reduceIte, Nat.reduceAdd, Nat.reduceSub, Nat.reduceLT, Nat.reduceEqDiff, reduceCtorEq, Nat.reduceLeDiff, Nat.reduceBEq, Nat.reduceMul, Int.reduceToNat, ← hmn]; rfl) (by repeat' first | exact trivial | constructor) ?_
    exact Holds.condF rfl (Holds.skip fun a w h => Rel.keep [0, 1] [] h)
  · intro σ hσ
    refine Holds.from hσ ?_
    refine Holds.step (Px := px) (T := TT) (ρ := fun _ => [.v true (words F), .v true (.int .i64 E)]) TTe (by simp (maxSteps := 100000) (disch := omega) only [go_sem, V.isAgg, V.flat, ↓reduceIte, Nat.reduceAdd, Nat.reduceSub, Nat.reduceLT, Nat.reduceEqDiff, reduceCtorEq, Nat.reduceLeDiff, Nat.reduceBEq, Nat.reduceMul, Int.reduceToNat, ifc96]; rfl) (by first | exact h | (repeat' first | exact trivial | exact h | constructor)) ?_
    exact Holds.ret (RetOk.vs rfl (by exact ⟨⟨rfl, fun h => h⟩, ⟨rfl, fun h => h⟩, trivial⟩) rfl)
theorem MulT_ok (X Y : List Int) (hX : 256 < X.length) (hY : 256 < Y.length) (lX : X.length ≤ 2100) (lY : Y.length ≤ 2100) (oX : okW X) (oY : okW Y) (c : 64 ≤ (digs (val X)).length ∧ 64 ≤ (digs (val Y)).length) :
    FnOk Try.prog 27 [.v (words X), .v (words Y)] [.v true (words (fitR (digs (val X * val Y))).1), .v true (.int .i64 (fitR (digs (val X * val Y))).2)] := by
  have t1 := trimL_len X
  have t2 := trimL_len Y
  have h := toom_all 64 (by decide) (by decide) 2101 (trimL X) (trimL Y) (by omega) (by omega) (trimL_ok oX) (trimL_ok oY) (by omega) (by omega) (.inr (by rw [trim_digs (trimL_ok oX), trim_digs (trimL_ok oY), val_trim, val_trim]; exact c))
  rw [val_trim, val_trim] at h
  have hlen := digs_len (mul_lt_pow oX oY)
  exact MulT_of X Y _ _ hX hY (by omega) (by omega) (checked95_ok X Y 64 (by omega) (by omega) (by omega) (val X * val Y) (by omega) h)
/-
  Shifts by part of a word: half of a number; the highest bit.
-/

theorem Right78h_ok (x : List Int) (hx : x.length < 1000000) (ox : okW x) : FnOk Try.prog 78 [.v (words x), .v (.int .i64 1)] [.v true (words (dvW 2 x).1), .v true (.int .u64 (((dvW 2 x).2 * 9223372036854775808 : Nat) : Int))] := by
  obtain ⟨_, ow, lw, _⟩ := dvW_ok (k := 2) (by decide) ox
  have e63 : (64 : Int) - 1 = 63 := rfl
  refine FnOk.of Try.func78 rfl rfl fun cx w0 => ?_
  rw [show Try.f78.ntmps = 41 from rfl]
  refine Holds.step (Px := px) (T := TT) (ρ := fun _ => []) TTe (by simp (maxSteps := 100000) (disch := omega) only [go_sem, V.isAgg, V.flat, ↓reduceIte, Nat.reduceAdd, Nat.reduceSub, Nat.reduceLT, Nat.reduceEqDiff, reduceCtorEq, Nat.reduceLeDiff, Nat.reduceBEq, Nat.reduceMul, Int.reduceToNat, List.length_cons, List.length_nil]; rfl) (by repeat' first | exact trivial | constructor) ?_
  refine Holds.step (Px := px) (T := TT) (ρ := fun _ => []) TTe (by simp (maxSteps := 100000) (disch := omega) only [go_sem, V.isAgg, V.flat, ↓reduceIte, Nat.reduceAdd, Nat.reduceSub, Nat.reduceLT, Nat.reduceEqDiff, reduceCtorEq, Nat.reduceLeDiff, Nat.reduceBEq, Nat.reduceMul, Int.reduceToNat]; rfl) (by repeat' first | exact trivial | constructor) ?_
  refine Holds.step (Px := px) (T := TT) (ρ := fun _ => []) TTe (by simp (maxSteps := 100000) (disch := omega) only [go_sem, V.isAgg, V.flat, ↓reduceIte, Nat.reduceAdd, Nat.reduceSub, Nat.reduceLT, Nat.reduceEqDiff, reduceCtorEq, Nat.reduceLeDiff, Nat.reduceBEq, Nat.reduceMul, Int.reduceToNat]; rfl) (by repeat' first | exact trivial | constructor) ?_
  refine Holds.next (fun σ => ∀ a w, Rel cx w0 σ a w → Rel cx w0 { nt := 41, env := [(7, .v true (.int .u64 (((dvW 2 x).2 * 9223372036854775808 : Nat) : Int))), (6, .own 11 0 x.length)], mem := [(11, .buf 69 1 true ((dvW 2 x).1.map fun n => .int .u64 n))] } a w) ?_ ?_
  · refine Holds.step (Px := px) (T := TT) (ρ := fun _ => []) TTe (by simp (maxSteps := 100000) (disch := omega) only [go_sem, V.isAgg, V.flat, ↓reduceIte, Nat.reduceAdd, Nat.reduceSub, Nat.reduceLT, Nat.reduceEqDiff, reduceCtorEq, Nat.reduceLeDiff, Nat.reduceBEq, Nat.reduceMul, Int.reduceToNat]; rfl) (by repeat' first | exact trivial | constructor) ?_
    refine Holds.loopB (fun j : Nat => { nt := 41, env := [(8, .v true (.int .i64 ((j : Int) - 1))), (7, .v true (.int .u64 (((dvW 2 (x.drop j)).2 * 9223372036854775808 : Nat) : Int))), (6, .own 11 0 x.length), (0, .v false (words x)), (1, .v true (.int .i64 1))], mem := [(11, .buf 69 1 true ((List.replicate j 0 ++ (dvW 2 (x.drop j)).1).map fun n => .int .u64 n))] }) (fun j => j ≤ x.length) id x.length (Nat.le_refl _) (fun a w h => by
      have := Rel.keep [8, 7, 6, 0, 1] [11] h
      rw [List.drop_length]
      show Rel _ _ { nt := 41, env := _, mem := [(11, .buf 69 1 true ((List.replicate x.length (0 : Int) ++ []).map fun n => .int .u64 n))] } _ _
      rw [List.append_nil, List.map_replicate]
      exact this) ?_
    intro j hj
    rcases j with _ | j
    · refine Holds.seq ?_
      refine Holds.step (Px := px) (T := TT) (ρ := fun _ => []) TTe (by simp (maxSteps := 100000) (disch := omega) only [go_sem, V.isAgg, V.flat, ↓reduceIte, Nat.reduceAdd, Nat.reduceSub, Nat.reduceLT, Nat.reduceEqDiff, reduceCtorEq, Nat.reduceLeDiff, Nat.reduceBEq, Nat.reduceMul, Int.reduceToNat]; rfl) (by repeat' first | exact trivial | constructor) ?_
      refine Holds.condF rfl (Holds.exit ⟨rfl, fun a w h => ?_⟩)
      exact Rel.keep [7, 6] [11] h
    · have hjx : j < x.length := by omega
      have gx := get_map hjx
      have hx0 := okW_getD ox j
      have ho : okW (x.drop (j + 1)) := fun n hn => ox n (List.mem_of_mem_drop hn)
      obtain ⟨r1, r2, r3, _⟩ := dvW_ok (k := 2) (by decide) ho
      have hd := dvW_drop (k := 2) hjx
      obtain ⟨s, hs⟩ : ∃ s, s = (dvW 2 (x.drop (j + 1))).2 := ⟨_, rfl⟩
      obtain ⟨W, hW⟩ : ∃ W, W = (dvW 2 (x.drop (j + 1))).1 := ⟨_, rfl⟩
      rw [← hs] at r1 hd
      rw [← hW] at r3 hd
      rw [← hs, ← hW]
      obtain ⟨d, hdd⟩ : ∃ d : Nat, d = (x.getD j 0).toNat := ⟨_, rfl⟩
      rw [← hdd] at hd
      rw [show x.getD j 0 = (d : Int) from by omega] at gx
      obtain ⟨q, hq⟩ : ∃ q, q = (s * 18446744073709551616 + d) / 2 := ⟨_, rfl⟩
      obtain ⟨r, hr⟩ : ∃ r, r = (s * 18446744073709551616 + d) % 2 := ⟨_, rfl⟩
      rw [← hq, ← hr] at hd
      have hd64 : d < 18446744073709551616 := by omega
      have w1 := shrG d 1 (by decide)
      have w2 : IntKind.u64.wrap ((((s * 9223372036854775808 : Nat)) : Int) + ((d / 2 ^ 1 : Nat) : Int)) = (q : Int) := by rw [wrap_u64]; omega
      have w3 := shlN d 63 (by decide)
      rw [show d * 2 ^ 63 % 18446744073709551616 = r * 9223372036854775808 from by rw [hr]; omega] at w3
      rw [List.length_drop] at r3
      have hLl : (List.replicate (j + 1) (0 : Int) ++ W).length = x.length := by rw [List.length_append, List.length_replicate, r3]; omega
      have eset : (List.replicate (j + 1) (0 : Int) ++ W).set j (q : Int) = List.replicate j 0 ++ (q : Int) :: W := by
        rw [show List.replicate (j + 1) (0 : Int) = List.replicate j 0 ++ [0] from by rw [List.replicate_succ'], List.append_assoc, List.set_append_right _ _ (by rw [List.length_replicate]; exact Nat.le_refl _), List.length_replicate, Nat.sub_self]
        rfl
      obtain ⟨Lw, hL⟩ : ∃ Lw, Lw = List.replicate (j + 1) (0 : Int) ++ W := ⟨_, rfl⟩
      rw [← hL] at hLl eset ⊢
      have gL := get_map (l := Lw) (i := j) (by omega)
      refine Holds.seq ?_
      refine Holds.step (Px := px) (T := TT) (ρ := fun _ => []) TTe (by simp (maxSteps := 100000) (disch := omega) only [go_sem, V.isAgg, V.flat, ↓reduceIte, Nat.reduceAdd, Nat.reduceSub, Nat.reduceLT, Nat.reduceEqDiff, reduceCtorEq, Nat.reduceLeDiff, Nat.reduceBEq, Nat.reduceMul, Int.reduceToNat]; rfl) (by repeat' first | exact trivial | constructor) ?_
      refine Holds.condT rfl (Holds.skip ?_)
      refine Holds.next (fun σ => ∀ a w, Rel cx w0 σ a w → Rel cx w0 { nt := 41, env := [(8, .v true (.int .i64 (j : Int))), (7, .v true (.int .u64 ((r * 9223372036854775808 : Nat) : Int))), (6, .own 11 0 x.length), (0, .v false (words x)), (1, .v true (.int .i64 1))], mem := [(11, .buf 69 1 true ((Lw.set j (q : Int)).map fun n => .int .u64 n))] } a w) ?_ ?_
      · refine Holds.blockN ?_
        refine Holds.step (Px := px) (T := TT) (ρ := fun _ => []) TTe (by simp (maxSteps := 100000) (disch := omega) only [go_sem, V.isAgg, V.flat, ↓reduceIte, Nat.reduceAdd, Nat.reduceSub, Nat.reduceLT, Nat.reduceEqDiff, reduceCtorEq, Nat.reduceLeDiff, Nat.reduceBEq, Nat.reduceMul, Int.reduceToNat, gx, gL, hLl, w1, w2]; rfl) (by repeat' first | exact trivial | constructor) ?_
        refine Holds.step (Px := px) (T := TT) (ρ := fun _ => []) TTe (by simp (maxSteps := 100000) (disch := omega) only [go_sem, V.isAgg, V.flat, ↓reduceIte, Nat.reduceAdd, Nat.reduceSub, Nat.reduceLT, Nat.reduceEqDiff, reduceCtorEq, Nat.reduceLeDiff, Nat.reduceBEq, Nat.reduceMul, Int.reduceToNat]; rfl) (by repeat' first | exact trivial | constructor) ?_
        refine Holds.step (Px := px) (T := TT) (ρ := fun _ => []) TTe (by simp (maxSteps := 100000) (disch := omega) only [go_sem, V.isAgg, V.flat, ↓reduceIte, Nat.reduceAdd, Nat.reduceSub, Nat.reduceLT, Nat.reduceEqDiff, reduceCtorEq, Nat.reduceLeDiff, Nat.reduceBEq, Nat.reduceMul, Int.reduceToNat]; rfl) (by repeat' first | exact trivial | constructor) ?_
        refine Holds.condT rfl ?_
        refine Holds.region (Px := px) (T := TT) (ρ := fun _ => []) TTe (by simp (maxSteps := 100000) (disch := omega) only [go_sem, V.isAgg, V.flat, ↓reduceIte, Nat.reduceAdd, Nat.reduceSub, Nat.reduceLT, Nat.reduceEqDiff, reduceCtorEq, Nat.reduceLeDiff, Nat.reduceBEq, Nat.reduceMul, Int.reduceToNat, gx, e63, w3]; rfl) (by repeat' first | exact trivial | constructor) ?_
        intro a w h
        have := Rel.keep [8, 7, 6, 0, 1] [11] h
        rw [List.map_set]
        exact this
      · intro σ hσ
        refine Holds.from hσ ?_
        refine Holds.region (Px := px) (T := TT) (ρ := fun _ => []) TTe (by simp (maxSteps := 100000) (disch := omega) only [go_sem, V.isAgg, V.flat, ↓reduceIte, Nat.reduceAdd, Nat.reduceSub, Nat.reduceLT, Nat.reduceEqDiff, reduceCtorEq, Nat.reduceLeDiff, Nat.reduceBEq, Nat.reduceMul, Int.reduceToNat]; rfl) (by repeat' first | exact trivial | constructor) ?_
        refine ⟨j, (by show j ≤ x.length; omega), (show j < j + 1 by omega), fun a w h => ?_⟩
        have := Rel.keep [8, 7, 6, 0, 1] [11] h
        rw [eset] at this
        simp only [hd]
        exact this
  · intro σ hσ
    refine Holds.from hσ ?_
    have htk : List.take x.length (List.map (fun n => V.int .u64 n) (dvW 2 x).1) = List.map (fun n => V.int .u64 n) (dvW 2 x).1 := List.take_of_length_le (by rw [List.length_map]; omega)
    refine Holds.step (Px := px) (T := TT) (ρ := fun _ => []) TTe (by simp (maxSteps := 100000) (disch := omega) only [go_sem, V.isAgg, V.flat, ↓reduceIte, Nat.reduceAdd, Nat.reduceSub, Nat.reduceLT, Nat.reduceEqDiff, reduceCtorEq, Nat.reduceLeDiff, Nat.reduceBEq, Nat.reduceMul, Int.reduceToNat]; rfl) (by repeat' first | exact trivial | constructor) ?_
    exact Holds.ret ⟨_, [], rfl, ⟨⟨rfl, by rw [List.drop_zero, htk], fun h => h, rfl⟩, ⟨rfl, fun h => h⟩, trivial⟩, by simp [R.names, R.mems, R.blks], by simp, rfl⟩

theorem RightH_ok (x : List Int) (hx : x.length < 100000) (h0 : 0 < x.length) (ox : okW x) : FnOk Try.prog 45 [.v (words x), .v (.int .i64 1)] [.v true (words (digs (val x / 2)))] := by
  have h1 := Right78h_ok x (by omega) ox
  obtain ⟨_, ow, lw, _⟩ := dvW_ok (k := 2) (by decide) ox
  have h2 := rTrim_ok (dvW 2 x).1 (by omega) ow
  rw [(dvW_val (by decide) ox).1] at h2
  obtain ⟨W, hW⟩ : ∃ W, W = (dvW 2 x).1 := ⟨_, rfl⟩
  obtain ⟨c, hc⟩ : ∃ c, c = (((dvW 2 x).2 * 9223372036854775808 : Nat) : Int) := ⟨_, rfl⟩
  rw [← hW] at h1 h2
  rw [← hc] at h1
  have e1 : (1 : Int).tdiv 64 = 0 := rfl
  have e2 : (1 : Int).tmod 64 = 1 := rfl
  have htk : List.take x.length (List.map (fun n => V.int .u64 n) x) = List.map (fun n => V.int .u64 n) x := List.take_of_length_le (by rw [List.length_map]; exact Nat.le_refl _)
  refine FnOk.of Try.func45 rfl rfl fun cx w0 => ?_
  rw [show Try.f45.ntmps = 24 from rfl]
  refine Holds.step (Px := px) (T := TT) (ρ := fun _ => []) TTe (by simp (maxSteps := 100000) (disch := omega) only [go_sem, V.isAgg, V.flat, ↓reduceIte, Nat.reduceAdd, Nat.reduceSub, Nat.reduceLT, Nat.reduceEqDiff, reduceCtorEq, Nat.reduceLeDiff, Nat.reduceBEq, Nat.reduceMul, Int.reduceToNat, List.length_cons, List.length_nil]; rfl) (by repeat' first | exact trivial | constructor) ?_
  refine Holds.next (fun σ => ∀ a w, Rel cx w0 σ a w → Rel cx w0 { nt := 24, env := [(0, .v false (words x)), (1, .v true (.int .i64 1))], mem := [] } a w) ?_ ?_
  · refine Holds.step (Px := px) (T := TT) (ρ := fun _ => []) TTe (by simp (maxSteps := 100000) (disch := omega) only [go_sem, V.isAgg, V.flat, ↓reduceIte, Nat.reduceAdd, Nat.reduceSub, Nat.reduceLT, Nat.reduceEqDiff, reduceCtorEq, Nat.reduceLeDiff, Nat.reduceBEq, Nat.reduceMul, Int.reduceToNat, e1]; rfl) (by repeat' first | exact trivial | constructor) ?_
    exact Holds.condF rfl (Holds.skip fun a w h => Rel.keep [0, 1] [] h)
  · intro σ hσ
    refine Holds.from hσ ?_
    refine Holds.step (Px := px) (T := TT) (ρ := fun _ => [.v true (words W), .v true (.int .u64 c)]) TTe (by simp (maxSteps := 100000) (disch := omega) only [go_sem, V.isAgg, V.flat, ↓reduceIte, Nat.reduceAdd, Nat.reduceSub, Nat.reduceLT, Nat.reduceEqDiff, reduceCtorEq, Nat.reduceLeDiff, Nat.reduceBEq, Nat.reduceMul, Int.reduceToNat, e1, e2, htk]; rfl) (by first | exact h1 | (repeat' first | exact trivial | exact h1 | constructor)) ?_
    refine Holds.step (Px := px) (T := TT) (ρ := fun _ => [.v true (words (digs (val x / 2)))]) TTe (by simp (maxSteps := 100000) (disch := omega) only [go_sem, V.isAgg, V.flat, ↓reduceIte, Nat.reduceAdd, Nat.reduceSub, Nat.reduceLT, Nat.reduceEqDiff, reduceCtorEq, Nat.reduceLeDiff, Nat.reduceBEq, Nat.reduceMul, Int.reduceToNat]; rfl) (by first | exact h2 | (repeat' first | exact trivial | exact h2 | constructor)) ?_
    exact Holds.ret (RetOk.vs rfl (by exact ⟨⟨rfl, fun h => h⟩, trivial⟩) rfl)

theorem c_left63 : FnOk Try.prog 77 [.v (words [1]), .v (.int .i64 63)] [.v true (words [9223372036854775808]), .v true (.int .u64 0)] :=
  runF_ok (Px := px2) (T := TT2) rfl mixed extC_ok (fuel := 100000) 1000 _ _ _ (by kernel_rfl)

theorem LeftC_ok (m : Nat) (hm : m = 4095) : FnOk Try.prog 44 [.v (words [1]), .v (.int .i64 262143)] [.v true (words (digs (18446744073709551616 ^ m * 9223372036854775808)))] := by
  have hq : (262143 : Int).tdiv 64 = m := by rw [hm]; rfl
  have hr : (262143 : Int).tmod 64 = 63 := rfl
  have ox : okW [9223372036854775808] := fun n hn => by rw [List.mem_singleton] at hn; rw [hn]; decide
  have oz : okW (List.replicate m 0 ++ [9223372036854775808] ++ [0]) := fun n hn => by
    simp only [List.mem_append, List.mem_replicate, List.mem_cons, List.not_mem_nil, or_false] at hn
    rcases hn with (⟨_, hn⟩ | hn) | hn <;> omega
  have hT := rTrim_ok (List.replicate m 0 ++ [9223372036854775808] ++ [0]) (by simp; omega) oz
  have hv : val (List.replicate m 0 ++ [9223372036854775808] ++ [0]) = 18446744073709551616 ^ m * 9223372036854775808 := by
    rw [val_append, val_append, val_rep0, List.length_replicate]
    simp [val]
  rw [hv] at hT
  have hmb : m ≤ 5000 := by omega
  clear hm
  obtain ⟨D, hD⟩ : ∃ D, D = digs (18446744073709551616 ^ m * 9223372036854775808) := ⟨_, rfl⟩
  rw [← hD] at hT ⊢
  have hw : words [9223372036854775808] = .sl 1 [.int .u64 9223372036854775808] := rfl
  refine FnOk.of Try.func44 rfl rfl fun cx w0 => ?_
  rw [show Try.f44.ntmps = 26 from rfl]
  refine Holds.step (Px := px) (T := TT) (ρ := fun _ => []) TTe (by simp (maxSteps := 100000) (disch := omega) only [go_sem, V.isAgg, V.flat, ↓reduceIte, Nat.reduceAdd, Nat.reduceSub, Nat.reduceLT, Nat.reduceEqDiff, reduceCtorEq, Nat.reduceLeDiff, Nat.reduceBEq, Nat.reduceMul, Int.reduceToNat, List.length_cons, List.length_nil]; rfl) (by repeat' first | exact trivial | constructor) ?_
  refine Holds.step (Px := px) (T := TT) (ρ := fun _ => [.v true (words [9223372036854775808]), .v true (.int .u64 0)]) TTe (by simp (maxSteps := 100000) (disch := omega) only [go_sem, V.isAgg, V.flat, ↓reduceIte, Nat.reduceAdd, Nat.reduceSub, Nat.reduceLT, Nat.reduceEqDiff, reduceCtorEq, Nat.reduceLeDiff, Nat.reduceBEq, Nat.reduceMul, Int.reduceToNat, hr]; rfl) (by first | exact c_left63 | (repeat' first | exact trivial | exact c_left63 | constructor)) ?_
  refine Holds.step (Px := px) (T := TT) (ρ := fun _ => []) TTe (by simp (maxSteps := 100000) (disch := omega) only [go_sem, V.isAgg, V.flat, ↓reduceIte, Nat.reduceAdd, Nat.reduceSub, Nat.reduceLT, Nat.reduceEqDiff, reduceCtorEq, Nat.reduceLeDiff, Nat.reduceBEq, Nat.reduceMul, Int.reduceToNat, hq]; rfl) (by repeat' first | exact trivial | constructor) ?_
  refine Holds.step (Px := px) (T := TT) (ρ := fun _ => []) TTe (by simp (maxSteps := 100000) (disch := omega) only [go_sem, V.isAgg, V.flat, ↓reduceIte, Nat.reduceAdd, Nat.reduceSub, Nat.reduceLT, Nat.reduceEqDiff, reduceCtorEq, Nat.reduceLeDiff, Nat.reduceBEq, Nat.reduceMul, Int.reduceToNat, flatW, List.length_replicate]; rfl) (by repeat' first | exact trivial | constructor) ?_
  have htk : List.take (m + 1 + 1) (List.replicate m (V.int .u64 0) ++ [V.int .u64 9223372036854775808, V.int .u64 0]) = List.map (fun n => V.int .u64 n) (List.replicate m 0 ++ [9223372036854775808] ++ [0]) := by
    rw [List.take_of_length_le (by simp), List.append_assoc, List.map_append, List.map_replicate]; rfl
  have hl : (List.replicate m (V.int .u64 0) ++ [V.int .u64 9223372036854775808]).length = m + 1 := by simp
  rw [List.append_assoc] at hT
  refine Holds.step (Px := px) (T := TT) (ρ := fun _ => [.v true (words D)]) TTe (by simp (maxSteps := 100000) (disch := omega) only [go_sem, V.isAgg, V.flat, ↓reduceIte, Nat.reduceAdd, Nat.reduceSub, Nat.reduceLT, Nat.reduceEqDiff, reduceCtorEq, Nat.reduceLeDiff, Nat.reduceBEq, Nat.reduceMul, Int.reduceToNat, hl, htk, List.append_assoc, List.length_append, List.length_replicate]; rfl) (by first | exact hT | (repeat' first | exact trivial | exact hT | constructor)) ?_
  exact Holds.ret (RetOk.vs rfl (by exact ⟨⟨rfl, fun h => h⟩, trivial⟩) rfl)
end Go.Proofs.Ytjmclobbfabnpaa.L
