/-
  Yc Yd Zd Zf Ze Zg Zi Zj Zk Lzq Fa Fb
-/
import Derived.Test.YtlpolbeikangpaaGreatDoorRR4
import Derived.Test.YtlpolbeikangpaaGreatDoorRR8
import Derived.Test.YtlpolbeikangpaaGreatDoorRR7
import Derived.Test.YtlpolbeikangpaaGreatDoorRR3
import Derived.Test.YtlpolbeikangpaaGreatDoorRows
import Derived.Test.YtlpolbeikangpaaGreatDoorRR1
import Derived.ProofKit
import Derived.OpenShut
import Derived.LaidMore
import Derived.Lay
import Derived.SevenTiedAt
import Derived.Stop.Joined
set_option linter.unusedSimpArgs false
set_option linter.unusedVariables false
set_option maxRecDepth 100000
namespace Go.Proofs.YtlpolbeikangpaaGreatDoor.L
open Go Go.RowKit Go.Proofs
attribute [local go_sem] evalOps_nil evalOps_cons runW_t runW_f runE_s runP_s wantA evalOp effOp letters okDst coreA St.opv St.get St.at look constA St.put St.upd St.set decide_true List.all_nil List.all_cons Bool.and_true Bool.true_and and_self and_true true_and if_true if_false true_or Int.sub_zero List.nil_append List.cons_append List.append_nil Option.isSome_some List.getElem?_toArray List.getElem?_cons_succ List.getElem?_cons_zero Option.bind_some Option.map_some Option.map_none beq_self_eq_true Bool.false_beq Bool.true_beq Bool.not_true Bool.not_false Bool.false_eq_true cond_true cond_false binA binI List.map_cons List.map_nil boundA List.length_nil List.length_cons Nat.zero_mul Nat.one_mul Nat.mul_one Nat.zero_add Nat.add_zero Nat.zero_le Option.toList St.freshB AV.ment AV.ments Blk.ment V.sizes Nat.lt_add_one Bool.or_true Bool.true_or Bool.or_false Bool.false_or Bool.or_self if_pos if_neg decide_false decide_eq_true decide_eq_false wrap_i64 Int.toNat_natCast minA maxA Int.natCast_add Int.cast_ofNat_Int Option.isSome_none false_implies true_implies forall_const List.drop_zero Int.toNat_zero Int.add_sub_cancel lenA sliceA loadA indexAddrA partA fitsT V.atP V.offP V.size List.length_map List.getElem?_map Int.toNat_natCast_add_one Int.ofNat_eq_natCast TY calleeA capArg knotA capArgs toArgs toArg callA R.res R.mems R.blks R.av R.names R.nw invokeA storeA storeV fieldAddrA liveB V.off V.offs V.setP List.set_cons_zero List.set_cons_succ buildA buildP partsA appendA srcA copyA boxOk makeA AV.pure List.take_succ_cons List.take_zero nilA words unA entry List.zipIdx_cons List.zipIdx_nil Arg.av Arg.avs
set_option maxHeartbeats 2000000 in
theorem awake_ok : FnOk Tryz.prog 13 [] [.v true (.bool true)] := by
 have h1 := aw_text
 have h2 := aw_exact
 have h4 := aw_sci
 have h5 := aw_dec
 have h3 := hex_half
 unfold fmtV fltW words at h1 h2 h3 h4
 unfold words at h5
 rw [List.map_cons, List.map_nil] at h1 h2 h3 h4 h5
 have h3 : FnOk Tryz.prog 16 [.v (.agg [.int .i64 5, .int .i64 11]), .v (.agg [.int .i64 1, .bool false, .int .i64 (-13), .sl 1 [.int .u64 819]])] [.v true (.str ⟨#[48, 120, 49, 46, 57, 57, 56, 112, 45, 52]⟩), .v true (.int .i64 0)] := h3
 refine FnOk.of Tryz.func13 rfl rfl fun cx w0 => ?_
 rw [show Tryz.f13.ntmps = 91 from rfl]
 refine zs0 ?_
 refine zs0 ?_
 refine Holds.seq (Holds.regionZ (Px := px) (T := TT) (ρ := fun _ => []) (k := 1) (σ2 := { nt := 91, env := [(15, .v true (.sl 1 [.int .u64 819])), (1, .ptr 1 0 [] 0)], mem := [(1, .box 23 (.v true (.agg [.int .i64 5, .int .i64 11])))] }) TTe (by simp (maxSteps := 100000) (disch := omega) only [List.take_succ_cons, List.take_zero, go_sem, V.isAgg, V.flat, ↓reduceIte, Nat.reduceAdd, Nat.reduceSub, Nat.reduceLT, Nat.reduceEqDiff, reduceCtorEq, Nat.reduceLeDiff, Nat.reduceBEq, Nat.reduceMul, Int.reduceToNat]; rfl) (by repeat' first | exact trivial | constructor) (Nat.le_of_ble_eq_true rfl) (by exact fun a w h => Rel.keep [15, 1] [1] (Rel.freeze (s := 15) h rfl)) ⟨_, _, by simp (maxSteps := 100000) (disch := omega) only [List.drop_succ_cons, List.drop_zero, go_sem, V.isAgg, V.flat, ↓reduceIte, Nat.reduceAdd, Nat.reduceSub, Nat.reduceLT, Nat.reduceEqDiff, reduceCtorEq, Nat.reduceLeDiff, Nat.reduceBEq, Nat.reduceMul, Int.reduceToNat]; rfl, by repeat' first | exact trivial | assumption | constructor, ?_⟩); show Holds _ _ _ _ _ _ _
 refine zs2 (ρ := fun _ => [.v true (.str ⟨#[48, 46, 49]⟩), .v true (.int .i64 0)]) (o := by repeat' first|exact h1|trivial|constructor) (k := ?_)
 refine zs2 (ρ := fun _ => [.v true (.str ⟨#[48, 46, 48, 57, 57, 57, 55, 53, 53, 56, 53, 57, 51, 55, 53]⟩), .v true (.int .i64 0)]) (o := by repeat' first|exact h2|trivial|constructor) (k := ?_)
 refine zs2 (ρ := fun _ => [.v true (.str ⟨#[48, 120, 49, 46, 57, 57, 56, 112, 45, 52]⟩), .v true (.int .i64 0)]) (o := by repeat' first|exact h3|trivial|constructor) (k := ?_)
 refine Holds.from (σ' := { nt := 91, env := [(3, (.v true (.str ⟨#[48, 46, 49]⟩))), (4, (.v true (.int .i64 0))), (5, (.v true (.str ⟨#[48, 46, 48, 57, 57, 57, 55, 53, 53, 56, 53, 57, 51, 55, 53]⟩))), (6, (.v true (.int .i64 0))), (7, (.v true (.str ⟨#[48, 120, 49, 46, 57, 57, 56, 112, 45, 52]⟩))), (8, (.v true (.int .i64 0))), (1, .ptr 1 0 [] 0)], mem := [(1, .box 23 (.v true (.agg [.int .i64 5, .int .i64 11])))] }) (fun a w h => Rel.keep [3, 4, 5, 6, 7, 8, 1] [1] h) ?_
 refine Holds.seq (Holds.regionZ (Px := px) (T := TT) (ρ := fun _ => [.v true (.str ⟨#[49, 46, 48, 50, 101, 43, 48, 51]⟩), .v true (.bool false), .v true (.int .i64 0)]) (k := 2) (σ2 := { nt := 91, env := [(36, .v true (.agg [.int .i64 5, .int .i64 11])), (37, .v true (.sl 1 [.int .u64 1])), (3, (.v true (.str ⟨#[48, 46, 49]⟩))), (4, (.v true (.int .i64 0))), (5, (.v true (.str ⟨#[48, 46, 48, 57, 57, 57, 55, 53, 53, 56, 53, 57, 51, 55, 53]⟩))), (6, (.v true (.int .i64 0))), (7, (.v true (.str ⟨#[48, 120, 49, 46, 57, 57, 56, 112, 45, 52]⟩))), (8, (.v true (.int .i64 0)))], mem := [] }) TTe (by simp (maxSteps := 100000) (disch := omega) only [List.take_succ_cons, List.take_zero, go_sem, V.isAgg, V.flat, ↓reduceIte, Nat.reduceAdd, Nat.reduceSub, Nat.reduceLT, Nat.reduceEqDiff, reduceCtorEq, Nat.reduceLeDiff, Nat.reduceBEq, Nat.reduceMul, Int.reduceToNat]; rfl) (by first | exact h4 | (repeat' first | exact trivial | exact h4 | constructor)) (Nat.le_of_ble_eq_true rfl) (by exact fun a w h => Rel.keep [36, 37, 3, 4, 5, 6, 7, 8] [] (Rel.freeze (s := 37) h rfl)) ⟨_, _, by simp (maxSteps := 100000) (disch := omega) only [List.drop_succ_cons, List.drop_zero, go_sem, V.isAgg, V.flat, ↓reduceIte, Nat.reduceAdd, Nat.reduceSub, Nat.reduceLT, Nat.reduceEqDiff, reduceCtorEq, Nat.reduceLeDiff, Nat.reduceBEq, Nat.reduceMul, Int.reduceToNat]; rfl, by repeat' first | exact trivial | assumption | constructor, ?_⟩); show Holds _ _ _ _ _ _ _
 refine Holds.from (σ' := { nt := 91, env := [(3, (.v true (.str ⟨#[48, 46, 49]⟩))), (4, (.v true (.int .i64 0))), (5, (.v true (.str ⟨#[48, 46, 48, 57, 57, 57, 55, 53, 53, 56, 53, 57, 51, 55, 53]⟩))), (6, (.v true (.int .i64 0))), (7, (.v true (.str ⟨#[48, 120, 49, 46, 57, 57, 56, 112, 45, 52]⟩))), (8, (.v true (.int .i64 0))), (9, (.v true (.str ⟨#[49, 46, 48, 50, 101, 43, 48, 51]⟩))), (10, .v true (.bool false)), (11, (.v true (.int .i64 0)))], mem := [] }) (fun a w h => Rel.keep [3, 4, 5, 6, 7, 8, 9, 10, 11] [] h) ?_
 refine Holds.seq (Holds.regionZ (Px := px) (T := TT) (ρ := fun _ => [.v true (.str ⟨#[49, 46, 50, 48]⟩), .v true (.int .i64 0)]) (k := 1) (σ2 := { nt := 91, env := [(44, .v true (.sl 1 [.int .u64 120])), (3, (.v true (.str ⟨#[48, 46, 49]⟩))), (4, (.v true (.int .i64 0))), (5, (.v true (.str ⟨#[48, 46, 48, 57, 57, 57, 55, 53, 53, 56, 53, 57, 51, 55, 53]⟩))), (6, (.v true (.int .i64 0))), (7, (.v true (.str ⟨#[48, 120, 49, 46, 57, 57, 56, 112, 45, 52]⟩))), (8, (.v true (.int .i64 0))), (9, (.v true (.str ⟨#[49, 46, 48, 50, 101, 43, 48, 51]⟩))), (10, .v true (.bool false)), (11, (.v true (.int .i64 0)))], mem := [] }) TTe (by simp (maxSteps := 100000) (disch := omega) only [List.take_succ_cons, List.take_zero, go_sem, V.isAgg, V.flat, ↓reduceIte, Nat.reduceAdd, Nat.reduceSub, Nat.reduceLT, Nat.reduceEqDiff, reduceCtorEq, Nat.reduceLeDiff, Nat.reduceBEq, Nat.reduceMul, Int.reduceToNat]; rfl) (by first | exact h5 | (repeat' first | exact trivial | exact h5 | constructor)) (Nat.le_of_ble_eq_true rfl) (by exact fun a w h => Rel.keep [44, 3, 4, 5, 6, 7, 8, 9, 10, 11] [] (Rel.freeze (s := 44) h rfl)) ⟨_, _, by simp (maxSteps := 100000) (disch := omega) only [List.drop_succ_cons, List.drop_zero, go_sem, V.isAgg, V.flat, ↓reduceIte, Nat.reduceAdd, Nat.reduceSub, Nat.reduceLT, Nat.reduceEqDiff, reduceCtorEq, Nat.reduceLeDiff, Nat.reduceBEq, Nat.reduceMul, Int.reduceToNat]; rfl, by repeat' first | exact trivial | assumption | constructor, ?_⟩); show Holds _ _ _ _ _ _ _
 refine Holds.step (Px := px) (T := TT) (ρ := fun _ => []) TTe (by simp (maxSteps := 100000) (disch := omega) only [go_sem, V.isAgg, V.flat, ↓reduceIte, Nat.reduceAdd, Nat.reduceSub, Nat.reduceLT, Nat.reduceEqDiff, reduceCtorEq, Nat.reduceLeDiff, Nat.reduceBEq, Nat.reduceMul, Int.reduceToNat, unA, eq_self]; rfl) (by repeat' first | exact trivial | constructor) ?_
 exact Holds.ret (RetOk.vs rfl (by exact ⟨⟨rfl, id⟩, trivial⟩) rfl)
set_option maxHeartbeats 1000000 in
theorem fShort_ok (kd : Int) (neg : Bool) (e : Int) (L : List V) : FnOk Tryz.prog 12 [.v (.sl 4 [.agg [.int .i64 kd, .bool neg, .int .i64 e, .sl 1 L]])] [.v true (.bool (decide (L.length ≤ 40)))] := by
 obtain ⟨n, hn⟩ : ∃ n, n = L.length := ⟨_, rfl⟩
 rw [← hn]
 have hn' := hn.symm
 refine FnOk.of Tryz.func12 rfl rfl fun cx w0 => ?_
 rw [show Tryz.f12.ntmps = 17 from rfl]
 refine zs0 ?_
 refine Holds.next (fun σ => n ≤ 40 ∧ ∀ a w, Rel cx w0 σ a w → Rel cx w0 { nt := 17, env := [], mem := [] } a w) ?_ ?_
 ·refine zs0 ?_
  refine Holds.loopB (fun i : Nat => { nt := 17, env := [(3, .v true (.int .i64 i)), (0, .v false (.sl 4 [.agg [.int .i64 kd, .bool neg, .int .i64 e, .sl 1 L]]))], mem := [] }) (fun i => i = 0 ∨ i = 1 ∧ n ≤ 40) (fun i => 1 - i) 0 (.inl rfl) (fun a w h => Rel.keep [3, 0] [] h) ?_
  rintro i hi
  by_cases hi0 : i = 0
  ·subst hi0
   refine Holds.seq ?_
   refine zs0 ?_
   refine Holds.condT rfl (Holds.skip ?_)
   show Holds _ _ _ _ _ _ _
   refine Holds.next (fun σ => n ≤ 40 ∧ ∀ a w, Rel cx w0 σ a w → Rel cx w0 { nt := 17, env := [(3, .v true (.int .i64 0)), (0, .v false (.sl 4 [.agg [.int .i64 kd, .bool neg, .int .i64 e, .sl 1 L]]))], mem := [] } a w) ?_ ?_
   ·refine Holds.blockN ?_
    by_cases hs : n ≤ 40
    ·have g : ¬ (40 : Int) < (L.length : Int) := by omega
     refine zs1 g ?_
     exact Holds.condF rfl (Holds.skip ⟨hs, fun a w h => Rel.keep [3, 0] [] h⟩)
    ·have g : (40 : Int) < (L.length : Int) := by omega
     refine zs1 g ?_
     refine Holds.condT rfl ?_
     refine zs0 ?_
     rw [decide_eq_false hs]
     exact Holds.ret (RetOk.vs rfl (by exact ⟨⟨rfl, id⟩, trivial⟩) rfl)
   ·rintro σ ⟨hs, hσ⟩
    refine Holds.from hσ ?_
    refine zr0 ?_
    exact ⟨1, .inr ⟨rfl, hs⟩, (show 1 - 1 < 1 - 0 by decide), fun a w h => Rel.keep [3, 0] [] h⟩
  ·have hi1 : i = 1 ∧ n ≤ 40 := by omega
   obtain ⟨rfl, hs⟩ := hi1
   refine Holds.seq ?_
   refine zs0 ?_
   exact Holds.condF rfl (Holds.exit ⟨rfl, hs, fun a w h => Rel.keep [] [] h⟩)
 ·rintro σ ⟨hs, hσ⟩
  refine Holds.from hσ ?_
  rw [decide_eq_true hs]
  refine zs0 ?_
  exact Holds.ret (RetOk.vs rfl (by exact ⟨⟨rfl, id⟩, trivial⟩) rfl)
theorem nuE_big {k P : Int} {okr : Bool} {kd : Int} {neg : Bool} {e : Int} {l : List Int} (h : 4096 < l.length) : nuE k P okr kd neg e l = 2 := by unfold nuE; rw [if_pos h]
set_option maxHeartbeats 2000000 in
theorem rDigitsG_ok (x : List Int) (D : Nat) (hx : x.length < 10000) (ox : okW x) (hD : HasD (val x) D) (hb : blN (val x) ≤ 18000) (hDl : D < 20000) : FnOk Tryz.prog 168 [.v (words x)] [.v true (.int .i64 D)] := by
 have hpos : 0 < val x := by
  have := Nat.pow_pos (a := 10) (n := D - 1) (by decide)
  have := hD.2.1
  omega
 have hL := rLen_ok x (by omega) ox
 rw [lenR_eq ox] at hL
 obtain ⟨b1, b2⟩ := bl_le hpos
 obtain ⟨B, hB⟩ : ∃ B, B = blN (val x) := ⟨_, rfl⟩
 rw [← hB] at hL b1 b2 hb
 have hs := digG_start (m := B - 1) (by omega)
 have hn0 : (B - 1) * 30103 / 100000 ≤ D := digG_le hD (Nat.le_trans hs (Nat.mul_le_mul_left 10 b1))
 have hcmp : ∀ n : Nat, n ≤ D + 1 → FnOk Tryz.prog 170 [.v (words x), .v (words (digs (10 ^ n)))] [.v true (.int .i64 (cmpN (val x) (10 ^ n)))] := fun n hn => by
  have hTl := ten_len (k := n)
  have hC := rCmp_ok x (digs (10 ^ n)) (by omega) (by omega) ox (digs_ok _).1
  rw [(digs_ok (10 ^ n)).2.2] at hC
  exact hC
 have hD1 := hD.1
 refine FnOk.of Tryz.func168 rfl rfl fun cx w0 => ?_
 rw [show Tryz.f168.ntmps = 30 from rfl]
 obtain ⟨n0, hn0'⟩ : ∃ n0, n0 = (B - 1) * 30103 / 100000 := ⟨_, rfl⟩
 rw [← hn0'] at hn0
 have w1 : (B : Int) - 1 = ((B - 1 : Nat) : Int) := by omega
 have w2 : IntKind.i64.wrap (((B - 1 : Nat) : Int) * 30103) = (((B - 1) * 30103 : Nat) : Int) := by rw [wrap_i64] <;> omega
 have w3 : (((B - 1) * 30103 : Nat) : Int).tdiv 100000 = (n0 : Int) := by rw [hn0']; exact quoN _ 100000
 have w4 : IntKind.i64.wrap (n0 : Int) = (n0 : Int) := by rw [wrap_i64] <;> omega
 have w5 : IntKind.i64.wrap ((n0 : Int) + 1) = ((n0 + 1 : Nat) : Int) := by rw [wrap_i64] <;> omega
 obtain ⟨B1, hB1⟩ : ∃ B1, B1 = B - 1 := ⟨_, rfl⟩
 rw [← hB1] at w1 w2 w3
 obtain ⟨p, hp⟩ : ∃ p, p = B1 * 30103 := ⟨_, rfl⟩
 rw [← hp] at w2 w3
 clear hs b1 hn0' hp hB1 hB
 obtain ⟨E, hE1, hE2⟩ : ∃ E, n0 + 1 ≤ E ∧ (E = D ∨ E = D + 1 ∧ n0 = D) := by
  rcases Nat.lt_or_ge n0 D with h | h
  ·exact ⟨D, h, .inl rfl⟩
  ·exact ⟨D + 1, by omega, .inr ⟨rfl, by omega⟩⟩
 refine zs0 ?_
 refine zs3 (ρ := fun _ => [.v true (.int .i64 (B : Nat))]) (an w1 <| an w2 <| an w3 <| an w4 <| w5) (o := by repeat' first|exact hL|trivial|constructor) (k := ?_)
 refine Holds.next (fun σ => ∀ a w, Rel cx w0 σ a w → Rel cx w0 { nt := 30, env := [(3, .v true (.int .i64 E)), (0, .v false (words x))], mem := [] } a w) ?_ ?_
 ·refine Holds.loopB (fun n : Nat => { nt := 30, env := [(3, .v true (.int .i64 (n : Nat))), (0, .v false (words x))], mem := [] }) (fun n => n0 + 1 ≤ n ∧ n ≤ E) (fun n => E - n) (n0 + 1) ⟨Nat.le_refl _, hE1⟩ (fun a w h => Rel.keep [3, 0] [] h) ?_
  rintro n ⟨hn0, hn⟩
  have hT := rTen_ok n (by omega)
  have hC := hcmp n (by omega)
  obtain ⟨T, hT'⟩ : ∃ T, T = digs (10 ^ n) := ⟨_, rfl⟩
  obtain ⟨c, hc⟩ : ∃ c, c = cmpN (val x) (10 ^ n) := ⟨_, rfl⟩
  rw [← hT'] at hT hC
  rw [← hc] at hC
  refine Holds.seq ?_
  rcases Nat.lt_or_ge (val x) (10 ^ n) with h | h
  ·have hDn : n = E := by have := hasD_le hD h; omega
   have g : ¬ 0 ≤ c := by rw [hc, cmpN, if_pos h]; omega
   refine zs3 (ρ := fun d => if d = 12 then [.v true (words T)] else [.v true (.int .i64 c)]) g (o := by repeat' first|exact hT|exact hC|trivial|constructor) (k := ?_)
   refine Holds.condF rfl (Holds.exit ⟨rfl, fun a w h => ?_⟩)
   have := Rel.keep [3, 0] [] h
   rw [hDn] at this
   exact this
  ·have hlt := hasD_lt hD h
   have g : 0 ≤ c := by rw [hc, cmpN, if_neg (by omega)]; split <;> omega
   have wk : IntKind.i64.wrap ((n : Int) + 1) = ((n + 1 : Nat) : Int) := by rw [wrap_i64] <;> omega
   refine zs3 (ρ := fun d => if d = 12 then [.v true (words T)] else [.v true (.int .i64 c)]) g (o := by repeat' first|exact hT|exact hC|trivial|constructor) (k := ?_)
   refine Holds.condT rfl (Holds.skip ?_)
   refine Holds.block ?_
   refine zr1 wk ?_
   exact ⟨n + 1, ⟨by omega, by omega⟩, (show E - (n + 1) < E - n by omega), fun a w h => Rel.keep [3, 0] [] h⟩
 ·intro σ hσ
  refine Holds.from hσ ?_
  refine Holds.next (fun σ => ∀ a w, Rel cx w0 σ a w → Rel cx w0 { nt := 30, env := [(3, .v true (.int .i64 D))], mem := [] } a w) ?_ ?_
  ·refine Holds.loopB (fun n : Nat => { nt := 30, env := [(3, .v true (.int .i64 (n : Nat))), (0, .v false (words x))], mem := [] }) (fun n => n = D ∨ n = D + 1) (fun n => n) E (by omega) (fun a w h => Rel.keep [3, 0] [] h) ?_
   intro n hn
   refine Holds.seq ?_
   by_cases hd : n = D
   ·subst hd
    by_cases h1 : 1 < n
    ·have g1 : (1 : Int) < (n : Int) := by omega
     have hT := rTen_ok (n - 1) (by omega)
     have hC := hcmp (n - 1) (by omega)
     have w6 : (n : Int) - 1 = ((n - 1 : Nat) : Int) := by omega
     have g2 : ¬ cmpN (val x) (10 ^ (n - 1)) < 0 := by
      rw [cmpN, if_neg (by have := hD.2.1; omega)]; split <;> omega
     obtain ⟨T, hT'⟩ : ∃ T, T = digs (10 ^ (n - 1)) := ⟨_, rfl⟩
     obtain ⟨c, hc⟩ : ∃ c, c = cmpN (val x) (10 ^ (n - 1)) := ⟨_, rfl⟩
     rw [← hT'] at hT hC
     rw [← hc] at hC g2
     refine zs3 (ρ := fun d => if d = 23 then [.v true (words T)] else [.v true (.int .i64 c)]) (an g1 <| an g2 <| w6) (o := by repeat' first|exact hT|exact hC|trivial|constructor) (k := ?_)
     exact Holds.condF rfl (Holds.exit ⟨rfl, fun a w h => Rel.keep [3] [] h⟩)
    ·have g1 : ¬ (1 : Int) < (n : Int) := by omega
     refine zs1 g1 ?_
     exact Holds.condF rfl (Holds.exit ⟨rfl, fun a w h => Rel.keep [3] [] h⟩)
   ·have hd1 : n = D + 1 := by omega
    subst hd1
    have g1 : (1 : Int) < ((D + 1 : Nat) : Int) := by omega
    have hT := rTen_ok D (by omega)
    have hC := hcmp D (by omega)
    have w6 : ((D + 1 : Nat) : Int) - 1 = (D : Int) := by omega
    have g2 : cmpN (val x) (10 ^ D) < 0 := by
     rw [cmpN, if_pos hD.2.2]; omega
    obtain ⟨T, hT'⟩ : ∃ T, T = digs (10 ^ D) := ⟨_, rfl⟩
    obtain ⟨c, hc⟩ : ∃ c, c = cmpN (val x) (10 ^ D) := ⟨_, rfl⟩
    rw [← hT'] at hT hC
    rw [← hc] at hC g2
    obtain ⟨F, hF⟩ : ∃ F : Int, F = ((D + 1 : Nat) : Int) := ⟨_, rfl⟩
    show Holds _ _ _ _ _ { nt := 30, env := [(3, .v true (.int .i64 ((D + 1 : Nat) : Int))), (0, .v false (words x))], mem := [] } _
    rw [← hF] at g1 w6 ⊢
    have w7 : IntKind.i64.wrap (D : Int) = (D : Int) := by rw [wrap_i64] <;> omega
    refine zs3 (ρ := fun d => if d = 23 then [.v true (words T)] else [.v true (.int .i64 c)]) (an g1 <| an g2 <| w6) (o := by repeat' first|exact hT|exact hC|trivial|constructor) (k := ?_)
    refine Holds.condT rfl (Holds.skip ?_)
    refine Holds.block ?_
    refine zr1 (an w6 <| w7) ?_
    exact ⟨D, .inl rfl, Nat.lt_succ_self D, fun a w h => Rel.keep [3, 0] [] h⟩
  ·intro σ hσ
   refine Holds.from hσ ?_
   refine zs0 ?_
   exact Holds.ret (RetOk.vs rfl (by exact ⟨⟨rfl, id⟩, trivial⟩) rfl)
def realQ (neg : Bool) (num den : Nat) : V := .agg [.bool neg, words (digs num), words (digs den), .int .i64 0, .int .i64 1]
theorem hasD_quo {num den E D : Nat} (hE : HasD num E) (hD : HasD den D) : (den * 10 ^ (E - D) ≤ num * 10 ^ (D - E) → IsA num den ((E : Int) - D)) ∧ (num * 10 ^ (D - E) < den * 10 ^ (E - D) → IsA num den ((E : Int) - D - 1)) := by
 have e0 : (((E - D : Nat) : Int)) - ((D - E : Nat) : Int) = (E : Int) - D := by omega
 obtain ⟨e1, e2, e3⟩ := hE
 obtain ⟨d1, d2, d3⟩ := hD
 constructor
 ·intro h
  refine isA_of (i := E - D) (j := D - E) e0 h ?_
  have h1 : num * 10 ^ (D - E) < 10 ^ (E + (D - E)) := by rw [Nat.pow_add]; exact Nat.mul_lt_mul_of_pos_right e3 (Nat.pow_pos (by decide))
  have h2 : 10 ^ (D - 1 + (E - D + 1)) ≤ den * 10 ^ (E - D + 1) := by rw [Nat.pow_add]; exact Nat.mul_le_mul_right _ d2
  rw [show D - 1 + (E - D + 1) = E + (D - E) from by omega] at h2
  omega
 ·intro h
  refine isA_of (i := E - D) (j := D - E + 1) (by omega) ?_ ?_
  ·have h1 : den * 10 ^ (E - D) ≤ 10 ^ (D + (E - D)) := by rw [Nat.pow_add]; exact Nat.mul_le_mul_right _ (Nat.le_of_lt d3)
   have h2 : 10 ^ (E - 1 + (D - E + 1)) ≤ num * 10 ^ (D - E + 1) := by rw [Nat.pow_add]; exact Nat.mul_le_mul_right _ e2
   rw [show E - 1 + (D - E + 1) = D + (E - D) from by omega] at h2
   omega
  ·rw [Nat.pow_succ, Nat.pow_succ, ← Nat.mul_assoc, ← Nat.mul_assoc]
   exact Nat.mul_lt_mul_of_pos_right h (by decide)
set_option maxHeartbeats 2000000 in
theorem rLogG_ok (neg : Bool) (num den B : Nat) (a : Int) (hB : B ≤ 17000) (hn : 0 < num) (hd : 0 < den) (hnl : num < 2 ^ B) (hdl : den < 2 ^ B) (hA : IsA num den a) : FnOk Tryz.prog 89 [.v (realQ neg num den)] [.v true (.int .i64 a)] := by
 have l1 := digs_lenB (n := 300) hnl (by omega)
 have l2 := digs_lenB (n := 300) hdl (by omega)
 obtain ⟨E, hE⟩ := hasD_ex num hn
 obtain ⟨D, hD⟩ := hasD_ex den hd
 have hEB := hasD_lt2 hE hnl
 have hDB := hasD_lt2 hD hdl
 have hD1 := rDigitsG_ok (digs num) E (by omega) (digs_ok _).1 (by rw [(digs_ok _).2.2]; exact hE) (by rw [(digs_ok _).2.2]; have := bl_lt hnl; omega) (by omega)
 have hD2 := rDigitsG_ok (digs den) D (by omega) (digs_ok _).1 (by rw [(digs_ok _).2.2]; exact hD) (by rw [(digs_ok _).2.2]; have := bl_lt hdl; omega) (by omega)
 obtain ⟨q1, q2⟩ := hasD_quo hE hD
 have w6 : IntKind.i64.wrap ((E : Int) - D) = (E : Int) - D := by rw [wrap_i64] <;> omega
 have w7 : IntKind.i64.wrap ((E : Int) - D - 1) = (E : Int) - D - 1 := by rw [wrap_i64] <;> omega
 have hF := floor1_ok a
 unfold realQ
 by_cases h1 : D < E
 ·have hTl := ten_len (k := E - D)
  have hT := rTen_ok (E - D) (by omega)
  have hM := rMul_ok (digs den) (digs (10 ^ (E - D))) (by omega) (by omega) (digs_ok _).1 (digs_ok _).1
  rw [(digs_ok den).2.2, (digs_ok (10 ^ (E - D))).2.2] at hM
  have l3 : (digs (den * 10 ^ (E - D))).length < 40000 := by
   have h3 : den * 10 ^ (E - D) < 2 ^ (B + (4 * (E - D) + 1)) := by rw [Nat.pow_add]; exact Nat.mul_lt_mul_of_lt_of_lt hdl (ten_lt _)
   exact Nat.lt_of_le_of_lt (digs_lenB h3 (n := 2000) (by omega)) (by decide)
  have hC := rCmp_ok (digs num) (digs (den * 10 ^ (E - D))) (by omega) l3 (digs_ok _).1 (digs_ok _).1
  rw [(digs_ok _).2.2, (digs_ok (den * 10 ^ (E - D))).2.2] at hC
  rw [show D - E = 0 from by omega, Nat.pow_zero, Nat.mul_one] at q1 q2
  have g1 : (0 : Int) < (E : Int) - D := by omega
  have wT : (E : Int) - D = ((E - D : Nat) : Int) := by omega
  rw [← wT] at hT
  obtain ⟨T, hT'⟩ : ∃ T, T = digs (10 ^ (E - D)) := ⟨_, rfl⟩
  obtain ⟨M, hM'⟩ : ∃ T, T = digs (den * 10 ^ (E - D)) := ⟨_, rfl⟩
  obtain ⟨c, hc⟩ : ∃ c, c = cmpN num (den * 10 ^ (E - D)) := ⟨_, rfl⟩
  obtain ⟨N, hN⟩ : ∃ L, L = digs num := ⟨_, rfl⟩
  obtain ⟨O, hO⟩ : ∃ O, O = digs den := ⟨_, rfl⟩
  rw [← hT'] at hT hM
  rw [← hM'] at hM hC
  rw [← hc] at hC
  rw [← hN] at hD1 hC ⊢
  rw [← hO] at hD2 hM ⊢
  obtain ⟨dd, hdd⟩ : ∃ dd : Int, dd = (E : Int) - D := ⟨_, rfl⟩
  rw [← hdd] at w6 w7 g1 hT q1 q2
  refine FnOk.of Tryz.func89 rfl rfl fun cx w0 => ?_
  rw [show Tryz.f89.ntmps = 41 from rfl]
  refine zs0 ?_
  refine zd3 [] (ρ := fun d => if d = 8 then [.v true (.int .i64 (E : Nat))] else [.v true (.int .i64 (D : Nat))]) (an w6 <| hdd.symm) (o := by repeat' first|exact hD1|exact hD2|trivial|constructor) (k := ?_)
  refine zd0 [] ?_
  refine Holds.seq ?_
  refine zs1 g1 ?_
  refine Holds.condT rfl ?_
  refine zr2 (ρ := fun d => if d = 21 then [.v true (words T)] else [.v true (words M)]) (o := by repeat' first|exact hT|exact hM|trivial|constructor) (k := ?_)
  refine Holds.seq ?_
  rcases Nat.lt_or_ge num (den * 10 ^ (E - D)) with h | h
  ·have ha := isA_uniq hA (q2 h)
   subst ha
   have g2 : c < 0 := by rw [hc, cmpN, if_pos h]; omega
   have hF := hF (by omega)
   obtain ⟨ev, hev⟩ : ∃ ev, ev = dd - 1 := ⟨_, rfl⟩
   rw [← hev] at hF ⊢
   have w8 : dd - 1 + 0 = ev := by omega
   refine zs3 (ρ := fun _ => [.v true (.int .i64 c)]) g2 (o := by repeat' first|exact hC|trivial|constructor) (k := ?_)
   refine Holds.condT rfl ?_
   refine zr1 w7 ?_
   show Holds _ _ _ _ _ _ _
   refine zs3 (ρ := fun _ => [.v true (.int .i64 ev)]) w8 (o := by repeat' first|exact hF|trivial|constructor) (k := ?_)
   exact Holds.ret (RetOk.vs rfl (by exact ⟨⟨rfl, id⟩, trivial⟩) rfl)
  ·have ha := isA_uniq hA (q1 h)
   subst ha
   have g2 : ¬ c < 0 := by rw [hc, cmpN, if_neg (by omega)]; split <;> omega
   have hF := hF (by omega)
   have w8 : IntKind.i64.wrap (a + 0) = a := by rw [wrap_i64] <;> omega
   refine zs3 (ρ := fun _ => [.v true (.int .i64 c)]) g2 (o := by repeat' first|exact hC|trivial|constructor) (k := ?_)
   refine Holds.condF rfl (Holds.skip ?_)
   show Holds _ _ _ _ _ _ _
   refine zs3 (ρ := fun _ => [.v true (.int .i64 a)]) w8 (o := by repeat' first|exact hF|trivial|constructor) (k := ?_)
   exact Holds.ret (RetOk.vs rfl (by exact ⟨⟨rfl, id⟩, trivial⟩) rfl)
 ·have hTl := ten_len (k := D - E)
  have hT := rTen_ok (D - E) (by omega)
  have hM := rMul_ok (digs num) (digs (10 ^ (D - E))) (by omega) (by omega) (digs_ok _).1 (digs_ok _).1
  rw [(digs_ok num).2.2, (digs_ok (10 ^ (D - E))).2.2] at hM
  have l3 : (digs (num * 10 ^ (D - E))).length < 40000 := by
   have h3 : num * 10 ^ (D - E) < 2 ^ (B + (4 * (D - E) + 1)) := by rw [Nat.pow_add]; exact Nat.mul_lt_mul_of_lt_of_lt hnl (ten_lt _)
   exact Nat.lt_of_le_of_lt (digs_lenB h3 (n := 2000) (by omega)) (by decide)
  have hC := rCmp_ok (digs (num * 10 ^ (D - E))) (digs den) l3 (by omega) (digs_ok _).1 (digs_ok _).1
  rw [(digs_ok den).2.2, (digs_ok (num * 10 ^ (D - E))).2.2] at hC
  rw [show E - D = 0 from by omega, Nat.pow_zero, Nat.mul_one] at q1 q2
  have g1 : ¬ (0 : Int) < (E : Int) - D := by omega
  have wT : IntKind.i64.wrap (0 - ((E : Int) - D)) = ((D - E : Nat) : Int) := by rw [wrap_i64] <;> omega
  obtain ⟨T, hT'⟩ : ∃ T, T = digs (10 ^ (D - E)) := ⟨_, rfl⟩
  obtain ⟨M, hM'⟩ : ∃ T, T = digs (num * 10 ^ (D - E)) := ⟨_, rfl⟩
  obtain ⟨c, hc⟩ : ∃ c, c = cmpN (num * 10 ^ (D - E)) den := ⟨_, rfl⟩
  obtain ⟨N, hN⟩ : ∃ L, L = digs num := ⟨_, rfl⟩
  obtain ⟨O, hO⟩ : ∃ O, O = digs den := ⟨_, rfl⟩
  rw [← hT'] at hT hM
  rw [← hM'] at hM hC
  rw [← hc] at hC
  rw [← hN] at hD1 hM ⊢
  rw [← hO] at hD2 hC ⊢
  obtain ⟨tt, htt⟩ : ∃ tt : Int, tt = ((D - E : Nat) : Int) := ⟨_, rfl⟩
  rw [← htt] at wT hT
  obtain ⟨dd, hdd⟩ : ∃ dd : Int, dd = (E : Int) - D := ⟨_, rfl⟩
  rw [← hdd] at w6 w7 g1 wT q1 q2
  refine FnOk.of Tryz.func89 rfl rfl fun cx w0 => ?_
  rw [show Tryz.f89.ntmps = 41 from rfl]
  refine zs0 ?_
  refine zd3 [] (ρ := fun d => if d = 8 then [.v true (.int .i64 (E : Nat))] else [.v true (.int .i64 (D : Nat))]) (an w6 <| hdd.symm) (o := by repeat' first|exact hD1|exact hD2|trivial|constructor) (k := ?_)
  refine zd0 [] ?_
  refine Holds.seq ?_
  refine zs1 g1 ?_
  refine Holds.condF rfl ?_
  refine zr3 (ρ := fun d => if d = 26 then [.v true (words T)] else [.v true (words M)]) wT (o := by repeat' first|exact hT|exact hM|trivial|constructor) (k := ?_)
  refine Holds.seq ?_
  rcases Nat.lt_or_ge (num * 10 ^ (D - E)) den with h | h
  ·have ha := isA_uniq hA (q2 h)
   subst ha
   have g2 : c < 0 := by rw [hc, cmpN, if_pos h]; omega
   have hF := hF (by omega)
   obtain ⟨ev, hev⟩ : ∃ ev, ev = dd - 1 := ⟨_, rfl⟩
   rw [← hev] at hF ⊢
   have w8 : dd - 1 + 0 = ev := by omega
   refine zs3 (ρ := fun _ => [.v true (.int .i64 c)]) g2 (o := by repeat' first|exact hC|trivial|constructor) (k := ?_)
   refine Holds.condT rfl ?_
   refine zr1 w7 ?_
   show Holds _ _ _ _ _ _ _
   refine zs3 (ρ := fun _ => [.v true (.int .i64 ev)]) w8 (o := by repeat' first|exact hF|trivial|constructor) (k := ?_)
   exact Holds.ret (RetOk.vs rfl (by exact ⟨⟨rfl, id⟩, trivial⟩) rfl)
  ·have ha := isA_uniq hA (q1 h)
   subst ha
   have g2 : ¬ c < 0 := by rw [hc, cmpN, if_neg (by omega)]; split <;> omega
   have hF := hF (by omega)
   have w8 : IntKind.i64.wrap (a + 0) = a := by rw [wrap_i64] <;> omega
   refine zs3 (ρ := fun _ => [.v true (.int .i64 c)]) g2 (o := by repeat' first|exact hC|trivial|constructor) (k := ?_)
   refine Holds.condF rfl (Holds.skip ?_)
   show Holds _ _ _ _ _ _ _
   refine zs3 (ρ := fun _ => [.v true (.int .i64 a)]) w8 (o := by repeat' first|exact hF|trivial|constructor) (k := ?_)
   exact Holds.ret (RetOk.vs rfl (by exact ⟨⟨rfl, id⟩, trivial⟩) rfl)
def stM (num : Nat) (s : Int) : Nat := num * 10 ^ (-s).toNat
def stD (den : Nat) (s : Int) : Nat := den * 10 ^ s.toNat
def stV (num den : Nat) (s : Int) : V := partV (2 * stM num s / stD den s / 2) (decide (2 * stM num s / stD den s % 2 = 1)) (decide (2 * stM num s % stD den s ≠ 0))
set_option maxHeartbeats 2000000 in
theorem rStepsG_ok (neg : Bool) (num den B : Nat) (s : Int) (hB : B ≤ 17000) (hn : 0 < num) (hd : 0 < den) (hnl : num < 2 ^ B) (hdl : den < 2 ^ B) (hs : -8000 < s ∧ s < 8000) :
 FnOk Tryz.prog 90 [.v (realQ neg num den), .v (.int .i64 s)] [.v true (stV num den s)] := by
 have l1 := digs_lenB (n := 300) hnl (by omega)
 have l2 := digs_lenB (n := 300) hdl (by omega)
 have hL := Left_ok (digs num) 1 (by omega) (by omega) (digs_ok _).1
 rw [(digs_ok _).2.2, Nat.pow_one, Nat.mul_comm num 2] at hL
 have h2m : 2 * num < 2 ^ (B + 1) := by rw [Nat.pow_succ]; omega
 have l3 := digs_lenB (n := 300) h2m (by omega)
 have hL : FnOk Tryz.prog 74 [.v (words (digs num)), .v (.int .i64 1)] [.v true (words (digs (2 * num)))] := hL
 have w1 : IntKind.i64.wrap (1 * s) = s := by rw [wrap_i64] <;> omega
 have w1' : IntKind.i64.wrap s = s := by rw [wrap_i64] <;> omega
 have w2 : IntKind.i64.wrap (0 - s) = -s := by rw [wrap_i64] <;> omega
 have tail : ∀ (M D C : Nat), C ≤ 33000 → 0 < D → M < 2 ^ (B + C) → (digs D).length ≤ 900 → ∃ (P Z N : List Int) (b z : Bool), FnOk Tryz.prog 147 [.v (words (digs M)), .v (words (digs D))] [.v true (words P), .v true (words Z)] ∧ FnOk Tryz.prog 95 [.v (words Z)] [.v true (.bool z)] ∧
  FnOk Tryz.prog 158 [.v (words P), .v (.int .i64 1)] [.v true (words N)] ∧ FnOk Tryz.prog 173 [.v (words P), .v (.int .i64 0)] [.v true (.bool b)] ∧ N = digs (M / D / 2) ∧ b = decide (M / D % 2 = 1) ∧ (!z) = decide (M % D ≠ 0) := fun M D C hC hD hM hDl => by
  have lM := digs_lenB (n := 900) hM (by omega)
  have hDM := rDivMod_ok (digs M) (digs D) (by omega) (by omega) (digs_ok _).1 (digs_ok _).1 (by rw [(digs_ok _).2.2]; exact hD)
  rw [(digs_ok M).2.2, (digs_ok D).2.2] at hDM
  have hql := digs_mono (Nat.div_le_self M D)
  have hrl := digs_mono (Nat.mod_le M D)
  have hZ := IsZero_ok (digs (M % D)) (by omega) (digs_ok _).1
  rw [(digs_ok _).2.2] at hZ
  have hR := rRight1_ok (digs (M / D)) 1 (by omega) (by omega) (digs_ok _).1
  rw [(digs_ok _).2.2, Nat.pow_one] at hR
  have hBt := rBit_ok (digs (M / D)) 0 (by omega) (by omega) (digs_ok _).1
  rw [(digs_ok _).2.2, bit_zero] at hBt
  exact ⟨_, _, _, _, _, hDM, hZ, hR, hBt, rfl, rfl, by by_cases h : M % D = 0 <;> simp [h]⟩
 unfold stV
 by_cases h0 : s ≤ 0
 ·-- a power of 10 to the numerator
  have eD : stD den s = den := by unfold stD; rw [show s.toNat = 0 from by omega, Nat.pow_zero, Nat.mul_one]
  have hT := rTen_ok (-s).toNat (by omega)
  have hTl := ten_len (k := (-s).toNat)
  have hM := rMul_ok (digs (2 * num)) (digs (10 ^ (-s).toNat)) (by omega) (by omega) (digs_ok _).1 (digs_ok _).1
  rw [(digs_ok _).2.2, (digs_ok (10 ^ (-s).toNat)).2.2, show 2 * num * 10 ^ (-s).toNat = 2 * stM num s from Nat.mul_assoc _ _ _] at hM
  have hMl : 2 * stM num s < 2 ^ (B + (1 + (4 * (-s).toNat + 1))) := by
   have h1 : 2 * num * 10 ^ (-s).toNat < 2 ^ (B + 1 + (4 * (-s).toNat + 1)) := by rw [Nat.pow_add _ (B + 1)]; exact Nat.mul_lt_mul_of_lt_of_lt h2m (ten_lt _)
   rw [show 2 * num * 10 ^ (-s).toNat = 2 * stM num s from Nat.mul_assoc _ _ _] at h1
   rw [Nat.add_assoc] at h1
   exact h1
  rw [eD]
  obtain ⟨P, Z, N, b, z, c1, c2, c3, c4, c5, c6, c7⟩ := tail (2 * stM num s) den _ (by omega) hd hMl (by omega)
  rw [← c6, ← c7]
  unfold partV realQ
  rw [← c5]
  rw [show (((-s).toNat : Nat) : Int) = -s from by omega] at hT
  obtain ⟨A, hA⟩ : ∃ M, M = digs num := ⟨_, rfl⟩
  obtain ⟨A2, hA2⟩ : ∃ M, M = digs (2 * num) := ⟨_, rfl⟩
  obtain ⟨T, hT'⟩ : ∃ T, T = digs (10 ^ (-s).toNat) := ⟨_, rfl⟩
  obtain ⟨M, hM'⟩ : ∃ T, T = digs (2 * stM num s) := ⟨_, rfl⟩
  obtain ⟨O, hO⟩ : ∃ O, O = digs den := ⟨_, rfl⟩
  rw [← hA, ← hA2] at hL
  rw [← hA2, ← hT', ← hM'] at hM
  rw [← hT'] at hT
  rw [← hM', ← hO] at c1
  rw [← hA, ← hO]
  obtain ⟨k, hk⟩ : ∃ k : Int, k = -s := ⟨_, rfl⟩
  rw [← hk] at w2 hT
  have g0 : (0 : Int) ≤ k := by omega
  clear hA hA2 hT' hM' hO tail c5 c6 c7
  refine FnOk.of Tryz.func90 rfl rfl fun cx w0 => ?_
  rw [show Tryz.f90.ntmps = 81 from rfl]
  refine zs0 ?_
  refine zs1 (an Int.one_mul <| an w1' <| w2) ?_
  refine zd2 [] (ρ := fun _ => [.v true (words A2)]) (o := by repeat' first|exact hL|trivial|constructor) (k := ?_)
  refine Holds.seq ?_
  refine Holds.block ?_
  refine zs1 g0 ?_
  refine Holds.condT rfl ?_
  refine zr2 (ρ := fun d => if d = 36 then [.v true (words T)] else [.v true (words M)]) (o := by repeat' first|exact hT|exact hM|trivial|constructor) (k := ?_)
  show Holds _ _ _ _ _ _ _
  refine zs2 (ρ := fun _ => [.v true (words P), .v true (words Z)]) (o := by repeat' first|exact c1|trivial|constructor) (k := ?_)
  refine zs2 (ρ := fun _ => [.v true (.bool z)]) (o := by repeat' first|exact c2|trivial|constructor) (k := ?_)
  refine Holds.seq ?_
  refine zs0 ?_
  refine Holds.condF rfl (Holds.skip ?_)
  refine zs2 (ρ := fun d => if d = 75 then [.v true (words N)] else [.v true (.bool b)]) (o := by repeat' first|exact c3|exact c4|trivial|constructor) (k := ?_)
  exact Holds.ret (RetOk.vs rfl (by exact ⟨⟨rfl, id⟩, trivial⟩) rfl)
 ·have eM : stM num s = num := by unfold stM; rw [show (-s).toNat = 0 from by omega, Nat.pow_zero, Nat.mul_one]
  obtain ⟨k, hk⟩ : ∃ k : Nat, s = k := ⟨s.toNat, by omega⟩
  have eD : stD den s = den * 10 ^ k := by unfold stD; rw [show s.toNat = k from by omega]
  rw [eM, eD]
  obtain ⟨E, hE⟩ := hasD_ex (2 * num) (by omega)
  obtain ⟨D, hD⟩ := hasD_ex den hd
  have hEB := hasD_lt2 hE h2m
  have hDB := hasD_lt2 hD hdl
  have hD1 := rDigitsG_ok (digs (2 * num)) E (by omega) (digs_ok _).1 (by rw [(digs_ok _).2.2]; exact hE) (by rw [(digs_ok _).2.2]; have := bl_lt h2m; omega) (by omega)
  have hD2 := rDigitsG_ok (digs den) D (by omega) (digs_ok _).1 (by rw [(digs_ok _).2.2]; exact hD) (by rw [(digs_ok _).2.2]; have := bl_lt hdl; omega) (by omega)
  have g0 : ¬ (0 : Int) ≤ -s := by omega
  have w3 : IntKind.i64.wrap ((D : Int) - -s) = (D : Int) + k := by rw [wrap_i64] <;> omega
  have w4 : IntKind.i64.wrap ((D : Int) + k - 1) = (D : Int) + k - 1 := by rw [wrap_i64] <;> omega
  have w5 : IntKind.i64.wrap (0 - -s) = (k : Int) := by rw [wrap_i64] <;> omega
  have hp : 0 < 10 ^ k := Nat.pow_pos (by decide)
  by_cases hsm : (E : Int) < (D : Int) + k - 1
  ·have hz : 2 * num < den * 10 ^ k := by
    have h1 : 10 ^ (D - 1 + k) ≤ den * 10 ^ k := by rw [Nat.pow_add]; exact Nat.mul_le_mul_right _ hD.2.1
    have h2 : 10 ^ E ≤ 10 ^ (D - 1 + k) := Nat.pow_le_pow_right (by decide) (by have := hD.1; omega)
    have := hE.2.2
    omega
   rw [Nat.div_eq_of_lt hz, Nat.mod_eq_of_lt hz, decide_eq_true (show 2 * num ≠ 0 by omega)]
   rw [show partV (0 / 2) (decide (0 % 2 = 1)) true = .agg [.sl 1 [], .bool false, .bool true] from rfl]
   unfold realQ
   obtain ⟨A, hA⟩ : ∃ M, M = digs num := ⟨_, rfl⟩
   obtain ⟨A2, hA2⟩ : ∃ M, M = digs (2 * num) := ⟨_, rfl⟩
   obtain ⟨O, hO⟩ : ∃ O, O = digs den := ⟨_, rfl⟩
   rw [← hA, ← hA2] at hL
   rw [← hA2] at hD1
   rw [← hO] at hD2
   rw [← hA, ← hO]
   obtain ⟨q, hq⟩ : ∃ q : Int, q = -s := ⟨_, rfl⟩
   rw [← hq] at w2 w3 w5 g0
   clear hA hA2 hO tail hz hp w5 eM eD
   refine FnOk.of Tryz.func90 rfl rfl fun cx w0 => ?_
   rw [show Tryz.f90.ntmps = 81 from rfl]
   refine zs0 ?_
   refine zs1 (an Int.one_mul <| an w1' <| w2) ?_
   refine zd2 [] (ρ := fun _ => [.v true (words A2)]) (o := by repeat' first|exact hL|trivial|constructor) (k := ?_)
   refine Holds.seq ?_
   refine Holds.block ?_
   refine zs1 g0 ?_
   refine Holds.condF rfl ?_
   refine zs3 (ρ := fun d => if d = 40 then [.v true (.int .i64 E)] else [.v true (.int .i64 D)]) (an w3 <| an w4 <| hsm) (o := by repeat' first|exact hD1|exact hD2|trivial|constructor) (k := ?_)
   refine Holds.condT rfl ?_
   refine zs0 ?_
   exact Holds.ret (RetOk.vs rfl (by exact ⟨⟨rfl, id⟩, trivial⟩) rfl)
  ·have hT := rTen_ok k (by omega)
   have hTl := ten_len (k := k)
   have hM := rMul_ok (digs den) (digs (10 ^ k)) (by omega) (by omega) (digs_ok _).1 (digs_ok _).1
   rw [(digs_ok den).2.2, (digs_ok (10 ^ k)).2.2] at hM
   have hDl : (digs (den * 10 ^ k)).length ≤ 900 := by
    have h3 : den * 10 ^ k < 2 ^ (B + (4 * k + 1)) := by rw [Nat.pow_add]; exact Nat.mul_lt_mul_of_lt_of_lt hdl (ten_lt _)
    exact digs_lenB h3 (by omega)
   obtain ⟨P, Z, N, b, z, c1, c2, c3, c4, c5, c6, c7⟩ := tail (2 * num) (den * 10 ^ k) 1 (by omega) (Nat.mul_pos hd hp) h2m hDl
   rw [← c6, ← c7]
   unfold partV realQ
   rw [← c5]
   obtain ⟨A, hA⟩ : ∃ M, M = digs num := ⟨_, rfl⟩
   obtain ⟨A2, hA2⟩ : ∃ M, M = digs (2 * num) := ⟨_, rfl⟩
   obtain ⟨T, hT'⟩ : ∃ T, T = digs (10 ^ k) := ⟨_, rfl⟩
   obtain ⟨M, hM'⟩ : ∃ T, T = digs (den * 10 ^ k) := ⟨_, rfl⟩
   obtain ⟨O, hO⟩ : ∃ O, O = digs den := ⟨_, rfl⟩
   rw [← hA, ← hA2] at hL
   rw [← hO, ← hT', ← hM'] at hM
   rw [← hT'] at hT
   rw [← hA2] at hD1
   rw [← hO] at hD2
   rw [← hA2, ← hM'] at c1
   rw [← hA, ← hO]
   obtain ⟨q, hq⟩ : ∃ q : Int, q = -s := ⟨_, rfl⟩
   rw [← hq] at w2 w3 w5 g0
   clear hA hA2 hT' hM' hO tail c5 c6 c7 eM eD
   refine FnOk.of Tryz.func90 rfl rfl fun cx w0 => ?_
   rw [show Tryz.f90.ntmps = 81 from rfl]
   refine zs0 ?_
   refine zs1 (an Int.one_mul <| an w1' <| w2) ?_
   refine zd2 [] (ρ := fun _ => [.v true (words A2)]) (o := by repeat' first|exact hL|trivial|constructor) (k := ?_)
   refine Holds.seq ?_
   refine Holds.block ?_
   refine zs1 g0 ?_
   refine Holds.condF rfl ?_
   refine zs3 (ρ := fun d => if d = 40 then [.v true (.int .i64 E)] else [.v true (.int .i64 D)]) (an w3 <| an w4 <| hsm) (o := by repeat' first|exact hD1|exact hD2|trivial|constructor) (k := ?_)
   refine Holds.condF rfl ?_
   refine zr3 (ρ := fun d => if d = 29 then [.v true (words T)] else [.v true (words M)]) w5 (o := by repeat' first|exact hT|exact hM|trivial|constructor) (k := ?_)
   show Holds _ _ _ _ _ _ _
   refine zs2 (ρ := fun _ => [.v true (words P), .v true (words Z)]) (o := by repeat' first|exact c1|trivial|constructor) (k := ?_)
   refine zs2 (ρ := fun _ => [.v true (.bool z)]) (o := by repeat' first|exact c2|trivial|constructor) (k := ?_)
   refine Holds.seq ?_
   refine zs0 ?_
   refine Holds.condF rfl (Holds.skip ?_)
   refine zs2 (ρ := fun d => if d = 75 then [.v true (words N)] else [.v true (.bool b)]) (o := by repeat' first|exact c3|exact c4|trivial|constructor) (k := ?_)
   exact Holds.ret (RetOk.vs rfl (by exact ⟨⟨rfl, id⟩, trivial⟩) rfl)
theorem st_round {r : Nat} {neg : Bool} {num den : Nat} {s : Int} (hd : 0 < den) : rrN r neg (2 * stM num s / stD den s / 2) (decide (2 * stM num s / stD den s % 2 = 1)) (decide (2 * stM num s % stD den s ≠ 0)) = upN r neg (ctA num den s) (cxA num den s) ∧
 (decide (2 * stM num s / stD den s % 2 = 1) = false ∧ decide (2 * stM num s % stD den s ≠ 0) = false ↔ cxA num den s = 0) := by
 have h := rr_eq (r := r) (neg := neg) (m := stM num s) (d := stD den s) (Nat.mul_pos hd (Nat.pow_pos (by decide)))
 refine ⟨h.1, h.2.trans ?_⟩
 unfold cxA
 exact rstN_zero.symm
structure FlOne (k P : Int) (neg : Bool) (e : Int) (l : List Int) (K p : Nat) (m : Nat) (ex u : Int) (n : Nat) (a : Int) : Prop where
 hk : k = ((K + 1 : Nat) : Int)
 hp : P = (p : Int)
 cn : cnV 1 neg e (val l) = fltV 1 neg ex m
 sh : ShH K p m ex u n a
 tr : trN m = 0
 ho : hoI K p ex m = true
theorem flOne {k P : Int} {okr neg : Bool} {e : Int} {l : List Int} (h : nuE k P okr 1 neg e l = 0) : ∃ K p m ex u n a, FlOne k P neg e l K p m ex u n a := by
 obtain ⟨hf, _, _, hc, hh⟩ := nu_one h
 have hh := hh rfl
 obtain ⟨h1, _, h3⟩ := cn_one hc
 obtain ⟨v0, e1, e2, e3⟩ := h3 rfl
 obtain ⟨⟨f1, f2⟩, f3, f4⟩ := hf
 have hm : 0 < cnM 1 e (val l) := by
  rw [e2]
  obtain ⟨c, hc⟩ := trN_ok v0
  exact Nat.div_pos (by
   have : 2 ^ trN (val l) * 1 ≤ val l := by
    conv => rhs; rw [hc]
    rw [Nat.mul_comm]
    exact Nat.mul_le_mul_right _ (by omega)
   omega) (Nat.pow_pos (by decide))
 obtain ⟨u, n, a, hs⟩ := hoI_sh (K := (k - 1).toNat) (p := P.toNat) (by omega) (by omega) hh hm
 refine ⟨(k - 1).toNat, P.toNat, cnM 1 e (val l), cnE 1 e (val l), u, n, a, by omega, by omega, ?_, hs, ?_, hh⟩
 ·unfold cnV
  rw [← h1.1 rfl, e3]
 ·rw [e2]
  obtain ⟨c, hc⟩ := trN_ok v0
  have hp : 0 < 2 ^ trN (val l) := Nat.pow_pos (by decide)
  exact trN_of (c := c) (by rw [Nat.div_eq_of_eq_mul_left hp hc, Nat.pow_zero, Nat.mul_one])
theorem fi_one {k P : Int} {okr neg : Bool} {kd e : Int} {l : List Int} (h : fiE k P okr kd neg e l = 0) : nuE k P okr kd neg e l = 0 ∧ kd = 1 := by
 unfold fiE at h
 split at h
 ·next h1 => exact absurd h h1
 ·next h1 =>
  split at h
  ·cases h
  ·next h2 => exact ⟨Classical.not_not.1 h1, Classical.not_not.1 h2⟩
theorem pDigits_err (k P r kd e n : Int) (neg : Bool) (l : List Int) (hl : l.length < 5000) (ol : okW l) (he : -9223372036854775808 ≤ e ∧ e < 9223372036854775808) (hE : fiE k P (decide (0 ≤ r ∧ r ≤ 4) && !outB n 1 1200) kd neg e l ≠ 0) :
 FnOk Tryz.prog 30 [.v (fmtV k P), .v (.int .i64 r), .v (fltW kd neg e l), .v (.int .i64 n)] [.v true (.str ⟨#[]⟩), .v true (.int .i64 0), .v true (.bool false), .v true (.int .i64 (fiE k P (decide (0 ≤ r ∧ r ≤ 4) && !outB n 1 1200) kd neg e l))] := by
 have hN := finite_ok k P r (outB n 1 1200) kd neg e l hl ol he
 unfold fiV at hN
 rw [if_neg hE] at hN
 exact Digits_gen k P r kd e 0 0 _ 0 n neg false false _ [] _ hN (fun _ => ⟨rfl, rfl, rfl⟩) (fun h => absurd h hE)
theorem okr_of {r n lo hi : Int} (h : (decide (0 ≤ r ∧ r ≤ 4) && !outB n lo hi) = true) : (0 ≤ r ∧ r ≤ 4) ∧ lo ≤ n ∧ n ≤ hi := by
 rw [Bool.and_eq_true, decide_eq_true_eq, Bool.not_eq_true'] at h
 obtain ⟨h1, h2⟩ := h
 have := of_decide_eq_false h2
 exact ⟨h1, by omega, by omega⟩
theorem pDigits_ok (k P : Int) (r n : Nat) (e : Int) (neg : Bool) (l : List Int) (hl : l.length < 5000) (ol : okW l) (he : -9223372036854775808 ≤ e ∧ e < 9223372036854775808) {K p m n' : Nat} {ex u a : Int} (hr : r ≤ 4) (hn : 1 ≤ n ∧ n ≤ 1200)
 (hE : fiE k P (decide ((0 : Int) ≤ r ∧ (r : Int) ≤ 4) && !outB n 1 1200) 1 neg e l = 0) (h1 : FlOne k P neg e l K p m ex u n' a) :
 FnOk Tryz.prog 30 [.v (fmtV k P), .v (.int .i64 r), .v (fltW 1 neg e l), .v (.int .i64 n)] [.v true (.str (bs (rdL r neg m ex a n))), .v true (.int .i64 (rdE r neg m ex a n)), .v true (.bool (decide (cxA (fNum m ex) (fDen ex) (a - n + 1) = 0))), .v true (.int .i64 0)] := by
 have hN := finite_ok k P r (outB n 1 1200) 1 neg e l hl ol he
 unfold fiV at hN
 rw [if_pos hE, hE, h1.cn] at hN
 have hR := rounded_ok r hr neg m ex a n h1.sh.fl hn h1.sh.hA
 exact Digits_gen k P r 1 e 1 ex 0 _ n neg neg _ _ _ _ hN (fun h => absurd rfl h) (fun _ => hR)
theorem dec_len {k B : Nat} (h : k < 2 ^ B) (hB : 1 ≤ B) : (decG k).length ≤ B := by
 rcases Nat.eq_zero_or_pos k with h0 | h0
 ·rw [h0]; exact hB
 ·obtain ⟨D, hD⟩ := hasD_ex k h0
  rw [decG_len hD]
  exact hasD_lt2 hD h
def txR (z : Bool) (k w : Nat) : List Nat := if z = true then tdL k w else fxL k w
theorem txR_0 (z : Bool) (w : Nat) : txR z 0 w = [] := by unfold txR; split <;> rfl
theorem txR_s {z : Bool} {k w : Nat} (hk : 0 < k) (h : z = true → w ≠ 0) : txR z k w = (48 + w % 10) :: txR z (k - 1) (w / 10) := by
 unfold txR
 cases z with
 | true => rw [if_pos rfl, if_pos rfl, tdL_s hk (h rfl)]
 | false =>
   obtain ⟨j, rfl⟩ : ∃ j, k = j + 1 := ⟨k - 1, by omega⟩
   rw [if_neg (by simp), if_neg (by simp), fxL]
   rfl
theorem txR_z (k : Nat) : txR true k 0 = [] := by unfold txR; rw [if_pos rfl, tdL_0]
set_option maxHeartbeats 1000000 in
theorem txt_body {cx : Cx} {w0 : World} {i w : Nat} {Q T : List Int} {l : List Nat} (hi : i < 19) (hw : w < 10000000000000000000) (hll : l.length < 900000) {Q' : Exit → St → Prop}
 (hq : ∀ σ, (∀ a w', Rel cx w0 σ a w' → Rel cx w0 { nt := 73, env := [(8, .v true (.int .i64 (i + 1 : Nat))), (7, .v true (.int .u64 (w / 10 : Nat))), (5, .v true (words Q)), (4, .v true (words T)), (3, dsA (l ++ [48 + w % 10]))], mem := dsB (l ++ [48 + w % 10]) } a w') → Q' .normal σ) :
 Holds Tryz.prog none cx w0 (codeAt Tryz.f73 [1, 1, 1, 1, 0, 0, 0, 0, 1, 1, 0, 1, 0, 0, 1]) { nt := 73, env := [(8, .v true (.int .i64 i)), (7, .v true (.int .u64 w)), (5, .v true (words Q)), (4, .v true (words T)), (3, dsA l)], mem := dsB l } Q' := by
 have r1 : (w : Int).tmod 10 = ((w % 10 : Nat) : Int) := remN w 10
 have q1 : (w : Int).tdiv 10 = ((w / 10 : Nat) : Int) := quoN w 10
 have q2 : IntKind.u64.wrap ((w / 10 : Nat) : Int) = ((w / 10 : Nat) : Int) := by rw [wrap_u64]; omega
 have r2 : IntKind.u8.wrap ((w % 10 : Nat) : Int) = ((w % 10 : Nat) : Int) := by rw [wrap_u8]; omega
 have r3 : IntKind.u8.wrap (48 + ((w % 10 : Nat) : Int)) = ((48 + w % 10 : Nat) : Int) := by rw [wrap_u8]; omega
 have wk : IntKind.i64.wrap ((i : Int) + 1) = ((i + 1 : Nat) : Int) := by rw [wrap_i64] <;> omega
 have hXs := dsV_s l (48 + w % 10)
 obtain ⟨m1, hm1⟩ : ∃ m1, m1 = w / 10 := ⟨_, rfl⟩
 rw [← hm1] at q1 q2 hq
 obtain ⟨d, hd⟩ : ∃ d, d = 48 + w % 10 := ⟨_, rfl⟩
 rw [← hd] at r3 hXs hq
 obtain ⟨c, hc⟩ : ∃ c, c = w % 10 := ⟨_, rfl⟩
 rw [← hc] at r1 r2 r3
 have hXl := dsV_len l
 clear hm1 hd hc
 refine Holds.next (fun σ => ∀ a w', Rel cx w0 σ a w' → Rel cx w0 { nt := 73, env := [(8, .v true (.int .i64 i)), (7, .v true (.int .u64 m1)), (5, .v true (words Q)), (4, .v true (words T)), (3, dsA (l ++ [d]))], mem := dsB (l ++ [d]) } a w') ?_ ?_
 ·refine Holds.blockN ?_
  have hA : dsA (l ++ [d]) = .own 300 0 (l.length + 1) := by rw [dsA_c (by simp)]; simp
  have hBb : dsB (l ++ [d]) = [(300, .buf 5 1 true (dsV l ++ [.int .u8 d]))] := by rw [dsB_c (by simp), hXs]
  rw [hA, hBb]
  clear hq
  by_cases hne : l = []
  ·subst hne
   rw [dsA_n, dsB_n]
   refine zs1 (an r1 <| an r2 <| r3) ?_
   refine zr1 (an q1 <| q2) ?_
   intro a w h
   exact Rel.ren (s := 41) (s' := 300) (Rel.keep [8, 7, 5, 4, 3] [41] h) (by decide) rfl rfl
  ·rw [dsA_c hne, dsB_c hne]
   refine zs1 (an r1 <| an r2 <| an r3 <| hXl) ?_
   refine zr1 (an q1 <| q2) ?_
   intro a w h
   exact Rel.ren (s := 41) (s' := 300) (Rel.keep [8, 7, 5, 4, 3] [41] h) (by decide) rfl rfl
 ·intro σ hσ
  refine Holds.from hσ ?_
  clear hXs hXl r1 r2 r3 q1 q2 hσ
  refine zr1 wk ?_
  exact hq _ (fun a w h => Rel.less [8, 7, 5, 4, 3] (fun _ => rfl) h)
set_option maxHeartbeats 1000000 in
theorem txt_inner {cx : Cx} {w0 : World} {z : Bool} {Q T : List Int} {l : List Nat} {w : Nat} (hw : w < 10 ^ 19) (hll : l.length < 800000) (hZ : FnOk Tryz.prog 95 [.v (words Q)] [.v true (.bool z)]) {N' : St → Prop} :
 Holds Tryz.prog none cx w0 (codeAt Tryz.f73 [1, 1, 1, 1, 0, 0, 0, 0, 1, 1, 0, 1]) { nt := 73, env := [(8, .v true (.int .i64 0)), (7, .v true (.int .u64 w)), (5, .v true (words Q)), (4, .v true (words T)), (3, dsA l)], mem := dsB l }
  (NR (fun σ => ∀ a w', Rel cx w0 σ a w' → Rel cx w0 { nt := 73, env := [(5, .v true (words Q)), (4, .v true (words T)), (3, dsA (l ++ txR z 19 w))], mem := dsB (l ++ txR z 19 w) } a w') N') := by
 obtain ⟨L, hL⟩ : ∃ L, L = l ++ txR z 19 w := ⟨_, rfl⟩
 rw [← hL]
 refine Holds.loopB (fun q : Nat × Nat × List Nat => { nt := 73, env := [(8, .v true (.int .i64 q.1)), (7, .v true (.int .u64 q.2.1)), (5, .v true (words Q)), (4, .v true (words T)), (3, dsA q.2.2)], mem := dsB q.2.2 }) (fun q => q.1 ≤ 19 ∧ q.2.1 < 10 ^ (19 - q.1) ∧ q.2.2 ++ txR z (19 - q.1) q.2.1 = L ∧ q.2.2.length = l.length + q.1) (fun q => 19 - q.1) (0, w, l) ⟨Nat.zero_le _, hw, hL.symm, rfl⟩ (fun a w h => Rel.less [8, 7, 5, 4, 3] (fun _ => rfl) h) ?_
 rintro ⟨i, v, k⟩ ⟨hi, hv, hk, hlen⟩
 simp only at hi hv hk hlen
 show Holds _ _ _ _ _ { nt := 73, env := [(8, .v true (.int .i64 i)), (7, .v true (.int .u64 v)), (5, .v true (words Q)), (4, .v true (words T)), (3, dsA k)], mem := dsB k } _
 by_cases h19 : i = 19
 ·subst h19
  rw [Nat.sub_self, txR_0, List.append_nil] at hk
  have g : ¬ ((19 : Nat) : Int) < 19 := by omega
  refine Holds.seq ?_
  refine zs0 ?_
  refine Holds.condF rfl (Holds.exit ⟨rfl, fun a w h => ?_⟩)
  rw [← hk]
  exact Rel.less [5, 4, 3] (fun _ => rfl) h
 have g : (i : Int) < 19 := by omega
 have hvb : v < 10000000000000000000 := Nat.lt_of_lt_of_le hv (Nat.pow_le_pow_right (by decide) (Nat.sub_le 19 i))
 have next : (z = true → v ≠ 0) → ∀ σ, (∀ a w', Rel cx w0 σ a w' → Rel cx w0 { nt := 73, env := [(8, .v true (.int .i64 (i + 1 : Nat))), (7, .v true (.int .u64 (v / 10 : Nat))), (5, .v true (words Q)), (4, .v true (words T)), (3, dsA (k ++ [48 + v % 10]))], mem := dsB (k ++ [48 + v % 10]) } a w') →
  roundQ (fun q : Nat × Nat × List Nat => { nt := 73, env := [(8, .v true (.int .i64 q.1)), (7, .v true (.int .u64 q.2.1)), (5, .v true (words Q)), (4, .v true (words T)), (3, dsA q.2.2)], mem := dsB q.2.2 }) (fun q => q.1 ≤ 19 ∧ q.2.1 < 10 ^ (19 - q.1) ∧ q.2.2 ++ txR z (19 - q.1) q.2.1 = L ∧ q.2.2.length = l.length + q.1) (fun q => 19 - q.1) (i, v, k) cx w0 2 (fun σ => ∀ a w', Rel cx w0 σ a w' → Rel cx w0 { nt := 73, env := [(5, .v true (words Q)), (4, .v true (words T)), (3, dsA L)], mem := dsB L } a w') N' .normal σ := fun h0 σ hσ => by
  refine ⟨(i + 1, v / 10, k ++ [48 + v % 10]), ⟨by show i + 1 ≤ 19; omega, ?_, ?_, ?_⟩, (show 19 - (i + 1) < 19 - i by omega), hσ⟩
  ·show v / 10 < 10 ^ (19 - (i + 1))
   rw [show 19 - i = (19 - (i + 1)) + 1 from by omega, Nat.pow_succ] at hv
   exact Nat.div_lt_of_lt_mul (by omega)
  ·show (k ++ [48 + v % 10]) ++ txR z (19 - (i + 1)) (v / 10) = L
   rw [← hk, txR_s (by omega) h0, List.append_assoc]
   rfl
  ·show (k ++ [48 + v % 10]).length = l.length + (i + 1)
   simp only [List.length_append, List.length_cons, List.length_nil]
   omega
 rcases Nat.eq_zero_or_pos v with h0 | h0
 ·cases z with
  | true =>
    subst h0
    rw [txR_z, List.append_nil] at hk
    clear next
    refine Holds.seq ?_
    refine zs3 (ρ := fun _ => [.v true (.bool true)]) g (o := by repeat' first|exact hZ|trivial|constructor) (k := ?_)
    refine Holds.condF rfl (Holds.exit ⟨rfl, fun a w h => ?_⟩)
    rw [← hk]
    exact Rel.less [5, 4, 3] (fun _ => rfl) h
  | false =>
    have g2 : ¬ (0 : Int) < v := by omega
    have hb := txt_body (cx := cx) (w0 := w0) (Q := Q) (T := T) (show i < 19 by omega) hvb (show k.length < 900000 by omega) (next (fun h => by cases h))
    clear next hk hv
    refine Holds.seq ?_
    refine zs3 (ρ := fun _ => [.v true (.bool false)]) (an g <| g2) (o := by repeat' first|exact hZ|trivial|constructor) (k := ?_)
    refine Holds.condT rfl (Holds.skip ?_)
    exact Holds.from (fun a w h => Rel.less [8, 7, 5, 4, 3] (fun _ => rfl) h) hb
 ·have g2 : (0 : Int) < v := by omega
  have hb := txt_body (cx := cx) (w0 := w0) (Q := Q) (T := T) (show i < 19 by omega) hvb (show k.length < 900000 by omega) (next (fun _ => by omega))
  clear next hk hv
  refine Holds.seq ?_
  refine zs1 (an g <| g2) ?_
  refine Holds.condT rfl (Holds.skip ?_)
  exact Holds.from (fun a w h => Rel.less [8, 7, 5, 4, 3] (fun _ => rfl) h) hb
theorem IsZero_digs (n : Nat) (h : (digs n).length < 100000) : FnOk Tryz.prog 95 [.v (words (digs n))] [.v true (.bool (decide (n = 0)))] := by
 have := IsZero_ok (digs n) (by omega) (digs_ok n).1
 rw [(digs_ok n).2.2] at this
 exact this
set_option maxHeartbeats 2000000 in
theorem nTextG_ok (n : Nat) (hn : (digs n).length ≤ 1000) : FnOk Tryz.prog 73 [.v (words (digs n))] [.v true (.str (bs (decG n)))] := by
 have hu : u8T Tryz.prog 102 = true := by kernel_rfl
 have hZ := IsZero_digs n (by omega)
 by_cases hn0 : n = 0
 ·rw [decide_eq_true hn0] at hZ
  have e : bs (decG n) = ⟨#[48]⟩ := by rw [hn0]; rfl
  rw [e]
  obtain ⟨X, hX⟩ : ∃ X, X = digs n := ⟨_, rfl⟩
  rw [← hX] at hZ ⊢
  refine FnOk.of Tryz.func73 rfl rfl fun cx w0 => ?_
  rw [show Tryz.f73.ntmps = 73 from rfl]
  refine zs0 ?_
  refine Holds.seq ?_
  refine zs2 (ρ := fun _ => [.v true (.bool true)]) (o := by repeat' first|exact hZ|trivial|constructor) (k := ?_)
  refine Holds.condT rfl ?_
  refine zs0 ?_
  exact Holds.ret (RetOk.vs rfl (by exact ⟨⟨rfl, id⟩, trivial⟩) rfl)
 rw [decide_eq_false hn0] at hZ
 have hLen : (decG n).length ≤ 64000 := by
  have h1 := val_lt (digs_ok n).1
  rw [(digs_ok n).2.2, B_pow] at h1
  obtain ⟨c, hc⟩ : ∃ c, c = 64000 := ⟨_, rfl⟩
  rw [← hc]
  exact dec_len (Nat.lt_of_lt_of_le h1 (Nat.pow_le_pow_right (by decide) (by omega))) (by omega)
 have e : decG n = (tdL n n).reverse.map UInt8.ofNat := if_neg hn0
 have hLl : (tdL n n).length ≤ 64000 := by rw [e] at hLen; simpa using hLen
 have hdg := tdL_dg n n
 have hLne : tdL n n ≠ [] := by rw [tdL_s (by omega) hn0]; simp
 rw [show bs (decG n) = ⟨((tdL n n).reverse.map UInt8.ofNat).toArray⟩ from by rw [e]]
 obtain ⟨L, hL⟩ : ∃ L, L = tdL n n := ⟨_, rfl⟩
 rw [← hL] at hdg hLne hLl ⊢
 have hW := FromWord_ok 10000000000000000000 (by decide)
 have hlen2 := digs_len (v := 10000000000000000000) (m := 1) (by decide)
 have hT1 : (10000000000000000000 : Nat) = 10 ^ 19 := by decide
 have hDM : ∀ x, x ≤ n → FnOk Tryz.prog 147 [.v (words (digs x)), .v (words (digs 10000000000000000000))] [.v true (words (digs (x / 10 ^ 19))), .v true (words (digs (x % 10 ^ 19)))] := fun x hx => by
  have := digs_mono hx
  have := rDivMod_ok (digs x) (digs 10000000000000000000) (by omega) (by omega) (digs_ok _).1 (digs_ok _).1 (by rw [(digs_ok _).2.2]; decide)
  rw [(digs_ok _).2.2, (digs_ok _).2.2, hT1] at this
  rw [hT1]
  exact this
 obtain ⟨T, hT⟩ : ∃ T, T = digs 10000000000000000000 := ⟨_, rfl⟩
 rw [← hT] at hW hDM
 clear hT hlen2 e hLen
 have hsmall : ∀ x, x ≤ n → (digs x).length ≤ 1000 := fun x hx => Nat.le_trans (digs_mono hx) hn
 have hstart : [] ++ tdL n n = L := hL.symm
 have hnx : n < 10 ^ n := lt_ten_pow n
 refine FnOk.of Tryz.func73 rfl rfl fun cx w0 => ?_
 rw [show Tryz.f73.ntmps = 73 from rfl]
 obtain ⟨X, hX⟩ : ∃ X, X = digs n := ⟨_, rfl⟩
 have hXe : words X = words (digs n) := by rw [hX]
 rw [← hX] at hZ ⊢
 refine zs0 ?_
 refine Holds.seq ?_
 refine zs2 (ρ := fun _ => [.v true (.bool false)]) (o := by repeat' first|exact hZ|trivial|constructor) (k := ?_)
 refine Holds.condF rfl (Holds.skip ?_)
 refine zs0 ?_
 refine zs2 (ρ := fun _ => [.v true (words T)]) (o := by repeat' first|exact hW|trivial|constructor) (k := ?_)
 refine Holds.next (fun σ => ∀ a w, Rel cx w0 σ a w → Rel cx w0 { nt := 73, env := [(3, dsA L)], mem := dsB L } a w) ?_ ?_
 ·refine Holds.loopB (fun q : Bool × Nat × List Nat => { nt := 73, env := [(4, .v true (words T)), (3, dsA q.2.2), (0, .v q.1 (words (digs q.2.1)))], mem := dsB q.2.2 }) (fun q => q.2.1 ≠ 0 ∧ q.2.1 ≤ n ∧ q.2.2 ++ tdL n q.2.1 = L) (fun q => q.2.1) (false, n, []) ⟨hn0, Nat.le_refl _, hstart⟩ (fun a w h => by rw [← hXe]; exact Rel.keep [4, 3, 0] [] h) ?_
  rintro ⟨b, x, l⟩ ⟨hx0, hxn, hl⟩
  simp only at hx0 hxn hl
  show Holds _ _ _ _ _ { nt := 73, env := [(4, .v true (words T)), (3, dsA l), (0, .v b (words (digs x)))], mem := dsB l } _
  have hD := hDM x hxn
  have hr : x % 10 ^ 19 < 10 ^ 19 := Nat.mod_lt _ (by decide)
  have hWd := word0_ok (x % 10 ^ 19) (by omega)
  have hql : x / 10 ^ 19 ≤ n := Nat.le_trans (Nat.div_le_self _ _) hxn
  have hZq := IsZero_digs (x / 10 ^ 19) (by have := hsmall _ hql; omega)
  have hll : l.length ≤ 64000 := by
   have := congrArg List.length hl
   rw [List.length_append] at this
   omega
  have hlt : x / 10 ^ 19 < x := Nat.div_lt_self (by omega) (by decide)
  have hin := txt_inner (cx := cx) (w0 := w0) (z := decide (x / 10 ^ 19 = 0)) (Q := digs (x / 10 ^ 19)) (T := T) (l := l) hr (by omega) hZq (N' := fun _ => False)
  have hfin : (x / 10 ^ 19 = 0 → l ++ txR (decide (x / 10 ^ 19 = 0)) 19 (x % 10 ^ 19) = L) ∧ (x / 10 ^ 19 ≠ 0 → (l ++ txR (decide (x / 10 ^ 19 = 0)) 19 (x % 10 ^ 19)) ++ tdL n (x / 10 ^ 19) = L) := by
   constructor
   ·intro h
    have hx19 : x < 10 ^ 19 := by
     rcases Nat.lt_or_ge x (10 ^ 19) with h1 | h1
     ·exact h1
     ·have := Nat.div_pos h1 (by decide); omega
    rw [decide_eq_true h, txR, if_pos rfl, Nat.mod_eq_of_lt hx19, tdL_any hx19 (Nat.lt_of_le_of_lt hxn hnx)]
    exact hl
   ·intro h
    have hx19 : 10 ^ 19 ≤ x := by
     rcases Nat.lt_or_ge x (10 ^ 19) with h1 | h1
     ·exact absurd (Nat.div_eq_of_lt h1) h
     ·exact h1
    rw [decide_eq_false h, txR, if_neg (by simp), List.append_assoc]
    have h2 := tdL_split 19 n x hx19
    rw [fxL_mod] at h2 ⊢
    rw [← h2, ← hl]
    congr 1
    exact tdL_any (Nat.lt_of_lt_of_le (Nat.lt_of_le_of_lt hxn hnx) (Nat.pow_le_pow_right (by decide) (by omega))) (Nat.lt_of_le_of_lt hxn hnx)
  obtain ⟨l', hl'⟩ : ∃ l', l' = l ++ txR (decide (x / 10 ^ 19 = 0)) 19 (x % 10 ^ 19) := ⟨_, rfl⟩
  rw [← hl'] at hin hfin
  obtain ⟨q, hq⟩ : ∃ q, q = x / 10 ^ 19 := ⟨_, rfl⟩
  rw [← hq] at hD hZq hin hfin hlt hql
  obtain ⟨r, hrr⟩ : ∃ q, q = x % 10 ^ 19 := ⟨_, rfl⟩
  rw [← hrr] at hD hWd hin
  obtain ⟨A, hA⟩ : ∃ A, A = digs x := ⟨_, rfl⟩
  obtain ⟨R, hR⟩ : ∃ A, A = digs r := ⟨_, rfl⟩
  rw [← hA, ← hR] at hD
  rw [← hR] at hWd
  rw [← hA]
  have hback : ∀ (a : Act) (w : World) (σ : St), Rel cx w0 σ a w → Rel cx w0 σ a w := fun _ _ _ h => h
  obtain ⟨Q, hQ⟩ : ∃ A, A = digs q := ⟨_, rfl⟩
  rw [← hQ] at hD hZq hin
  clear hl' hl hrr hr hA hR hback
  refine Holds.block ?_
  refine zs2 (ρ := fun _ => [.v true (words Q), .v true (words R)]) (o := by repeat' first|exact hD|trivial|constructor) (k := ?_)
  refine zs2 (ρ := fun _ => [.v true (.int .u64 r)]) (o := by repeat' first|exact hWd|trivial|constructor) (k := ?_)
  refine Holds.next (fun σ => ∀ a w, Rel cx w0 σ a w → Rel cx w0 { nt := 73, env := [(5, .v true (words Q)), (4, .v true (words T)), (3, dsA l')], mem := dsB l' } a w) ?_ ?_
  ·refine zs0 ?_
   refine Holds.from (σ' := { nt := 73, env := [(8, .v true (.int .i64 0)), (7, .v true (.int .u64 r)), (5, .v true (words Q)), (4, .v true (words T)), (3, dsA l)], mem := dsB l }) (fun a w h => Rel.less [8, 7, 5, 4, 3] (fun _ => rfl) h) (hin.mono fun x σ hx => ?_)
   cases x <;> first | exact hx | exact hx.elim
  ·intro σ hσ
   refine Holds.from hσ ?_
   clear hin hσ
   by_cases hq0 : q = 0
   ·rw [decide_eq_true hq0] at hZq
    refine zs0 ?_
    refine zs2 (ρ := fun _ => [.v true (.bool true)]) (o := by repeat' first|exact hZq|trivial|constructor) (k := ?_)
    refine Holds.condT rfl (Holds.exit (blockQ_other (by decide) ⟨rfl, fun a w h => ?_⟩))
    rw [← hfin.1 hq0]
    exact Rel.less [3] (fun _ => rfl) h
   ·rw [decide_eq_false hq0] at hZq
    refine zs0 ?_
    refine zs2 (ρ := fun _ => [.v true (.bool false)]) (o := by repeat' first|exact hZq|trivial|constructor) (k := ?_)
    refine Holds.condF rfl (Holds.skip ⟨(true, q, l'), ⟨hq0, hql, hfin.2 hq0⟩, hlt, fun a w h => ?_⟩)
    show Rel cx w0 { nt := 73, env := [(4, .v true (words T)), (3, dsA l'), (0, .v true (words (digs q)))], mem := dsB l' } a w
    rw [← hQ]
    exact Rel.less [4, 3, 0] (fun _ => rfl) h
 ·intro σ hσ
  refine Holds.from hσ ?_
  clear hDM hsmall hW hZ hXe hX
  rw [dsA_c hLne, dsB_c hLne]
  have hLp : 0 < L.length := List.length_pos_iff.2 hLne
  clear hL hstart hnx
  obtain ⟨N, hN⟩ : ∃ N, N = L.length := ⟨_, rfl⟩
  rw [← hN] at hLl hLp ⊢
  refine Holds.next (fun σ => ∀ a w, Rel cx w0 σ a w → Rel cx w0 { nt := 73, env := [(3, .own 300 0 N)], mem := [(300, .buf 5 1 true (dsV L.reverse))] } a w) ?_ ?_
  ·have wN : IntKind.i64.wrap ((N : Int) - 1) = ((N - 1 : Nat) : Int) := by rw [wrap_i64] <;> omega
   refine zs1 wN ?_
   refine Holds.loopB (fun i : Nat => { nt := 73, env := [(10, .v true (.int .i64 (N - 1 - i : Nat))), (9, .v true (.int .i64 i)), (3, .own 300 0 N)], mem := [(300, .buf 5 1 true (dsV (rvI L i)))] }) (fun i => 2 * i ≤ N) (fun i => N - i) 0 (Nat.zero_le _) (fun a w h => ?_) ?_
   ·rw [rvI_0]
    exact Rel.keep [10, 9, 3] [300] h
   intro i hi
   by_cases hend : N ≤ 2 * i + 1
   ·have g : ¬ (i : Int) < ((N - 1 - i : Nat) : Int) := by omega
    rw [← rvI_end L i (by omega)]
    obtain ⟨j, hj⟩ : ∃ j, j = N - 1 - i := ⟨_, rfl⟩
    show Holds _ _ _ _ _ { nt := 73, env := [(10, .v true (.int .i64 (N - 1 - i : Nat))), (9, .v true (.int .i64 i)), (3, .own 300 0 N)], mem := [(300, .buf 5 1 true (dsV (rvI L i)))] } _
    rw [← hj] at g ⊢
    refine Holds.seq ?_
    refine zs1 g ?_
    exact Holds.condF rfl (Holds.exit ⟨rfl, fun a w h => Rel.keep [3] [300] h⟩)
   obtain ⟨j, hj⟩ : ∃ j, j = N - 1 - i := ⟨_, rfl⟩
   have hij : i < j := by omega
   have hNj : L.length = i + j + 1 := by omega
   show Holds _ _ _ _ _ { nt := 73, env := [(10, .v true (.int .i64 (N - 1 - i : Nat))), (9, .v true (.int .i64 i)), (3, .own 300 0 N)], mem := [(300, .buf 5 1 true (dsV (rvI L i)))] } _
   have hsw := rvI_s L i j hNj hij
   have h1 : (rvI L i)[i]? = some (L.getD i 0) := by rw [rvI_get L i i (by omega), if_neg (by omega)]
   have h2 : (rvI L i)[j]? = some (L.getD j 0) := by rw [rvI_get L i j (by omega), if_neg (by omega)]
   have h1 := dsV_get h1
   have h2 := dsV_get h2
   have hXl := dsV_len (rvI L i)
   rw [rvI_len] at hXl
   have hY : ((dsV (rvI L i)).set i (.int .u8 (L.getD j 0))).set j (.int .u8 (L.getD i 0)) = dsV (rvI L (i + 1)) := by rw [dsV_set, dsV_set, hsw]
   obtain ⟨x, hx⟩ : ∃ x, x = L.getD i 0 := ⟨_, rfl⟩
   obtain ⟨y, hy⟩ : ∃ y, y = L.getD j 0 := ⟨_, rfl⟩
   rw [← hx] at h1 hY
   rw [← hy] at h2 hY
   obtain ⟨Z, hZ⟩ : ∃ Z, Z = dsV (rvI L i) := ⟨_, rfl⟩
   rw [← hZ] at h1 h2 hXl hY ⊢
   have h3 : (Z.set i (.int .u8 y))[j]? = some (V.int .u8 y) := by rw [List.getElem?_set_ne (by omega)]; exact h2
   have hj' : N - 1 - (i + 1) = j - 1 := by omega
   rw [← hj]
   have g : (i : Int) < (j : Int) := by omega
   have gi : (i : Int) < (N : Int) := by omega
   have gj : (j : Int) < (N : Int) := by omega
   have wj : IntKind.i64.wrap ((j : Int) - 1) = ((j - 1 : Nat) : Int) := by rw [wrap_i64] <;> omega
   refine Holds.seq ?_
   refine zs1 g ?_
   refine Holds.condT rfl (Holds.skip ?_)
   refine Holds.next (fun σ => ∀ a w, Rel cx w0 σ a w → Rel cx w0 { nt := 73, env := [(10, .v true (.int .i64 j)), (9, .v true (.int .i64 i)), (3, .own 300 0 N)], mem := [(300, .buf 5 1 true (dsV (rvI L (i + 1))))] } a w) ?_ ?_
   ·refine Holds.blockN ?_
    rw [← hY]
    refine Holds.dregionM (Px := px) (T := TT) (ρ := fun _ => []) [] mixed (by kernel_rfl) TTe (by simp (maxSteps := 100000) (disch := omega) only [go_sem, V.isAgg, V.flat, ↓reduceIte, Nat.reduceAdd, Nat.reduceSub, Nat.reduceLT, Nat.reduceEqDiff, reduceCtorEq, Nat.reduceLeDiff, Nat.reduceBEq, Nat.reduceMul, Int.reduceToNat, h1, h2, h3, gi, gj, hXl, List.length_set, Nat.zero_add]; rfl) (by repeat' first | exact trivial | constructor) (by rfl) (by rfl) (by rfl) ?_
    exact fun a w h => Rel.keep [10, 9, 3] [300] h
   ·intro σ hσ
    refine Holds.from hσ ?_
    refine zr1 wj ?_
    refine ⟨i + 1, (by show 2 * (i + 1) ≤ N; omega), (show N - (i + 1) < N - i by omega), fun a w h => ?_⟩
    show Rel cx w0 { nt := 73, env := [(10, .v true (.int .i64 (N - 1 - (i + 1) : Nat))), (9, .v true (.int .i64 (i + 1 : Nat))), (3, .own 300 0 N)], mem := [(300, .buf 5 1 true (dsV (rvI L (i + 1))))] } a w
    rw [hj']
    exact Rel.keep [10, 9, 3] [300] h
  ·intro σ hσ
   refine Holds.from hσ ?_
   have hXr := dsV_len L.reverse
   rw [List.length_reverse] at hXr
   have hbv : bytesV (List.take N (dsV L.reverse)) = some (L.reverse.map UInt8.ofNat) := by
    rw [List.take_of_length_le (by rw [dsV_len, List.length_reverse]; omega)]
    exact bytesV_map (fun n hn => by have := hdg n (List.mem_reverse.1 hn); omega)
   refine Holds.step (Px := px) (T := TT) (ρ := fun _ => []) TTe (by simp (maxSteps := 100000) (disch := omega) only [go_sem, V.isAgg, V.flat, ↓reduceIte, Nat.reduceAdd, Nat.reduceSub, Nat.reduceLT, Nat.reduceEqDiff, reduceCtorEq, Nat.reduceLeDiff, Nat.reduceBEq, Nat.reduceMul, Int.reduceToNat, strA, hu, hbv]; rfl) (by repeat' first | exact trivial | constructor) ?_
   exact Holds.ret (RetOk.vs rfl (by exact ⟨⟨rfl, id⟩, trivial⟩) rfl)
theorem oddL_ok (neg : Bool) (e : Int) (l : List Int) (hl : l.length < 9000) (ol : okW l) (he : -4611686018427380000 < e ∧ e < 4611686018427380000) : FnOk Tryz.prog 115 [.v (fltW 1 neg e l)] [.v true (words (digs (val l / 2 ^ trN (val l)))), .v true (.int .i64 (e + trN (val l)))] := by
 obtain ⟨o, hB⟩ := Bits_ok l (by omega) ol
 have htl : trN (val l) ≤ 64 * l.length := by
  rcases Nat.eq_zero_or_pos (val l) with h0 | h0
  ·rw [h0]; exact Nat.zero_le _
  ·have := trN_le (v := val l) (k := 64 * l.length) h0 (val_bl ol)
   omega
 have hR := rRight1_ok l (trN (val l)) (by omega) (by omega) ol
 unfold fltW
 obtain ⟨t, ht⟩ : ∃ t, t = trN (val l) := ⟨_, rfl⟩
 rw [← ht] at hB hR htl ⊢
 obtain ⟨Q, hQ⟩ : ∃ Q, Q = digs (val l / 2 ^ t) := ⟨_, rfl⟩
 rw [← hQ] at hR ⊢
 have w1 : IntKind.i64.wrap (e + (t : Int)) = e + t := by rw [wrap_i64] <;> omega
 clear hQ ht
 refine FnOk.of Tryz.func115 rfl rfl fun cx w0 => ?_
 rw [show Tryz.f115.ntmps = 20 from rfl]
 refine zs0 ?_
 refine zs2 (ρ := fun _ => [.v true (.int .i64 t), .v true (.int .i64 o)]) (o := by repeat' first|exact hB|trivial|constructor) (k := ?_)
 refine zd3 [] (ρ := fun _ => [.v true (words Q)]) w1 (o := by repeat' first|exact hR|trivial|constructor) (k := ?_)
 exact Holds.ret (RetOk.vs rfl (by exact ⟨⟨rfl, id⟩, ⟨rfl, id⟩, trivial⟩) rfl)
theorem fCanonL_ok (neg : Bool) (e : Int) (l : List Int) (hl : l.length < 9000) (ol : okW l) (he : -4611686018427380000 < e ∧ e < 4611686018427380000) : FnOk Tryz.prog 72 [.v (fltW 1 neg e l)] [.v true (fltV 1 neg (e + trN (val l)) (val l / 2 ^ trN (val l)))] := by
 have hO := oddL_ok neg e l hl ol he
 unfold fltV
 unfold fltW at hO ⊢
 obtain ⟨t, ht⟩ : ∃ t, t = e + (trN (val l) : Int) := ⟨_, rfl⟩
 obtain ⟨Q, hQ⟩ : ∃ Q, Q = digs (val l / 2 ^ trN (val l)) := ⟨_, rfl⟩
 rw [← ht, ← hQ] at hO
 rw [← ht, ← hQ]
 clear ht hQ
 refine FnOk.of Tryz.func72 rfl rfl fun cx w0 => ?_
 rw [show Tryz.f72.ntmps = 23 from rfl]
 refine zs0 ?_
 refine Holds.seq ?_
 refine zs0 ?_
 refine Holds.condF rfl (Holds.skip ?_)
 refine zs2 (ρ := fun _ => [.v true (words Q), .v true (.int .i64 t)]) (o := by repeat' first|exact hO|trivial|constructor) (k := ?_)
 refine zs0 ?_
 exact Holds.ret (RetOk.vs rfl (by exact ⟨⟨rfl, id⟩, trivial⟩) rfl)
structure Raw (e : Int) (l : List Int) (m : Nat) (ex : Int) : Prop where
 ll : l.length < 5000
 ol : okW l
 he : -9223372036854775808 ≤ e ∧ e < 9223372036854775808
 em : m = val l / 2 ^ trN (val l)
 ee : ex = e + trN (val l)
theorem Raw.bd {e : Int} {l : List Int} {m : Nat} {ex : Int} (h : Raw e l m ex) (hx : -20000 ≤ ex ∧ ex ≤ 20000) : -4611686018427380000 < e ∧ e < 4611686018427380000 := by
 have h1 := h.ee
 have h2 : trN (val l) ≤ 64 * l.length := by
  rcases Nat.eq_zero_or_pos (val l) with h0 | h0
  ·rw [h0]; exact Nat.zero_le _
  ·have := trN_le (v := val l) (k := 64 * l.length) h0 (val_bl h.ol)
   omega
 have := h.ll
 omega
theorem FlOne.raw {k P : Int} {neg : Bool} {e : Int} {l : List Int} {K p m n : Nat} {ex u a : Int} {okr : Bool} (hE : nuE k P okr 1 neg e l = 0) (h : FlOne k P neg e l K p m ex u n a) (hl : l.length < 5000) (ol : okW l) (he : -9223372036854775808 ≤ e ∧ e < 9223372036854775808) : Raw e l m ex := by
 obtain ⟨_, _, _, hc, _⟩ := nu_one hE
 obtain ⟨_, _, h3⟩ := cn_one hc
 obtain ⟨v0, e1, e2, e3⟩ := h3 rfl
 have hcn := h.cn
 unfold cnV fltV at hcn
 have hinj := V.agg.inj hcn
 simp only [List.cons.injEq] at hinj
 obtain ⟨_, _, h5, h6, _⟩ := hinj
 have hex : cnE 1 e (val l) = ex := by injection h5
 have hmm : cnM 1 e (val l) = m := by
  unfold words at h6
  have h7 := (V.sl.inj h6).2
  have h8 : digs (cnM 1 e (val l)) = digs m := (List.map_inj_right (fun a b hab => by injection hab)).1 h7
  have h9 := congrArg val h8
  rw [(digs_ok _).2.2, (digs_ok _).2.2] at h9
  exact h9
 exact ⟨hl, ol, he, by rw [← hmm, e2], by rw [← hex, e1]⟩
set_option maxHeartbeats 1000000 in
theorem real_ok (neg : Bool) (e : Int) (l : List Int) (m : Nat) (ex : Int) (h : Raw e l m ex) (hB : FlB m ex) : FnOk Tryz.prog 88 [.v (fltW 1 neg e l)] [.v false (realQ false (fNum m ex) (fDen ex))] := by
 have lo := hB.lo
 have hi := hB.hi
 have hC := fCanonL_ok neg e l (by have := h.ll; omega) h.ol (h.bd (by omega))
 rw [← h.em, ← h.ee] at hC
 have lm : (digs m).length ≤ 5 := digs_lenB hB.mB (by omega)
 have d1 : digs 1 = [1] := by decide
 have hW := FromWord_ok 1 (by decide)
 rw [d1] at hW
 have hL1 := Left_ok (digs m) ex.toNat (by omega) (by omega) (digs_ok _).1
 rw [(digs_ok _).2.2] at hL1
 have hL2 := Left_ok (digs 1) (-ex).toNat (by rw [d1]; decide) (by omega) (digs_ok _).1
 rw [(digs_ok _).2.2, Nat.one_mul, d1] at hL2
 have hW : FnOk Tryz.prog 78 [.v (.int .u64 1)] [.v true (words [1])] := hW
 unfold realQ fNum fDen
 unfold fltV fltW words at hC
 unfold fltW
 by_cases h0 : ex < 0
 ·rw [show ex.toNat = 0 from by omega, Nat.pow_zero, Nat.mul_one]
  rw [show (((-ex).toNat : Nat) : Int) = -ex from by omega] at hL2
  obtain ⟨M, hM⟩ : ∃ M, M = digs m := ⟨_, rfl⟩
  obtain ⟨D, hD⟩ : ∃ M, M = digs (2 ^ (-ex).toNat) := ⟨_, rfl⟩
  obtain ⟨O, hO⟩ : ∃ O, O = [(1 : Int)] := ⟨_, rfl⟩
  rw [← hM] at hC
  rw [← hD, ← hO] at hL2
  rw [← hO] at hW
  rw [← hM, ← hD]
  have wn : IntKind.i64.wrap (0 - ex) = -ex := by rw [wrap_i64] <;> omega
  clear hM hD hO h hB
  refine FnOk.of Tryz.func88 rfl rfl fun cx w0 => ?_
  rw [show Tryz.f88.ntmps = 25 from rfl]
  refine zs0 ?_
  refine zs2 (ρ := fun _ => [.v true (.agg [.int .i64 1, .bool neg, .int .i64 ex, .sl 1 (M.map fun n => .int .u64 n)])]) (o := by repeat' first|exact hC|trivial|constructor) (k := ?_)
  refine zs2 (ρ := fun _ => [.v true (words O)]) (o := by repeat' first|exact hW|trivial|constructor) (k := ?_)
  refine Holds.seq ?_
  refine zs1 h0 ?_
  refine Holds.condT rfl ?_
  refine zd3 [] (ρ := fun _ => [.v true (words D)]) wn (o := by repeat' first|exact hL2|trivial|constructor) (k := ?_)
  exact Holds.ret (RetOk.vs rfl (by exact ⟨⟨rfl, by simp⟩, trivial⟩) rfl)
 ·rw [show (-ex).toNat = 0 from by omega, Nat.pow_zero, d1]
  rw [show ((ex.toNat : Nat) : Int) = ex from by omega] at hL1
  obtain ⟨M, hM⟩ : ∃ M, M = digs m := ⟨_, rfl⟩
  obtain ⟨D, hD⟩ : ∃ M, M = digs (m * 2 ^ ex.toNat) := ⟨_, rfl⟩
  obtain ⟨O, hO⟩ : ∃ O, O = [(1 : Int)] := ⟨_, rfl⟩
  rw [← hM] at hC
  rw [← hM, ← hD] at hL1
  rw [← hO] at hW
  rw [← hD, ← hO]
  clear hM hD hO h hB
  refine FnOk.of Tryz.func88 rfl rfl fun cx w0 => ?_
  rw [show Tryz.f88.ntmps = 25 from rfl]
  refine zs0 ?_
  refine zs2 (ρ := fun _ => [.v true (.agg [.int .i64 1, .bool neg, .int .i64 ex, .sl 1 (M.map fun n => .int .u64 n)])]) (o := by repeat' first|exact hC|trivial|constructor) (k := ?_)
  refine zs2 (ρ := fun _ => [.v true (words O)]) (o := by repeat' first|exact hW|trivial|constructor) (k := ?_)
  refine Holds.seq ?_
  refine zs1 h0 ?_
  refine Holds.condF rfl (Holds.skip ?_)
  show Holds _ _ _ _ _ _ _
  refine zs2 (ρ := fun _ => [.v true (words D)]) (o := by repeat' first|exact hL1|trivial|constructor) (k := ?_)
  exact Holds.ret (RetOk.vs rfl (by exact ⟨⟨rfl, by simp⟩, trivial⟩) rfl)
theorem st_rounded (r : Nat) (hr : r ≤ 4) (neg : Bool) (num den : Nat) (s : Int) (hd : 0 < den) (hl : (digs (ctA num den s)).length < 30000) :
 FnOk Tryz.prog 94 [.v (.int .i64 r), .v (.bool neg), .v (stV num den s)] [.v false (words (digs (upN r neg (ctA num den s) (cxA num den s)))), .v true (.bool (decide (cxA num den s = 0)))] := by
 obtain ⟨h1, h2⟩ := st_round (r := r) (neg := neg) (num := num) (s := s) hd
 have hN : 2 * stM num s / stD den s / 2 = ctA num den s := (half_split (stM num s) (stD den s) (Nat.mul_pos hd (Nat.pow_pos (by decide)))).1
 have := rRounded_ok r hr neg (2 * stM num s / stD den s / 2) (decide (2 * stM num s / stD den s % 2 = 1)) (decide (2 * stM num s % stD den s ≠ 0)) (by rw [hN]; exact hl)
 rw [h1, decide_eq_decide.2 h2] at this
 exact this
theorem FlB.real {m : Nat} {ex : Int} (h : FlB m ex) : ∃ B, B ≤ 17000 ∧ 0 < fNum m ex ∧ 0 < fDen ex ∧ fNum m ex < 2 ^ B ∧ fDen ex < 2 ^ B := by
 obtain ⟨B, hB⟩ : ∃ B, B = 16641 := ⟨_, rfl⟩
 exact ⟨B, by omega, fNum_pos h.m0, fDen_pos ex, fNum_lt h.mB h.hi (by omega), fDen_lt h.lo (by omega)⟩
set_option maxHeartbeats 1000000 in
theorem rDigitsT_ok (r n : Nat) (hr : r ≤ 4) (hn : 1 ≤ n ∧ n ≤ 1200) (neg : Bool) (e : Int) (l : List Int) (m : Nat) (ex a : Int) (h : Raw e l m ex) (hB : FlB m ex) (hA : IsA (fNum m ex) (fDen ex) a) :
 FnOk Tryz.prog 31 [.v (.int .i64 r), .v (fltW 1 neg e l), .v (.int .i64 n)] [.v true (.str (bs (rdL r neg m ex a n))), .v true (.int .i64 (rdE r neg m ex a n)), .v true (.bool (decide (cxA (fNum m ex) (fDen ex) (a - n + 1) = 0)))] := by
 have hab := hB.isA_bd hA
 obtain ⟨B, b1, b2, b3, b4, b5⟩ := hB.real
 have hR := real_ok neg e l m ex h hB
 have hL := rLogG_ok false (fNum m ex) (fDen ex) B a b1 b2 b3 b4 b5 hA
 have hS := rStepsG_ok false (fNum m ex) (fDen ex) B (a - n + 1) b1 b2 b3 b4 b5 (by omega)
 have hdg := ctA_digs (d := n - 1) b3 hA
 rw [show a - ((n - 1 : Nat) : Int) = a - n + 1 from by omega] at hdg
 have hcl : (digs (ctA (fNum m ex) (fDen ex) (a - n + 1))).length < 30000 := by
  have := digs_lenB (Nat.lt_trans hdg.2.2 (ten_lt (n - 1 + 1))) (n := 200) (by omega)
  omega
 have hRd := st_rounded r hr neg (fNum m ex) (fDen ex) (a - n + 1) b3 hcl
 obtain ⟨k1, k2⟩ := rdK_bd (r := r) (neg := neg) hn.1 hA
 have hlen := rd_len (r := r) (neg := neg) hn.1 hA
 have hK : upN r neg (ctA (fNum m ex) (fDen ex) (a - n + 1)) (cxA (fNum m ex) (fDen ex) (a - n + 1)) = rdK r neg m ex a n := rfl
 rw [hK] at hRd
 have hT := nTextG_ok (rdK r neg m ex a n) (by have := digs_lenB (Nat.lt_of_le_of_lt k2 (ten_lt n)) (n := 100) (by omega); omega)
 unfold rdE rdL
 obtain ⟨k, hk⟩ : ∃ k, k = rdK r neg m ex a n := ⟨_, rfl⟩
 rw [← hk] at hRd hlen hT ⊢
 obtain ⟨eb, heb⟩ : ∃ b, b = decide (cxA (fNum m ex) (fDen ex) (a - n + 1) = 0) := ⟨_, rfl⟩
 rw [← heb] at hRd ⊢
 obtain ⟨pv, hpv⟩ : ∃ P N h s, stV (fNum m ex) (fDen ex) (a - n + 1) = P ∧ P = .agg [.sl 1 N, .bool h, .bool s] := ⟨_, _, _, _, rfl, rfl⟩
 obtain ⟨Nv, hv, sv, hpv, hpe⟩ := hpv
 rw [hpv, hpe] at hS hRd
 unfold realQ words at hR hL hS
 obtain ⟨N1, hN1⟩ : ∃ x, x = (digs (fNum m ex)).map fun n => V.int .u64 n := ⟨_, rfl⟩
 obtain ⟨D1, hD1⟩ : ∃ x, x = (digs (fDen ex)).map fun n => V.int .u64 n := ⟨_, rfl⟩
 rw [← hN1, ← hD1] at hR hL hS
 obtain ⟨W, hW⟩ : ∃ x, x = digs k := ⟨_, rfl⟩
 rw [← hW] at hRd hT
 obtain ⟨s, hs⟩ : ∃ s, s = bs (decG k) := ⟨_, rfl⟩
 have hsz : s.size = (decG k).length := by rw [hs, bs_size]
 rw [← hs] at hT
 have ext : s.extract 0 n = bs ((decG k).take n) := by rw [hs, bs_ext, List.drop_zero, Nat.sub_zero]
 obtain ⟨T, hTT⟩ : ∃ T, T = bs ((decG k).take n) := ⟨_, rfl⟩
 rw [← hTT] at ext ⊢
 obtain ⟨dl, hdl⟩ : ∃ dl, dl = (decG k).length := ⟨_, rfl⟩
 rw [← hdl] at hsz hlen ⊢
 have w1 : IntKind.i64.wrap (a - (n : Int)) = a - n := by rw [wrap_i64] <;> omega
 have w2 : IntKind.i64.wrap (a - (n : Int) + 1) = a - n + 1 := by rw [wrap_i64] <;> omega
 have w3 : IntKind.i64.wrap (a + (s.size : Int)) = a + dl := by rw [wrap_i64] <;> omega
 have w4 : IntKind.i64.wrap (a + (dl : Int) - n) = a + (dl - n : Nat) := by rw [wrap_i64] <;> omega
 have hle : (n : Int) ≤ s.size := by omega
 unfold fltW words at hR ⊢
 obtain ⟨M, hM⟩ : ∃ M, M = l.map fun n => V.int .u64 n := ⟨_, rfl⟩
 rw [← hM] at hR ⊢
 clear hM hdl hTT hs hW hN1 hD1 hpv hpe heb hk hK k1 k2 hcl hdg h hB hA b1 b2 b3 b4 b5
 refine FnOk.of Tryz.func31 rfl rfl fun cx w0 => ?_
 rw [show Tryz.f31.ntmps = 43 from rfl]
 refine zs0 ?_
 refine zs2 (ρ := fun _ => [.v false (.agg [.bool false, .sl 1 N1, .sl 1 D1, .int .i64 0, .int .i64 1])]) (o := by repeat' first|exact hR|trivial|constructor) (k := ?_)
 refine zs2 (ρ := fun _ => [.v true (.int .i64 a)]) (o := by repeat' first|exact hL|trivial|constructor) (k := ?_)
 refine zd3 [] (ρ := fun d => if d = 27 then [.v true (.agg [.sl 1 Nv, .bool hv, .bool sv])] else [.v false (words W), .v true (.bool eb)]) (an w1 <| w2) (o := by repeat' first|exact hS|exact hRd|trivial|constructor) (k := ?_)
 refine zs2 (ρ := fun _ => [.v true (.str s)]) (o := by repeat' first|exact hT|trivial|constructor) (k := ?_)
 refine zs1 (an w3 <| an w4 <| an hle <| ext) ?_
 exact Holds.ret (RetOk.vs rfl (by exact ⟨⟨rfl, id⟩, ⟨rfl, id⟩, ⟨rfl, id⟩, trivial⟩) rfl)
theorem nLarge_ok (l : List Int) : FnOk Tryz.prog 102 [.v (words l)] [.v true (.bool (decide (4096 < l.length)))] := by
 unfold words
 have hd : decide ((4096 : Int) < (l.length : Int)) = decide (4096 < l.length) := decide_eq_decide.2 (by omega)
 refine FnOk.of Tryz.func102 rfl rfl fun cx w0 => ?_
 rw [show Tryz.f102.ntmps = 6 from rfl]
 refine zs0 ?_
 refine zs1 hd ?_
 exact Holds.ret (RetOk.vs rfl (by exact ⟨⟨rfl, id⟩, trivial⟩) rfl)
theorem fLarge_ok (kd : Int) (neg : Bool) (e : Int) (l : List Int) : FnOk Tryz.prog 65 [.v (fltW kd neg e l)] [.v true (.bool (decide (4096 < l.length)))] := by
 have h := nLarge_ok l
 obtain ⟨b, hb⟩ : ∃ b, b = decide (4096 < l.length) := ⟨_, rfl⟩
 rw [← hb] at h ⊢
 unfold fltW
 clear hb
 refine FnOk.of Tryz.func65 rfl rfl fun cx w0 => ?_
 rw [show Tryz.f65.ntmps = 6 from rfl]
 refine zs0 ?_
 refine zs2 (ρ := fun _ => [.v true (.bool b)]) (o := by repeat' first|exact h|trivial|constructor) (k := ?_)
 exact Holds.ret (RetOk.vs rfl (by exact ⟨⟨rfl, id⟩, trivial⟩) rfl)
set_option maxHeartbeats 1000000 in
theorem fGood_ok (kd : Int) (neg : Bool) (e : Int) (l : List Int) (hl : l.length < 5000) (ol : okW l) : FnOk Tryz.prog 67 [.v (fltW kd neg e l)] [.v true (.bool (cnB kd neg e (val l)))] := by
 have hZ := IsZero_ok l (by omega) ol
 have hO := oddL_ok neg e l (by omega) ol
 unfold cnB
 obtain ⟨v, hv⟩ : ∃ v, v = val l := ⟨_, rfl⟩
 rw [← hv] at hZ hO ⊢
 obtain ⟨t, ht⟩ : ∃ t, t = e + (trN v : Int) := ⟨_, rfl⟩
 obtain ⟨Q, hQ⟩ : ∃ Q, Q = digs (v / 2 ^ trN v) := ⟨_, rfl⟩
 rw [← ht, ← hQ] at hO
 rw [← ht]
 unfold fltW words at hO ⊢
 unfold words at hZ
 obtain ⟨L, hL⟩ : ∃ L, L = l.map fun n => V.int .u64 n := ⟨_, rfl⟩
 rw [← hL] at hZ hO ⊢
 clear hL hQ ht hv ol hl
 by_cases h02 : kd = 0 ∨ kd = 2
 ·rw [if_pos h02]
  clear hO
  obtain ⟨z, hz⟩ : ∃ z, z = decide (v = 0) := ⟨_, rfl⟩
  have hd : decide (e = 0 ∧ v = 0) = (decide (e = 0) && z) := by rw [hz]; simp
  rw [← hz] at hZ
  rw [hd]
  clear hz hd
  by_cases he0 : e = 0
  ·subst he0
   rw [decide_eq_true rfl, Bool.true_and]
   rcases h02 with rfl | rfl
   ·refine FnOk.of Tryz.func67 rfl rfl fun cx w0 => ?_
    rw [show Tryz.f67.ntmps = 55 from rfl]
    refine zs0 ?_
    refine Holds.seq ?_
    refine zs0 ?_
    refine Holds.block ?_
    refine Holds.seq ?_
    refine zs0 ?_
    refine Holds.condT rfl (Holds.skip ?_)
    refine Holds.condT rfl ?_
    refine zs2 (ρ := fun _ => [.v true (.bool z)]) (o := by repeat' first|exact hZ|trivial|constructor) (k := ?_)
    exact Holds.ret (RetOk.vs rfl (by exact ⟨⟨rfl, id⟩, trivial⟩) rfl)
   ·refine FnOk.of Tryz.func67 rfl rfl fun cx w0 => ?_
    rw [show Tryz.f67.ntmps = 55 from rfl]
    refine zs0 ?_
    refine Holds.seq ?_
    refine zs0 ?_
    refine Holds.block ?_
    refine Holds.seq ?_
    refine zs0 ?_
    refine Holds.condF rfl ?_
    refine zr0 ?_
    show Holds _ _ _ _ _ _ _
    refine Holds.condT rfl ?_
    refine zs2 (ρ := fun _ => [.v true (.bool z)]) (o := by repeat' first|exact hZ|trivial|constructor) (k := ?_)
    exact Holds.ret (RetOk.vs rfl (by exact ⟨⟨rfl, id⟩, trivial⟩) rfl)
  ·rw [decide_eq_false he0, Bool.false_and]
   rcases h02 with rfl | rfl
   ·refine FnOk.of Tryz.func67 rfl rfl fun cx w0 => ?_
    rw [show Tryz.f67.ntmps = 55 from rfl]
    refine zs0 ?_
    refine Holds.seq ?_
    refine zs0 ?_
    refine Holds.block ?_
    refine Holds.seq ?_
    refine zs0 ?_
    refine Holds.condT rfl (Holds.skip ?_)
    refine Holds.condT rfl ?_
    refine zs1 he0 ?_
    exact Holds.ret (RetOk.vs rfl (by exact ⟨⟨rfl, id⟩, trivial⟩) rfl)
   ·refine FnOk.of Tryz.func67 rfl rfl fun cx w0 => ?_
    rw [show Tryz.f67.ntmps = 55 from rfl]
    refine zs0 ?_
    refine Holds.seq ?_
    refine zs0 ?_
    refine Holds.block ?_
    refine Holds.seq ?_
    refine zs0 ?_
    refine Holds.condF rfl ?_
    refine zr0 ?_
    show Holds _ _ _ _ _ _ _
    refine Holds.condT rfl ?_
    refine zs1 he0 ?_
    exact Holds.ret (RetOk.vs rfl (by exact ⟨⟨rfl, id⟩, trivial⟩) rfl)
 ·rw [if_neg h02]
  have h0 : ¬ kd = 0 := fun h => h02 (.inl h)
  have h2 : ¬ kd = 2 := fun h => h02 (.inr h)
  have head : ∀ {rs : List R}, (∀ cx w0, Holds Tryz.prog none cx w0 (codeAt Tryz.f67 [1, 0, 1, 0, 1, 1]) { nt := 55, env := [(1, .ptr 1 0 [] 0), (6, .v true (.int .i64 kd))], mem := [(1, .box 38 (.v false (.agg [.int .i64 kd, .bool neg, .int .i64 e, .sl 1 L])))] } (NR (fun σ => False) (fnQ Tryz.prog Tryz.f67 rs .ret)) ∨ Holds Tryz.prog none cx w0 (codeAt Tryz.f67 [1, 0, 1, 0, 1, 1]) { nt := 55, env := [(1, .ptr 1 0 [] 0), (6, .v true (.int .i64 kd))], mem := [(1, .box 38 (.v false (.agg [.int .i64 kd, .bool neg, .int .i64 e, .sl 1 L])))] } (NR (fun σ => ∀ a w, Rel cx w0 σ a w → Rel cx w0 { nt := 55, env := [], mem := [] } a w) (fnQ Tryz.prog Tryz.f67 rs .ret)) ∧ rs = [.v true (.bool false)]) → FnOk Tryz.prog 67 [.v (.agg [.int .i64 kd, .bool neg, .int .i64 e, .sl 1 L])] rs := fun {rs} hh => by
   refine FnOk.of Tryz.func67 rfl rfl fun cx w0 => ?_
   rw [show Tryz.f67.ntmps = 55 from rfl]
   refine zs0 ?_
   refine Holds.next (fun σ => rs = [.v true (.bool false)] ∧ ∀ a w, Rel cx w0 σ a w → Rel cx w0 { nt := 55, env := [], mem := [] } a w) ?_ ?_
   ·refine zs0 ?_
    refine Holds.blockN ?_
    refine Holds.seq ?_
    refine zs1 h0 ?_
    refine Holds.condF rfl ?_
    refine zr1 h2 ?_
    show Holds _ _ _ _ _ _ _
    refine Holds.condF rfl ?_
    rcases hh cx w0 with h | ⟨h, hr⟩
    ·refine Holds.from (fun a w h => Rel.keep [1, 6] [1] h) (h.mono fun x σ hx => ?_)
     cases x <;> first | exact hx.elim | exact hx
    ·refine Holds.from (fun a w h => Rel.keep [1, 6] [1] h) (h.mono fun x σ hx => ?_)
     cases x <;> first | exact hx.elim | exact ⟨hr, hx⟩ | exact hx
   ·rintro σ ⟨hr, hσ⟩
    refine Holds.from hσ ?_
    rw [hr]
    refine zs0 ?_
    exact Holds.ret (RetOk.vs rfl (by exact ⟨⟨rfl, id⟩, trivial⟩) rfl)
  by_cases h3 : kd = 3
  ·rw [if_pos h3]
   subst h3
   clear hO
   obtain ⟨z, hz⟩ : ∃ z, z = decide (v = 0) := ⟨_, rfl⟩
   have hd : decide (e = 0 ∧ v = 0) = (decide (e = 0) && z) := by rw [hz]; simp
   rw [← hz] at hZ
   rw [hd]
   clear hz hd
   refine head fun cx w0 => .inl ?_
   refine zs0 ?_
   refine Holds.condT rfl ?_
   cases neg with
   | true =>
     rw [Bool.not_true, Bool.false_and]
     refine zs0 ?_
     exact Holds.ret (RetOk.vs rfl (by exact ⟨⟨rfl, id⟩, trivial⟩) rfl)
   | false =>
     rw [Bool.not_false, Bool.true_and]
     by_cases he0 : e = 0
     ·subst he0
      rw [decide_eq_true rfl, Bool.true_and]
      refine zs2 (ρ := fun _ => [.v true (.bool z)]) (o := by repeat' first|exact hZ|trivial|constructor) (k := ?_)
      exact Holds.ret (RetOk.vs rfl (by exact ⟨⟨rfl, id⟩, trivial⟩) rfl)
     ·rw [decide_eq_false he0, Bool.false_and]
      refine zs1 he0 ?_
      exact Holds.ret (RetOk.vs rfl (by exact ⟨⟨rfl, id⟩, trivial⟩) rfl)
  ·rw [if_neg h3]
   by_cases h1 : kd = 1
   ·rw [if_pos h1]
    subst h1
    refine head fun cx w0 => .inl ?_
    refine zs0 ?_
    refine Holds.condF rfl ?_
    refine zs0 ?_
    refine Holds.condT rfl ?_
    by_cases hin : v ≠ 0 ∧ -1048576 ≤ e ∧ e ≤ 1048576
    ·obtain ⟨hv0, hi1, hi2⟩ := hin
     rw [decide_eq_false hv0] at hZ
     have hO := hO (by omega)
     have hd : decide (v ≠ 0 ∧ -1048576 ≤ e ∧ e ≤ 1048576 ∧ t ≤ 1048576) = decide (t ≤ 1048576) := decide_eq_decide.2 (by constructor; exact fun h => h.2.2.2; exact fun h => ⟨hv0, hi1, hi2, h⟩)
     rw [hd]
     have g1 : ¬ e < -1048576 := by omega
     have g2 : ¬ (1048576 : Int) < e := by omega
     refine Holds.seq ?_
     refine zs3 (ρ := fun _ => [.v true (.bool false)]) (an g1 <| g2) (o := by repeat' first|exact hZ|trivial|constructor) (k := ?_)
     refine Holds.condF rfl (Holds.skip ?_)
     show Holds _ _ _ _ _ _ _
     refine zs2 (ρ := fun _ => [.v true (words Q), .v true (.int .i64 t)]) (o := by repeat' first|exact hO|trivial|constructor) (k := ?_)
     refine zs0 ?_
     exact Holds.ret (RetOk.vs rfl (by exact ⟨⟨rfl, id⟩, trivial⟩) rfl)
    ·rw [decide_eq_false (fun h => hin ⟨h.1, h.2.1, h.2.2.1⟩)]
     refine Holds.seq ?_
     by_cases hv0 : v = 0
     ·rw [decide_eq_true hv0] at hZ
      refine zs2 (ρ := fun _ => [.v true (.bool true)]) (o := by repeat' first|exact hZ|trivial|constructor) (k := ?_)
      refine Holds.condT rfl ?_
      refine zs0 ?_
      exact Holds.ret (RetOk.vs rfl (by exact ⟨⟨rfl, id⟩, trivial⟩) rfl)
     ·rw [decide_eq_false hv0] at hZ
      by_cases g1 : e < -1048576
      ·refine zs3 (ρ := fun _ => [.v true (.bool false)]) g1 (o := by repeat' first|exact hZ|trivial|constructor) (k := ?_)
       refine Holds.condT rfl ?_
       refine zs0 ?_
       exact Holds.ret (RetOk.vs rfl (by exact ⟨⟨rfl, id⟩, trivial⟩) rfl)
      ·have g2 : (1048576 : Int) < e := by omega
       refine zs3 (ρ := fun _ => [.v true (.bool false)]) (an g1 <| g2) (o := by repeat' first|exact hZ|trivial|constructor) (k := ?_)
       refine Holds.condT rfl ?_
       refine zs0 ?_
       exact Holds.ret (RetOk.vs rfl (by exact ⟨⟨rfl, id⟩, trivial⟩) rfl)
   ·rw [if_neg h1]
    refine head fun cx w0 => .inr ⟨?_, rfl⟩
    refine zs1 h3 ?_
    refine Holds.condF rfl ?_
    refine zs1 h1 ?_
    exact Holds.condF rfl (Holds.skip fun a w h => Rel.keep [] [] h)
theorem fTiny_ok (K p : Nat) (hK : 1 ≤ K ∧ K ≤ 14) (hP : 2 ≤ p ∧ p ≤ 256) : FnOk Tryz.prog 144 [.v (fmtV ((K + 1 : Nat) : Int) p)] [.v true (.int .i64 (1 - gK K - (p - 1)))] := by
 have h1 := fLeast_ok K p hK
 have hG := gK_bd hK
 obtain ⟨G, hG'⟩ : ∃ G, G = 1 - gK K := ⟨_, rfl⟩
 rw [← hG'] at h1 ⊢
 unfold fmtV at h1 ⊢
 have w1 : IntKind.i64.wrap ((p : Int) - 1) = (p : Int) - 1 := by rw [wrap_i64] <;> omega
 have w2 : IntKind.i64.wrap (G - ((p : Int) - 1)) = G - ((p : Int) - 1) := by rw [wrap_i64] <;> omega
 obtain ⟨F, hF⟩ : ∃ F : Int, F = ((K + 1 : Nat) : Int) := ⟨_, rfl⟩
 rw [← hF] at h1 ⊢
 refine FnOk.of Tryz.func144 rfl rfl fun cx w0 => ?_
 rw [show Tryz.f144.ntmps = 9 from rfl]
 refine zs0 ?_
 refine zd3 [] (ρ := fun _ => [.v true (.int .i64 G)]) (an w1 <| w2) (o := by repeat' first|exact h1|trivial|constructor) (k := ?_)
 exact Holds.ret (RetOk.vs rfl (by exact ⟨⟨rfl, id⟩, trivial⟩) rfl)
set_option maxHeartbeats 1000000 in
theorem fIn_ok (K p : Nat) (hK : 1 ≤ K ∧ K ≤ 14) (hP : 2 ≤ p ∧ p ≤ 256) (kd : Int) (neg : Bool) (e : Int) (l : List Int) (hl : l.length < 5000) (ol : okW l) (he : kd = 1 → -1048576 ≤ e ∧ e ≤ 1048576) :
 FnOk Tryz.prog 68 [.v (fmtV ((K + 1 : Nat) : Int) p), .v (fltW kd neg e l)] [.v true (.bool (decide (kd ≠ 1) || hoI K p (e + trN (val l)) (val l / 2 ^ trN (val l))))] := by
 by_cases h1 : kd = 1
 ·subst h1
  have he := he rfl
  rw [decide_eq_false (by simp), Bool.false_or]
  have hO := oddL_ok neg e l (by omega) ol (by omega)
  have hT := fTiny_ok K p hK hP
  have hGr := Greatest_ok K p hK
  have hG := gK_bd hK
  have hml : (digs (val l / 2 ^ trN (val l))).length < 6000 := by
   have h2 := digs_mono (Nat.div_le_self (val l) (2 ^ trN (val l)))
   have h3 := digs_len (val_lt ol)
   omega
  have hL := rLen_ok (digs (val l / 2 ^ trN (val l))) (by omega) (digs_ok _).1
  rw [lenR_eq (digs_ok _).1, (digs_ok _).2.2] at hL
  have hbl : blN (val l / 2 ^ trN (val l)) ≤ 64 * 6000 := by
   have := bl_lt (val_bl (digs_ok (val l / 2 ^ trN (val l))).1)
   rw [(digs_ok _).2.2] at this
   omega
  have htl : trN (val l) ≤ 64 * l.length := by
   rcases Nat.eq_zero_or_pos (val l) with h0 | h0
   ·rw [h0]; exact Nat.zero_le _
   ·have := trN_le (v := val l) (k := 64 * l.length) h0 (val_bl ol)
    omega
  unfold hoI
  obtain ⟨n, hn⟩ : ∃ n, n = blN (val l / 2 ^ trN (val l)) := ⟨_, rfl⟩
  rw [← hn] at hL hbl ⊢
  obtain ⟨x, hx⟩ : ∃ x, x = e + (trN (val l) : Int) := ⟨_, rfl⟩
  rw [← hx] at hO ⊢
  obtain ⟨Q, hQ⟩ : ∃ Q, Q = digs (val l / 2 ^ trN (val l)) := ⟨_, rfl⟩
  rw [← hQ] at hO hL
  obtain ⟨G, hG'⟩ : ∃ G, G = gK K := ⟨_, rfl⟩
  rw [← hG'] at hGr hT hG ⊢
  obtain ⟨F, hF⟩ : ∃ F : Int, F = ((K + 1 : Nat) : Int) := ⟨_, rfl⟩
  rw [← hF] at hGr hT ⊢
  unfold fmtV at hGr hT ⊢
  unfold fltW at hO ⊢
  obtain ⟨Ty, hTy⟩ : ∃ T, T = 1 - G - ((p : Int) - 1) := ⟨_, rfl⟩
  rw [← hTy] at hT ⊢
  have hxb : -1048576 ≤ x ∧ x ≤ 1400000 := by omega
  have w1 : IntKind.i64.wrap ((n : Int) + x) = (n : Int) + x := by rw [wrap_i64] <;> omega
  have w2 : IntKind.i64.wrap (G + 1) = G + 1 := by rw [wrap_i64] <;> omega
  clear hF hG' hQ hx hn hml ol
  refine FnOk.of Tryz.func68 rfl rfl fun cx w0 => ?_
  rw [show Tryz.f68.ntmps = 36 from rfl]
  refine zs0 ?_
  refine Holds.seq ?_
  refine zs0 ?_
  refine Holds.condF rfl (Holds.skip ?_)
  show Holds _ _ _ _ _ _ _
  refine zs2 (ρ := fun _ => [.v true (words Q), .v true (.int .i64 x)]) (o := by repeat' first|exact hO|trivial|constructor) (k := ?_)
  by_cases a1 : (n : Int) ≤ (p : Int)
  ·by_cases a2 : Ty ≤ x
   ·have hd : decide (n ≤ p ∧ Ty ≤ x ∧ x + (n : Int) - 1 ≤ G) = decide ((n : Int) + x ≤ G + 1) := decide_eq_decide.2 (by omega)
    rw [hd]
    refine zd3 [] (ρ := fun d => if d = 16 then [.v true (.int .i64 n)] else if d = 28 then [.v true (.int .i64 n)] else if d = 23 then [.v true (.int .i64 Ty)] else [.v true (.int .i64 G)]) (an a1 <| an a2 <| an w1 <| w2) (o := by repeat' first|exact hL|exact hT|exact hGr|trivial|constructor) (k := ?_)
    exact Holds.ret (RetOk.vs rfl (by exact ⟨⟨rfl, id⟩, trivial⟩) rfl)
   ·rw [decide_eq_false (fun h => a2 h.2.1)]
    refine zd3 [] (ρ := fun d => if d = 16 then [.v true (.int .i64 n)] else [.v true (.int .i64 Ty)]) (an a1 <| a2) (o := by repeat' first|exact hL|exact hT|trivial|constructor) (k := ?_)
    exact Holds.ret (RetOk.vs rfl (by exact ⟨⟨rfl, id⟩, trivial⟩) rfl)
  ·rw [decide_eq_false (fun h => a1 (by omega))]
   refine zd3 [] (ρ := fun d => [.v true (.int .i64 n)]) a1 (o := by repeat' first|exact hL|trivial|constructor) (k := ?_)
   exact Holds.ret (RetOk.vs rfl (by exact ⟨⟨rfl, id⟩, trivial⟩) rfl)
 ·rw [decide_eq_true h1, Bool.true_or]
  unfold fmtV fltW
  refine FnOk.of Tryz.func68 rfl rfl fun cx w0 => ?_
  rw [show Tryz.f68.ntmps = 36 from rfl]
  refine zs0 ?_
  refine Holds.seq ?_
  refine zs1 h1 ?_
  refine Holds.condT rfl ?_
  refine zs0 ?_
  exact Holds.ret (RetOk.vs rfl (by exact ⟨⟨rfl, id⟩, trivial⟩) rfl)
theorem fTheirL_ok (k : Int) (neg : Bool) (e : Int) (l : List Int) : FnOk Tryz.prog 19 [.v (fltW k neg e l)] [.v false (fltW k neg e l)] := by
 unfold fltW
 refine FnOk.of Tryz.func19 rfl rfl fun cx w0 => ?_
 rw [show Tryz.f19.ntmps = 12 from rfl]
 refine zs0 ?_
 refine zs0 ?_
 exact Holds.ret (RetOk.vs rfl (by exact ⟨⟨rfl, by simp⟩, trivial⟩) rfl)
set_option maxHeartbeats 1000000 in
theorem Theirs1_ok (k : Int) (neg : Bool) (e : Int) (l : List Int) : FnOk Tryz.prog 104 [.v (.sl 4 [fltW k neg e l])] [.v false (.sl 4 [fltW k neg e l])] := by
 have hT := fTheirL_ok k neg e l
 unfold fltW words at hT ⊢
 obtain ⟨L, hL⟩ : ∃ L, L = l.map fun n => V.int .u64 n := ⟨_, rfl⟩
 rw [← hL] at hT ⊢
 clear hL
 refine FnOk.of Tryz.func104 rfl rfl fun cx w0 => ?_
 rw [show Tryz.f104.ntmps = 20 from rfl]
 refine zs0 ?_
 refine zs0 ?_
 refine Holds.next (fun σ => ∀ a w, Rel cx w0 σ a w → Rel cx w0 { nt := 20, env := [(3, .own 18 0 1)], mem := [(18, .buf 38 4 false [.agg [.int .i64 k, .bool neg, .int .i64 e, .sl 1 L]])] } a w) ?_ ?_
 ·refine zs0 ?_
  refine Holds.loopB (fun i : Nat => match i with | 0 => { nt := 20, env := [(4, .v true (.int .i64 0)), (0, .v false (.sl 4 [.agg [.int .i64 k, .bool neg, .int .i64 e, .sl 1 L]])), (3, .nil)], mem := [] } | _ => { nt := 20, env := [(4, .v true (.int .i64 1)), (0, .v false (.sl 4 [.agg [.int .i64 k, .bool neg, .int .i64 e, .sl 1 L]])), (3, .own 18 0 1)], mem := [(18, .buf 38 4 false [.agg [.int .i64 k, .bool neg, .int .i64 e, .sl 1 L]])] }) (fun i => i ≤ 1) (fun i => 1 - i) 0 (by decide) (fun a w h => Rel.keep [4, 0, 3] [] h) ?_
  intro i hi
  rcases Nat.eq_zero_or_pos i with h0 | h0
  ·subst h0
   show Holds _ _ _ _ _ { nt := 20, env := [(4, .v true (.int .i64 0)), (0, .v false (.sl 4 [.agg [.int .i64 k, .bool neg, .int .i64 e, .sl 1 L]])), (3, .nil)], mem := [] } _
   refine Holds.seq ?_
   refine zs0 ?_
   refine Holds.condT rfl (Holds.skip ?_)
   show Holds _ _ _ _ _ _ _
   refine Holds.next (fun σ => ∀ a w, Rel cx w0 σ a w → Rel cx w0 { nt := 20, env := [(4, .v true (.int .i64 0)), (0, .v false (.sl 4 [.agg [.int .i64 k, .bool neg, .int .i64 e, .sl 1 L]])), (3, .own 18 0 1)], mem := [(18, .buf 38 4 false [.agg [.int .i64 k, .bool neg, .int .i64 e, .sl 1 L]])] } a w) ?_ ?_
   ·refine Holds.blockN ?_
    refine zr2 (ρ := fun _ => [.v false (.agg [.int .i64 k, .bool neg, .int .i64 e, .sl 1 L])]) (o := by repeat' first|exact hT|trivial|constructor) (k := ?_)
    exact fun a w h => Rel.keep [4, 0, 3] [18] h
   ·intro σ hσ
    refine Holds.from hσ ?_
    refine zr0 ?_
    exact ⟨1, Nat.le_refl _, (show 1 - 1 < 1 - 0 by decide), fun a w h => Rel.keep [4, 0, 3] [18] h⟩
  ·have h1 : i = 1 := by omega
   subst h1
   show Holds _ _ _ _ _ { nt := 20, env := [(4, .v true (.int .i64 1)), (0, .v false (.sl 4 [.agg [.int .i64 k, .bool neg, .int .i64 e, .sl 1 L]])), (3, .own 18 0 1)], mem := [(18, .buf 38 4 false [.agg [.int .i64 k, .bool neg, .int .i64 e, .sl 1 L]])] } _
   refine Holds.seq ?_
   refine zs0 ?_
   exact Holds.condF rfl (Holds.exit ⟨rfl, fun a w h => Rel.keep [3] [18] h⟩)
 ·intro σ hσ
  refine Holds.from (σ' := { nt := 20, env := [(3, .v false (.sl 4 [.agg [.int .i64 k, .bool neg, .int .i64 e, .sl 1 L]]))], mem := [] }) (fun a w h => by
   have := Rel.keep [3] [] (Rel.freeze (s := 18) (e := 38) (z := 4) (nw := false) (xs := [.agg [.int .i64 k, .bool neg, .int .i64 e, .sl 1 L]]) (hσ a w h) rfl)
   exact this) ?_
  clear hσ
  refine zs0 ?_
  exact Holds.ret (RetOk.vs rfl (by exact ⟨⟨rfl, by simp⟩, trivial⟩) rfl)
set_option maxHeartbeats 2000000 in
theorem fCheck1_ok (k P : Int) (kd : Int) (neg : Bool) (e : Int) (l : List Int) (hl : l.length < 5000) (ol : okW l) :
 FnOk Tryz.prog 17 [.v (fmtV k P), .v (.sl 4 [fltW kd neg e l])] [.v true (.int .i64 (nuE k P true kd neg e l))] := by
 have hLg := fLarge_ok kd neg e l
 have hR := fRight_ok k P
 have hGd := fGood_ok kd neg e l hl ol
 have hIn : FmtOk k P → cnB kd neg e (val l) = true → FnOk Tryz.prog 68 [.v (fmtV k P), .v (fltW kd neg e l)] [.v true (.bool (decide (kd ≠ 1) || hoI (k - 1).toNat P.toNat (cnE kd e (val l)) (cnM kd e (val l))))] := fun h hc => by
  obtain ⟨⟨h1, h2⟩, h3, h4⟩ := h
  obtain ⟨c1, c2, c3⟩ := cn_one hc
  have := fIn_ok (k - 1).toNat P.toNat (by omega) (by omega) kd neg e l hl ol (fun hk => by
   subst hk
   unfold cnB at hc
   rw [if_neg (by decide), if_neg (by decide), if_pos rfl] at hc
   have := of_decide_eq_true hc
   omega)
  rw [show (((k - 1).toNat + 1 : Nat) : Int) = k from by omega, show ((P.toNat : Nat) : Int) = P from by omega] at this
  by_cases hk : kd = 1
  ·obtain ⟨_, c4, c5, _⟩ := c3 hk
   rw [c4, c5]
   exact this
  ·rw [decide_eq_true hk, Bool.true_or] at this ⊢
   exact this
 have hfm : decide ((2 ≤ k ∧ k ≤ 15) ∧ 2 ≤ P ∧ P ≤ 256) = decide (FmtOk k P) := rfl
 unfold nuE hoB
 obtain ⟨n, hn⟩ : ∃ n, n = l.length := ⟨_, rfl⟩
 rw [← hn] at hLg ⊢
 obtain ⟨c, hc⟩ : ∃ h, h = cnB kd neg e (val l) := ⟨_, rfl⟩
 rw [← hc] at hGd hIn ⊢
 obtain ⟨i, hi⟩ : ∃ h, h = (decide (kd ≠ 1) || hoI (k - 1).toNat P.toNat (cnE kd e (val l)) (cnM kd e (val l))) := ⟨_, rfl⟩
 rw [← hi] at hIn ⊢
 unfold fltW words at hLg hGd hIn ⊢
 obtain ⟨L, hL'⟩ : ∃ L, L = l.map fun n => V.int .u64 n := ⟨_, rfl⟩
 rw [← hL'] at hLg hGd hIn ⊢
 unfold fmtV at hR hIn ⊢
 clear hL' hn hc hi ol hl
 refine FnOk.of Tryz.func17 rfl rfl fun cx w0 => ?_
 rw [show Tryz.f17.ntmps = 42 from rfl]
 refine zs0 ?_
 refine Holds.next (fun σ => ¬ 4096 < n ∧ ∀ a w, Rel cx w0 σ a w → Rel cx w0 { nt := 42, env := [(1, .v false (.sl 4 [.agg [.int .i64 kd, .bool neg, .int .i64 e, .sl 1 L]])), (2, .ptr 2 0 [] 0)], mem := [(2, .box 35 (.v false (.agg [.int .i64 k, .int .i64 P])))] } a w) ?_ ?_
 ·refine zs0 ?_
  refine Holds.loopB (fun i : Nat => { nt := 42, env := [(5, .v true (.int .i64 i)), (1, .v false (.sl 4 [.agg [.int .i64 kd, .bool neg, .int .i64 e, .sl 1 L]])), (2, .ptr 2 0 [] 0)], mem := [(2, .box 35 (.v false (.agg [.int .i64 k, .int .i64 P])))] }) (fun i => i = 0 ∨ i = 1 ∧ ¬ 4096 < n) (fun i => 1 - i) 0 (.inl rfl) (fun a w h => Rel.keep [5, 1, 2] [2] h) ?_
  rintro i hi
  by_cases hi0 : i = 0
  ·subst hi0
   refine Holds.seq ?_
   refine zs0 ?_
   refine Holds.condT rfl (Holds.skip ?_)
   show Holds _ _ _ _ _ _ _
   refine Holds.next (fun σ => ¬ 4096 < n ∧ ∀ a w, Rel cx w0 σ a w → Rel cx w0 { nt := 42, env := [(5, .v true (.int .i64 0)), (1, .v false (.sl 4 [.agg [.int .i64 kd, .bool neg, .int .i64 e, .sl 1 L]])), (2, .ptr 2 0 [] 0)], mem := [(2, .box 35 (.v false (.agg [.int .i64 k, .int .i64 P])))] } a w) ?_ ?_
   ·refine Holds.blockN ?_
    by_cases hn : 4096 < n
    ·rw [decide_eq_true hn] at hLg
     rw [if_pos hn]
     refine zs2 (ρ := fun _ => [.v true (.bool true)]) (o := by repeat' first|exact hLg|trivial|constructor) (k := ?_)
     refine Holds.condT rfl ?_
     refine zs0 ?_
     exact Holds.ret (RetOk.vs rfl (by exact ⟨⟨rfl, id⟩, trivial⟩) rfl)
    ·rw [decide_eq_false hn] at hLg
     refine zs2 (ρ := fun _ => [.v true (.bool false)]) (o := by repeat' first|exact hLg|trivial|constructor) (k := ?_)
     exact Holds.condF rfl (Holds.skip ⟨hn, fun a w h => Rel.keep [5, 1, 2] [2] h⟩)
   ·rintro σ ⟨hn, hσ⟩
    refine Holds.from hσ ?_
    refine zr0 ?_
    exact ⟨1, .inr ⟨rfl, hn⟩, (show 1 - 1 < 1 - 0 by decide), fun a w h => Rel.keep [5, 1, 2] [2] h⟩
  ·have hi1 : i = 1 ∧ ¬ 4096 < n := by omega
   obtain ⟨rfl, hn⟩ := hi1
   refine Holds.seq ?_
   refine zs0 ?_
   exact Holds.condF rfl (Holds.exit ⟨rfl, hn, fun a w h => Rel.keep [1, 2] [2] h⟩)
 ·rintro σ ⟨hn, hσ⟩
  refine Holds.from hσ ?_
  rw [if_neg hn, if_neg (show ¬ true = false by decide)]
  clear hLg hσ
  refine Holds.seq ?_
  by_cases hf : FmtOk k P
  ·rw [hfm, decide_eq_true hf] at hR
   rw [if_neg (not_not_intro hf)]
   have hIn := hIn hf
   refine zs2 (ρ := fun _ => [.v true (.bool true)]) (o := by repeat' first|exact hR|trivial|constructor) (k := ?_)
   refine Holds.condF rfl (Holds.skip ?_)
   show Holds _ _ _ _ _ _ _
   refine Holds.next (fun σ => (c && i) = true ∧ ∀ a w, Rel cx w0 σ a w → Rel cx w0 { nt := 42, env := [], mem := [] } a w) ?_ ?_
   ·refine zs0 ?_
    refine Holds.loopB (fun j : Nat => { nt := 42, env := [(6, .v true (.int .i64 j)), (1, .v false (.sl 4 [.agg [.int .i64 kd, .bool neg, .int .i64 e, .sl 1 L]])), (2, .ptr 2 0 [] 0)], mem := [(2, .box 35 (.v false (.agg [.int .i64 k, .int .i64 P])))] }) (fun j => j = 0 ∨ j = 1 ∧ (c && i) = true) (fun j => 1 - j) 0 (.inl rfl) (fun a w h => Rel.keep [6, 1, 2] [2] h) ?_
    rintro j hj
    by_cases hj0 : j = 0
    ·subst hj0
     refine Holds.seq ?_
     refine zs0 ?_
     refine Holds.condT rfl (Holds.skip ?_)
     show Holds _ _ _ _ _ _ _
     refine Holds.next (fun σ => (c && i) = true ∧ ∀ a w, Rel cx w0 σ a w → Rel cx w0 { nt := 42, env := [(6, .v true (.int .i64 0)), (1, .v false (.sl 4 [.agg [.int .i64 kd, .bool neg, .int .i64 e, .sl 1 L]])), (2, .ptr 2 0 [] 0)], mem := [(2, .box 35 (.v false (.agg [.int .i64 k, .int .i64 P])))] } a w) ?_ ?_
     ·refine Holds.blockN ?_
      cases c with
      | false =>
        rw [Bool.false_and, if_pos rfl]
        refine zd2 [] (ρ := fun _ => [.v true (.bool false)]) (o := by repeat' first|exact hGd|trivial|constructor) (k := ?_)
        refine Holds.condT rfl ?_
        refine zs0 ?_
        exact Holds.ret (RetOk.vs rfl (by exact ⟨⟨rfl, id⟩, trivial⟩) rfl)
      | true =>
        have hIn := hIn rfl
        rw [Bool.true_and]
        cases i with
        | false =>
          rw [if_pos rfl]
          refine zd2 [] (ρ := fun d => if d = 31 then [.v true (.bool true)] else [.v true (.bool false)]) (o := by repeat' first|exact hGd|exact hIn|trivial|constructor) (k := ?_)
          refine Holds.condT rfl ?_
          refine zs0 ?_
          exact Holds.ret (RetOk.vs rfl (by exact ⟨⟨rfl, id⟩, trivial⟩) rfl)
        | true =>
          rw [if_neg (show ¬ true = false by decide)]
          refine zd2 [] (ρ := fun d => if d = 31 then [.v true (.bool true)] else [.v true (.bool true)]) (o := by repeat' first|exact hGd|exact hIn|trivial|constructor) (k := ?_)
          exact Holds.condF rfl (Holds.skip ⟨rfl, fun a w h => Rel.keep [6, 1, 2] [2] h⟩)
     ·rintro σ ⟨hi, hσ⟩
      refine Holds.from hσ ?_
      refine zr0 ?_
      exact ⟨1, .inr ⟨rfl, hi⟩, (show 1 - 1 < 1 - 0 by decide), fun a w h => Rel.keep [6, 1, 2] [2] h⟩
    ·have hj1 : j = 1 ∧ (c && i) = true := hj.resolve_left hj0
     obtain ⟨rfl, hi⟩ := hj1
     refine Holds.seq ?_
     refine zs0 ?_
     exact Holds.condF rfl (Holds.exit ⟨rfl, hi, fun a w h => Rel.keep [] [] h⟩)
   ·rintro σ ⟨hi, hσ⟩
    refine Holds.from hσ ?_
    rw [hi, if_neg (show ¬ true = false by decide)]
    refine zs0 ?_
    exact Holds.ret (RetOk.vs rfl (by exact ⟨⟨rfl, id⟩, trivial⟩) rfl)
  ·rw [hfm, decide_eq_false hf] at hR
   rw [if_pos hf]
   refine zs2 (ρ := fun _ => [.v true (.bool false)]) (o := by repeat' first|exact hR|trivial|constructor) (k := ?_)
   refine Holds.condT rfl ?_
   refine zs0 ?_
   exact Holds.ret (RetOk.vs rfl (by exact ⟨⟨rfl, id⟩, trivial⟩) rfl)
theorem nuE_okr {k P : Int} {kd : Int} {neg : Bool} {e : Int} {l : List Int} (h : ¬ 4096 < l.length) : nuE k P false kd neg e l = 1 := by
 unfold nuE; rw [if_neg h, if_pos rfl]
set_option maxHeartbeats 2000000 in
theorem kArgs1_ok (k P r : Int) (kd : Int) (neg : Bool) (e : Int) (l : List Int) (hl : l.length < 5000) (ol : okW l) :
 FnOk Tryz.prog 40 [.v (fmtV k P), .v (.int .i64 r), .v (.sl 4 [fltW kd neg e l])] [.v true (.int .i64 (nuE k P (decide (0 ≤ r ∧ r ≤ 4)) kd neg e l))] := by
 have hLg := nLarge_ok l
 have hK := Known_ok r
 have hF := Fmt_ok k P
 have hTh := Theirs1_ok kd neg e l
 have hC := fCheck1_ok k P kd neg e l hl ol
 have hbig : 4096 < l.length → nuE k P (decide (0 ≤ r ∧ r ≤ 4)) kd neg e l = 2 := fun h => nuE_big h
 have hno : ¬ 4096 < l.length → nuE k P false kd neg e l = 1 := fun h => nuE_okr h
 obtain ⟨b, hb⟩ : ∃ b, b = decide (0 ≤ r ∧ r ≤ 4) := ⟨_, rfl⟩
 rw [← hb] at hK hbig ⊢
 obtain ⟨E, hE⟩ : ∃ E, E = nuE k P b kd neg e l := ⟨_, rfl⟩
 rw [← hE] at hbig ⊢
 have hE1 : b = false → ¬ 4096 < l.length → E = 1 := fun h1 h2 => by rw [hE, h1]; exact hno h2
 have hE2 : b = true → FnOk Tryz.prog 17 [.v (fmtV k P), .v (.sl 4 [fltW kd neg e l])] [.v true (.int .i64 E)] := fun h => by rw [hE, h]; exact hC
 clear hE hno hC hb
 obtain ⟨n, hn⟩ : ∃ n, n = l.length := ⟨_, rfl⟩
 rw [← hn] at hLg hbig hE1
 unfold fltW words at hTh hE2 ⊢
 unfold words at hLg
 obtain ⟨L, hL'⟩ : ∃ L, L = l.map fun n => V.int .u64 n := ⟨_, rfl⟩
 rw [← hL'] at hLg hTh hE2 ⊢
 unfold fmtV at hF hE2 ⊢
 clear hL' hn ol hl
 refine FnOk.of Tryz.func40 rfl rfl fun cx w0 => ?_
 rw [show Tryz.f40.ntmps = 28 from rfl]
 refine zs0 ?_
 refine Holds.next (fun σ => ¬ 4096 < n ∧ ∀ a w, Rel cx w0 σ a w → Rel cx w0 { nt := 28, env := [(1, .v true (.int .i64 r)), (2, .v false (.sl 4 [.agg [.int .i64 kd, .bool neg, .int .i64 e, .sl 1 L]])), (3, .ptr 3 0 [] 0)], mem := [(3, .box 23 (.v false (.agg [.int .i64 k, .int .i64 P])))] } a w) ?_ ?_
 ·refine zs0 ?_
  refine Holds.loopB (fun i : Nat => { nt := 28, env := [(7, .v true (.int .i64 i)), (1, .v true (.int .i64 r)), (2, .v false (.sl 4 [.agg [.int .i64 kd, .bool neg, .int .i64 e, .sl 1 L]])), (3, .ptr 3 0 [] 0)], mem := [(3, .box 23 (.v false (.agg [.int .i64 k, .int .i64 P])))] }) (fun i => i = 0 ∨ i = 1 ∧ ¬ 4096 < n) (fun i => 1 - i) 0 (.inl rfl) (fun a w h => Rel.keep [7, 1, 2, 3] [3] h) ?_
  rintro i hi
  by_cases hi0 : i = 0
  ·subst hi0
   refine Holds.seq ?_
   refine zs0 ?_
   refine Holds.condT rfl (Holds.skip ?_)
   show Holds _ _ _ _ _ _ _
   refine Holds.next (fun σ => ¬ 4096 < n ∧ ∀ a w, Rel cx w0 σ a w → Rel cx w0 { nt := 28, env := [(7, .v true (.int .i64 0)), (1, .v true (.int .i64 r)), (2, .v false (.sl 4 [.agg [.int .i64 kd, .bool neg, .int .i64 e, .sl 1 L]])), (3, .ptr 3 0 [] 0)], mem := [(3, .box 23 (.v false (.agg [.int .i64 k, .int .i64 P])))] } a w) ?_ ?_
   ·refine Holds.blockN ?_
    by_cases hn : 4096 < n
    ·rw [decide_eq_true hn] at hLg
     rw [hbig hn]
     refine zs2 (ρ := fun _ => [.v true (.bool true)]) (o := by repeat' first|exact hLg|trivial|constructor) (k := ?_)
     refine Holds.condT rfl ?_
     refine zs0 ?_
     exact Holds.ret (RetOk.vs rfl (by exact ⟨⟨rfl, id⟩, trivial⟩) rfl)
    ·rw [decide_eq_false hn] at hLg
     refine zs2 (ρ := fun _ => [.v true (.bool false)]) (o := by repeat' first|exact hLg|trivial|constructor) (k := ?_)
     exact Holds.condF rfl (Holds.skip ⟨hn, fun a w h => Rel.keep [7, 1, 2, 3] [3] h⟩)
   ·rintro σ ⟨hn, hσ⟩
    refine Holds.from hσ ?_
    refine zr0 ?_
    exact ⟨1, .inr ⟨rfl, hn⟩, (show 1 - 1 < 1 - 0 by decide), fun a w h => Rel.keep [7, 1, 2, 3] [3] h⟩
  ·have hi1 : i = 1 ∧ ¬ 4096 < n := by omega
   obtain ⟨rfl, hn⟩ := hi1
   refine Holds.seq ?_
   refine zs0 ?_
   exact Holds.condF rfl (Holds.exit ⟨rfl, hn, fun a w h => Rel.keep [1, 2, 3] [3] h⟩)
 ·rintro σ ⟨hn, hσ⟩
  refine Holds.from hσ ?_
  clear hLg hσ
  refine Holds.seq ?_
  cases b with
  | true =>
    have hC := hE2 rfl
    refine zs2 (ρ := fun _ => [.v true (.bool true)]) (o := by repeat' first|exact hK|trivial|constructor) (k := ?_)
    refine Holds.condF rfl (Holds.skip ?_)
    show Holds _ _ _ _ _ _ _
    refine zs2 (ρ := fun d => if d = 24 then [.v true (.agg [.int .i64 k, .int .i64 P])] else if d = 26 then [.v false (.sl 4 [.agg [.int .i64 kd, .bool neg, .int .i64 e, .sl 1 L]])] else [.v true (.int .i64 E)]) (o := by repeat' first|exact hF|exact hTh|exact hC|trivial|constructor) (k := ?_)
    exact Holds.ret (RetOk.vs rfl (by exact ⟨⟨rfl, id⟩, trivial⟩) rfl)
  | false =>
    rw [hE1 rfl hn]
    refine zs2 (ρ := fun _ => [.v true (.bool false)]) (o := by repeat' first|exact hK|trivial|constructor) (k := ?_)
    refine Holds.condT rfl ?_
    refine zs0 ?_
    exact Holds.ret (RetOk.vs rfl (by exact ⟨⟨rfl, id⟩, trivial⟩) rfl)
set_option maxHeartbeats 2000000 in
theorem lArgs_ok (k P r n lo hi : Int) (kd : Int) (neg : Bool) (e : Int) (l : List Int) (hl : l.length < 5000) (ol : okW l) :
 FnOk Tryz.prog 25 [.v (fmtV k P), .v (.int .i64 r), .v (fltW kd neg e l), .v (.int .i64 n), .v (.int .i64 lo), .v (.int .i64 hi)] [.v true (.int .i64 (nuE k P (decide (0 ≤ r ∧ r ≤ 4) && !outB n lo hi) kd neg e l))] := by
 have hK := kArgs1_ok k P r kd neg e l hl ol
 have hbig : nuE k P (decide (0 ≤ r ∧ r ≤ 4)) kd neg e l = 2 → nuE k P (decide (0 ≤ r ∧ r ≤ 4) && !outB n lo hi) kd neg e l = 2 := fun h => by
  by_cases hb : 4096 < l.length
  ·exact nuE_big hb
  ·exfalso
   unfold nuE at h
   rw [if_neg hb] at h
   split at h
   ·cases h
   ·split at h
    ·cases h
    ·split at h <;> cases h
 have hsm : nuE k P (decide (0 ≤ r ∧ r ≤ 4)) kd neg e l ≠ 2 → outB n lo hi = true → nuE k P (decide (0 ≤ r ∧ r ≤ 4) && !outB n lo hi) kd neg e l = 1 := fun h ho => by
  rw [ho, Bool.not_true, Bool.and_false]
  exact nuE_okr fun hb => h (nuE_big hb)
 have hsa : outB n lo hi = false → nuE k P (decide (0 ≤ r ∧ r ≤ 4) && !outB n lo hi) kd neg e l = nuE k P (decide (0 ≤ r ∧ r ≤ 4)) kd neg e l := fun ho => by
  rw [ho, Bool.not_false, Bool.and_true]
 obtain ⟨E, hE⟩ : ∃ E, E = nuE k P (decide (0 ≤ r ∧ r ≤ 4)) kd neg e l := ⟨_, rfl⟩
 rw [← hE] at hK hbig hsm hsa
 obtain ⟨E2, hE2⟩ : ∃ E, E = nuE k P (decide (0 ≤ r ∧ r ≤ 4) && !outB n lo hi) kd neg e l := ⟨_, rfl⟩
 rw [← hE2] at hbig hsm hsa ⊢
 clear hE hE2
 unfold fltW words at hK ⊢
 obtain ⟨L, hL'⟩ : ∃ L, L = l.map fun n => V.int .u64 n := ⟨_, rfl⟩
 rw [← hL'] at hK ⊢
 unfold fmtV at hK ⊢
 clear hL' ol hl
 refine FnOk.of Tryz.func25 rfl rfl fun cx w0 => ?_
 rw [show Tryz.f25.ntmps = 32 from rfl]
 refine zs0 ?_
 refine zs2 (ρ := fun _ => [.v true (.int .i64 E)]) (o := by repeat' first|exact hK|trivial|constructor) (k := ?_)
 refine Holds.next (fun σ => ∀ a w, Rel cx w0 σ a w → Rel cx w0 { nt := 32, env := [(13, .v true (.int .i64 E2))], mem := [] } a w) ?_ ?_
 ·by_cases h2 : E = 2
  ·rw [hbig h2]
   subst h2
   refine zs0 ?_
   exact Holds.condF rfl (Holds.skip fun a w h => Rel.keep [13] [] h)
  ·by_cases g1 : n < lo
   ·rw [hsm h2 (decide_eq_true (.inl g1))]
    refine zs1 (an h2 <| g1) ?_
    refine Holds.condT rfl ?_
    refine zr0 ?_
    exact fun a w h => Rel.keep [13] [] h
   ·by_cases g2 : hi < n
    ·rw [hsm h2 (decide_eq_true (.inr g2))]
     refine zs1 (an h2 <| an g1 <| g2) ?_
     refine Holds.condT rfl ?_
     refine zr0 ?_
     exact fun a w h => Rel.keep [13] [] h
    ·rw [hsa (decide_eq_false (by omega))]
     refine zs1 (an h2 <| an g1 <| g2) ?_
     exact Holds.condF rfl (Holds.skip fun a w h => Rel.keep [13] [] h)
 ·intro σ hσ
  refine Holds.from hσ ?_
  refine zs0 ?_
  exact Holds.ret (RetOk.vs rfl (by exact ⟨⟨rfl, id⟩, trivial⟩) rfl)
set_option maxHeartbeats 4000000 in
theorem SR_walk (k P r kd e n : Int) (neg : Bool) (l : List Int) (ol : okW l) (he : -9223372036854775808 ≤ e ∧ e < 9223372036854775808) :
 FnOk Tryz.prog 6 [.v (fmtV k P), .v (.int .i64 r), .v (fltW kd neg e l), .v (.int .i64 n)] [.v true (.bool true)] := by
 have hA := awake_ok
 have hS := fShort_ok kd neg e (l.map fun n => .int .u64 n)
 rw [List.length_map] at hS
 by_cases h : l.length ≤ 40
 ·rw [decide_eq_true h] at hS
  have hAr := lArgs_ok k P r n 1 1200 kd neg e l (by omega) ol
  by_cases hE : fiE k P (decide (0 ≤ r ∧ r ≤ 4) && !outB n 1 1200) kd neg e l = 0
  ·obtain ⟨hnu, hk1⟩ := fi_one hE
   subst hk1
   obtain ⟨hr, hn⟩ := okr_of (nu_one hnu).2.1
   obtain ⟨K, p, m, ex, u, n', a, hf⟩ := flOne hnu
   have hraw := hf.raw hnu (by omega) ol he
   obtain ⟨r, rfl⟩ : ∃ r' : Nat, r = r' := ⟨r.toNat, by omega⟩
   obtain ⟨n, rfl⟩ : ∃ n' : Nat, n = n' := ⟨n.toNat, by omega⟩
   have hD := pDigits_ok k P r n e neg l (by omega) ol he (by omega) (by omega) hE hf
   have hT := rDigitsT_ok r n (by omega) (by omega) neg e l m ex a hraw hf.sh.fl hf.sh.hA
   have hTh := fTheirL_ok 1 neg e l
   rw [hnu] at hAr
   obtain ⟨d, hd⟩ : ∃ d, d = bs (rdL r neg m ex a n) := ⟨_, rfl⟩
   obtain ⟨x, hx⟩ : ∃ d, d = rdE r neg m ex a n := ⟨_, rfl⟩
   obtain ⟨b, hb⟩ : ∃ d, d = decide (cxA (fNum m ex) (fDen ex) (a - n + 1) = 0) := ⟨_, rfl⟩
   rw [← hd, ← hx, ← hb] at hD hT
   unfold fltW words at hD hT hTh hAr ⊢
   unfold fmtV at hD hAr ⊢
   obtain ⟨M, hM⟩ : ∃ L, L = l.map fun n => V.int .u64 n := ⟨_, rfl⟩
   rw [← hM] at hS hD hT hTh hAr ⊢
   clear hM hd hx hb hraw hf hnu hE he ol h
   refine FnOk.of Tryz.func6 rfl rfl fun cx w0 => ?_
   rw [show Tryz.f6.ntmps = 93 from rfl]
   refine zs0 ?_
   refine Holds.seq ?_
   refine zs2 (ρ := fun _ => [.v true (.bool true)]) (o := by repeat' first|exact hS|trivial|constructor) (k := ?_)
   refine Holds.condF rfl (Holds.skip ?_)
   show Holds _ _ _ _ _ _ _
   refine zs2 (ρ := fun _ => [.v true (.str d), .v true (.int .i64 x), .v true (.bool b), .v true (.int .i64 0)]) (o := by repeat' first|exact hD|trivial|constructor) (k := ?_)
   refine zs2 (ρ := fun _ => [.v true (.int .i64 0)]) (o := by repeat' first|exact hAr|trivial|constructor) (k := ?_)
   refine Holds.from (σ' := { nt := 93, env := [(13, .v true (.int .i64 0)), (9, .v true (.str d)), (10, .v true (.int .i64 x)), (11, .v true (.bool b)), (12, .v true (.int .i64 0)), (1, .v true (.int .i64 r)), (3, .v true (.int .i64 n)), (6, .ptr 6 0 [] 0)], mem := [(6, .box 28 (.v false (.agg [.int .i64 1, .bool neg, .int .i64 e, .sl 1 M])))] }) (fun a w h => Rel.keep [13, 9, 10, 11, 12, 1, 3, 6] [6] h) ?_
   clear hS hD hAr
   refine Holds.seq ?_
   refine zs0 ?_
   refine Holds.condF rfl (Holds.skip ?_)
   show Holds _ _ _ _ _ _ _
   refine Holds.seq ?_
   refine zs0 ?_
   refine Holds.condF rfl (Holds.skip ?_)
   show Holds _ _ _ _ _ _ _
   refine zs2 (ρ := fun y => if y = 67 then [.v false (.agg [.int .i64 1, .bool neg, .int .i64 e, .sl 1 M])] else [.v true (.str d), .v true (.int .i64 x), .v true (.bool b)]) (o := by repeat' first|exact hTh|exact hT|trivial|constructor) (k := ?_)
   refine Holds.step (Px := px) (T := TT) (ρ := fun _ => [.v true (.bool true)]) TTe (by simp (maxSteps := 100000) (disch := omega) only [go_sem, V.isAgg, V.flat, ↓reduceIte, Nat.reduceAdd, Nat.reduceSub, Nat.reduceLT, Nat.reduceEqDiff, reduceCtorEq, Nat.reduceLeDiff, Nat.reduceBEq, Nat.reduceMul, Int.reduceToNat, eq_self]; rfl) (by first | exact hA | (repeat' first | exact trivial | exact hA | constructor)) ?_
   exact Holds.ret (RetOk.vs rfl (by exact ⟨⟨rfl, id⟩, trivial⟩) rfl)
  ·have hD := pDigits_err k P r kd e n neg l (by omega) ol he hE
   have hw : ∀ nu, nu = nuE k P (decide (0 ≤ r ∧ r ≤ 4) && !outB n 1 1200) kd neg e l → (nu = 0 → kd ≠ 1 ∧ fiE k P (decide (0 ≤ r ∧ r ≤ 4) && !outB n 1 1200) kd neg e l = 4) ∧ (nu ≠ 0 → fiE k P (decide (0 ≤ r ∧ r ≤ 4) && !outB n 1 1200) kd neg e l = nu) := fun nu hnu => by
    unfold fiE at hE ⊢
    rw [← hnu] at hE ⊢
    constructor
    ·intro h0
     rw [if_neg (not_not_intro h0)] at hE ⊢
     by_cases hk : kd = 1
     ·rw [if_neg (not_not_intro hk)] at hE
      exact absurd rfl hE
     ·exact ⟨hk, if_pos hk⟩
    ·intro h0
     rw [if_pos h0]
   obtain ⟨nu, hnu⟩ : ∃ nu, nu = nuE k P (decide (0 ≤ r ∧ r ≤ 4) && !outB n 1 1200) kd neg e l := ⟨_, rfl⟩
   have hw := hw nu hnu
   rw [← hnu] at hAr
   obtain ⟨E, hEe⟩ : ∃ E, E = fiE k P (decide (0 ≤ r ∧ r ≤ 4) && !outB n 1 1200) kd neg e l := ⟨_, rfl⟩
   rw [← hEe] at hD hE hw
   unfold fltW words at hD hAr ⊢
   unfold fmtV at hD hAr ⊢
   obtain ⟨M, hM⟩ : ∃ L, L = l.map fun n => V.int .u64 n := ⟨_, rfl⟩
   rw [← hM] at hS hD hAr ⊢
   clear hM hEe hnu he ol h
   refine FnOk.of Tryz.func6 rfl rfl fun cx w0 => ?_
   rw [show Tryz.f6.ntmps = 93 from rfl]
   refine zs0 ?_
   refine Holds.seq ?_
   refine zs2 (ρ := fun _ => [.v true (.bool true)]) (o := by repeat' first|exact hS|trivial|constructor) (k := ?_)
   refine Holds.condF rfl (Holds.skip ?_)
   show Holds _ _ _ _ _ _ _
   refine zs2 (ρ := fun _ => [.v true (.str ⟨#[]⟩), .v true (.int .i64 0), .v true (.bool false), .v true (.int .i64 E)]) (o := by repeat' first|exact hD|trivial|constructor) (k := ?_)
   refine zs2 (ρ := fun _ => [.v true (.int .i64 nu)]) (o := by repeat' first|exact hAr|trivial|constructor) (k := ?_)
   refine Holds.from (σ' := { nt := 93, env := [(13, .v true (.int .i64 nu)), (9, .v true (.str ⟨#[]⟩)), (10, .v true (.int .i64 0)), (11, .v true (.bool false)), (12, .v true (.int .i64 E)), (6, .ptr 6 0 [] 0)], mem := [(6, .box 28 (.v false (.agg [.int .i64 kd, .bool neg, .int .i64 e, .sl 1 M])))] }) (fun a w h => Rel.keep [13, 9, 10, 11, 12, 6] [6] h) ?_
   clear hS hD hAr
   refine Holds.next (fun σ => ∀ a w, Rel cx w0 σ a w → Rel cx w0 { nt := 93, env := [(13, .v true (.int .i64 E)), (9, .v true (.str ⟨#[]⟩)), (10, .v true (.int .i64 0)), (11, .v true (.bool false)), (12, .v true (.int .i64 E))], mem := [] } a w) ?_ ?_
   ·by_cases h0 : nu = 0
    ·obtain ⟨hk, h4⟩ := hw.1 h0
     subst h0
     subst h4
     refine zs1 hk ?_
     refine Holds.condT rfl ?_
     refine zr0 ?_
     exact fun a w h => Rel.keep [13, 9, 10, 11, 12] [] h
    ·have := hw.2 h0
     subst this
     refine zs1 h0 ?_
     exact Holds.condF rfl (Holds.skip fun a w h => Rel.keep [13, 9, 10, 11, 12] [] h)
   ·intro σ hσ
    refine Holds.from hσ ?_
    refine Holds.seq ?_
    refine zs1 hE ?_
    refine Holds.condT rfl ?_
    refine Holds.step (Px := px) (T := TT) (ρ := fun _ => [.v true (.bool true)]) TTe (by simp (maxSteps := 100000) (disch := omega) only [go_sem, V.isAgg, V.flat, ↓reduceIte, Nat.reduceAdd, Nat.reduceSub, Nat.reduceLT, Nat.reduceEqDiff, reduceCtorEq, Nat.reduceLeDiff, Nat.reduceBEq, Nat.reduceMul, Int.reduceToNat, unA, eq_self]; rfl) (by first | exact hA | (repeat' first | exact trivial | exact hA | constructor)) ?_
    exact Holds.ret (RetOk.vs rfl (by exact ⟨⟨rfl, id⟩, trivial⟩) rfl)
 ·rw [decide_eq_false h] at hS
  unfold fltW words fmtV
  obtain ⟨M, hM⟩ : ∃ L, L = l.map fun n => V.int .u64 n := ⟨_, rfl⟩
  rw [← hM] at hS ⊢
  clear hM he ol h
  refine FnOk.of Tryz.func6 rfl rfl fun cx w0 => ?_
  rw [show Tryz.f6.ntmps = 93 from rfl]
  refine zs0 ?_
  refine Holds.seq ?_
  refine zs2 (ρ := fun _ => [.v true (.bool false)]) (o := by repeat' first|exact hS|trivial|constructor) (k := ?_)
  refine Holds.condT rfl ?_
  refine zs2 (ρ := fun _ => [.v true (.bool true)]) (o := by repeat' first|exact hA|trivial|constructor) (k := ?_)
  exact Holds.ret (RetOk.vs rfl (by exact ⟨⟨rfl, id⟩, trivial⟩) rfl)
end Go.Proofs.YtlpolbeikangpaaGreatDoor.L
namespace Go.Proofs.YtlpolbeikangpaaGreatDoor.L
open Go Go.RowKit Go.ChangeShapes Go.WideShapes Go.ChangeAt
variable {H : Type} {enc : TypeId × Value → H} {P : Program}
theorem openIc {t e : TypeId} {k : IntKind} {W : World} {cs : List Value} {x : DataW H × List MemPlace} {fuel : Nat} (ht : P.underlying t = some (.slice e)) (he : P.underlying e = some (.int k)) (hc : P.cellsOf e = 1)
 (hf : DataW.trod enc P W 0 (fun _ => true) true fuel t cs = some x) : ∃ (l : List Int), (∀ n ∈ l, (Lit.int k n).wf = true) ∧ Rep W (fun b => b < W.heap.size ∧ True) (.sl 1 (l.map fun n => .int k n)) cs := by
 rcases open_ints ht he hc hf with ⟨rfl, _⟩ | ⟨a, len, cap, zs, rfl, _, hl, hm, hz, _, hcell, hwz⟩
 ·exact ⟨[], (fun n hn => by cases hn), by rw [Rep]; exact .inl ⟨rfl, _, _, rfl⟩⟩
 ·simp only [if_true] at hz
  refine ⟨zs.take len, fun n hn => hwz n (List.mem_of_mem_take hn), ?_⟩
  rw [Rep]
  by_cases hl0 : len = 0
  ·subst hl0
   exact .inl ⟨by simp, _, _, rfl⟩
  ·obtain ⟨b, off, spot⟩ := a
   have hspot : spot = none := by simpa [Addr.add] using World.cell?_spot (hcell 0 (by omega))
   subst hspot
   have hb : b < W.heap.size := by
    have := hcell 0 (by omega)
    refine Nat.lt_of_not_le fun hle => ?_
    simp [World.cell?, Addr.add, Array.getElem?_eq_none hle] at this
   have hlen : ((zs.take len).map fun n => V.int k n).length = len := by rw [List.length_map, List.length_take]; omega
   refine .inr ⟨b, off, cap, by rw [hlen]; exact hl, ⟨hb, trivial⟩, by rw [hlen], ?_⟩
   refine RepF.row (repF_ints _) fun j hj => ?_
   rw [List.length_map, List.length_take] at hj
   have h1 := hcell j (by omega)
   rw [add_plain] at h1
   rw [h1, List.getElem?_map, List.getElem?_take_of_lt (by omega), List.getElem?_eq_getElem (by omega), List.getD_eq_getElem?_getD, List.getElem?_eq_getElem (by omega)]
   rfl
theorem openFlt {r : Reach} {b0 : Nat} {t e : TypeId} {f0 f1 f2 f3 : Field} {k0 k2 k3 : IntKind} {W : World} {v : Value} {d : DataW H} {ps : List MemPlace} (ht : P.underlying t = some (.struct #[f0, f1, f2, f3])) (hc : P.cellsOf t = 4) (o0 : f0.offset = 0) (o1 : f1.offset = 1) (o2 : f2.offset = 2) (o3 : f3.offset = 3)
 (c0 : P.cellsOf f0.type = 1) (c1 : P.cellsOf f1.type = 1) (c2 : P.cellsOf f2.type = 1) (c3 : P.cellsOf f3.type = 1) (u0 : P.underlying f0.type = some (.int k0)) (u1 : P.underlying f1.type = some .bool) (u2 : P.underlying f2.type = some (.int k2)) (u3 : P.underlying f3.type = some (.slice e))
 (ue : P.underlying e = some (.int k3)) (ce : P.cellsOf e = 1) (hval : Value.okWide P W r b0 t v) (hd : DataW.Trod enc P W 0 (fun _ => true) true t v d ps) :
 ∃ (a : Int) (b : Bool) (c : Int) (l : List Int), (Lit.int k0 a).wf = true ∧ (Lit.int k2 c).wf = true ∧ (∀ n ∈ l, (Lit.int k3 n).wf = true) ∧ ArgRep W (fun _ => True) (.v (.agg [.int k0 a, .bool b, .int k2 c, .sl 1 (l.map fun n => .int k3 n)])) v := by
 obtain ⟨cs, rfl, hsz⟩ := okWide_struct ht hval
 obtain ⟨fuel, hf⟩ := hd
 obtain ⟨xs, n, _, hx, hl, hlen, hg⟩ := DataW.trod_struct ht hf
 rw [Value.cells] at hg
 obtain ⟨cs⟩ := cs
 match cs, hsz.trans hc with
 | [x0, x1, x2, x3], _ =>
   match xs, hlen with
   | [y0, y1, y2, y3], _ =>
     have g0 := hg 0 f0 rfl
     have g1 := hg 1 f1 rfl
     have g2 := hg 2 f2 rfl
     have g3 := hg 3 f3 rfl
     rw [o0, c0, cells1 (c := x0) rfl] at g0
     rw [o1, c1, cells1 (c := x1) rfl] at g1
     rw [o2, c2, cells1 (c := x2) rfl] at g2
     rw [o3, c3, cells1 (c := x3) rfl] at g3
     obtain ⟨a, ha, _, wa⟩ := DataW.trod_int u0 (x := y0) g0
     obtain ⟨b, hb, _⟩ := DataW.trod_bool u1 (x := y1) g1
     obtain ⟨c, hc2, _, wc⟩ := DataW.trod_int u2 (x := y2) g2
     obtain ⟨l, wl, hrep⟩ := openIc u3 ue ce g3
     cases ha; cases hb; cases hc2
     refine ⟨a, b, c, l, wa, wc, wl, ?_⟩
     rw [ArgRep]
     refine ⟨[.int k0 a, .bool b, .int k2 c, x3], ?_, rfl⟩
     rw [Rep, RepL]
     refine ⟨[.int k0 a], _, rfl, by rw [Rep], ?_⟩
     rw [RepL]
     refine ⟨[.bool b], _, rfl, by rw [Rep], ?_⟩
     rw [RepL]
     refine ⟨[.int k2 c], _, rfl, by rw [Rep], ?_⟩
     rw [RepL]
     exact ⟨[x3], [], rfl, hrep, by rw [RepL]⟩
end Go.Proofs.YtlpolbeikangpaaGreatDoor.L
namespace Go.Proofs.YtlpolbeikangpaaGreatDoor.L
open Go Go.RowKit Go.Proofs Go.ChangeShapes Go.WideShapes Go.ChangeAt
theorem laidVars_mem {P : Program} {w : World} {n : String} {d : DataW Unit} : ∀ {l : List (String × DataW Unit)} {ps : List MemPlace}, DataW.LaidVars P w l ps → (n, d) ∈ l →
 ∃ g t cs fuel p, P.globalNamed n = some g ∧ (P.globals[g]?).map (·.type) = some t ∧ w.var? P n = some cs ∧ DataW.trod (fun _ => ()) P w 0 (fun _ => true) false fuel t cs.toList = some (d, p)
 | [], _, _, hm => by cases hm
 | x :: r, ps, h, hm => by
   obtain ⟨g, t, cs, fuel, p, q, h1, h2, h3, h4, h5, _⟩ := h
   rcases List.mem_cons.1 hm with rfl | hm
   ·exact ⟨g, t, cs, fuel, p, h1, h2, h3, h4⟩
   ·exact laidVars_mem h5 hm
theorem repL_ints {w : World} {ok : Nat → Prop} {k : IntKind} : ∀ zs : List Int, RepL w ok (zs.map fun n => V.int k n) (zs.map fun n => Value.int k n)
 | [] => by rw [List.map_nil, List.map_nil, RepL]
 | z :: r => by
   rw [List.map_cons, List.map_cons, RepL]
   exact ⟨[.int k z], _, rfl, by rw [Rep], repL_ints r⟩
theorem ints_cells {P : Program} {w : World} {t e : TypeId} {n : Nat} {k : IntKind} {zs : List Int} {fuel : Nat} {cs : List Value} {p : List MemPlace} (hu : P.underlying t = some (.array n e)) (he : P.underlying e = some (.int k)) (c1 : P.cellsOf e = 1) (ct : P.cellsOf t = n) (hn : zs.length = n)
 (h : DataW.trod (fun _ => ()) P w 0 (fun _ => true) false fuel t cs = some (.agg (zs.map fun z => .lit (.int k z)), p)) : cs = zs.map fun n => Value.int k n := by
 obtain ⟨xs, m, _, ex, hl0, hl, hel⟩ := DataW.trod_array hu h
 have e3 : (xs.map (·.1)) = zs.map fun n => .lit (.int k n) := (DataW.agg.inj (Prod.mk.inj ex).1).symm
 apply List.ext_getElem
 ·rw [hl0, ct, List.length_map, hn]
 ·intro r h1 h2
  rw [List.length_map] at h2
  have hE := hel r (by omega)
  rw [c1, Nat.mul_one, List.getElem?_eq_getElem (by omega)] at hE
  obtain ⟨z, e1, e2, _⟩ := DataW.trod_int he hE
  have e4 : (xs.map (·.1))[r]? = (zs.map fun n => (DataW.lit (.int k n) : DataW Unit))[r]? := by rw [e3]
  rw [List.getElem?_map, List.getElem?_map, List.getElem?_eq_getElem (by omega : r < xs.length), List.getElem?_eq_getElem h2, e2] at e4
  have hz : z = zs[r] := by simpa using e4
  have h0 : ((cs.drop r).take 1)[0]? = some (.int k z) := by rw [e1]; rfl
  have h3 : cs[r]? = some (.int k z) := by simpa using h0
  rw [List.getElem?_eq_getElem h1] at h3
  rw [Option.some.inj h3, List.getElem_map, hz]
theorem gl_one {W : World} {nm : String} {g : Nat} {cs : Array Value} {x : V} {ok : Nat → Prop} (hg : Tryz.prog.globalNamed nm = some g) (hv : W.var? Tryz.prog nm = some cs) (hr : Rep W ok x cs.toList) :
 g < W.heap.size ∧ ∃ cs, Rep W ok x cs ∧ ∃ t f, W.heap[g]? = some (.cells cs.toArray t f) := by
 unfold World.var? at hv
 rw [hg, Option.bind_some] at hv
 split at hv
 ·next cs' t f h =>
  cases hv
  exact ⟨(Array.getElem?_eq_some_iff.1 h).1, cs.toList, hr, t, f, by rw [h]⟩
 ·cases hv
def intOf' : V → Int
 | .int _ n => n
 | _ => 0
def intsOf' : V → List Int
 | .agg fs => fs.map intOf'
 | _ => []
def pow10Z : List Int := intsOf' pow10V
def bruijnZ : List Int := intsOf' bruijnV
theorem pow10V_eq : pow10V = .agg (pow10Z.map fun n => .int .u64 n) := by kernel_rfl
theorem bruijnV_eq : bruijnV = .agg (bruijnZ.map fun n => .int .u8 n) := by kernel_rfl
theorem pow10D_eq : Rows.laid_internal_strconv_uint64pow10 = (.agg (pow10Z.map fun n => .lit (.int .u64 n)) : DataW Unit) := by kernel_rfl
theorem bruijnD_eq : Rows.laid_math_bits_deBruijn64tab = (.agg (bruijnZ.map fun n => .lit (.int .u8 n)) : DataW Unit) := by kernel_rfl
def LAID : List (String × DataW Unit) := Rows.shortestLargeRow.laid
theorem laid_GL {W : World} (h : laidMetH Tryz.prog LAID W) : GL W := by
 have hF := h.funcs (n := "reckoner/fin.more") (d := .agg [.iface "func" (.lit (.string [114, 101, 99, 107, 111, 110, 101, 114, 47, 102, 105, 110, 46, 109, 111, 114, 101, 36, 49])), .iface "func" (.lit (.string [114, 101, 99, 107, 111, 110, 101, 114, 47, 102, 105, 110, 46, 109, 111, 114, 101, 36, 50])), .iface "func" (.lit (.string [114, 101, 99, 107, 111, 110, 101, 114, 47, 102, 105, 110, 46, 109, 111, 114, 101, 36, 51])), .iface "func" (.lit (.string [114, 101, 99, 107, 111, 110, 101, 114, 47, 102, 105, 110, 46, 109, 111, 114, 101, 36, 52])), .iface "func" (.lit (.string [114, 101, 99, 107, 111, 110, 101, 114, 47, 102, 105, 110, 46, 109, 111, 114, 101, 36, 53]))]) (by
  show _ ∈ Rows.shortestLargeRow.laid
  simp only [Rows.shortestLargeRow, Rows.laid_reckoner_fin_more, List.mem_cons, true_or, or_true])
 have hP : laidMet Tryz.prog (LAID.filter fun x => x.2.handleName?.isNone) W := by
  unfold laidMetH at h
  have e : (LAID.filter fun x => x.2.handleName?.isSome) = [("reckoner/fin.more", Rows.laid_reckoner_fin_more)] := by rfl
  rw [e] at h
  exact h.1
 obtain ⟨ps, hL, _, _⟩ := hP
 have hm1 : ("internal/strconv.uint64pow10", (Rows.laid_internal_strconv_uint64pow10 : DataW Unit)) ∈ LAID.filter fun x => x.2.handleName?.isNone := by
  rw [List.mem_filter]
  exact ⟨by show _ ∈ Rows.shortestLargeRow.laid; simp only [Rows.shortestLargeRow, List.mem_cons, true_or, or_true], rfl⟩
 have hm2 : ("math/bits.deBruijn64tab", (Rows.laid_math_bits_deBruijn64tab : DataW Unit)) ∈ LAID.filter fun x => x.2.handleName?.isNone := by
  rw [List.mem_filter]
  exact ⟨by show _ ∈ Rows.shortestLargeRow.laid; simp only [Rows.shortestLargeRow, List.mem_cons, true_or, or_true], rfl⟩
 intro q hq
 simp only [GLOB, List.mem_cons, List.not_mem_nil, or_false] at hq
 rcases hq with rfl | rfl | rfl
 ·obtain ⟨g, t, cs, fuel, p, hg, ht, hv, hd⟩ := hF
  obtain rfl := Option.some.inj ((show Tryz.prog.globalNamed "reckoner/fin.more" = some 0 by kernel_rfl).symm.trans hg)
  obtain rfl := Option.some.inj ((show (Tryz.prog.globals[0]?).map (·.type) = some 244 by kernel_rfl).symm.trans ht)
  obtain ⟨xs, m, _, ex, hl0, hl, hel⟩ := DataW.trod_array Tryz.underlying244 hd
  have c1 : Tryz.prog.cellsOf 243 = 1 := by kernel_rfl
  have ct : Tryz.prog.cellsOf 244 = 5 := by kernel_rfl
  have e3 := (DataW.agg.inj (Prod.mk.inj ex).1).symm
  have one : ∀ (i : Nat) (f : FuncId) (s : UInt8), i < 5 → (xs.map (·.1))[i]? = some (.held [114, 101, 99, 107, 111, 110, 101, 114, 47, 102, 105, 110, 46, 109, 111, 114, 101, 36, s]) →
   ((List.range Tryz.prog.funcs.size).filter fun f => (Tryz.prog.funcs[f]?).any (·.name.toUTF8.data.toList == [114, 101, 99, 107, 111, 110, 101, 114, 47, 102, 105, 110, 46, 109, 111, 114, 101, 36, s])) = [f] → cs.toList[i]? = some (.func (.func f) #[] #[]) := by
   intro i f s hi hx hone
   have hE := hel i hi
   rw [c1, Nat.mul_one] at hE
   rw [List.getElem?_map] at hx
   cases hxi : xs[i]? with
   | none => rw [hxi] at hx; cases hx
   | some y =>
     rw [hxi] at hx hE
     obtain ⟨y1, y2⟩ := y
     simp only [Option.map_some, Option.some.injEq] at hx
     subst hx
     have hlt : i < cs.toList.length := by rw [hl0, ct]; exact hi
     have h1 : ((cs.toList.drop i).take 1) = [cs.toList[i]] := by rw [List.drop_eq_getElem_cons hlt]; rfl
     rw [h1] at hE
     have := func_of_trod (f0 := f) Tryz.underlying243 hone hE
     rw [List.getElem?_eq_getElem hlt, this]
  have k0 := one 0 311 49 (by decide) (by rw [e3]; rfl) (by kernel_rfl)
  have k1 := one 1 312 50 (by decide) (by rw [e3]; rfl) (by kernel_rfl)
  have k2 := one 2 313 51 (by decide) (by rw [e3]; rfl) (by kernel_rfl)
  have k3 := one 3 314 52 (by decide) (by rw [e3]; rfl) (by kernel_rfl)
  have k4 := one 4 315 53 (by decide) (by rw [e3]; rfl) (by kernel_rfl)
  rw [ct] at hl0
  have hc : cs.toList = [.func (.func 311) #[] #[], .func (.func 312) #[] #[], .func (.func 313) #[] #[], .func (.func 314) #[] #[], .func (.func 315) #[] #[]] := by
   match hcs : cs.toList, hl0 with
   | [a, b, c, d, e], _ =>
     rw [hcs] at k0 k1 k2 k3 k4
     simp only [List.getElem?_cons_zero, List.getElem?_cons_succ, Option.some.injEq] at k0 k1 k2 k3 k4
     rw [k0, k1, k2, k3, k4]
  refine gl_one hg hv ?_
  rw [hc]
  unfold moreV
  rw [Rep, RepL]; refine ⟨[_], _, rfl, by rw [Rep], ?_⟩
  rw [RepL]; refine ⟨[_], _, rfl, by rw [Rep], ?_⟩
  rw [RepL]; refine ⟨[_], _, rfl, by rw [Rep], ?_⟩
  rw [RepL]; refine ⟨[_], _, rfl, by rw [Rep], ?_⟩
  rw [RepL]; refine ⟨[_], _, rfl, by rw [Rep], ?_⟩
  rw [RepL]
 ·obtain ⟨g, t, cs, fuel, p, hg, ht, hv, hd⟩ := laidVars_mem hL hm2
  obtain rfl := Option.some.inj ((show Tryz.prog.globalNamed "math/bits.deBruijn64tab" = some 3 by kernel_rfl).symm.trans hg)
  obtain rfl := Option.some.inj ((show (Tryz.prog.globals[3]?).map (·.type) = some 280 by kernel_rfl).symm.trans ht)
  rw [bruijnD_eq] at hd
  have hc := ints_cells Tryz.underlying280 Tryz.underlying5 (by kernel_rfl) (by kernel_rfl) (by kernel_rfl) hd
  refine gl_one hg hv ?_
  rw [bruijnV_eq, hc, Rep]
  exact repL_ints _
 ·obtain ⟨g, t, cs, fuel, p, hg, ht, hv, hd⟩ := laidVars_mem hL hm1
  obtain rfl := Option.some.inj ((show Tryz.prog.globalNamed "internal/strconv.uint64pow10" = some 7 by kernel_rfl).symm.trans hg)
  obtain rfl := Option.some.inj ((show (Tryz.prog.globals[7]?).map (·.type) = some 296 by kernel_rfl).symm.trans ht)
  rw [pow10D_eq] at hd
  have hc := ints_cells Tryz.underlying296 Tryz.underlying91 (by kernel_rfl) (by kernel_rfl) (by kernel_rfl) hd
  refine gl_one hg hv ?_
  rw [pow10V_eq, hc, Rep]
  exact repL_ints _
def PLAIN : List (String × DataW Unit) := LAID.filter fun x => x.2.handleName?.isNone
noncomputable def witBase (os : Os) : World :=
 { World.holding Tryz.prog os ⟨#[], #[], []⟩ with heap := ⟨Lay.setRows (World.holding Tryz.prog os ⟨#[], #[], []⟩).heap.toList [(0, [.func (.func 311) #[] #[], .func (.func 312) #[] #[], .func (.func 313) #[] #[], .func (.func 314) #[] #[], .func (.func 315) #[] #[]])]⟩ }
noncomputable def wit (os : Os) : World := (witBase os).layVars Tryz.prog PLAIN
theorem wit_os (os : Os) : (wit os).os = os := (World.layVars_os _ _ _).trans rfl
theorem wit_plain (os : Os) (args : Array Value) : laidMet Tryz.prog PLAIN ((wit os).forCall (fun _ _ => 0) ⟨#[], args, []⟩).memory := by
 have e1 : (PLAIN.filter fun x => (PLAIN.map (·.1)).contains x.1) = PLAIN := List.filter_eq_self.2 fun x hx => List.contains_iff_mem.2 (List.mem_map.2 ⟨x, hx, rfl⟩)
 have e2 : (PLAIN.filter fun x => !(PLAIN.map (·.1)).contains x.1) = [] := List.filter_eq_nil_iff.2 fun x hx => by rw [List.contains_iff_mem.2 (List.mem_map.2 ⟨x, hx, rfl⟩)]; simp
 have hf : (witBase os).layFits Tryz.prog PLAIN [] = true := by kernel_rfl
 have hi : (witBase os).layIfaces Tryz.prog PLAIN (wit os) = true := by kernel_rfl
 have h : laidMet Tryz.prog PLAIN (wit os) := laidMet_layVars (w0 := witBase os) (PLAIN.map (·.1)) [] (by rw [e1]; rfl) (by rw [e1]; exact hf) (by rw [e1]; exact hi) (by rw [e2]; exact LaidIn.none)
 exact h.of_heap (by simp [World.memory, World.forCall, Input.heap])
theorem wit_met (os : Os) (args : Array Value) : laidMetH Tryz.prog LAID ((wit os).forCall (fun _ _ => 0) ⟨#[], args, []⟩).memory :=
 laidMetH_of_parts3 (fuel := 8) (wit_plain os args) (by kernel_rfl) (by kernel_rfl)
end Go.Proofs.YtlpolbeikangpaaGreatDoor.L
