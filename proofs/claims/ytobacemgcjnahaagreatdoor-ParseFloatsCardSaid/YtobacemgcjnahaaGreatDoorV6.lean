/-
  Bh Bi Mc Mj Mn Ua Ub Ca Cb Cc Cd Ea Eb Bj Bk Bl Fa Fb
-/
import Derived.Test.YtobacemgcjnahaaGreatDoorV4
import Derived.Test.YtobacemgcjnahaaGreatDoorV5
import Derived.Shelf.Spec.BitsCarry
import Derived.Test.YtobacemgcjnahaaGreatDoorV3
import Derived.Lib.Mul64
import Derived.Laws.Bits64b
import Derived.Test.YtobacemgcjnahaaGreatDoorRows
import Derived.Test.YtobacemgcjnahaaGreatDoorV1
import Derived.ProofKit
import Derived.OpenShut
import Derived.LaidMore
import Derived.Lay
import Derived.SevenTiedAt
import Derived.Stop.Joined
set_option linter.unusedSimpArgs false
set_option linter.unusedVariables false
set_option maxRecDepth 100000
namespace Go.Proofs.YtobacemgcjnahaaGreatDoor.L
open Go Go.RowKit Go.Proofs
attribute [local go_sem] evalOps_nil evalOps_cons runW_t runW_f runE_s runP_s wantA evalOp effOp letters okDst coreA St.opv St.get St.at look constA St.put St.upd St.set decide_true List.all_nil List.all_cons Bool.and_true Bool.true_and and_self and_true true_and if_true if_false true_or Int.sub_zero List.nil_append List.cons_append List.append_nil Option.isSome_some List.getElem?_toArray List.getElem?_cons_succ List.getElem?_cons_zero Option.bind_some Option.map_some Option.map_none beq_self_eq_true Bool.false_beq Bool.true_beq Bool.not_true Bool.not_false Bool.false_eq_true cond_true cond_false binA binI List.map_cons List.map_nil boundA List.length_nil List.length_cons Nat.zero_mul Nat.one_mul Nat.mul_one Nat.zero_add Nat.add_zero Nat.zero_le Option.toList St.freshB AV.ment AV.ments Blk.ment V.sizes Nat.lt_add_one Bool.or_true Bool.true_or Bool.or_false Bool.false_or Bool.or_self if_pos if_neg decide_false decide_eq_true decide_eq_false wrap_i64 Int.toNat_natCast minA maxA Int.natCast_add Int.cast_ofNat_Int Option.isSome_none false_implies true_implies forall_const List.drop_zero Int.toNat_zero Int.add_sub_cancel lenA sliceA loadA indexAddrA partA fitsT V.atP V.offP V.size List.length_map List.getElem?_map Int.toNat_natCast_add_one Int.ofNat_eq_natCast TY calleeA capArg knotA capArgs toArgs toArg callA R.res R.mems R.blks R.av R.names R.nw invokeA storeA storeV fieldAddrA liveB V.off V.offs V.setP List.set_cons_zero List.set_cons_succ buildA buildP partsA appendA srcA copyA boxOk makeA AV.pure List.take_succ_cons List.take_zero nilA words unA entry List.zipIdx_cons List.zipIdx_nil Arg.av Arg.avs
structure RNum where
 kind : Nat
 neg : Bool
 num : Nat
 exp : Int
 far : Bool
def RNum.v (x : RNum) : V := .agg [.int .i64 (x.kind : Nat), .bool x.neg, words (digs x.num), .int .i64 x.exp, .bool x.far]
def rZ : RNum := ⟨0, false, 0, 0, false⟩
def seB (a b : ByteArray) : Bool := a.toList == b.toList
def rHex (s : ByteArray) (a : Nat) : Bool := decide (a + 1 < s.size ∧ bAt s a = 48 ∧ bAt s (a + 1) = 120)
def rNum (s : ByteArray) (a : Nat) (neg hex : Bool) : RNum :=
 if (mnR s (if hex = true then a + 2 else a) (if hex = true then 16 else 10)).2.2.1 = 0 then rZ else
 if (mnR s (if hex = true then a + 2 else a) (if hex = true then 16 else 10)).1 < s.size ∧ bAt s (mnR s (if hex = true then a + 2 else a) (if hex = true then 16 else 10)).1 = (if hex = true then 112 else 101) then
  if (rxR s ((mnR s (if hex = true then a + 2 else a) (if hex = true then 16 else 10)).1 + 1)).2.2 = true then
   ⟨if hex = true then 2 else 1, neg, (mnR s (if hex = true then a + 2 else a) (if hex = true then 16 else 10)).2.1, (rxR s ((mnR s (if hex = true then a + 2 else a) (if hex = true then 16 else 10)).1 + 1)).1 - ((if hex = true then 4 else 1 : Nat) * (mnR s (if hex = true then a + 2 else a) (if hex = true then 16 else 10)).2.2.2 : Nat), (rxR s ((mnR s (if hex = true then a + 2 else a) (if hex = true then 16 else 10)).1 + 1)).2.1⟩ else rZ
 else if (mnR s (if hex = true then a + 2 else a) (if hex = true then 16 else 10)).1 < s.size ∨ hex = true then rZ else
  ⟨1, neg, (mnR s a 10).2.1, 0 - ((mnR s a 10).2.2.2 : Nat), false⟩
def rRead (s : ByteArray) : RNum :=
 if (seB (s.extract (rxJ s 0) s.size) wInf || seB (s.extract (rxJ s 0) s.size) wInfinity) = true then ⟨3, rxN s 0, 0, 0, false⟩ else
 if seB (s.extract (rxJ s 0) s.size) wNan = true then (if rxJ s 0 = 0 then ⟨4, false, 0, 0, false⟩ else rZ) else
 rNum s (rxJ s 0) (rxN s 0) (rHex s (rxJ s 0))
theorem mnL_bd (l : ByteArray) (base : Nat) : ∀ (f i : Nat) (pt : Bool) (n m b : Nat), i + f = l.size → (mnL l base f i pt n m b).1 ≤ l.size ∧ (mnL l base f i pt n m b).2.2.2 ≤ b + f
 | 0, i, pt, n, m, b, h => ⟨by rw [mnL]; show i ≤ _; omega, by rw [mnL]; exact Nat.le_refl _⟩
 | f + 1, i, pt, n, m, b, h => by
   rw [mnL]
   split
   ·have := mnL_bd l base f (i + 1) true n m b (by omega)
    exact ⟨this.1, by omega⟩
   ·split
    ·have := mnL_bd l base f (i + 1) pt (n * base + (dgI (bAt l i) base).toNat) (m + 1) (b + b2n pt) (by omega)
     have h1 : b2n pt ≤ 1 := by cases pt <;> decide
     exact ⟨this.1, by omega⟩
    ·exact ⟨by show i ≤ _; omega, Nat.le_add_right _ _⟩
theorem mnR_bd (l : ByteArray) (i base : Nat) (h : i ≤ l.size) : (mnR l i base).1 ≤ l.size ∧ (mnR l i base).2.2.2 ≤ l.size := by
 have := mnL_bd l base (l.size - i) i false 0 0 0 (by omega)
 exact ⟨this.1, by have := this.2; unfold mnR; omega⟩
theorem rxL_bd (s : ByteArray) : ∀ (k i n : Nat) (f : Bool) (m : Nat) (g : Bool), n ≤ 100000000 → rxL s k i n f = some (m, g) → m ≤ 100000000
 | 0, i, n, f, m, g, hn, h => by rw [rxL] at h; cases h; exact hn
 | k + 1, i, n, f, m, g, hn, h => by
   rw [rxL] at h
   split at h
   ·cases h
   ·split at h
    ·exact rxL_bd s k _ _ _ m g (Nat.le_refl _) h
    ·exact rxL_bd s k _ _ _ m g (by omega) h
theorem rxR_bd (s : ByteArray) (i : Nat) : -100000000 ≤ (rxR s i).1 ∧ (rxR s i).1 ≤ 100000000 := by
 unfold rxR
 split
 ·simp
 ·split
  ·simp
  ·next n f h =>
   have := rxL_bd s _ _ _ _ _ _ (by decide) h
   simp only
   split <;> omega
set_option maxHeartbeats 4000000 in
theorem rRead_ok (t : ByteArray) (ht : t.size ≤ 1000) (hls : (lowS t).size ≤ 1000) : FnOk Tryz.prog 15 [.v (.str t)] [.v true (rRead (lowS t)).v] := by
 have hL := lower_ok t (by omega)
 obtain ⟨s, hs⟩ : ∃ s, s = lowS t := ⟨_, rfl⟩
 rw [← hs] at hL hls ⊢
 clear hs
 refine FnOk.of Tryz.func15 rfl rfl fun cx w0 => ?_
 rw [show Tryz.f15.ntmps = 133 from rfl]
 obtain ⟨T, hT⟩ : ∃ T, T = rRead s := ⟨_, rfl⟩
 rw [← hT]
 refine zs0 ?_
 refine zs2 (ρ := fun _ => [.v true (.str s)]) (o := by repeat' first|exact hL|trivial|constructor) (k := ?_)
 refine zs0 ?_
 refine zs0 ?_
 refine Holds.next (fun σ => ∃ p neg, p = rxJ s 0 ∧ neg = rxN s 0 ∧ ∀ a w, Rel cx w0 σ a w → Rel cx w0 { nt := 133, env := [(5, .v true (.int .i64 (p : Nat))), (2, .ptr 2 0 [] 0), (4, .ptr 4 0 [] 0), (3, .v true (.str s))], mem := [(4, .box 39 (.v true (.agg [.int .i64 0, .bool neg, .sl 1 [], .int .i64 0, .bool false]))), (2, .box 39 (.v true (.agg [.int .i64 0, .bool false, .sl 1 [], .int .i64 0, .bool false])))] } a w) ?_ ?_
 ·refine Holds.from (σ' := { nt := 133, env := [(5, .v true (.int .i64 0)), (2, .ptr 2 0 [] 0), (4, .ptr 4 0 [] 0), (3, .v true (.str s))], mem := [(4, .box 39 (.v true (.agg [.int .i64 0, .bool false, .sl 1 [], .int .i64 0, .bool false]))), (2, .box 39 (.v true (.agg [.int .i64 0, .bool false, .sl 1 [], .int .i64 0, .bool false])))] }) (fun a w h => Rel.keep [5, 2, 4, 3] [4, 2] h) ?_
  unfold rxJ rxN
  by_cases hl : 0 < s.size
  ·have g0 : (0 : Int) < s.size := by omega
   obtain ⟨x, hx, ex⟩ := bAt_some hl
   rw [ex]
   have hx8 := x.toNat_lt
   by_cases h43 : x.toNat = 43
   ·have g1 : (x.toNat : Int) = 43 := by omega
    have g2 : ¬ (43 : Int) = 45 := by decide
    rw [decide_eq_false (by omega), if_pos ⟨hl, .inl h43⟩]
    refine Holds.step (Px := px) (T := TT) (ρ := fun _ => []) TTe (by simp (maxSteps := 100000) (disch := omega) only [go_sem, V.isAgg, V.flat, ↓reduceIte, Nat.reduceAdd, Nat.reduceSub, Nat.reduceLT, Nat.reduceEqDiff, reduceCtorEq, Nat.reduceLeDiff, Nat.reduceBEq, Nat.reduceMul, Int.reduceToNat, indexA, hx, g0, g1]; rfl) (by repeat' first | exact trivial | constructor) ?_
    refine Holds.condT rfl ?_
    refine Holds.step (Px := px) (T := TT) (ρ := fun _ => []) TTe (by simp (maxSteps := 100000) (disch := omega) only [go_sem, V.isAgg, V.flat, ↓reduceIte, Nat.reduceAdd, Nat.reduceSub, Nat.reduceLT, Nat.reduceEqDiff, reduceCtorEq, Nat.reduceLeDiff, Nat.reduceBEq, Nat.reduceMul, Int.reduceToNat, indexA, hx, g0, g1, g2]; rfl) (by repeat' first | exact trivial | constructor) ?_
    refine zr0 ?_
    exact ⟨1, false, rfl, rfl, fun a w h => Rel.keep [5, 2, 4, 3] [4, 2] h⟩
   ·have g1 : ¬ (x.toNat : Int) = 43 := by omega
    by_cases h45 : x.toNat = 45
    ·have g2 : (x.toNat : Int) = 45 := by omega
     have g3 : ¬ (45 : Int) = 43 := by decide
     rw [decide_eq_true (by omega), if_pos ⟨hl, .inr h45⟩]
     refine Holds.step (Px := px) (T := TT) (ρ := fun _ => []) TTe (by simp (maxSteps := 100000) (disch := omega) only [go_sem, V.isAgg, V.flat, ↓reduceIte, Nat.reduceAdd, Nat.reduceSub, Nat.reduceLT, Nat.reduceEqDiff, reduceCtorEq, Nat.reduceLeDiff, Nat.reduceBEq, Nat.reduceMul, Int.reduceToNat, indexA, hx, g0, g2, g3]; rfl) (by repeat' first | exact trivial | constructor) ?_
     refine Holds.condT rfl ?_
     refine Holds.step (Px := px) (T := TT) (ρ := fun _ => []) TTe (by simp (maxSteps := 100000) (disch := omega) only [go_sem, V.isAgg, V.flat, ↓reduceIte, Nat.reduceAdd, Nat.reduceSub, Nat.reduceLT, Nat.reduceEqDiff, reduceCtorEq, Nat.reduceLeDiff, Nat.reduceBEq, Nat.reduceMul, Int.reduceToNat, indexA, hx, g0, g2]; rfl) (by repeat' first | exact trivial | constructor) ?_
     refine zr0 ?_
     exact ⟨1, true, rfl, rfl, fun a w h => Rel.keep [5, 2, 4, 3] [4, 2] h⟩
    ·have g2 : ¬ (x.toNat : Int) = 45 := by omega
     rw [decide_eq_false (by omega), if_neg (by omega)]
     refine Holds.step (Px := px) (T := TT) (ρ := fun _ => []) TTe (by simp (maxSteps := 100000) (disch := omega) only [go_sem, V.isAgg, V.flat, ↓reduceIte, Nat.reduceAdd, Nat.reduceSub, Nat.reduceLT, Nat.reduceEqDiff, reduceCtorEq, Nat.reduceLeDiff, Nat.reduceBEq, Nat.reduceMul, Int.reduceToNat, indexA, hx, g0, g1, g2]; rfl) (by repeat' first | exact trivial | constructor) ?_
     exact Holds.condF rfl (Holds.skip ⟨0, false, rfl, rfl, fun a w h => Rel.keep [5, 2, 4, 3] [4, 2] h⟩)
  ·have g0 : ¬ (0 : Int) < s.size := by omega
   rw [decide_eq_false (by omega), if_neg (by omega)]
   refine zs1 g0 ?_
   exact Holds.condF rfl (Holds.skip ⟨0, false, rfl, rfl, fun a w h => Rel.keep [5, 2, 4, 3] [4, 2] h⟩)
 rintro σ ⟨p, neg, hp, hneg, hσ⟩
 refine Holds.from hσ ?_
 clear hσ
 have hale : p ≤ s.size := by rw [hp]; unfold rxJ; split <;> omega
 have ha1 : p ≤ 1 := by rw [hp]; unfold rxJ; split <;> omega
 unfold rRead at hT
 rw [← hp, ← hneg] at hT
 clear hp hneg
 refine Holds.next (fun σ => T = rNum s p neg (rHex s p) ∧ ∀ a w, Rel cx w0 σ a w → Rel cx w0 { nt := 133, env := [(5, .v true (.int .i64 (p : Nat))), (2, .ptr 2 0 [] 0), (4, .ptr 4 0 [] 0), (3, .v true (.str s))], mem := [(4, .box 39 (.v true (.agg [.int .i64 0, .bool neg, .sl 1 [], .int .i64 0, .bool false]))), (2, .box 39 (.v true (.agg [.int .i64 0, .bool false, .sl 1 [], .int .i64 0, .bool false])))] } a w) ?_ ?_
 ·have g0 : (p : Int) ≤ s.size := by omega
  refine zs1 g0 ?_
  unfold wInf wInfinity wNan at hT
  unfold seB at hT
  obtain ⟨b1, hb1⟩ : ∃ b, ((s.extract p s.size).toList == (⟨#[105, 110, 102]⟩ : ByteArray).toList) = b := ⟨_, rfl⟩
  obtain ⟨b2, hb2⟩ : ∃ b, ((s.extract p s.size).toList == (⟨#[105, 110, 102, 105, 110, 105, 116, 121]⟩ : ByteArray).toList) = b := ⟨_, rfl⟩
  obtain ⟨b3, hb3⟩ : ∃ b, ((s.extract p s.size).toList == (⟨#[110, 97, 110]⟩ : ByteArray).toList) = b := ⟨_, rfl⟩
  rw [hb1, hb2, hb3] at hT
  refine Holds.blockN ?_
  refine Holds.from (σ' := { nt := 133, env := [(5, .v true (.int .i64 (p : Nat))), (38, .v true (.str (s.extract p s.size))), (2, .ptr 2 0 [] 0), (4, .ptr 4 0 [] 0), (3, .v true (.str s))], mem := [(4, .box 39 (.v true (.agg [.int .i64 0, .bool neg, .sl 1 [], .int .i64 0, .bool false]))), (2, .box 39 (.v true (.agg [.int .i64 0, .bool false, .sl 1 [], .int .i64 0, .bool false])))] }) (fun a w h => Rel.keep [5, 38, 2, 4, 3] [4, 2] h) ?_
  refine Holds.next (fun σ => ∀ a w, Rel cx w0 σ a w → Rel cx w0 { nt := 133, env := [(39, .v true (.bool (b1 || b2))), (5, .v true (.int .i64 (p : Nat))), (38, .v true (.str (s.extract p s.size))), (2, .ptr 2 0 [] 0), (4, .ptr 4 0 [] 0), (3, .v true (.str s))], mem := [(4, .box 39 (.v true (.agg [.int .i64 0, .bool neg, .sl 1 [], .int .i64 0, .bool false]))), (2, .box 39 (.v true (.agg [.int .i64 0, .bool false, .sl 1 [], .int .i64 0, .bool false])))] } a w) ?_ ?_
  ·cases b1
   ·refine zs1 hb1 ?_
    refine Holds.condF rfl ?_
    refine zr1 hb2 ?_
    rw [Bool.false_or]
    exact fun a w h => Rel.keep [39, 5, 38, 2, 4, 3] [4, 2] h
   ·refine zs1 hb1 ?_
    exact Holds.condT rfl (Holds.skip fun a w h => Rel.keep [39, 5, 38, 2, 4, 3] [4, 2] h)
  intro σ hσ
  refine Holds.from hσ ?_
  cases hb : (b1 || b2)
  ·refine Holds.condF rfl ?_
   rw [hb, if_neg (by simp)] at hT
   cases b3
   ·rw [if_neg (by simp)] at hT
    refine zs1 hb3 ?_
    exact Holds.condF rfl (Holds.skip ⟨hT, fun a w h => Rel.keep [5, 2, 4, 3] [4, 2] h⟩)
   ·rw [if_pos rfl] at hT
    refine zs1 hb3 ?_
    refine Holds.condT rfl ?_
    by_cases hp0 : p = 0
    ·rw [if_pos hp0] at hT
     rw [hT]
     have g : (p : Int) = 0 := by omega
     refine Holds.seq ?_
     refine zs1 g ?_
     refine Holds.condT rfl ?_
     refine zs0 ?_
     exact Holds.ret (RetOk.vs rfl (by exact ⟨⟨rfl, id⟩, trivial⟩) rfl)
    ·rw [if_neg hp0] at hT
     rw [hT]
     have g : ¬ (p : Int) = 0 := by omega
     refine Holds.seq ?_
     refine zs1 g ?_
     refine Holds.condF rfl (Holds.skip ?_)
     refine zs0 ?_
     exact Holds.ret (RetOk.vs rfl (by exact ⟨⟨rfl, id⟩, trivial⟩) rfl)
  ·refine Holds.condT rfl ?_
   rw [hb, if_pos rfl] at hT
   rw [hT]
   refine zs0 ?_
   exact Holds.ret (RetOk.vs rfl (by exact ⟨⟨rfl, id⟩, trivial⟩) rfl)
 rintro σ ⟨hT, hσ⟩
 refine Holds.from hσ ?_
 clear hσ
 refine zs0 ?_
 refine zs0 ?_
 refine Holds.from (σ' := { nt := 133, env := [(5, .v true (.int .i64 (p : Nat))), (6, .v true (.int .i64 10)), (7, .v true (.int .u8 101)), (8, .v true (.int .i64 1)), (2, .ptr 2 0 [] 0), (4, .ptr 4 0 [] 0), (3, .v true (.str s))], mem := [(4, .box 39 (.v true (.agg [.int .i64 1, .bool neg, .sl 1 [], .int .i64 0, .bool false]))), (2, .box 39 (.v true (.agg [.int .i64 0, .bool false, .sl 1 [], .int .i64 0, .bool false])))] }) (fun a w h => Rel.keep [5, 6, 7, 8, 2, 4, 3] [4, 2] h) ?_
 obtain ⟨hx, hhx⟩ : ∃ hx, hx = rHex s p := ⟨_, rfl⟩
 rw [← hhx] at hT
 refine Holds.next (fun σ => ∃ base letter each p2 kind : Nat, (base = (if hx = true then 16 else 10) ∧ letter = (if hx = true then 112 else 101) ∧ each = (if hx = true then 4 else 1) ∧ p2 = (if hx = true then p + 2 else p) ∧ kind = (if hx = true then 2 else 1) ∧ p2 ≤ s.size) ∧ ∀ a w, Rel cx w0 σ a w → Rel cx w0 { nt := 133, env := [(5, .v true (.int .i64 (p2 : Nat))), (6, .v true (.int .i64 (base : Nat))), (7, .v true (.int .u8 (letter : Nat))), (8, .v true (.int .i64 (each : Nat))), (2, .ptr 2 0 [] 0), (4, .ptr 4 0 [] 0), (3, .v true (.str s))], mem := [(4, .box 39 (.v true (.agg [.int .i64 (kind : Nat), .bool neg, .sl 1 [], .int .i64 0, .bool false]))), (2, .box 39 (.v true (.agg [.int .i64 0, .bool false, .sl 1 [], .int .i64 0, .bool false])))] } a w) ?_ ?_
 ·by_cases hl : p + 1 < s.size
  ·have e1 : IntKind.i64.wrap ((p : Int) + 1) = ((p + 1 : Nat) : Int) := by rw [wrap_i64 (by omega) (by omega)]; omega
   have e2 : IntKind.i64.wrap ((p : Int) + 2) = ((p + 2 : Nat) : Int) := by rw [wrap_i64 (by omega) (by omega)]; omega
   obtain ⟨x, hx1, ex⟩ := bAt_some (s := s) (i := p) (by omega)
   obtain ⟨y, hy1, ey⟩ := bAt_some hl
   have hxx : hx = decide (x.toNat = 48 ∧ y.toNat = 120) := by
    rw [hhx]; unfold rHex; rw [ex, ey]
    by_cases h1 : x.toNat = 48 ∧ y.toNat = 120
    ·rw [decide_eq_true h1, decide_eq_true ⟨hl, h1⟩]
    ·rw [decide_eq_false h1, decide_eq_false (fun h => h1 h.2)]
   clear hhx ex ey
   obtain ⟨q, hq⟩ : ∃ q, q = p + 1 := ⟨_, rfl⟩
   rw [← hq] at e1 hl hy1
   have g0 : (q : Int) < s.size := by omega
   have g00 : (p : Int) < s.size := by omega
   have hp0 : p < s.size := by omega
   by_cases h48 : x.toNat = 48
   ·have g1 : (x.toNat : Int) = 48 := by omega
    by_cases h120 : y.toNat = 120
    ·have g2 : (y.toNat : Int) = 120 := by omega
     rw [decide_eq_true ⟨h48, h120⟩] at hxx
     subst hxx
     obtain ⟨p2, hp2⟩ : ∃ p2, p2 = p + 2 := ⟨_, rfl⟩
     rw [← hp2] at e2
     refine Holds.step (Px := px) (T := TT) (ρ := fun _ => []) TTe (by simp (maxSteps := 100000) (disch := omega) only [go_sem, V.isAgg, V.flat, ↓reduceIte, Nat.reduceAdd, Nat.reduceSub, Nat.reduceLT, Nat.reduceEqDiff, reduceCtorEq, Nat.reduceLeDiff, Nat.reduceBEq, Nat.reduceMul, Int.reduceToNat, indexA, hx1, hy1, e1, g0, g00, hl, hp0, g1, g2]; rfl) (by repeat' first | exact trivial | constructor) ?_
     refine Holds.condT rfl ?_
     refine zs0 ?_
     refine zs0 ?_
     refine zr1 e2 ?_
     exact ⟨16, 112, 4, p2, 2, ⟨rfl, rfl, rfl, hp2, rfl, by omega⟩, fun a w h => Rel.keep [5, 6, 7, 8, 2, 4, 3] [4, 2] h⟩
    ·have g2 : ¬ (y.toNat : Int) = 120 := by omega
     rw [decide_eq_false (fun h => h120 h.2)] at hxx
     subst hxx
     refine Holds.step (Px := px) (T := TT) (ρ := fun _ => []) TTe (by simp (maxSteps := 100000) (disch := omega) only [go_sem, V.isAgg, V.flat, ↓reduceIte, Nat.reduceAdd, Nat.reduceSub, Nat.reduceLT, Nat.reduceEqDiff, reduceCtorEq, Nat.reduceLeDiff, Nat.reduceBEq, Nat.reduceMul, Int.reduceToNat, indexA, hx1, hy1, e1, g0, g00, hl, hp0, g1, g2]; rfl) (by repeat' first | exact trivial | constructor) ?_
     exact Holds.condF rfl (Holds.skip ⟨10, 101, 1, p, 1, ⟨rfl, rfl, rfl, rfl, rfl, hale⟩, fun a w h => Rel.keep [5, 6, 7, 8, 2, 4, 3] [4, 2] h⟩)
   ·have g1 : ¬ (x.toNat : Int) = 48 := by omega
    rw [decide_eq_false (fun h => h48 h.1)] at hxx
    subst hxx
    refine Holds.step (Px := px) (T := TT) (ρ := fun _ => []) TTe (by simp (maxSteps := 100000) (disch := omega) only [go_sem, V.isAgg, V.flat, ↓reduceIte, Nat.reduceAdd, Nat.reduceSub, Nat.reduceLT, Nat.reduceEqDiff, reduceCtorEq, Nat.reduceLeDiff, Nat.reduceBEq, Nat.reduceMul, Int.reduceToNat, indexA, hx1, hy1, e1, g0, g00, hl, hp0, g1]; rfl) (by repeat' first | exact trivial | constructor) ?_
    exact Holds.condF rfl (Holds.skip ⟨10, 101, 1, p, 1, ⟨rfl, rfl, rfl, rfl, rfl, hale⟩, fun a w h => Rel.keep [5, 6, 7, 8, 2, 4, 3] [4, 2] h⟩)
  ·have e1 : IntKind.i64.wrap ((p : Int) + 1) = ((p + 1 : Nat) : Int) := by rw [wrap_i64 (by omega) (by omega)]; omega
   have hxx : hx = false := by rw [hhx]; exact decide_eq_false (fun h => hl h.1)
   subst hxx
   obtain ⟨q, hq⟩ : ∃ q, q = p + 1 := ⟨_, rfl⟩
   rw [← hq] at e1 hl
   have g0 : ¬ (q : Int) < s.size := by omega
   refine zs1 (an e1 <| g0) ?_
   exact Holds.condF rfl (Holds.skip ⟨10, 101, 1, p, 1, ⟨rfl, rfl, rfl, rfl, rfl, hale⟩, fun a w h => Rel.keep [5, 6, 7, 8, 2, 4, 3] [4, 2] h⟩)
 rintro σ ⟨base, letter, each, p2, kind, ⟨hbase, hletter, heach, hp2, hkind, hp2s⟩, hσ⟩
 refine Holds.from hσ ?_
 clear hσ
 unfold rNum at hT
 rw [← hbase, ← hletter, ← heach, ← hp2, ← hkind] at hT
 have hb16 : base ≤ 16 ∧ 1 ≤ base := by rw [hbase]; split <;> omega
 have he4 : each ≤ 4 := by rw [heach]; split <;> omega
 have hlt8 : letter < 256 := by rw [hletter]; split <;> omega
 have hM := mantissa_ok s p2 base hls hp2s hb16.1 hb16.2
 have hMb := mnR_bd s p2 base hp2s
 have hdec : hx = false → mnR s p 10 = mnR s p2 base := fun h => by rw [hp2, hbase, h]; rfl
 obtain ⟨M, hMe⟩ : ∃ M, M = mnR s p2 base := ⟨_, rfl⟩
 rw [← hMe] at hM hMb hT hdec
 obtain ⟨en, num, many, bh⟩ := M
 simp only at hM hMb hT hdec
 refine zs2 (ρ := fun _ => [.v true (words (digs num)), .v true (.int .i64 (bh : Nat)), .v true (.int .i64 (many : Nat)), .v true (.int .i64 (en : Nat))]) (o := by repeat' first|exact hM|trivial|constructor) (k := ?_)
 refine Holds.from (σ' := { nt := 133, env := [(9, .v true (words (digs num))), (10, .v true (.int .i64 (bh : Nat))), (11, .v true (.int .i64 (many : Nat))), (12, .v true (.int .i64 (en : Nat))), (7, .v true (.int .u8 (letter : Nat))), (8, .v true (.int .i64 (each : Nat))), (2, .ptr 2 0 [] 0), (4, .ptr 4 0 [] 0), (3, .v true (.str s))], mem := [(4, .box 39 (.v true (.agg [.int .i64 (kind : Nat), .bool neg, .sl 1 [], .int .i64 0, .bool false]))), (2, .box 39 (.v true (.agg [.int .i64 0, .bool false, .sl 1 [], .int .i64 0, .bool false])))] }) (fun a w h => Rel.keep [9, 10, 11, 12, 7, 8, 2, 4, 3] [4, 2] h) ?_
 by_cases hm0 : many = 0
 ·rw [if_pos hm0] at hT
  rw [hT]
  have g : (many : Int) = 0 := by omega
  refine Holds.seq ?_
  refine zs1 g ?_
  refine Holds.condT rfl ?_
  refine zs0 ?_
  exact Holds.ret (RetOk.vs rfl (by exact ⟨⟨rfl, id⟩, trivial⟩) rfl)
 rw [if_neg hm0] at hT
 have g : ¬ (many : Int) = 0 := by omega
 refine Holds.next (fun σ => ∀ a w, Rel cx w0 σ a w → Rel cx w0 { nt := 133, env := [(9, .v true (words (digs num))), (10, .v true (.int .i64 (bh : Nat))), (12, .v true (.int .i64 (en : Nat))), (7, .v true (.int .u8 (letter : Nat))), (8, .v true (.int .i64 (each : Nat))), (2, .ptr 2 0 [] 0), (4, .ptr 4 0 [] 0), (3, .v true (.str s))], mem := [(4, .box 39 (.v true (.agg [.int .i64 (kind : Nat), .bool neg, .sl 1 [], .int .i64 0, .bool false]))), (2, .box 39 (.v true (.agg [.int .i64 0, .bool false, .sl 1 [], .int .i64 0, .bool false])))] } a w) ?_ ?_
 ·refine zs1 g ?_
  exact Holds.condF rfl (Holds.skip fun a w h => Rel.keep [9, 10, 12, 7, 8, 2, 4, 3] [4, 2] h)
 intro σ hσ
 refine Holds.from hσ ?_
 clear hσ g
 unfold words
 refine zs0 ?_
 refine Holds.from (σ' := { nt := 133, env := [(10, .v true (.int .i64 (bh : Nat))), (12, .v true (.int .i64 (en : Nat))), (7, .v true (.int .u8 (letter : Nat))), (8, .v true (.int .i64 (each : Nat))), (2, .ptr 2 0 [] 0), (4, .ptr 4 0 [] 0), (3, .v true (.str s))], mem := [(4, .box 39 (.v true (.agg [.int .i64 (kind : Nat), .bool neg, words (digs num), .int .i64 0, .bool false]))), (2, .box 39 (.v true (.agg [.int .i64 0, .bool false, .sl 1 [], .int .i64 0, .bool false])))] }) (fun a w h => Rel.keep [10, 12, 7, 8, 2, 4, 3] [4, 2] h) ?_
 have wf : words (digs num) = .sl 1 ((digs num).map fun n => .int .u64 n) := rfl
 obtain ⟨W, hW⟩ : ∃ W, W = (digs num).map fun n => V.int .u64 n := ⟨_, rfl⟩
 rw [wf, ← hW]
 refine Holds.next (fun σ => ∃ (e : Int) (far : Bool), T = ⟨kind, neg, num, e - (each * bh : Nat), far⟩ ∧ -100000000 ≤ e ∧ e ≤ 100000000 ∧ ∀ a w, Rel cx w0 σ a w → Rel cx w0 { nt := 133, env := [(10, .v true (.int .i64 (bh : Nat))), (8, .v true (.int .i64 (each : Nat))), (2, .ptr 2 0 [] 0), (4, .ptr 4 0 [] 0), (3, .v true (.str s))], mem := [(4, .box 39 (.v true (.agg [.int .i64 (kind : Nat), .bool neg, .sl 1 W, .int .i64 e, .bool far]))), (2, .box 39 (.v true (.agg [.int .i64 0, .bool false, .sl 1 [], .int .i64 0, .bool false])))] } a w) ?_ ?_
 ·refine Holds.blockN ?_
  obtain ⟨c, hc⟩ : ∃ c : Bool, c = decide (en < s.size ∧ bAt s en = letter) := ⟨_, rfl⟩
  refine Holds.next (fun σ => ∀ a w, Rel cx w0 σ a w → Rel cx w0 { nt := 133, env := [(87, .v true (.bool c)), (12, .v true (.int .i64 (en : Nat))), (10, .v true (.int .i64 (bh : Nat))), (8, .v true (.int .i64 (each : Nat))), (2, .ptr 2 0 [] 0), (4, .ptr 4 0 [] 0), (3, .v true (.str s))], mem := [(4, .box 39 (.v true (.agg [.int .i64 (kind : Nat), .bool neg, .sl 1 W, .int .i64 0, .bool false]))), (2, .box 39 (.v true (.agg [.int .i64 0, .bool false, .sl 1 [], .int .i64 0, .bool false])))] } a w) ?_ ?_
  ·by_cases hl : en < s.size
   ·obtain ⟨x, hx1, ex⟩ := bAt_some hl
    rw [ex] at hc
    have g0 : (en : Int) < s.size := by omega
    by_cases hxl : x.toNat = letter
    ·rw [decide_eq_true ⟨hl, hxl⟩] at hc
     subst hc
     have g1 : (x.toNat : Int) = letter := by omega
     refine Holds.region (Px := px) (T := TT) (ρ := fun _ => []) TTe (by simp (maxSteps := 100000) (disch := omega) only [go_sem, V.isAgg, V.flat, ↓reduceIte, Nat.reduceAdd, Nat.reduceSub, Nat.reduceLT, Nat.reduceEqDiff, reduceCtorEq, Nat.reduceLeDiff, Nat.reduceBEq, Nat.reduceMul, Int.reduceToNat, indexA, hx1, g0, hl, g1]; rfl) (by repeat' first | exact trivial | constructor) ?_
     exact fun a w h => Rel.keep [87, 12, 10, 8, 2, 4, 3] [4, 2] h
    ·rw [decide_eq_false (fun h => hxl h.2)] at hc
     subst hc
     have g1 : ¬ (x.toNat : Int) = letter := by omega
     refine Holds.region (Px := px) (T := TT) (ρ := fun _ => []) TTe (by simp (maxSteps := 100000) (disch := omega) only [go_sem, V.isAgg, V.flat, ↓reduceIte, Nat.reduceAdd, Nat.reduceSub, Nat.reduceLT, Nat.reduceEqDiff, reduceCtorEq, Nat.reduceLeDiff, Nat.reduceBEq, Nat.reduceMul, Int.reduceToNat, indexA, hx1, g0, hl, g1]; rfl) (by repeat' first | exact trivial | constructor) ?_
     exact fun a w h => Rel.keep [87, 12, 10, 8, 2, 4, 3] [4, 2] h
   ·rw [decide_eq_false (fun h => hl h.1)] at hc
    subst hc
    have g0 : ¬ (en : Int) < s.size := by omega
    refine zr1 g0 ?_
    exact fun a w h => Rel.keep [87, 12, 10, 8, 2, 4, 3] [4, 2] h
  intro σ hσ
  refine Holds.from hσ ?_
  clear hσ
  cases c
  ·refine Holds.condF rfl ?_
   have hc' := of_decide_eq_false hc.symm
   rw [if_neg hc'] at hT
   obtain ⟨d, hd⟩ : ∃ d : Bool, d = decide (en < s.size ∨ hx = true) := ⟨_, rfl⟩
   refine Holds.next (fun σ => ∀ a w, Rel cx w0 σ a w → Rel cx w0 { nt := 133, env := [(114, .v true (.bool d)), (10, .v true (.int .i64 (bh : Nat))), (8, .v true (.int .i64 (each : Nat))), (2, .ptr 2 0 [] 0), (4, .ptr 4 0 [] 0), (3, .v true (.str s))], mem := [(4, .box 39 (.v true (.agg [.int .i64 (kind : Nat), .bool neg, .sl 1 W, .int .i64 0, .bool false]))), (2, .box 39 (.v true (.agg [.int .i64 0, .bool false, .sl 1 [], .int .i64 0, .bool false])))] } a w) ?_ ?_
   ·by_cases hl : en < s.size
    ·rw [decide_eq_true (.inl hl)] at hd
     subst hd
     have g0 : (en : Int) < s.size := by omega
     refine zr1 g0 ?_
     exact fun a w h => Rel.keep [114, 10, 8, 2, 4, 3] [4, 2] h
    ·have g0 : ¬ (en : Int) < s.size := by omega
     cases hx
     ·rw [decide_eq_false (by simp [hl])] at hd
      rw [if_neg (by simp)] at hkind
      subst hd
      subst hkind
      refine zr1 g0 ?_
      exact fun a w h => Rel.keep [114, 10, 8, 2, 4, 3] [4, 2] h
     ·rw [decide_eq_true (.inr rfl)] at hd
      rw [if_pos rfl] at hkind
      subst hd
      subst hkind
      refine zr1 g0 ?_
      exact fun a w h => Rel.keep [114, 10, 8, 2, 4, 3] [4, 2] h
   intro σ hσ
   refine Holds.from hσ ?_
   clear hσ
   cases d
   ·have hd' := of_decide_eq_false hd.symm
    rw [if_neg hd'] at hT
    have hxf : hx = false := by
     cases hx
     ·rfl
     ·exact absurd (.inr rfl) hd'
    rw [hdec hxf] at hT
    rw [hxf, if_neg (by simp)] at hkind heach
    simp only at hT
    rw [hkind, heach]
    rw [hkind, heach] at *
    exact Holds.condF rfl (Holds.skip ⟨0, false, by rw [hT, Nat.one_mul], by decide, by decide, fun a w h => Rel.keep [10, 8, 2, 4, 3] [4, 2] h⟩)
   ·have hd' := of_decide_eq_true hd.symm
    rw [if_pos hd'] at hT
    rw [hT]
    refine Holds.condT rfl ?_
    refine zs0 ?_
    exact Holds.ret (RetOk.vs rfl (by exact ⟨⟨rfl, id⟩, trivial⟩) rfl)
  ·refine Holds.condT rfl ?_
   have hc' := of_decide_eq_true hc.symm
   rw [if_pos hc'] at hT
   have hX := rexponent_ok s (en + 1) (by omega) (by omega)
   have hXb := rxR_bd s (en + 1)
   obtain ⟨X, hXe⟩ : ∃ X, X = rxR s (en + 1) := ⟨_, rfl⟩
   rw [← hXe] at hX hXb hT
   obtain ⟨x1, x2, x3⟩ := X
   simp only at hX hXb hT
   have e1 : IntKind.i64.wrap ((en : Int) + 1) = ((en + 1 : Nat) : Int) := by rw [wrap_i64 (by omega) (by omega)]; omega
   obtain ⟨en1, hen1⟩ : ∃ en1, en1 = en + 1 := ⟨_, rfl⟩
   rw [← hen1] at e1 hX
   refine zs3 (ρ := fun _ => [.v true (.int .i64 x1), .v true (.bool x2), .v true (.bool x3)]) e1 (o := by repeat' first|exact hX|trivial|constructor) (k := ?_)
   cases x3
   ·rw [if_neg (by simp)] at hT
    rw [hT]
    refine Holds.seq ?_
    refine zs0 ?_
    refine Holds.condT rfl ?_
    refine zs0 ?_
    exact Holds.ret (RetOk.vs rfl (by exact ⟨⟨rfl, id⟩, trivial⟩) rfl)
   ·rw [if_pos rfl] at hT
    refine Holds.next (fun σ => ∀ a w, Rel cx w0 σ a w → Rel cx w0 { nt := 133, env := [(13, .v true (.int .i64 x1)), (14, .v true (.bool x2)), (10, .v true (.int .i64 (bh : Nat))), (8, .v true (.int .i64 (each : Nat))), (2, .ptr 2 0 [] 0), (4, .ptr 4 0 [] 0), (3, .v true (.str s))], mem := [(4, .box 39 (.v true (.agg [.int .i64 (kind : Nat), .bool neg, .sl 1 W, .int .i64 0, .bool false]))), (2, .box 39 (.v true (.agg [.int .i64 0, .bool false, .sl 1 [], .int .i64 0, .bool false])))] } a w) ?_ ?_
    ·refine zs0 ?_
     exact Holds.condF rfl (Holds.skip fun a w h => Rel.keep [13, 14, 10, 8, 2, 4, 3] [4, 2] h)
    intro σ hσ
    refine Holds.from hσ ?_
    clear hσ
    refine zr0 ?_
    exact ⟨x1, x2, hT, hXb.1, hXb.2, fun a w h => Rel.keep [10, 8, 2, 4, 3] [4, 2] h⟩
 ·rintro σ ⟨e, far, hT, he1, he2, hσ⟩
  refine Holds.from hσ ?_
  clear hσ
  have hbb : each * bh ≤ 4 * 1000 := Nat.mul_le_mul he4 (by omega)
  have w1 : IntKind.i64.wrap ((each : Int) * (bh : Int)) = ((each * bh : Nat) : Int) := by
   have : (each : Int) * (bh : Int) = ((each * bh : Nat) : Int) := by rw [Int.natCast_mul]
   rw [this, wrap_i64 (by omega) (by omega)]
  obtain ⟨eb, heb⟩ : ∃ eb, eb = each * bh := ⟨_, rfl⟩
  rw [← heb] at w1 hT hbb
  have w2 : IntKind.i64.wrap (e - (eb : Int)) = e - eb := wrap_i64 (by omega) (by omega)
  refine zs1 (an w1 <| w2) ?_
  refine zs0 ?_
  rw [hT]
  unfold RNum.v
  rw [wf, ← hW]
  exact Holds.ret (RetOk.vs rfl (by exact ⟨⟨rfl, id⟩, trivial⟩) rfl)
theorem lowS_size (s : ByteArray) : (lowS s).size = s.size := by
 show ((lwL s s.size).map UInt8.ofNat).toArray.size = _
 rw [List.size_toArray, List.length_map, lwL_len]
theorem FnOk.int3 {P : Program} {f : FuncId} {k : IntKind} {x y c a b : Int} (hr : ∀ w, (callFunc f #[.int k x, .int k y, .int k c]).run P w = .ok (.value (.tuple #[.int k a, .int k b])) w) :
 FnOk P f [.v (.int k x), .v (.int k y), .v (.int k c)] [.v true (.int k a), .v true (.int k b)] := by
 intro w O vs _ h
 have one : ∀ {n : Int} {v : Value}, ArgRep w O (.v (.int k n)) v → v = .int k n := fun h => by
  rw [ArgRep] at h
  obtain ⟨cs, h1, h2⟩ := h
  rw [Rep] at h1
  subst h1
  exact h2
 rw [ArgsRep] at h
 obtain ⟨v1, r1, rfl, h1, h⟩ := h
 rw [ArgsRep] at h
 obtain ⟨v2, r2, rfl, h2, h⟩ := h
 rw [ArgsRep] at h
 obtain ⟨v3, r3, rfl, h3, h⟩ := h
 rw [ArgsRep] at h
 subst h
 rw [one h1, one h2, one h3]
 refine .inr ⟨_, w, hr w, _, fun _ => none, rfl, Below.refl _ _, ⟨fun s b c hs => by simp at hs, fun s1 s2 b c c' h1 => by simp at h1⟩, fun s => rfl, ?_⟩
 show RepA _ w _ _ (.tup [.v true (.int k a), .v true (.int k b)]) _
 rw [RepA]
 refine ⟨[.int k a, .int k b], rfl, ?_⟩
 rw [RepAL]
 refine ⟨_, _, rfl, repA_int.2 rfl, ?_⟩
 rw [RepAL]
 exact ⟨_, _, rfl, repA_int.2 rfl, by rw [RepAL]⟩
theorem add64_ok (x y c : Int) (hx : 0 ≤ x) (hy : 0 ≤ y) (hc0 : 0 ≤ c) (hc : c ≤ 1) : FnOk Tryz.prog 91 [.v (.int .u64 x), .v (.int .u64 y), .v (.int .u64 c)] [.v true (.int .u64 ((x + y + c) % 18446744073709551616)), .v true (.int .u64 ((x + y + c) / 18446744073709551616))] :=
 FnOk.int3 fun w => by
  rw [run_callFunc_extern Tryz.func91 (by kernel_rfl) (by kernel_rfl) (by kernel_rfl) (e := add64Entry) (by kernel_rfl), run_add64 x y c hx hy hc0 hc]
  rfl
theorem sub64_ok (x y c : Int) (hx : 0 ≤ x) (hx' : x < 18446744073709551616) (hy : 0 ≤ y) (hy' : y < 18446744073709551616) (hc0 : 0 ≤ c) (hc : c ≤ 1) :
 FnOk Tryz.prog 177 [.v (.int .u64 x), .v (.int .u64 y), .v (.int .u64 c)] [.v true (.int .u64 ((x - y - c) % 18446744073709551616)), .v true (.int .u64 (if x < y + c then 1 else 0))] :=
 FnOk.int3 fun w => by
  obtain ⟨X, rfl⟩ := Int.eq_ofNat_of_zero_le hx
  obtain ⟨Y, rfl⟩ := Int.eq_ofNat_of_zero_le hy
  obtain ⟨C, rfl⟩ := Int.eq_ofNat_of_zero_le hc0
  rw [run_callFunc_extern Tryz.func177 (by kernel_rfl) (by kernel_rfl) (by kernel_rfl) (e := sub64Entry) (by kernel_rfl)]
  have := run_sub64 (P := Tryz.prog) X Y C (by omega) w
  rw [this]
  simp only [Result.andThen]
  have e1 : (((X + 18446744073709551616 - Y - C) % 18446744073709551616 : Nat) : Int) = ((X : Int) - Y - C) % 18446744073709551616 := by omega
  have e2 : ((if X < Y + C then 1 else 0 : Nat) : Int) = if (X : Int) < (Y : Int) + C then 1 else 0 := by
   split <;> split <;> omega
  rw [e1, e2]
theorem maskN (a : Nat) (ha : a < 18446744073709551616) : bitI .and .u64 (a : Int) 4294967295 = ((a % 4294967296 : Nat) : Int) := by
 have h := bits_and_u64_nat a 4294967295 ha (by omega)
 have e : a &&& 4294967295 = a % 4294967296 := Nat.and_two_pow_sub_one_eq_mod a 32
 rw [e] at h
 exact h
theorem shrN (a : Nat) : Int.fdiv (a : Int) (2 ^ min (32 : Nat) 64) = ((a / 4294967296 : Nat) : Int) := by
 show Int.fdiv (a : Int) 4294967296 = _
 rw [Int.fdiv_eq_ediv_of_nonneg _ (by omega)]
 omega
theorem mulN (a b : Nat) : (a : Int) * (b : Int) = ((a * b : Nat) : Int) := (Int.natCast_mul a b).symm
theorem addN (a b : Nat) : (a : Int) + (b : Int) = ((a + b : Nat) : Int) := (Int.natCast_add a b).symm
theorem wrapN (a : Nat) (ha : a < 18446744073709551616) : IntKind.u64.wrap (a : Int) = (a : Int) := by rw [wrap_u64]; omega
theorem wrapM (a : Nat) : IntKind.u64.wrap (a : Int) = ((a % 18446744073709551616 : Nat) : Int) := by rw [wrap_u64]; omega
theorem mul64_ok (x y : Nat) (hx : x < 18446744073709551616) (hy : y < 18446744073709551616) :
 FnOk Tryz.prog 90 [.v (.int .u64 x), .v (.int .u64 y)] [.v true (.int .u64 ((x * y / 18446744073709551616 : Nat) : Int)), .v true (.int .u64 ((x * y % 18446744073709551616 : Nat) : Int))] := by
 obtain ⟨bd, bt, bw, hhi⟩ := Lib.mul64_hi x y hx hy
 obtain ⟨x0, e1⟩ : ∃ a, a = x % 4294967296 := ⟨_, rfl⟩
 obtain ⟨x1, e2⟩ : ∃ a, a = x / 4294967296 := ⟨_, rfl⟩
 obtain ⟨y0, e3⟩ : ∃ a, a = y % 4294967296 := ⟨_, rfl⟩
 obtain ⟨y1, e4⟩ : ∃ a, a = y / 4294967296 := ⟨_, rfl⟩
 have ba := Lib.half_mul_le (a := x1) (b := y1) (by omega) (by omega)
 have bb := Lib.half_mul_le (a := x1) (b := y0) (by omega) (by omega)
 have bc := Lib.half_mul_le (a := x0) (b := y1) (by omega) (by omega)
 rw [← e1, ← e2, ← e3, ← e4] at hhi
 rw [← e1, ← e3] at bd
 rw [← e1, ← e2, ← e3] at bt
 rw [← e1, ← e2, ← e3, ← e4] at bw
 obtain ⟨w0', e5⟩ : ∃ a, a = x0 * y0 := ⟨_, rfl⟩
 obtain ⟨p, e6⟩ : ∃ a, a = x1 * y0 := ⟨_, rfl⟩
 obtain ⟨q, e7⟩ : ∃ a, a = x0 * y1 := ⟨_, rfl⟩
 obtain ⟨r, e8⟩ : ∃ a, a = x1 * y1 := ⟨_, rfl⟩
 rw [← e5] at bd
 rw [← e5, ← e6] at bt
 rw [← e5, ← e6, ← e7] at bw
 rw [← e5, ← e6, ← e7, ← e8] at hhi
 obtain ⟨v, e9⟩ : ∃ a, a = w0' / 4294967296 := ⟨_, rfl⟩
 rw [← e9] at bt bw hhi
 obtain ⟨t, e10⟩ : ∃ a, a = p + v := ⟨_, rfl⟩
 rw [← e10] at bt bw hhi
 obtain ⟨w1, e11⟩ : ∃ a, a = t % 4294967296 := ⟨_, rfl⟩
 obtain ⟨w2, e12⟩ : ∃ a, a = t / 4294967296 := ⟨_, rfl⟩
 rw [← e11] at bw hhi
 rw [← e12] at hhi
 obtain ⟨w3, e13⟩ : ∃ a, a = w1 + q := ⟨_, rfl⟩
 rw [← e13] at bw hhi
 obtain ⟨w4, e14⟩ : ∃ a, a = w3 / 4294967296 := ⟨_, rfl⟩
 rw [← e14] at hhi
 obtain ⟨u, e15⟩ : ∃ a, a = r + w2 := ⟨_, rfl⟩
 obtain ⟨h, e16⟩ : ∃ a, a = u + w4 := ⟨_, rfl⟩
 obtain ⟨lo, e17⟩ : ∃ a, a = x * y % 18446744073709551616 := ⟨_, rfl⟩
 have f1 : bitI .and .u64 (x : Int) 4294967295 = x0 := by rw [maskN x hx, e1]
 have f2 : Int.fdiv (x : Int) (2 ^ min (32 : Nat) 64) = x1 := by rw [shrN, e2]
 have f3 : bitI .and .u64 (y : Int) 4294967295 = y0 := by rw [maskN y hy, e3]
 have f4 : Int.fdiv (y : Int) (2 ^ min (32 : Nat) 64) = y1 := by rw [shrN, e4]
 have f5 : IntKind.u64.wrap ((x0 : Int) * y0) = w0' := by rw [mulN, ← e5, wrapN _ bd]
 have f6 : IntKind.u64.wrap ((x1 : Int) * y0) = p := by rw [mulN, ← e6, wrapN _ (by omega)]
 have f7 : IntKind.u64.wrap ((x0 : Int) * y1) = q := by rw [mulN, ← e7, wrapN _ (by omega)]
 have f8 : IntKind.u64.wrap ((x1 : Int) * y1) = r := by rw [mulN, ← e8, wrapN _ (by omega)]
 have f9 : Int.fdiv (w0' : Int) (2 ^ min (32 : Nat) 64) = v := by rw [shrN, e9]
 have f10 : IntKind.u64.wrap ((p : Int) + v) = t := by rw [addN, ← e10, wrapN _ bt]
 have f11 : bitI .and .u64 (t : Int) 4294967295 = w1 := by rw [maskN t bt, e11]
 have f12 : Int.fdiv (t : Int) (2 ^ min (32 : Nat) 64) = w2 := by rw [shrN, e12]
 have f13 : IntKind.u64.wrap ((w1 : Int) + q) = w3 := by rw [addN, ← e13, wrapN _ bw]
 have f14 : Int.fdiv (w3 : Int) (2 ^ min (32 : Nat) 64) = w4 := by rw [shrN, e14]
 have f15 : IntKind.u64.wrap ((r : Int) + w2) = u := by rw [addN, ← e15, wrapN _ (by omega)]
 have f16 : IntKind.u64.wrap ((u : Int) + w4) = h := by rw [addN, ← e16, wrapN _ (by omega)]
 have f17 : IntKind.u64.wrap ((x : Int) * y) = lo := by rw [mulN, wrapM, e17]
 have hh : x * y / 18446744073709551616 = h := by rw [← hhi, e16, e15]
 rw [hh, ← e17]
 refine FnOk.of Tryz.func90 rfl rfl fun cx w0 => ?_
 rw [show Tryz.f90.ntmps = 51 from rfl]
 refine zs0 ?_
 refine zs1 f1 ?_
 refine zs1 f2 ?_
 refine zs1 f3 ?_
 refine zs1 f4 ?_
 refine zs1 f5 ?_
 refine zs1 (an f6 <| an f9 <| f10) ?_
 refine zs1 f11 ?_
 refine zs1 f12 ?_
 refine zs1 (an f7 <| f13) ?_
 refine zs1 (an f8 <| an f14 <| an f15 <| f16) ?_
 refine zs1 f17 ?_
 exact Holds.ret ⟨_, [], rfl, ⟨⟨rfl, id⟩, ⟨rfl, id⟩, trivial⟩, by simp [R.names, R.mems, R.blks], by simp, rfl⟩
theorem add64N (a b c : Nat) (hc : c ≤ 1) {s t : Nat} (hs : s = (a + b + c) % 18446744073709551616) (ht : t = (a + b + c) / 18446744073709551616) : FnOk Tryz.prog 91 [.v (.int .u64 a), .v (.int .u64 b), .v (.int .u64 c)] [.v true (.int .u64 s), .v true (.int .u64 t)] := by
 have h := add64_ok a b c (by omega) (by omega) (by omega) (by omega)
 rw [show ((a : Int) + b + c) % 18446744073709551616 = (s : Int) from by omega, show ((a : Int) + b + c) / 18446744073709551616 = (t : Int) from by omega] at h
 exact h
noncomputable def lenTab : ByteArray := ((Tryz.f139.body.bind tabIn).getD ByteArray.empty)
theorem lenTab_ok : tabOk lenTab 256 8 = true := by kernel_rfl
def hv (b : Nat) (s : Nat × Nat) : Nat × Nat := if 2 ^ b ≤ s.1 then (s.1 / 2 ^ b, s.2 + b) else s
def len3 (x : Nat) : Nat × Nat := hv 8 (hv 16 (hv 32 (x, 0)))
noncomputable def len64 (x : Nat) : Nat := (len3 x).2 + bAt lenTab (len3 x).1
theorem shrB (a b : Nat) (hb : b < 64) : Int.fdiv (a : Int) (2 ^ min b 64) = ((a / 2 ^ b : Nat) : Int) := by
 have : min b 64 = b := Nat.min_eq_left (by omega)
 rw [this, Int.fdiv_eq_ediv_of_nonneg _ (Int.le_of_lt (Int.pow_pos (by omega))), Int.natCast_ediv, Int.natCast_pow]
 rfl
theorem len3_ok {x : Nat} (hx : x < 18446744073709551616) : (len3 x).1 < 256 ∧ (len3 x).2 ≤ 56 := by
 unfold len3
 have h1 : (hv 32 (x, 0)).1 < 4294967296 ∧ (hv 32 (x, 0)).2 ≤ 32 := by
  unfold hv; split <;> first | omega | (simp only; omega)
 generalize hv 32 (x, 0) = s at h1
 have h2 : (hv 16 s).1 < 65536 ∧ (hv 16 s).2 ≤ 48 := by
  unfold hv; split <;> first | omega | (simp only; omega)
 generalize hv 16 s = t at h2
 unfold hv; split <;> first | omega | (simp only; omega)
theorem len64_le {x : Nat} (hx : x < 18446744073709551616) : len64 x ≤ 64 := by
 obtain ⟨h1, h2⟩ := len3_ok hx
 have h3 := List.all_eq_true.1 lenTab_ok _ (List.mem_range.2 h1)
 unfold len64 bAt
 split
 ·next b hb => rw [hb] at h3; have : b.toNat ≤ 8 := by simpa using h3
               omega
 ·omega
theorem len64_ok (x : Nat) (hx : x < 18446744073709551616) : FnOk Tryz.prog 139 [.v (.int .u64 x)] [.v true (.int .i64 (len64 x))] := by
 refine FnOk.of Tryz.func139 rfl rfl fun cx w0 => ?_
 rw [show Tryz.f139.ntmps = 25 from rfl]
 refine zs0 ?_
 refine Holds.next (fun σ => ∀ a w, Rel cx w0 σ a w → Rel cx w0 { nt := 25, env := [(0, .v true (.int .u64 (hv 32 (x, 0)).1)), (2, .v true (.int .i64 (hv 32 (x, 0)).2))], mem := [] } a w) ?_ ?_
 ·by_cases h : 4294967296 ≤ x
  ·refine zs0 ?_
   refine Holds.condT rfl ?_
   refine zs1 ((shrB x 32 (by omega))) ?_
   refine zr0 ?_
   intro a w hr
   rw [show hv 32 (x, 0) = (x / 2 ^ 32, 0 + 32) from by rw [hv, if_pos h]]
   exact Rel.keep [0, 2] [] hr
  ·refine zs0 ?_
   refine Holds.condF rfl (Holds.skip fun a w hr => ?_)
   rw [show hv 32 (x, 0) = (x, 0) from by rw [hv, if_neg h]]
   exact Rel.keep [0, 2] [] hr
 ·have b1 : (hv 32 (x, 0)).1 < 4294967296 ∧ (hv 32 (x, 0)).2 ≤ 32 := by
   unfold hv; split <;> first | omega | (simp only; omega)
  have b2 : ∀ s : Nat × Nat, s.1 < 4294967296 → s.2 ≤ 32 → (hv 16 s).1 < 65536 ∧ (hv 16 s).2 ≤ 48 := by
   intro s h1 h2
   unfold hv; split <;> first | omega | (simp only; omega)
  have b3 := b2 _ b1.1 b1.2
  intro σ hσ
  refine Holds.from hσ ?_
  obtain ⟨s, hs⟩ : ∃ s, s = hv 32 (x, 0) := ⟨_, rfl⟩
  have hb : s.1 < 4294967296 ∧ s.2 ≤ 32 := by rw [hs]; exact b1
  rw [← hs]
  refine Holds.next (fun σ => ∀ a w, Rel cx w0 σ a w → Rel cx w0 { nt := 25, env := [(0, .v true (.int .u64 (hv 16 s).1)), (2, .v true (.int .i64 (hv 16 s).2))], mem := [] } a w) ?_ ?_
  ·by_cases h : 65536 ≤ s.1
   ·refine zs0 ?_
    refine Holds.condT rfl ?_
    refine zs1 ((shrB s.1 16 (by omega))) ?_
    refine zr0 ?_
    intro a w hr
    rw [show hv 16 s = (s.1 / 2 ^ 16, s.2 + 16) from by rw [hv, if_pos h]]
    exact Rel.keep [0, 2] [] hr
   ·refine zs0 ?_
    refine Holds.condF rfl (Holds.skip fun a w hr => ?_)
    rw [show hv 16 s = s from by rw [hv, if_neg h]]
    exact Rel.keep [0, 2] [] hr
  ·rw [hs]
   intro σ hσ
   refine Holds.from hσ ?_
   obtain ⟨s, hs⟩ : ∃ s, s = hv 16 (hv 32 (x, 0)) := ⟨_, rfl⟩
   have hb : s.1 < 65536 ∧ s.2 ≤ 48 := by rw [hs]; exact b3
   rw [← hs]
   refine Holds.next (fun σ => ∀ a w, Rel cx w0 σ a w → Rel cx w0 { nt := 25, env := [(0, .v true (.int .u64 (hv 8 s).1)), (2, .v true (.int .i64 (hv 8 s).2))], mem := [] } a w) ?_ ?_
   ·by_cases h : 256 ≤ s.1
    ·refine zs0 ?_
     refine Holds.condT rfl ?_
     refine zs1 ((shrB s.1 8 (by omega))) ?_
     refine zr0 ?_
     intro a w hr
     rw [show hv 8 s = (s.1 / 2 ^ 8, s.2 + 8) from by rw [hv, if_pos h]]
     exact Rel.keep [0, 2] [] hr
    ·refine zs0 ?_
     refine Holds.condF rfl (Holds.skip fun a w hr => ?_)
     rw [show hv 8 s = s from by rw [hv, if_neg h]]
     exact Rel.keep [0, 2] [] hr
   ·rw [hs]
    intro σ hσ
    refine Holds.from hσ ?_
    have h3 := len3_ok hx
    obtain ⟨n, hn⟩ : ∃ n, n = len3 x := ⟨_, rfl⟩
    have e : len64 x = n.2 + bAt lenTab n.1 := by rw [hn]; rfl
    rw [← hn] at h3
    rw [e]
    rw [show hv 8 (hv 16 (hv 32 (x, 0))) = n from hn.symm]
    have hw : IntKind.u8.wrap (n.1 : Int) = n.1 := by
     unfold IntKind.wrap
     simp only [IntKind.bits, IntKind.signed, Bool.false_and, Bool.false_eq_true, if_false]
     omega
    have ikd5 : ikd Tryz.prog 5 = some .u8 := by kernel_rfl
    have ikd3 : ikd Tryz.prog 3 = some .i64 := by kernel_rfl
    have und69 : (Tryz.prog.underlying 76).isSome = true := by kernel_rfl
    have und5 : (Tryz.prog.underlying 5).isSome = true := by kernel_rfl
    have hb8 := (evalOp_tab (P := Tryz.prog) (T := TT) (ρ := fun _ => []) (σ := { nt := 1, env := [(0, .v true (.int .u8 n.1))], mem := [] }) (o := { dst := some 0, op := .index 9 (.const (.string lenTab)) (.tmp 0), type := 0, pos := "", after := #[], guard := none }) (N := 256) (m := 8) (n := n.1) (by kernel_rfl) lenTab_ok rfl rfl (Nat.le_of_ble_eq_true rfl) rfl h3.1).1
    refine Holds.seq (Holds.regionS (σ2 := { nt := 25, env := [(22, .v true (.int .u8 (bAt lenTab n.1 : Nat))), (21, .v true (.int .u8 n.1)), (20, .v true (.int .u64 n.1)), (19, .v true (.int .i64 n.2)), (0, .v true (.int .u64 n.1)), (2, .v true (.int .i64 n.2))], mem := [] }) (p2 := True) (Px := px) (T := TT) (ρ := fun _ => []) (k := 3) TTe (by simp (maxSteps := 100000) (disch := omega) only [List.take_succ_cons, List.take_zero, go_sem, V.isAgg, V.flat, ↓reduceIte, Nat.reduceAdd, Nat.reduceSub, Nat.reduceLT, Nat.reduceEqDiff, reduceCtorEq, Nat.reduceLeDiff, Nat.reduceBEq, Nat.reduceMul, Int.reduceToNat, hw, ikd5, und69]; rfl) (by repeat' constructor) rfl rfl ?h2 trivial ?h3)
    case h2 => exact evalOp_tabE (tab := lenTab) (N := 256) (m := 8) (n := n.1) (by kernel_rfl) lenTab_ok (by rfl) (by rfl) (by exact Nat.le_of_ble_eq_true rfl) (by rfl) h3.1
    case h3 =>
     refine ⟨_, _, by simp (maxSteps := 100000) (disch := omega) only [List.drop_succ_cons, List.drop_zero, go_sem, V.isAgg, V.flat, ↓reduceIte, Nat.reduceAdd, Nat.reduceSub, Nat.reduceLT, Nat.reduceEqDiff, reduceCtorEq, Nat.reduceLeDiff, Nat.reduceBEq, Nat.reduceMul, Int.reduceToNat, ikd3, und5]; rfl, by repeat' constructor, ?_⟩
     show Holds _ _ _ _ _ _ _
     exact Holds.ret (RetOk.vs rfl (by exact ⟨⟨rfl, id⟩, trivial⟩) rfl)
theorem lz64_ok (x : Nat) (hx : x < 18446744073709551616) : FnOk Tryz.prog 147 [.v (.int .u64 x)] [.v true (.int .i64 (64 - (len64 x : Int)))] := by
 have h := len64_le hx
 refine FnOk.of Tryz.func147 rfl rfl fun cx w0 => ?_
 rw [show Tryz.f147.ntmps = 6 from rfl]
 refine zs0 ?_
 refine zs2 (ρ := fun _ => [.v true (.int .i64 (len64 x))]) (o := by repeat' first|exact len64_ok x hx|trivial|constructor) (k := ?_)
 exact Holds.ret (RetOk.vs rfl (by exact ⟨⟨rfl, id⟩, trivial⟩) rfl)
theorem hv_inv {x b : Nat} {s : Nat × Nat} (h : s.1 = x / 2 ^ s.2) (h0 : 0 < s.1) : (hv b s).1 = x / 2 ^ (hv b s).2 ∧ 0 < (hv b s).1 := by
 unfold hv
 split
 ·next hb =>
  refine ⟨?_, Nat.div_pos hb (Nat.pow_pos (by decide))⟩
  simp only
  rw [h, Nat.div_div_eq_div_mul, ← Nat.pow_add]
 ·exact ⟨h, h0⟩
noncomputable def lenTabOk : Bool := (List.range 256).all fun n => n == 0 || decide (2 ^ (bAt lenTab n - 1) ≤ n ∧ n < 2 ^ bAt lenTab n ∧ 0 < bAt lenTab n)
theorem lenTabOk_ok : lenTabOk = true := by kernel_rfl
theorem len64_spec {x : Nat} (hx : x < 18446744073709551616) (h0 : 0 < x) : 0 < len64 x ∧ 2 ^ (len64 x - 1) ≤ x ∧ x < 2 ^ len64 x := by
 obtain ⟨h1, h2⟩ := len3_ok hx
 obtain ⟨a1, a2⟩ := hv_inv (b := 32) (s := (x, 0)) (x := x) (by simp) h0
 obtain ⟨b1, b2⟩ := hv_inv (b := 16) a1 a2
 obtain ⟨c1, c2⟩ := hv_inv (b := 8) b1 b2
 have e : len64 x = (len3 x).2 + bAt lenTab (len3 x).1 := rfl
 rw [show hv 8 (hv 16 (hv 32 (x, 0))) = len3 x from rfl] at c1 c2
 rw [e]
 obtain ⟨n, hn⟩ : ∃ n, n = (len3 x).1 := ⟨_, rfl⟩
 obtain ⟨k, hk⟩ : ∃ k, k = (len3 x).2 := ⟨_, rfl⟩
 rw [← hn] at h1 c1 c2 ⊢
 rw [← hk] at c1 ⊢
 have h3 := List.all_eq_true.1 lenTabOk_ok _ (List.mem_range.2 h1)
 have hn0 : n ≠ 0 := by omega
 simp only [Bool.or_eq_true, beq_iff_eq, hn0, false_or, decide_eq_true_eq] at h3
 obtain ⟨h4, h5, h6⟩ := h3
 obtain ⟨b, hb⟩ : ∃ b, b = bAt lenTab n := ⟨_, rfl⟩
 rw [← hb] at h4 h5 h6 ⊢
 refine ⟨by omega, ?_, ?_⟩
 ·have : 2 ^ (b - 1) * 2 ^ k ≤ n * 2 ^ k := Nat.mul_le_mul_right _ h4
  rw [← Nat.pow_add, show b - 1 + k = k + b - 1 from by omega] at this
  have h7 : n * 2 ^ k ≤ x := by rw [c1]; exact Nat.div_mul_le_self _ _
  omega
 ·have h7 : x < 2 ^ k * (n + 1) := by rw [c1]; exact Nat.lt_mul_div_succ _ (Nat.pow_pos (by decide))
  have h8 : 2 ^ k * (n + 1) ≤ 2 ^ k * 2 ^ b := Nat.mul_le_mul_left _ h5
  rw [← Nat.pow_add] at h8
  omega
theorem norm64 {y : Nat} (hy : y < 18446744073709551616) (h0 : 0 < y) : ∃ s : Nat, s < 64 ∧ (64 - (len64 y : Int)) = (s : Int) ∧ 9223372036854775808 ≤ y * 2 ^ s ∧ y * 2 ^ s < 18446744073709551616 := by
 obtain ⟨h1, h2, h3⟩ := len64_spec hy h0
 have h4 := len64_le hy
 obtain ⟨n, hn⟩ : ∃ n, n = len64 y := ⟨_, rfl⟩
 rw [← hn] at h1 h2 h3 h4 ⊢
 refine ⟨64 - n, by omega, by omega, ?_, ?_⟩
 ·have : 2 ^ (n - 1) * 2 ^ (64 - n) ≤ y * 2 ^ (64 - n) := Nat.mul_le_mul_right _ h2
  rw [← Nat.pow_add, show n - 1 + (64 - n) = 63 from by omega] at this
  exact this
 ·have : y * 2 ^ (64 - n) < 2 ^ n * 2 ^ (64 - n) := Nat.mul_lt_mul_of_pos_right h3 (Nat.pow_pos (by decide))
  rw [← Nat.pow_add, show n + (64 - n) = 64 from by omega] at this
  exact this
theorem orN (a v s : Nat) (hv : v < 2 ^ s) (h : a * 2 ^ s + v < 18446744073709551616) : bitI .or .u64 ((a * 2 ^ s : Nat) : Int) (v : Int) = ((a * 2 ^ s + v : Nat) : Int) := by
 unfold bitI
 simp only
 have h1 : (BitVec.ofInt IntKind.u64.bits ((a * 2 ^ s : Nat) : Int) ||| BitVec.ofInt IntKind.u64.bits (v : Int)).toNat = a * 2 ^ s + v := by
  rw [BitVec.toNat_or, BitVec.toNat_ofInt, BitVec.toNat_ofInt]
  have e1 : (((a * 2 ^ s : Nat) : Int) % ((2 ^ IntKind.u64.bits : Nat) : Int)).toNat = a * 2 ^ s := by
   show (((a * 2 ^ s : Nat) : Int) % 18446744073709551616).toNat = _
   omega
  have e2 : ((v : Int) % ((2 ^ IntKind.u64.bits : Nat) : Int)).toNat = v := by
   show ((v : Int) % 18446744073709551616).toNat = _
   omega
  rw [e1, e2, Nat.mul_comm, Nat.two_pow_add_eq_or_of_lt hv]
 rw [h1]
 exact wrapN _ h
theorem shlN (a s : Nat) (hs : s < 64) : IntKind.u64.wrap ((a : Int) * 2 ^ min s 64) = ((a * 2 ^ s % 18446744073709551616 : Nat) : Int) := by
 have : min s 64 = s := Nat.min_eq_left (by omega)
 rw [this, show ((a : Int) * 2 ^ s) = ((a * 2 ^ s : Nat) : Int) from by rw [Int.natCast_mul, Int.natCast_pow]; rfl]
 exact wrapM _
theorem shrG (a s : Nat) (hs : s ≤ 64) : Int.fdiv (a : Int) (2 ^ min s 64) = ((a / 2 ^ s : Nat) : Int) := by
 have : min s 64 = s := Nat.min_eq_left (by omega)
 rw [this, Int.fdiv_eq_ediv_of_nonneg _ (Int.le_of_lt (Int.pow_pos (by omega))), Int.natCast_ediv, Int.natCast_pow]
 rfl
theorem quoN (a b : Nat) : (a : Int).tdiv (b : Int) = ((a / b : Nat) : Int) := by
 rw [Int.tdiv_eq_ediv_of_nonneg (Int.natCast_nonneg a), Int.natCast_ediv]
theorem remN (a b : Nat) : (a : Int).tmod (b : Int) = ((a % b : Nat) : Int) := by
 rw [Int.tmod_eq_emod_of_nonneg (Int.natCast_nonneg a), Int.natCast_emod]
theorem guess_iff {U u Y1 Y0 q r : Nat} (h : q * Y1 + r = U) : r * 4294967296 + u < q * Y0 ↔ U * 4294967296 + u < q * (Y1 * 4294967296 + Y0) := by
 have : q * (Y1 * 4294967296 + Y0) = q * Y1 * 4294967296 + q * Y0 := by rw [Nat.mul_add, Nat.mul_assoc]
 rw [this, ← h, Nat.add_mul]
 omega
theorem div_is {T Y q Q : Nat} (hY : 0 < Y) (hQ : Q = T / Y) (h1 : Q ≤ q) (h2 : q * Y ≤ T) : q = Q := by
 have : q ≤ T / Y := (Nat.le_div_iff_mul_le hY).2 h2
 omega
theorem guess_first {U u Y1 Y0 : Nat} (hY1 : 0 < Y1) : (U * 4294967296 + u) / (Y1 * 4294967296 + Y0) ≤ (U * 4294967296 + u) / (Y1 * 4294967296) :=
 Nat.div_le_div_left (by omega) (by omega)
theorem blockQ_other {id id' : Nat} {Q : Exit → St → Prop} {σ : St} (hn : id' ≠ id) (h : Q (.exit id') σ) : blockQ id Q (.exit id') σ := by
 unfold blockQ
 simp only [hn, if_false]
 exact h
theorem digit_less {U u Y1 Y0 q r Q : Nat} (hu : u < 4294967296) (hQ : Q = (U * 4294967296 + u) / (Y1 * 4294967296 + Y0)) (hQB : Q < 4294967296) (hY : 0 < Y1 * 4294967296 + Y0) (h : q * Y1 + r = U)
 (hc : 4294967296 ≤ q ∨ r * 4294967296 + u < q * Y0) : Q < q ∧ (q - 1) * Y1 + (r + Y1) = U := by
 have h1 : Q < q := by
  rcases hc with hc | hc
  ·omega
  ·rw [hQ]
   exact (Nat.div_lt_iff_lt_mul hY).2 ((guess_iff h).1 hc)
 refine ⟨h1, ?_⟩
 obtain ⟨p, rfl⟩ : ∃ p, q = p + 1 := ⟨q - 1, by omega⟩
 rw [Nat.add_mul, Nat.one_mul] at h
 rw [Nat.add_sub_cancel]
 omega
theorem digit_done {U u Y1 Y0 q r Q : Nat} (hQ : Q = (U * 4294967296 + u) / (Y1 * 4294967296 + Y0)) (hY : 0 < Y1 * 4294967296 + Y0) (h : q * Y1 + r = U) (h1 : Q ≤ q)
 (hc : q * Y0 ≤ r * 4294967296 + u) : q = Q :=
 div_is hY hQ h1 (by
  have := mt (guess_iff (u := u) (Y0 := Y0) h).2 (by omega)
  omega)
theorem digit_first {U u Y1 Y0 : Nat} (hu : u < 4294967296) (hY1 : 2147483648 ≤ Y1) (hY0 : Y0 < 4294967296) (hU : U < Y1 * 4294967296 + Y0) :
 (U * 4294967296 + u) / (Y1 * 4294967296 + Y0) ≤ U / Y1 ∧ U / Y1 ≤ 4294967297 ∧ (U * 4294967296 + u) / (Y1 * 4294967296 + Y0) < 4294967296 := by
 refine ⟨?_, ?_, ?_⟩
 ·refine Nat.le_trans (guess_first (by omega)) ?_
  have e1 := Nat.div_div_eq_div_mul (U * 4294967296 + u) 4294967296 Y1
  have e2 : (U * 4294967296 + u) / 4294967296 = U := by omega
  rw [e2, Nat.mul_comm 4294967296 Y1] at e1
  exact Nat.le_of_eq e1.symm
 ·have e : U < 4294967298 * Y1 := by
   rw [show 4294967298 = 4294967296 + 2 from rfl, Nat.add_mul, Nat.mul_comm 4294967296 Y1]
   omega
  exact Nat.le_of_lt_succ ((Nat.div_lt_iff_lt_mul (by omega)).2 e)
 ·refine (Nat.div_lt_iff_lt_mul (by omega)).2 ?_
  rw [Nat.mul_comm 4294967296]
  have : (U + 1) * 4294967296 ≤ (Y1 * 4294967296 + Y0) * 4294967296 := Nat.mul_le_mul_right _ hU
  rw [Nat.add_mul] at this
  omega
theorem mul_small {q Y0 : Nat} (hq : q ≤ 4294967296) (hY0 : Y0 < 4294967296) : q * Y0 ≤ 4294967296 * 4294967295 := Nat.mul_le_mul hq (by omega)
theorem div_lin {B G L1 Lo u1 u0 U P W P2 Rm : Nat} (hU : U = G + L1) (hu : Lo = u1 * B + u0) (e1 : U * B + u1 = P + W) (e2 : W * B + u0 = P2 + Rm) :
 G * (B * B) + (L1 * (B * B) + Lo) = P * B + P2 + Rm := by
 subst hU hu
 have h : ((G + L1) * B + u1) * B = (P + W) * B := by rw [e1]
 simp only [Nat.add_mul, Nat.mul_assoc] at h
 omega
theorem div_whole {hi lo y s Y Q Q2 W Rm U L1 Lo u1 u0 P P2 : Nat} (hy : 0 < y) (hY : Y = y * 2 ^ s) (hU : U = hi * 2 ^ s + L1) (elo : lo * 2 ^ s = L1 * 18446744073709551616 + Lo) (hu : Lo = u1 * 4294967296 + u0)
 (hP : P = Q * Y) (e1 : U * 4294967296 + u1 = P + W) (hP2 : P2 = Q2 * Y) (e2 : W * 4294967296 + u0 = P2 + Rm) (bR : Rm < Y) :
 (hi * 18446744073709551616 + lo) / y = Q * 4294967296 + Q2 ∧ Rm = (hi * 18446744073709551616 + lo) % y * 2 ^ s := by
 have pw : 0 < 2 ^ s := Nat.pow_pos (by decide)
 have key : (hi * 18446744073709551616 + lo) * 2 ^ s = (Q * 4294967296 + Q2) * Y + Rm := by
  have a0 : hi * 18446744073709551616 * 2 ^ s = (hi * 2 ^ s) * 18446744073709551616 := Nat.mul_right_comm _ _ _
  have a2 : Q * 4294967296 * Y = P * 4294967296 := by rw [hP]; exact Nat.mul_right_comm _ _ _
  rw [Nat.add_mul, Nat.add_mul, elo, a0, a2, ← hP2]
  exact div_lin hU hu e1 e2
 obtain ⟨Nn, hN⟩ : ∃ Nn, Nn = hi * 18446744073709551616 + lo := ⟨_, rfl⟩
 obtain ⟨K, hK⟩ : ∃ K, K = Q * 4294967296 + Q2 := ⟨_, rfl⟩
 rw [← hN, ← hK] at key ⊢
 clear hP e1 hP2 e2 hU elo hu
 rw [hY, ← Nat.mul_assoc] at key
 have l1 : K * y * 2 ^ s ≤ Nn * 2 ^ s := by omega
 have l2 := Nat.le_of_mul_le_mul_right l1 pw
 obtain ⟨t, ht⟩ : ∃ t, Nn = K * y + t := ⟨Nn - K * y, by omega⟩
 rw [ht, Nat.add_mul] at key
 have l3 : Rm = t * 2 ^ s := by omega
 have l4 : t < y := Nat.lt_of_mul_lt_mul_right (a := 2 ^ s) (by rw [← l3, ← hY]; exact bR)
 have l6 : Nn / y = K := by
  rw [ht, Nat.mul_comm K y, Nat.mul_add_div (by omega), Nat.div_eq_of_lt l4, Nat.add_zero]
 have l7 : Nn % y = t := by
  have h7 := Nat.div_add_mod Nn y
  rw [l6, Nat.mul_comm] at h7
  omega
 exact ⟨l6, by rw [l7]; exact l3⟩
set_option maxHeartbeats 2000000 in
theorem div64_ok (hi lo y : Nat) (hlo : lo < 18446744073709551616) (hy : y < 18446744073709551616) (hhi : hi < y) :
 FnOk Tryz.prog 179 [.v (.int .u64 hi), .v (.int .u64 lo), .v (.int .u64 y)] [.v true (.int .u64 (((hi * 18446744073709551616 + lo) / y : Nat) : Int)), .v true (.int .u64 (((hi * 18446744073709551616 + lo) % y : Nat) : Int))] := by
 have y0 : ¬ (y : Int) = 0 := by omega
 by_cases h0 : hi = 0
 ·subst h0
  have hq := quoN lo y
  have hr := remN lo y
  rw [Nat.zero_mul, Nat.zero_add]
  have hdl : lo / y ≤ lo := Nat.div_le_self _ _
  have hw := wrapN (lo / y) (by omega)
  refine FnOk.of Tryz.func179 rfl rfl fun cx w0 => ?_
  rw [show Tryz.f179.ntmps = 135 from rfl]
  refine zs0 ?_
  refine Holds.next (fun σ => ∀ a w, Rel cx w0 σ a w → Rel cx w0 { nt := 135, env := [(0, .v true (.int .u64 0)), (1, .v true (.int .u64 lo)), (2, .v true (.int .u64 y))], mem := [] } a w) ?_ ?_
  ·refine zs1 y0 ?_
   exact Holds.condF rfl (Holds.skip fun a w h => Rel.keep [0, 1, 2] [] h)
  ·intro σ hσ
   refine Holds.from hσ ?_
   refine Holds.next (fun σ => ∀ a w, Rel cx w0 σ a w → Rel cx w0 { nt := 135, env := [(0, .v true (.int .u64 0)), (1, .v true (.int .u64 lo)), (2, .v true (.int .u64 y))], mem := [] } a w) ?_ ?_
   ·refine zs0 ?_
    exact Holds.condF rfl (Holds.skip fun a w h => Rel.keep [0, 1, 2] [] h)
   ·intro σ hσ
    refine Holds.from hσ ?_
    refine Holds.seq ?_
    refine zs0 ?_
    refine Holds.condT rfl ?_
    refine zd1 [] (an y0 <| an hq <| an hr <| hw) ?_
    exact Holds.ret (RetOk.vs rfl (by exact ⟨⟨rfl, id⟩, ⟨rfl, id⟩, trivial⟩) rfl)
 ·have h0' : ¬ (hi : Int) = 0 := by omega
  obtain ⟨s, hs, es, hY63, hY64⟩ := norm64 hy (by omega)
  have hlz := lz64_ok y hy
  rw [es] at hlz
  obtain ⟨Y, hY⟩ : ∃ Y, Y = y * 2 ^ s := ⟨_, rfl⟩
  rw [← hY] at hY63 hY64
  obtain ⟨Y1, hY1⟩ : ∃ a, a = Y / 4294967296 := ⟨_, rfl⟩
  obtain ⟨Y0, hY0⟩ : ∃ a, a = Y % 4294967296 := ⟨_, rfl⟩
  have eY : Y = Y1 * 4294967296 + Y0 := by omega
  have pw : 0 < 2 ^ s := Nat.pow_pos (by decide)
  have pw2 : 2 ^ (64 - s) * 2 ^ s = 18446744073709551616 := by rw [← Nat.pow_add, show 64 - s + s = 64 from by omega]
  have b1 : hi * 2 ^ s + 2 ^ s ≤ Y := by
   rw [hY]
   have : (hi + 1) * 2 ^ s ≤ y * 2 ^ s := Nat.mul_le_mul_right _ hhi
   rw [Nat.add_mul, Nat.one_mul] at this
   exact this
  obtain ⟨L1, hL1⟩ : ∃ a, a = lo / 2 ^ (64 - s) := ⟨_, rfl⟩
  have bL1 : L1 < 2 ^ s := by
   rw [hL1]
   exact (Nat.div_lt_iff_lt_mul (Nat.pow_pos (by decide))).2 (by rw [Nat.mul_comm, pw2]; exact hlo)
  obtain ⟨U, hU⟩ : ∃ a, a = hi * 2 ^ s + L1 := ⟨_, rfl⟩
  obtain ⟨Lo, hLo⟩ : ∃ a, a = lo * 2 ^ s % 18446744073709551616 := ⟨_, rfl⟩
  obtain ⟨u1, hu1⟩ : ∃ a, a = Lo / 4294967296 := ⟨_, rfl⟩
  obtain ⟨u0, hu0⟩ : ∃ a, a = Lo % 4294967296 := ⟨_, rfl⟩
  have bU : U < Y := by omega
  have bLo : Lo < 18446744073709551616 := by rw [hLo]; exact Nat.mod_lt _ (by decide)
  have elo : lo * 2 ^ s = L1 * 18446744073709551616 + Lo := by
   rw [hLo, hL1, ← pw2, Nat.mul_comm (2 ^ (64 - s)) (2 ^ s)]
   have h1 := Nat.mod_add_div (lo * 2 ^ s) (2 ^ s * 2 ^ (64 - s))
   rw [show lo * 2 ^ s / (2 ^ s * 2 ^ (64 - s)) = lo / 2 ^ (64 - s) from by rw [Nat.mul_comm lo, Nat.mul_div_mul_left _ _ pw]] at h1
   rw [Nat.mul_comm (lo / 2 ^ (64 - s)), Nat.add_comm]
   exact h1.symm
  have bY1 : 2147483648 ≤ Y1 ∧ Y1 < 4294967296 := by omega
  have bY0 : Y0 < 4294967296 := by omega
  have bu1 : u1 < 4294967296 := by omega
  have bu0 : u0 < 4294967296 := by omega
  have eLo : Lo = u1 * 4294967296 + u0 := by omega
  have w1 := shlN y s hs
  rw [← hY, Nat.mod_eq_of_lt hY64] at w1
  have w2 := shrG Y 32 (by decide)
  rw [show Y / 2 ^ 32 = Y1 from by omega] at w2
  have w3 := maskN Y hY64
  rw [← hY0] at w3
  have w4 := shlN hi s hs
  rw [Nat.mod_eq_of_lt (show hi * 2 ^ s < 18446744073709551616 by omega)] at w4
  have w5 : IntKind.u64.wrap ((64 : Int) - (s : Int)) = ((64 - s : Nat) : Int) := by rw [wrap_u64]; omega
  have w6 := shrG lo (64 - s) (by omega)
  rw [← hL1] at w6
  have w7 := orN hi L1 s bL1 (by omega)
  rw [← hU] at w7
  have w8 := shlN lo s hs
  rw [← hLo] at w8
  have w9 := shrG Lo 32 (by decide)
  rw [show Lo / 2 ^ 32 = u1 from by omega] at w9
  have w10 := maskN Lo bLo
  rw [← hu0] at w10
  have Y1n : ¬ (Y1 : Int) = 0 := by omega
  have w11 := quoN U Y1
  have bq1 := digit_first (U := U) (u := u1) (Y1 := Y1) (Y0 := Y0) (by omega) (by omega) (by omega) (by omega)
  have eq1 : U / Y1 * Y1 + U % Y1 = U := by rw [Nat.mul_comm]; exact Nat.div_add_mod U Y1
  have br1 : U % Y1 < Y1 := Nat.mod_lt _ (by omega)
  obtain ⟨q, hq⟩ : ∃ a, a = U / Y1 := ⟨_, rfl⟩
  obtain ⟨r, hr⟩ : ∃ a, a = U % Y1 := ⟨_, rfl⟩
  rw [← hq] at w11 bq1 eq1
  rw [← hr] at eq1 br1
  obtain ⟨Q, hQ⟩ : ∃ a, a = (U * 4294967296 + u1) / (Y1 * 4294967296 + Y0) := ⟨_, rfl⟩
  rw [← hQ] at bq1
  have w12 := wrapN q (by omega)
  have w13 := mulN q Y1
  have w14 := wrapN (q * Y1) (by omega)
  have w15 : IntKind.u64.wrap ((U : Int) - ((q * Y1 : Nat) : Int)) = (r : Int) := by rw [wrap_u64]; omega
  refine FnOk.of Tryz.func179 rfl rfl fun cx w0 => ?_
  rw [show Tryz.f179.ntmps = 135 from rfl]
  refine zs0 ?_
  refine Holds.next (fun σ => ∀ a w, Rel cx w0 σ a w → Rel cx w0 { nt := 135, env := [(0, .v true (.int .u64 hi)), (1, .v true (.int .u64 lo)), (2, .v true (.int .u64 y))], mem := [] } a w) ?_ ?_
  ·refine zs1 y0 ?_
   exact Holds.condF rfl (Holds.skip fun a w h => Rel.keep [0, 1, 2] [] h)
  ·intro σ hσ
   refine Holds.from hσ ?_
   refine Holds.next (fun σ => ∀ a w, Rel cx w0 σ a w → Rel cx w0 { nt := 135, env := [(0, .v true (.int .u64 hi)), (1, .v true (.int .u64 lo)), (2, .v true (.int .u64 y))], mem := [] } a w) ?_ ?_
   ·refine zs0 ?_
    exact Holds.condF rfl (Holds.skip fun a w h => Rel.keep [0, 1, 2] [] h)
   ·intro σ hσ
    refine Holds.from hσ ?_
    refine Holds.next (fun σ => ∀ a w, Rel cx w0 σ a w → Rel cx w0 { nt := 135, env := [(0, .v true (.int .u64 hi)), (1, .v true (.int .u64 lo)), (2, .v true (.int .u64 y))], mem := [] } a w) ?_ ?_
    ·refine zs1 h0' ?_
     exact Holds.condF rfl (Holds.skip fun a w h => Rel.keep [0, 1, 2] [] h)
    ·intro σ hσ
     refine Holds.from hσ ?_
     have ikd31 : ikd Tryz.prog 213 = some .u64 := by kernel_rfl
     have ikd3 : ikd Tryz.prog 3 = some .i64 := by kernel_rfl
     have und3 : (Tryz.prog.underlying 3).isSome = true := by kernel_rfl
     have und31 : (Tryz.prog.underlying 213).isSome = true := by kernel_rfl
     have ws := wrapN s (by omega)
     refine zs3 (ρ := fun _ => [.v true (.int .i64 s)]) (an ikd31 <| an ikd3 <| an und3 <| an und31 <| ws) (o := by repeat' first|exact hlz|trivial|constructor) (k := ?_)
     refine zs1 w1 ?_
     refine zs1 w2 ?_
     refine zs1 w3 ?_
     refine zs1 (an w4 <| an w5 <| an w6 <| w7) ?_
     refine zs1 w8 ?_
     refine zs1 w9 ?_
     refine zs1 w10 ?_
     refine zs1 (an Y1n <| an w11 <| w12) ?_
     refine zs1 (an w13 <| an w14 <| w15) ?_
     refine Holds.next (fun σ => ∀ a w, Rel cx w0 σ a w → Rel cx w0 { nt := 135, env := [(15, .v true (.int .u64 Q)), (9, .v true (.int .u64 Y1)), (10, .v true (.int .u64 Y0)), (13, .v true (.int .u64 u1)), (14, .v true (.int .u64 u0)), (11, .v true (.int .u64 U)), (2, .v true (.int .u64 Y)), (8, .v true (.int .u64 s))], mem := [] } a w) ?_ ?_
     ·clear w1 w2 w3 w4 w5 w6 w7 w8 w9 w10 w11 w12 w13 w14 w15 ws hlz hlo es eLo elo hLo hL1 hu1 hu0 hU pw pw2 b1 bL1 bLo hY hY1 hY0 hY63 hY64 eY bU ikd3 ikd31 und3 und31 y0 h0 h0' hy hhi bu0 hs Y1n
      refine Holds.loopB (fun i : Nat × Nat => { nt := 135, env := [(15, .v true (.int .u64 i.1)), (16, .v true (.int .u64 i.2)), (9, .v true (.int .u64 Y1)), (10, .v true (.int .u64 Y0)), (13, .v true (.int .u64 u1)), (14, .v true (.int .u64 u0)), (11, .v true (.int .u64 U)), (2, .v true (.int .u64 Y)), (8, .v true (.int .u64 s))], mem := [] }) (fun i => i.1 * Y1 + i.2 = U ∧ Q ≤ i.1 ∧ i.1 ≤ 4294967297 ∧ i.2 < 4294967296) (fun i => i.1) (q, r) ⟨eq1, bq1.1, bq1.2.1, by show r < _; omega⟩ (fun a w h => Rel.keep [15, 16, 9, 10, 13, 14, 11, 2, 8] [] h) ?_
      rintro ⟨q, r⟩ ⟨i1, i2, i3, i4⟩
      simp only at i1 i2 i3 i4
      by_cases hc : 4294967296 ≤ q ∨ r * 4294967296 + u1 < q * Y0
      ·obtain ⟨c1, c2⟩ := digit_less (by omega) hQ bq1.2.2 (by omega) i1 hc
       refine Holds.next (fun σ => ∀ a w, Rel cx w0 σ a w → Rel cx w0 { nt := 135, env := [(15, .v true (.int .u64 q)), (16, .v true (.int .u64 r)), (9, .v true (.int .u64 Y1)), (10, .v true (.int .u64 Y0)), (13, .v true (.int .u64 u1)), (14, .v true (.int .u64 u0)), (11, .v true (.int .u64 U)), (2, .v true (.int .u64 Y)), (8, .v true (.int .u64 s))], mem := [] } a w) ?_ ?_
       ·have g0 : ∀ h : 4294967296 ≤ q, decide ((4294967296 : Int) ≤ (q : Int)) = true := fun h => decide_eq_true (by omega)
        by_cases hq1 : 4294967296 ≤ q
        ·refine zs1 hq1 ?_
         exact Holds.condT rfl (Holds.skip fun a w h => Rel.keep [15, 16, 9, 10, 13, 14, 11, 2, 8] [] h)
        ·have hc' : r * 4294967296 + u1 < q * Y0 := by omega
         have m1 := mul_small (q := q) (Y0 := Y0) (by omega) (by omega)
         have x1 := mulN q Y0
         obtain ⟨m, hm⟩ : ∃ m, m = q * Y0 := ⟨_, rfl⟩
         rw [← hm] at m1 hc' x1
         have x2 := wrapN m (by omega)
         have x3 : IntKind.u64.wrap ((4294967296 : Int) * (r : Int)) = ((4294967296 * r : Nat) : Int) := by rw [wrap_u64]; omega
         have x4 : IntKind.u64.wrap (((4294967296 * r : Nat) : Int) + (u1 : Int)) = ((4294967296 * r + u1 : Nat) : Int) := by rw [wrap_u64]; omega
         have x5 : ((4294967296 * r + u1 : Nat) : Int) < (m : Int) := by omega
         have x6 : ¬ (4294967296 : Int) ≤ (q : Int) := by omega
         refine zs1 (an x1 <| an x2 <| an x3 <| an x4 <| an x5 <| x6) ?_
         exact Holds.condT rfl (Holds.skip fun a w h => Rel.keep [15, 16, 9, 10, 13, 14, 11, 2, 8] [] h)
       ·intro σ hσ
        refine Holds.from hσ ?_
        refine Holds.block ?_
        have y1 : IntKind.u64.wrap ((q : Int) - 1) = ((q - 1 : Nat) : Int) := by rw [wrap_u64]; omega
        have y2 : IntKind.u64.wrap ((r : Int) + (Y1 : Int)) = ((r + Y1 : Nat) : Int) := by rw [wrap_u64]; omega
        refine zs1 y1 ?_
        refine zs1 y2 ?_
        by_cases hb : 4294967296 ≤ r + Y1
        ·have hb' : (4294967296 : Int) ≤ ((r + Y1 : Nat) : Int) := by omega
         have m1 := mul_small (q := q - 1) (Y0 := Y0) (by omega) (by omega)
         have hd := digit_done (q := q - 1) (r := r + Y1) hQ (by omega) c2 (by omega) (by omega)
         refine zs1 hb' ?_
         refine Holds.condT rfl (Holds.exit (blockQ_other (by decide) ⟨rfl, fun a w h => ?_⟩))
         rw [← hd]
         exact Rel.keep [15, 9, 10, 13, 14, 11, 2, 8] [] h
        ·have hb' : ¬ (4294967296 : Int) ≤ ((r + Y1 : Nat) : Int) := by omega
         refine zs1 hb' ?_
         refine Holds.condF rfl (Holds.skip ?_)
         exact ⟨(q - 1, r + Y1), ⟨c2, by show Q ≤ q - 1; omega, by show q - 1 ≤ _; omega, by show r + Y1 < _; omega⟩, (show q - 1 < q by omega), fun a w h => Rel.keep [15, 16, 9, 10, 13, 14, 11, 2, 8] [] h⟩
      ·have hq1 : q < 4294967296 := by omega
       have hc' : q * Y0 ≤ r * 4294967296 + u1 := by omega
       have hd := digit_done hQ (by omega) i1 i2 hc'
       have m1 := mul_small (q := q) (Y0 := Y0) (by omega) (by omega)
       have x1 := mulN q Y0
       obtain ⟨m, hm⟩ : ∃ m, m = q * Y0 := ⟨_, rfl⟩
       rw [← hm] at m1 hc' x1
       have x2 := wrapN m (by omega)
       have x3 : IntKind.u64.wrap ((4294967296 : Int) * (r : Int)) = ((4294967296 * r : Nat) : Int) := by rw [wrap_u64]; omega
       have x4 : IntKind.u64.wrap (((4294967296 * r : Nat) : Int) + (u1 : Int)) = ((4294967296 * r + u1 : Nat) : Int) := by rw [wrap_u64]; omega
       have x5 : ¬ ((4294967296 * r + u1 : Nat) : Int) < (m : Int) := by omega
       have x6 : ¬ (4294967296 : Int) ≤ (q : Int) := by omega
       refine Holds.seq ?_
       refine zs1 (an x1 <| an x2 <| an x3 <| an x4 <| an x5 <| x6) ?_
       refine Holds.condF rfl (Holds.exit ⟨rfl, fun a w h => ?_⟩)
       rw [← hd]
       exact Rel.keep [15, 9, 10, 13, 14, 11, 2, 8] [] h
     ·intro σ hσ
      refine Holds.from hσ ?_
      clear w1 w2 w3 w4 w5 w6 w7 w8 w9 w10 w11 w12 w13 w14 w15 ws hlz es ikd3 ikd31 und3 und31 y0 h0 h0' eq1 br1 hq hr
      have eT := Nat.div_add_mod (U * 4294967296 + u1) (Y1 * 4294967296 + Y0)
      rw [← hQ, ← eY] at eT
      have bT : (U * 4294967296 + u1) % Y < Y := Nat.mod_lt _ (by omega)
      obtain ⟨W, hW⟩ : ∃ W, W = (U * 4294967296 + u1) % Y := ⟨_, rfl⟩
      rw [← hW] at eT bT
      have z1 := mulN Q Y
      have eT' : U * 4294967296 + u1 = Q * Y + W := by rw [Nat.mul_comm Q Y]; exact eT.symm
      obtain ⟨P, hP⟩ : ∃ P, P = Q * Y := ⟨_, rfl⟩
      rw [← hP] at z1 eT'
      have z2 : IntKind.u64.wrap ((U : Int) * 4294967296) = ((U * 4294967296 % 18446744073709551616 : Nat) : Int) := by rw [wrap_u64]; omega
      have z3 : IntKind.u64.wrap (((U * 4294967296 % 18446744073709551616 : Nat) : Int) + (u1 : Int)) = (((P + W) % 18446744073709551616 : Nat) : Int) := by rw [wrap_u64]; omega
      have z4 := wrapM P
      have z5 : IntKind.u64.wrap ((((P + W) % 18446744073709551616 : Nat) : Int) - ((P % 18446744073709551616 : Nat) : Int)) = (W : Int) := by rw [wrap_u64]; omega
      have w16 := quoN W Y1
      have bq2 := digit_first (U := W) (u := u0) (Y1 := Y1) (Y0 := Y0) (by omega) (by omega) (by omega) (by omega)
      have eq2 : W / Y1 * Y1 + W % Y1 = W := by rw [Nat.mul_comm]; exact Nat.div_add_mod W Y1
      have br2 : W % Y1 < Y1 := Nat.mod_lt _ (by omega)
      obtain ⟨q, hq⟩ : ∃ a, a = W / Y1 := ⟨_, rfl⟩
      obtain ⟨r, hr⟩ : ∃ a, a = W % Y1 := ⟨_, rfl⟩
      rw [← hq] at w16 bq2 eq2
      rw [← hr] at eq2 br2
      obtain ⟨Q2, hQ2⟩ : ∃ a, a = (W * 4294967296 + u0) / (Y1 * 4294967296 + Y0) := ⟨_, rfl⟩
      rw [← hQ2] at bq2
      have w17 := wrapN q (by omega)
      have w18 := mulN q Y1
      have w19 := wrapN (q * Y1) (by omega)
      have w20 : IntKind.u64.wrap ((W : Int) - ((q * Y1 : Nat) : Int)) = (r : Int) := by rw [wrap_u64]; omega
      refine zs1 (an z1 <| an z2 <| an z3 <| an z4 <| z5) ?_
      refine zs1 (an Y1n <| an w16 <| w17) ?_
      refine zs1 (an w18 <| an w19 <| w20) ?_
      refine Holds.next (fun σ => ∀ a w, Rel cx w0 σ a w → Rel cx w0 { nt := 135, env := [(18, .v true (.int .u64 Q2)), (17, .v true (.int .u64 W)), (15, .v true (.int .u64 Q)), (14, .v true (.int .u64 u0)), (2, .v true (.int .u64 Y)), (8, .v true (.int .u64 s))], mem := [] } a w) ?_ ?_
      ·clear w16 w17 w18 w19 w20 z1 z2 z3 z4 z5 eT eT' hP hW bT hlo eLo elo hLo hL1 hu1 hu0 hU pw pw2 b1 bL1 bLo hY hY1 hY0 hY63 hY64 eY bU bu1 hs Y1n hy hhi hQ bq1
       refine Holds.loopB (fun i : Nat × Nat => { nt := 135, env := [(18, .v true (.int .u64 i.1)), (16, .v true (.int .u64 i.2)), (17, .v true (.int .u64 W)), (15, .v true (.int .u64 Q)), (9, .v true (.int .u64 Y1)), (10, .v true (.int .u64 Y0)), (14, .v true (.int .u64 u0)), (2, .v true (.int .u64 Y)), (8, .v true (.int .u64 s))], mem := [] }) (fun i => i.1 * Y1 + i.2 = W ∧ Q2 ≤ i.1 ∧ i.1 ≤ 4294967297 ∧ i.2 < 4294967296) (fun i => i.1) (q, r) ⟨eq2, bq2.1, bq2.2.1, by show r < _; omega⟩ (fun a w h => Rel.keep [18, 16, 17, 15, 9, 10, 14, 2, 8] [] h) ?_
       rintro ⟨q, r⟩ ⟨i1, i2, i3, i4⟩
       simp only at i1 i2 i3 i4
       by_cases hc : 4294967296 ≤ q ∨ r * 4294967296 + u0 < q * Y0
       ·obtain ⟨c1, c2⟩ := digit_less (by omega) hQ2 bq2.2.2 (by omega) i1 hc
        refine Holds.next (fun σ => ∀ a w, Rel cx w0 σ a w → Rel cx w0 { nt := 135, env := [(18, .v true (.int .u64 q)), (16, .v true (.int .u64 r)), (17, .v true (.int .u64 W)), (15, .v true (.int .u64 Q)), (9, .v true (.int .u64 Y1)), (10, .v true (.int .u64 Y0)), (14, .v true (.int .u64 u0)), (2, .v true (.int .u64 Y)), (8, .v true (.int .u64 s))], mem := [] } a w) ?_ ?_
        ·by_cases hq1 : 4294967296 ≤ q
         ·refine zs1 hq1 ?_
          exact Holds.condT rfl (Holds.skip fun a w h => Rel.keep [18, 16, 17, 15, 9, 10, 14, 2, 8] [] h)
         ·have hc' : r * 4294967296 + u0 < q * Y0 := by omega
          have m1 := mul_small (q := q) (Y0 := Y0) (by omega) (by omega)
          have x1 := mulN q Y0
          obtain ⟨m, hm⟩ : ∃ m, m = q * Y0 := ⟨_, rfl⟩
          rw [← hm] at m1 hc' x1
          have x2 := wrapN m (by omega)
          have x3 : IntKind.u64.wrap ((4294967296 : Int) * (r : Int)) = ((4294967296 * r : Nat) : Int) := by rw [wrap_u64]; omega
          have x4 : IntKind.u64.wrap (((4294967296 * r : Nat) : Int) + (u0 : Int)) = ((4294967296 * r + u0 : Nat) : Int) := by rw [wrap_u64]; omega
          have x5 : ((4294967296 * r + u0 : Nat) : Int) < (m : Int) := by omega
          have x6 : ¬ (4294967296 : Int) ≤ (q : Int) := by omega
          refine zs1 (an x1 <| an x2 <| an x3 <| an x4 <| an x5 <| x6) ?_
          exact Holds.condT rfl (Holds.skip fun a w h => Rel.keep [18, 16, 17, 15, 9, 10, 14, 2, 8] [] h)
        ·intro σ hσ
         refine Holds.from hσ ?_
         refine Holds.block ?_
         have y1 : IntKind.u64.wrap ((q : Int) - 1) = ((q - 1 : Nat) : Int) := by rw [wrap_u64]; omega
         have y2 : IntKind.u64.wrap ((r : Int) + (Y1 : Int)) = ((r + Y1 : Nat) : Int) := by rw [wrap_u64]; omega
         refine zs1 y1 ?_
         refine zs1 y2 ?_
         by_cases hb : 4294967296 ≤ r + Y1
         ·have hb' : (4294967296 : Int) ≤ ((r + Y1 : Nat) : Int) := by omega
          have m1 := mul_small (q := q - 1) (Y0 := Y0) (by omega) (by omega)
          have hd := digit_done (q := q - 1) (r := r + Y1) hQ2 (by omega) c2 (by omega) (by omega)
          refine zs1 hb' ?_
          refine Holds.condT rfl (Holds.exit (blockQ_other (by decide) ⟨rfl, fun a w h => ?_⟩))
          rw [← hd]
          exact Rel.keep [18, 17, 15, 14, 2, 8] [] h
         ·have hb' : ¬ (4294967296 : Int) ≤ ((r + Y1 : Nat) : Int) := by omega
          refine zs1 hb' ?_
          refine Holds.condF rfl (Holds.skip ?_)
          exact ⟨(q - 1, r + Y1), ⟨c2, by show Q2 ≤ q - 1; omega, by show q - 1 ≤ _; omega, by show r + Y1 < _; omega⟩, (show q - 1 < q by omega), fun a w h => Rel.keep [18, 16, 17, 15, 9, 10, 14, 2, 8] [] h⟩
       ·have hq1 : q < 4294967296 := by omega
        have hc' : q * Y0 ≤ r * 4294967296 + u0 := by omega
        have hd := digit_done hQ2 (by omega) i1 i2 hc'
        have m1 := mul_small (q := q) (Y0 := Y0) (by omega) (by omega)
        have x1 := mulN q Y0
        obtain ⟨m, hm⟩ : ∃ m, m = q * Y0 := ⟨_, rfl⟩
        rw [← hm] at m1 hc' x1
        have x2 := wrapN m (by omega)
        have x3 : IntKind.u64.wrap ((4294967296 : Int) * (r : Int)) = ((4294967296 * r : Nat) : Int) := by rw [wrap_u64]; omega
        have x4 : IntKind.u64.wrap (((4294967296 * r : Nat) : Int) + (u0 : Int)) = ((4294967296 * r + u0 : Nat) : Int) := by rw [wrap_u64]; omega
        have x5 : ¬ ((4294967296 * r + u0 : Nat) : Int) < (m : Int) := by omega
        have x6 : ¬ (4294967296 : Int) ≤ (q : Int) := by omega
        refine Holds.seq ?_
        refine zs1 (an x1 <| an x2 <| an x3 <| an x4 <| an x5 <| x6) ?_
        refine Holds.condF rfl (Holds.exit ⟨rfl, fun a w h => ?_⟩)
        rw [← hd]
        exact Rel.keep [18, 17, 15, 14, 2, 8] [] h
      ·intro σ hσ
       refine Holds.from hσ ?_
       clear w16 w17 w18 w19 w20 z1 z2 z3 z4 z5 eT hW Y1n
       have eR := Nat.div_add_mod (W * 4294967296 + u0) (Y1 * 4294967296 + Y0)
       rw [← hQ2, ← eY] at eR
       have bRm : (W * 4294967296 + u0) % Y < Y := Nat.mod_lt _ (by omega)
       obtain ⟨Rm, hR⟩ : ∃ Rm, Rm = (W * 4294967296 + u0) % Y := ⟨_, rfl⟩
       rw [← hR] at eR bRm
       have eR' : W * 4294967296 + u0 = Q2 * Y + Rm := by rw [Nat.mul_comm Q2 Y]; exact eR.symm
       have v1 := mulN Q2 Y
       obtain ⟨P2, hP2⟩ : ∃ P2, P2 = Q2 * Y := ⟨_, rfl⟩
       rw [← hP2] at v1 eR'
       have dq := div_whole (by omega) hY hU elo eLo hP eT' hP2 eR' bRm
       rw [dq.1]
       have dq2 := dq.2
       have bQ2 : Q2 < 4294967296 := bq2.2.2
       have bRm2 : Rm < 18446744073709551616 := by omega
       clear dq hU elo hLo hL1 hY1 hY0 eY bq2 eq2 br2 eR hQ2 hQ bU bLo bL1 b1 pw2 hu1 hu0 hY63 hY64
       have v2 : IntKind.u64.wrap ((Q : Int) * 4294967296) = ((Q * 4294967296 : Nat) : Int) := by rw [wrap_u64]; omega
       have v3 : IntKind.u64.wrap (((Q * 4294967296 : Nat) : Int) + (Q2 : Int)) = ((Q * 4294967296 + Q2 : Nat) : Int) := by rw [wrap_u64]; omega
       have v4 : IntKind.u64.wrap ((W : Int) * 4294967296) = ((W * 4294967296 % 18446744073709551616 : Nat) : Int) := by rw [wrap_u64]; omega
       have v5 : IntKind.u64.wrap (((W * 4294967296 % 18446744073709551616 : Nat) : Int) + (u0 : Int)) = (((P2 + Rm) % 18446744073709551616 : Nat) : Int) := by rw [wrap_u64]; omega
       have v6 := wrapM P2
       have v7 : IntKind.u64.wrap ((((P2 + Rm) % 18446744073709551616 : Nat) : Int) - ((P2 % 18446744073709551616 : Nat) : Int)) = (Rm : Int) := by rw [wrap_u64]; omega
       have v8 := shrG Rm s (by omega)
       rw [show Rm / 2 ^ s = (hi * 18446744073709551616 + lo) % y from by rw [dq2]; exact Nat.mul_div_cancel _ pw] at v8
       refine zs1 (an v1 <| an v2 <| an v3 <| an v4 <| an v5 <| an v6 <| an v7 <| v8) ?_
       exact Holds.ret (RetOk.vs rfl (by exact ⟨⟨rfl, id⟩, ⟨rfl, id⟩, trivial⟩) rfl)
theorem view_ok (l : List Int) (hl : l.length < 1000000000) : FnOk Tryz.prog 78 [.v (words l)] [.v false (words (trimL l))] := by
 refine FnOk.of Tryz.func78 rfl rfl fun cx w0 => ?_
 rw [show Tryz.f78.ntmps = 22 from rfl]
 refine zs0 ?_
 refine zs0 ?_
 refine Holds.next (fun σ => ∃ env, σ = { nt := 22, env, mem := [] } ∧ look env 3 = .v true (.int .i64 (trimW l l.length : Nat)) ∧ look env 0 = .v false (.sl 1 (l.map fun n => .int .u64 n)))
  (Holds.loopB (fun n : Nat => { nt := 22, env := [(3, .v true (.int .i64 (n : Int))), (0, .v false (.sl 1 (l.map fun n => .int .u64 n)))], mem := [] }) (fun n => n ≤ l.length ∧ trimW l n = trimW l l.length) id l.length ⟨Nat.le_refl _, rfl⟩ (fun a w h => Rel.keep [3, 0] [] h) ?_) ?_
 ·rintro n ⟨hn, ht⟩
  rcases n with _ | n
  ·refine Holds.seq ?_
   refine zs0 ?_
   refine Holds.condF rfl (Holds.exit ⟨rfl, _, rfl, ?_, rfl⟩)
   rw [← ht]; rfl
  ·have hlt : n < l.length := by omega
   have e1 : l[n]? = some (l.getD n 0) := by rw [List.getD_eq_getElem?_getD, List.getElem?_eq_getElem hlt]; rfl
   refine Holds.seq ?_
   refine zs1 e1 ?_
   by_cases h0 : l.getD n 0 = 0
   ·refine Holds.condT (nw := true) (by rw [h0]; rfl) (Holds.skip ?_)
    refine Holds.block ?_
    refine zr0 ?_
    refine ⟨n, ⟨by omega, ?_⟩, by simp, fun a w h => Rel.keep [3, 0] [] h⟩
    rw [← ht, trimW, if_pos h0]
   ·refine Holds.condF (nw := true) (by rw [decide_eq_false h0]; rfl) (Holds.exit ⟨rfl, _, rfl, ?_, rfl⟩)
    rw [← ht, trimW, if_neg h0]
    rfl
 ·rintro σ ⟨env, rfl, e3, e0⟩
  have hle := trimW_le l l.length
  refine zs1 (an e3 <| e0) ?_
  refine Holds.ret ⟨_, [], rfl, ⟨⟨?_, by simp⟩, trivial⟩, by simp [R.names, R.mems, R.blks], by simp, rfl⟩
  rw [words, trimL, List.map_take]
theorem wTrim_ok (l : List Int) (hl : l.length < 1000000) (ol : okW l) : FnOk Tryz.prog 92 [.v (words l)] [.v true (words (digs (val l)))] := by
 have h1 := view_ok l (by omega)
 have hlen := trimL_len l
 rw [← trim_digs ol]
 obtain ⟨m, hm⟩ : ∃ m, m = trimL l := ⟨_, rfl⟩
 rw [← hm] at h1 hlen ⊢
 refine FnOk.of Tryz.func92 rfl rfl fun cx w0 => ?_
 rw [show Tryz.f92.ntmps = 12 from rfl]
 refine zs0 ?_
 refine Holds.seq ?_
 refine zs2 (ρ := fun _ => [.v false (words m)]) (o := by repeat' first|exact h1|trivial|constructor) (k := ?_)
 by_cases h0 : m = []
 ·subst h0
  refine zs0 ?_
  refine Holds.condF rfl (Holds.skip ?_)
  refine zs0 ?_
  exact Holds.ret ⟨_, [], rfl, ⟨rfl, trivial⟩, by simp [R.names, R.mems, R.blks], by simp, rfl⟩
 ·have hpos : 0 < m.length := List.length_pos_iff.2 h0
  have g : (0 : Int) < m.length := by omega
  have hall := flatW m
  refine zs1 g ?_
  refine Holds.condT rfl ?_
  refine zs1 (an tby76 <| hall) ?_
  exact Holds.ret ⟨_, [], rfl, ⟨⟨rfl, by rw [List.drop_zero, List.take_of_length_le (by simp)], id, rfl⟩, trivial⟩, by simp [R.names, R.mems, R.blks], by simp, rfl⟩
theorem wWord_ok (u : Nat) (hu : u < 18446744073709551616) : FnOk Tryz.prog 138 [.v (.int .u64 u)] [.v true (words (digs u))] := by
 have h1 := wTrim_ok [(u : Int)] (by simp) (by intro n hn; simp at hn; omega)
 rw [show val [(u : Int)] = u from by simp [val]] at h1
 refine FnOk.of Tryz.func138 rfl rfl fun cx w0 => ?_
 rw [show Tryz.f138.ntmps = 6 from rfl]
 refine zs0 ?_
 refine zs2 (ρ := fun _ => [.v true (words (digs u))]) (o := by repeat' first|exact h1|trivial|constructor) (k := ?_)
 exact Holds.ret (RetOk.vs rfl (by exact ⟨⟨rfl, id⟩, trivial⟩) rfl)
theorem val_zero {l : List Int} (ol : okW l) : trimL l = [] ↔ val l = 0 := by
 rw [trim_digs ol]
 constructor
 ·intro h
  have := (digs_ok (val l)).2.2
  rw [h] at this
  simpa [val] using this.symm
 ·intro h
  rw [h]; rfl
theorem wZero_ok (l : List Int) (hl : l.length < 1000000) (ol : okW l) : FnOk Tryz.prog 36 [.v (words l)] [.v true (.bool (decide (val l = 0)))] := by
 have h1 := view_ok l (by omega)
 have hz := val_zero ol
 obtain ⟨m, hm⟩ : ∃ m, m = trimL l := ⟨_, rfl⟩
 rw [← hm] at h1 hz
 refine FnOk.of Tryz.func36 rfl rfl fun cx w0 => ?_
 rw [show Tryz.f36.ntmps = 7 from rfl]
 refine zs0 ?_
 by_cases h0 : m = []
 ·rw [decide_eq_true (hz.1 h0)]
  subst h0
  refine zs2 (ρ := fun _ => [.v false (words [])]) (o := by repeat' first|exact h1|trivial|constructor) (k := ?_)
  exact Holds.ret (RetOk.vs rfl (by exact ⟨⟨rfl, id⟩, trivial⟩) rfl)
 ·rw [decide_eq_false (fun h => h0 (hz.2 h))]
  have hpos : 0 < m.length := List.length_pos_iff.2 h0
  have g : ¬ (m.length : Int) = 0 := by omega
  refine zs3 (ρ := fun _ => [.v false (words m)]) g (o := by repeat' first|exact h1|trivial|constructor) (k := ?_)
  exact Holds.ret (RetOk.vs rfl (by exact ⟨⟨rfl, id⟩, trivial⟩) rfl)
def zeros (n : Nat) : List Int := List.replicate n 0
theorem okW_zeros (n : Nat) : okW (zeros n) := fun m hm => by rw [zeros, List.mem_replicate] at hm; omega
theorem val_zeros0 : ∀ n, val (zeros n) = 0
 | 0 => rfl
 | n + 1 => by rw [zeros, List.replicate_succ, val]; have := val_zeros0 n; rw [zeros] at this; rw [this]; rfl
theorem zeros_getD (n i : Nat) : (zeros n).getD i 0 = 0 := by
 rw [zeros, List.getD_eq_getElem?_getD, List.getElem?_replicate]
 split <;> rfl
theorem getD_far {l : List Int} {i : Nat} (h : l.length ≤ i) : l.getD i 0 = 0 := by
 rw [List.getD_eq_getElem?_getD, List.getElem?_eq_none h]; rfl
theorem val_take_all {l : List Int} {n : Nat} (h : l.length ≤ n) : l.take n = l := List.take_of_length_le h
def adI (x y : List Int) (n : Nat) : Nat → List Int × Int
 | 0 => (zeros n, 0)
 | k + 1 => ((adI x y n k).1.set k ((x.getD k 0 + y.getD k 0 + (adI x y n k).2) % 18446744073709551616), (x.getD k 0 + y.getD k 0 + (adI x y n k).2) / 18446744073709551616)
theorem adI_ok {x y : List Int} {n : Nat} (ox : okW x) (oy : okW y) : ∀ k, okW (adI x y n k).1 ∧ (0 ≤ (adI x y n k).2 ∧ (adI x y n k).2 ≤ 1) ∧ (adI x y n k).1.length = n ∧ ∀ j, k ≤ j → (adI x y n k).1.getD j 0 = 0
 | 0 => ⟨okW_zeros n, ⟨by show (0:Int) ≤ 0; omega, by show (0:Int) ≤ 1; omega⟩, by simp [adI, zeros], fun j _ => zeros_getD n j⟩
 | k + 1 => by
   obtain ⟨h1, h2, h3, h4⟩ := adI_ok (n := n) ox oy k
   have hx := okW_getD ox k
   have hy := okW_getD oy k
   rw [adI]
   refine ⟨okW_set h1 (by omega), by simp only; omega, by simp only; rw [List.length_set, h3], fun j hj => ?_⟩
   simp only
   rw [List.getD_eq_getElem?_getD, List.getElem?_set_ne (by omega), ← List.getD_eq_getElem?_getD]
   exact h4 j (by omega)
theorem adI_val {x y : List Int} {n : Nat} (ox : okW x) (oy : okW y) : ∀ k, k ≤ n → val (adI x y n k).1 + 18446744073709551616 ^ k * (adI x y n k).2.toNat = val (x.take k) + val (y.take k)
 | 0, _ => by simp [adI, val_zeros0, val]
 | k + 1, hk => by
   obtain ⟨h1, h2, h3, h4⟩ := adI_ok (n := n) ox oy k
   have ih := adI_val (n := n) ox oy k (by omega)
   have hx := okW_getD ox k
   have hy := okW_getD oy k
   rw [val_take_succ, val_take_succ, adI]
   have hs := val_set (l := (adI x y n k).1) (i := k) (n := (x.getD k 0 + y.getD k 0 + (adI x y n k).2) % 18446744073709551616) (by omega)
   rw [h4 k (Nat.le_refl _)] at hs
   simp only
   generalize (adI x y n k).1 = L at *
   generalize (adI x y n k).2 = c at *
   generalize x.getD k 0 = a at *
   generalize y.getD k 0 = b at *
   generalize val (L.set k ((a + b + c) % 18446744073709551616)) = W at *
   rw [Nat.pow_succ]
   generalize 18446744073709551616 ^ k = P at *
   have e0 : P * (0 : Int).toNat = 0 := by simp
   have e1 : P * 18446744073709551616 * ((a + b + c) / 18446744073709551616).toNat + P * ((a + b + c) % 18446744073709551616).toNat = P * a.toNat + P * b.toNat + P * c.toNat := by
    rw [Nat.mul_assoc, ← Nat.mul_add, ← Nat.mul_add, ← Nat.mul_add]
    congr 1
    omega
   omega
theorem add_shape {x y : List Int} (h : y.length ≤ x.length) (ox : okW x) (oy : okW y) : val ((adI x y (x.length + 1) x.length).1.set x.length (adI x y (x.length + 1) x.length).2) = val x + val y ∧ okW ((adI x y (x.length + 1) x.length).1.set x.length (adI x y (x.length + 1) x.length).2) := by
 obtain ⟨h1, h2, h3, h4⟩ := adI_ok (n := x.length + 1) ox oy x.length
 have hv := adI_val (n := x.length + 1) ox oy x.length (by omega)
 rw [val_take_all (Nat.le_refl _), val_take_all h] at hv
 have hs := val_set (l := (adI x y (x.length + 1) x.length).1) (i := x.length) (n := (adI x y (x.length + 1) x.length).2) (by omega)
 rw [h4 _ (Nat.le_refl _)] at hs
 refine ⟨?_, okW_set h1 (by omega)⟩
 have e0 : 18446744073709551616 ^ x.length * (0 : Int).toNat = 0 := by simp
 omega
set_option maxHeartbeats 1000000 in
theorem wAdd_ok (x y : List Int) (hx : x.length < 500000) (hy : y.length < 500000) (ox : okW x) (oy : okW y) : FnOk Tryz.prog 137 [.v (words x), .v (words y)] [.v true (words (digs (val x + val y)))] := by
 refine FnOk.of Tryz.func137 rfl rfl fun cx w0 => ?_
 rw [show Tryz.f137.ntmps = 54 from rfl]
 refine zs0 ?_
 obtain ⟨Z, hV⟩ : ∃ Z, Z = val x + val y := ⟨_, rfl⟩
 rw [← hV]
 refine Holds.next (fun σ => ∃ a b : List Int, a.length < 500000 ∧ b.length ≤ a.length ∧ okW a ∧ okW b ∧ Z = val a + val b ∧ ∀ v w, Rel cx w0 σ v w → Rel cx w0 { nt := 54, env := [(1, .v false (words b)), (0, .v false (words a))], mem := [] } v w) ?_ ?_
 ·by_cases h : x.length < y.length
  ·have g : (x.length : Int) < y.length := by omega
   refine zs1 g ?_
   refine Holds.condT rfl ?_
   refine zr0 ?_
   exact ⟨y, x, hy, by omega, oy, ox, by omega, fun a w h => Rel.keep [1, 0] [] h⟩
  ·have g : ¬ (x.length : Int) < y.length := by omega
   refine zs1 g ?_
   exact Holds.condF rfl (Holds.skip ⟨x, y, hx, by omega, ox, oy, hV, fun a w h => Rel.keep [1, 0] [] h⟩)
 clear hx hy ox oy hV
 rintro σ ⟨x, y, hx, hle, ox, oy, hV, hσ⟩
 refine Holds.from hσ ?_
 clear hσ
 obtain ⟨hfin, hfo⟩ := add_shape hle ox oy
 rw [← hV] at hfin
 obtain ⟨N, hN⟩ : ∃ N, N = x.length + 1 := ⟨_, rfl⟩
 have e1 : IntKind.i64.wrap ((x.length : Int) + 1) = (N : Int) := by rw [wrap_i64 (by omega) (by omega)]; omega
 rw [← hN] at hfin hfo
 refine zs1 (an e1 <| tby76) ?_
 refine zs0 ?_
 have hrep : List.replicate N (V.int IntKind.u64 0) = (zeros N).map fun n => V.int .u64 n := by rw [zeros, List.map_replicate]
 rw [hrep]
 have hI := adI_ok (n := N) ox oy
 refine Holds.next (fun σ => ∀ a w, Rel cx w0 σ a w → Rel cx w0 { nt := 54, env := [(6, .v true (.int .u64 (adI x y N x.length).2)), (5, .own 19 0 N), (0, .v false (words x))], mem := [(19, .buf 76 1 true ((adI x y N x.length).1.map fun n => .int .u64 n))] } a w) ?_ ?_
 ·refine zs0 ?_
  refine Holds.loopB (fun k : Nat => { nt := 54, env := [(22, .v true (.int .i64 (k : Nat))), (21, .v true (.int .i64 (x.length : Nat))), (6, .v true (.int .u64 (adI x y N k).2)), (5, .own 19 0 N), (1, .v false (words y)), (0, .v false (words x))], mem := [(19, .buf 76 1 true ((adI x y N k).1.map fun n => .int .u64 n))] })
   (fun k => k ≤ x.length) (fun k => x.length - k) 0 (Nat.zero_le _) (fun a w h => Rel.keep [22, 21, 6, 5, 1, 0] [19] h) ?_
  intro k hk
  obtain ⟨h1, h2, h3, h4⟩ := hI k
  by_cases hend : k = x.length
  ·subst hend
   refine zs0 ?_
   exact Holds.seq (Holds.condF rfl (Holds.exit ⟨rfl, fun a w h => Rel.keep [6, 5, 0] [19] h⟩))
  ·have hkl : k < x.length := by omega
   have g : (k : Int) < x.length := by omega
   have e2 : IntKind.i64.wrap ((k : Int) + 1) = ((k + 1 : Nat) : Int) := by rw [wrap_i64 (by omega) (by omega)]; omega
   have hx1 := okW_getD ox k
   have hy1 := okW_getD oy k
   refine zs1 g ?_
   refine Holds.seq (Holds.condT rfl (Holds.skip ?_))
   refine Holds.seq (Holds.block ?_)
   refine zs0 ?_
   refine zs0 ?_
   refine Holds.next (fun σ => ∀ a w, Rel cx w0 σ a w → Rel cx w0 { nt := 54, env := [(7, .v true (.int .i64 (k : Nat))), (8, .v true (.int .u64 (y.getD k 0))), (22, .v true (.int .i64 (k : Nat))), (21, .v true (.int .i64 (x.length : Nat))), (6, .v true (.int .u64 (adI x y N k).2)), (5, .own 19 0 N), (1, .v false (words y)), (0, .v false (words x))], mem := [(19, .buf 76 1 true ((adI x y N k).1.map fun n => .int .u64 n))] } a w) ?_ ?_
   ·by_cases hky : k < y.length
    ·have g1 : (k : Int) < y.length := by omega
     refine zs1 g1 ?_
     refine Holds.condT rfl ?_
     refine zr1 ((get_map hky)) ?_
     exact fun a w h => Rel.keep [7, 8, 22, 21, 6, 5, 1, 0] [19] h
    ·have g1 : ¬ (k : Int) < y.length := by omega
     refine zs1 g1 ?_
     refine Holds.condF rfl (Holds.skip fun a w h => ?_)
     rw [getD_far (l := y) (by omega)]
     exact Rel.keep [7, 8, 22, 21, 6, 5, 1, 0] [19] h
   ·intro σ hσ
    refine Holds.from hσ ?_
    have hik : k < (adI x y N k).1.length := by omega
    have e : adI x y N (k + 1) = ((adI x y N k).1.set k ((x.getD k 0 + y.getD k 0 + (adI x y N k).2) % 18446744073709551616), (x.getD k 0 + y.getD k 0 + (adI x y N k).2) / 18446744073709551616) := rfl
    have hA := add64_ok _ _ _ hx1.1 hy1.1 h2.1 h2.2
    obtain ⟨k1, hk1⟩ : ∃ k1, k1 = k + 1 := ⟨_, rfl⟩
    rw [← hk1] at e2 e
    refine zr3 (ρ := fun _ => [.v true (.int .u64 ((x.getD k 0 + y.getD k 0 + (adI x y N k).2) % 18446744073709551616)), .v true (.int .u64 ((x.getD k 0 + y.getD k 0 + (adI x y N k).2) / 18446744073709551616))]) (an (get_map hkl) <| an (get_map hik) <| hik) (o := by repeat' first|exact hA|trivial|constructor) (k := ?_)
    show Holds _ _ _ _ _ _ _
    refine zr1 e2 ?_
    refine ⟨k1, by omega, (show x.length - k1 < x.length - k by omega), fun a w h => ?_⟩
    simp only [e, List.map_set]
    exact Rel.keep [22, 21, 6, 5, 1, 0] [19] h
 ·intro σ hσ
  refine Holds.from hσ ?_
  obtain ⟨h1, h2, h3, h4⟩ := hI x.length
  have hT := wTrim_ok _ (by rw [List.length_set, h3]; omega) hfo
  rw [hfin] at hT
  have hik : x.length < (adI x y N x.length).1.length := by omega
  obtain ⟨L, hL⟩ : ∃ L, L = (adI x y N x.length).1 := ⟨_, rfl⟩
  rw [← hL] at hT hik h3 ⊢
  have g : (x.length : Int) < N := by omega
  have hxN : x.length < N := by omega
  refine zs1 (an (get_map hik) <| an g <| hxN) ?_
  have hms : (L.map fun n => V.int .u64 n).set x.length (V.int .u64 (adI x y N x.length).2) = (L.set x.length (adI x y N x.length).2).map fun n => V.int .u64 n := by rw [List.map_set]
  rw [hms]
  have htk : List.take N (List.map (fun n => V.int .u64 n) (L.set x.length (adI x y N x.length).2)) = List.map (fun n => V.int .u64 n) (L.set x.length (adI x y N x.length).2) := List.take_of_length_le (by rw [List.length_map, List.length_set]; omega)
  refine zs3 (ρ := fun _ => [.v true (words (digs Z))]) htk (o := by repeat' first|exact hT|trivial|constructor) (k := ?_)
  exact Holds.ret (RetOk.vs rfl (by exact ⟨⟨rfl, id⟩, trivial⟩) rfl)
def wmI (ai : Int) (b : List Int) (i : Nat) (s : List Int × Int) : Nat → List Int × Int
 | 0 => s
 | k + 1 => ((wmI ai b i s k).1.set (i + k) (((wmI ai b i s k).2 + (wmI ai b i s k).1.getD (i + k) 0 + ai * b.getD k 0) % 18446744073709551616), ((wmI ai b i s k).2 + (wmI ai b i s k).1.getD (i + k) 0 + ai * b.getD k 0) / 18446744073709551616)
def wmO (a b : List Int) : Nat → List Int
 | 0 => List.replicate (a.length + b.length) 0
 | i + 1 => (wmI (a.getD i 0) b i (wmO a b i, 0) b.length).1.set (i + b.length) (wmI (a.getD i 0) b i (wmO a b i, 0) b.length).2
theorem wm_bound {ai u : Int} (ha : 0 ≤ ai ∧ ai < 18446744073709551616) (hu : 0 ≤ u ∧ u < 18446744073709551616) : 0 ≤ ai * u ∧ ai * u ≤ 340282366920938463426481119284349108225 := by
 refine ⟨Int.mul_nonneg ha.1 hu.1, ?_⟩
 have : ai * u ≤ 18446744073709551615 * 18446744073709551615 := Int.mul_le_mul (by omega) (by omega) hu.1 (by omega)
 omega
theorem wmI_ok {ai : Int} {b : List Int} {i : Nat} {s : List Int × Int} (ha : 0 ≤ ai ∧ ai < 18446744073709551616) (ob : okW b) (hs : okW s.1) (hc : 0 ≤ s.2 ∧ s.2 < 18446744073709551616) : ∀ k, okW (wmI ai b i s k).1 ∧ (0 ≤ (wmI ai b i s k).2 ∧ (wmI ai b i s k).2 < 18446744073709551616) ∧ (wmI ai b i s k).1.length = s.1.length
 | 0 => ⟨hs, hc, rfl⟩
 | k + 1 => by
   obtain ⟨h1, h2, h3⟩ := wmI_ok (i := i) ha ob hs hc k
   have h4 := okW_getD h1 (i + k)
   have h5 := wm_bound ha (okW_getD ob k)
   rw [wmI]
   refine ⟨okW_set h1 (by omega), by simp only; omega, by simp only; rw [List.length_set, h3]⟩
theorem wmI_far {ai : Int} {b : List Int} {i : Nat} {s : List Int × Int} : ∀ k j, i + k ≤ j → (wmI ai b i s k).1.getD j 0 = s.1.getD j 0
 | 0, _, _ => rfl
 | k + 1, j, h => by
   rw [wmI]
   simp only
   rw [List.getD_eq_getElem?_getD, List.getElem?_set_ne (by omega), ← List.getD_eq_getElem?_getD]
   exact wmI_far k j (by omega)
theorem wmI_val {ai : Int} {b : List Int} {i : Nat} {s : List Int × Int} (ha : 0 ≤ ai ∧ ai < 18446744073709551616) (ob : okW b) (hs : okW s.1) (hc : 0 ≤ s.2 ∧ s.2 < 18446744073709551616) : ∀ k, i + k ≤ s.1.length →
 val (wmI ai b i s k).1 + 18446744073709551616 ^ (i + k) * (wmI ai b i s k).2.toNat = val s.1 + 18446744073709551616 ^ i * (ai.toNat * val (b.take k) + s.2.toNat)
 | 0, _ => by rw [wmI, List.take_zero, val]; simp
 | k + 1, hk => by
   have ih := wmI_val (i := i) ha ob hs hc k (by omega)
   obtain ⟨h1, h2, h3⟩ := wmI_ok (i := i) ha ob hs hc k
   have hi : i + k < (wmI ai b i s k).1.length := by omega
   have hz := okW_getD h1 (i + k)
   have hu := okW_getD ob k
   have hp := wm_bound ha hu
   rw [wmI, val_take_succ]
   simp only
   have hset := val_set (n := ((wmI ai b i s k).2 + (wmI ai b i s k).1.getD (i + k) 0 + ai * b.getD k 0) % 18446744073709551616) hi
   generalize (wmI ai b i s k).1.getD (i + k) 0 = z at *
   generalize b.getD k 0 = u at *
   generalize (wmI ai b i s k).2 = c at *
   have em0 : (ai * u).toNat = ai.toNat * u.toNat := by
    obtain ⟨A, rfl⟩ : ∃ n : Nat, ai = n := ⟨ai.toNat, by omega⟩
    obtain ⟨U, rfl⟩ : ∃ n : Nat, u = n := ⟨u.toNat, by omega⟩
    rw [← Int.natCast_mul, Int.toNat_natCast, Int.toNat_natCast, Int.toNat_natCast]
   have eD : 18446744073709551616 ^ (i + (k + 1)) = 18446744073709551616 ^ (i + k) * 18446744073709551616 := by rw [← Nat.add_assoc, Nat.pow_succ]
   have eA : 18446744073709551616 ^ i * (ai.toNat * (val (b.take k) + 18446744073709551616 ^ k * u.toNat) + s.2.toNat) = 18446744073709551616 ^ i * (ai.toNat * val (b.take k) + s.2.toNat) + 18446744073709551616 ^ (i + k) * (ai * u).toNat := by
    rw [em0, Nat.pow_add, Nat.mul_assoc, ← Nat.mul_add]
    congr 1
    rw [Nat.mul_add, Nat.mul_left_comm]
    omega
   generalize ai * u = m at *
   have er : ((c + z + m) % 18446744073709551616).toNat + 18446744073709551616 * ((c + z + m) / 18446744073709551616).toNat = z.toNat + m.toNat + c.toNat := by omega
   have em : 18446744073709551616 ^ (i + k) * ((c + z + m) % 18446744073709551616).toNat + 18446744073709551616 ^ (i + k) * (18446744073709551616 * ((c + z + m) / 18446744073709551616).toNat) = 18446744073709551616 ^ (i + k) * z.toNat + 18446744073709551616 ^ (i + k) * m.toNat + 18446744073709551616 ^ (i + k) * c.toNat := by
    rw [← Nat.mul_add, er, Nat.mul_add, Nat.mul_add]
   rw [eD, eA, Nat.mul_assoc]
   generalize 18446744073709551616 ^ (i + k) * ((c + z + m) % 18446744073709551616).toNat = a1 at *
   generalize 18446744073709551616 ^ (i + k) * (18446744073709551616 * ((c + z + m) / 18446744073709551616).toNat) = a2 at *
   generalize 18446744073709551616 ^ (i + k) * z.toNat = a3 at *
   generalize 18446744073709551616 ^ (i + k) * m.toNat = a4 at *
   generalize 18446744073709551616 ^ (i + k) * c.toNat = a5 at *
   generalize 18446744073709551616 ^ i * (ai.toNat * val (b.take k) + s.2.toNat) = a6 at *
   omega
theorem wmO_ok {a b : List Int} (oa : okW a) (ob : okW b) : ∀ i, i ≤ a.length → okW (wmO a b i) ∧ (wmO a b i).length = a.length + b.length ∧ val (wmO a b i) = val (a.take i) * val b ∧ ∀ j, i + b.length ≤ j → (wmO a b i).getD j 0 = 0
 | 0, _ => by
   refine ⟨fun n hn => by rw [wmO, List.mem_replicate] at hn; omega, by rw [wmO, List.length_replicate], ?_, fun j hj => ?_⟩
   ·rw [wmO, List.take_zero, val, Nat.zero_mul]
    have := val_zeros [] (a.length + b.length)
    rw [List.nil_append] at this
    exact this
   ·rw [wmO, List.getD_eq_getElem?_getD]
    cases h : (List.replicate (a.length + b.length) (0 : Int))[j]? with
    | none => rfl
    | some x => have := List.mem_of_getElem? h; rw [List.mem_replicate] at this; exact this.2
 | i + 1, hi => by
   obtain ⟨h1, h2, h3, h4⟩ := wmO_ok oa ob i (by omega)
   have ha := okW_getD oa i
   obtain ⟨k1, k2, k3⟩ := wmI_ok (i := i) (s := (wmO a b i, 0)) ha ob h1 (by simp) b.length
   have kv := wmI_val (i := i) (s := (wmO a b i, 0)) ha ob h1 (by simp) b.length (by simp only; omega)
   have kf := wmI_far (ai := a.getD i 0) (b := b) (i := i) (s := (wmO a b i, 0)) b.length
   have hlt : i + b.length < (wmI (a.getD i 0) b i (wmO a b i, 0) b.length).1.length := by rw [k3]; simp only; omega
   rw [wmO]
   refine ⟨okW_set k1 k2, by rw [List.length_set, k3]; exact h2, ?_, fun j hj => ?_⟩
   ·have hs := val_set (n := (wmI (a.getD i 0) b i (wmO a b i, 0) b.length).2) hlt
    have h0 : (wmI (a.getD i 0) b i (wmO a b i, 0) b.length).1.getD (i + b.length) 0 = 0 := by
     rw [kf _ (Nat.le_refl _)]
     exact h4 _ (Nat.le_refl _)
    rw [h0, Int.toNat_zero, Nat.mul_zero, Nat.add_zero] at hs
    rw [List.take_length] at kv
    simp only [Int.toNat_zero, Nat.add_zero] at kv
    rw [hs, kv, h3, val_take_succ, Nat.add_mul, Nat.mul_assoc]
   ·rw [List.getD_eq_getElem?_getD, List.getElem?_set_ne (by omega), ← List.getD_eq_getElem?_getD, kf _ (by omega)]
    exact h4 _ (by omega)
theorem mul_step {A U z c : Nat} (hA : A < 18446744073709551616) (hU : U < 18446744073709551616) (hz : z < 18446744073709551616) (hc : c < 18446744073709551616) :
 ((A * U % 18446744073709551616 + z) % 18446744073709551616 + c) % 18446744073709551616 = (c + z + A * U) % 18446744073709551616 ∧
 A * U / 18446744073709551616 + (A * U % 18446744073709551616 + z) / 18446744073709551616 + ((A * U % 18446744073709551616 + z) % 18446744073709551616 + c) / 18446744073709551616 = (c + z + A * U) / 18446744073709551616 ∧
 (c + z + A * U) / 18446744073709551616 < 18446744073709551616 := by
 have hp : A * U ≤ 18446744073709551615 * 18446744073709551615 := Nat.mul_le_mul (by omega) (by omega)
 generalize A * U = p at *
 omega
set_option maxHeartbeats 2000000 in
theorem wMul_ok (x y : List Int) (hx : x.length < 400000) (hy : y.length < 400000) (ox : okW x) (oy : okW y) : FnOk Tryz.prog 40 [.v (words x), .v (words y)] [.v true (words (digs (val x * val y)))] := by
 have v1 := view_ok x (by omega)
 have v2 := view_ok y (by omega)
 have t1 := trimL_len x
 have t2 := trimL_len y
 have o1 := trimL_ok ox
 have o2 := trimL_ok oy
 rw [← val_trim x, ← val_trim y]
 generalize trimL x = a at *
 generalize trimL y = b at *
 refine FnOk.of Tryz.func40 rfl rfl fun cx w0 => ?_
 rw [show Tryz.f40.ntmps = 93 from rfl]
 refine zs0 ?_
 refine zs2 (ρ := fun d => if d = 15 then [.v false (words a)] else [.v false (words b)]) (o := by repeat' first|exact v1|exact v2|trivial|constructor) (k := ?_)
 refine Holds.from (σ' := { nt := 93, env := [(1, .v false (words b)), (0, .v false (words a))], mem := [] }) (fun a w h => Rel.keep [1, 0] [] h) ?_
 by_cases ha0 : a = []
 ·subst ha0
  rw [show val ([] : List Int) * val b = 0 from by simp [val]]
  refine Holds.seq ?_
  refine zs0 ?_
  refine Holds.condT rfl ?_
  refine zs0 ?_
  rw [show words (digs 0) = .sl 1 [] from rfl]
  exact Holds.ret ⟨_, [], rfl, ⟨rfl, trivial⟩, by simp [R.names, R.mems, R.blks], by simp, rfl⟩
 by_cases hb0 : b = []
 ·subst hb0
  rw [show val a * val ([] : List Int) = 0 from by simp [val]]
  have hpos : 0 < a.length := List.length_pos_iff.2 ha0
  have g : ¬ (a.length : Int) = 0 := by omega
  refine Holds.seq ?_
  refine zs1 g ?_
  refine Holds.condT rfl ?_
  refine zs0 ?_
  rw [show words (digs 0) = .sl 1 [] from rfl]
  exact Holds.ret ⟨_, [], rfl, ⟨rfl, trivial⟩, by simp [R.names, R.mems, R.blks], by simp, rfl⟩
 have hap : 0 < a.length := List.length_pos_iff.2 ha0
 have hbp : 0 < b.length := List.length_pos_iff.2 hb0
 have ga : ¬ (a.length : Int) = 0 := by omega
 have gb : ¬ (b.length : Int) = 0 := by omega
 refine Holds.next (fun σ => ∀ x w, Rel cx w0 σ x w → Rel cx w0 { nt := 93, env := [(1, .v false (words b)), (0, .v false (words a))], mem := [] } x w) ?_ ?_
 ·refine zs1 (an ga <| gb) ?_
  exact Holds.condF rfl (Holds.skip fun x w h => Rel.keep [1, 0] [] h)
 intro σ hσ
 refine Holds.from hσ ?_
 clear hσ ga gb
 obtain ⟨N, hN⟩ : ∃ N, N = a.length + b.length := ⟨_, rfl⟩
 have eN : IntKind.i64.wrap ((a.length : Int) + (b.length : Int)) = (N : Int) := by rw [wrap_i64 (by omega) (by omega)]; omega
 refine zs1 (an eN <| tby76) ?_
 obtain ⟨f1, f2, f3, f4⟩ := wmO_ok o1 o2 a.length (Nat.le_refl _)
 rw [val_take_all (Nat.le_refl _)] at f3
 refine Holds.next (fun σ => ∀ x w, Rel cx w0 σ x w → Rel cx w0 { nt := 93, env := [(5, .own 31 0 N)], mem := [(31, .buf 76 1 true ((wmO a b a.length).map fun n => .int .u64 n))] } x w) ?_ ?_
 ·refine zs0 ?_
  refine Holds.loopB (fun i : Nat => { nt := 93, env := [(34, .v true (.int .i64 (i : Nat))), (33, .v true (.int .i64 (a.length : Nat))), (32, .v false (words a)), (5, .own 31 0 N), (1, .v false (words b))], mem := [(31, .buf 76 1 true ((wmO a b i).map fun n => .int .u64 n))] }) (fun i => i ≤ a.length) (fun i => a.length - i) 0 (Nat.zero_le _) (fun x w h => by
   have := Rel.keep [34, 33, 32, 5, 1] [31] h
   rw [wmO, List.map_replicate, ← hN]
   exact this) ?_
  intro i hi
  obtain ⟨h1, h2, h3, h4⟩ := wmO_ok o1 o2 i hi
  by_cases hend : i = a.length
  ·have g : ¬ (i : Int) < a.length := by omega
   refine zs1 g ?_
   refine Holds.seq (Holds.condF rfl (Holds.exit ⟨rfl, fun x w h => ?_⟩))
   rw [← hend]
   exact Rel.keep [5] [31] h
  have hia : i < a.length := by omega
  have g : (i : Int) < a.length := by omega
  have hA := okW_getD o1 i
  have gA := get_map hia
  obtain ⟨A, hAe⟩ : ∃ A : Nat, a.getD i 0 = A := ⟨(a.getD i 0).toNat, by omega⟩
  rw [hAe] at hA gA
  obtain ⟨s, hs⟩ : ∃ s : List Int × Int, s = (wmO a b i, 0) := ⟨_, rfl⟩
  have hs1 : s.1 = wmO a b i := by rw [hs]
  have hs2 : s.2 = 0 := by rw [hs]
  have os : okW s.1 := by rw [hs1]; exact h1
  have hsl : s.1.length = N := by rw [hs1, h2, hN]
  have hI := wmI_ok (i := i) hA o2 os (by rw [hs2]; omega)
  have ei1 : IntKind.i64.wrap ((i : Int) + 1) = ((i + 1 : Nat) : Int) := by rw [wrap_i64 (by omega) (by omega)]; omega
  refine zs1 g ?_
  refine Holds.seq (Holds.condT rfl (Holds.skip ?_))
  show Holds _ _ _ _ _ _ _
  refine Holds.next (fun σ => ∀ x w, Rel cx w0 σ x w → Rel cx w0 { nt := 93, env := [(34, .v true (.int .i64 (i : Nat))), (33, .v true (.int .i64 (a.length : Nat))), (32, .v false (words a)), (5, .own 31 0 N), (1, .v false (words b))], mem := [(31, .buf 76 1 true ((wmO a b (i + 1)).map fun n => .int .u64 n))] } x w) ?_ ?_
  ·refine Holds.blockN ?_
   refine zs1 gA ?_
   refine zs0 ?_
   refine Holds.next (fun σ => ∀ x w, Rel cx w0 σ x w → Rel cx w0 { nt := 93, env := [(6, .v true (.int .i64 (i : Nat))), (8, .v true (.int .u64 (wmI A b i s b.length).2)), (34, .v true (.int .i64 (i : Nat))), (33, .v true (.int .i64 (a.length : Nat))), (32, .v false (words a)), (5, .own 31 0 N), (1, .v false (words b))], mem := [(31, .buf 76 1 true ((wmI A b i s b.length).1.map fun n => .int .u64 n))] } x w) ?_ ?_
   ·refine zs0 ?_
    refine Holds.loopB (fun k : Nat => { nt := 93, env := [(41, .v true (.int .i64 (k : Nat))), (40, .v true (.int .i64 (b.length : Nat))), (39, .v false (words b)), (6, .v true (.int .i64 (i : Nat))), (7, .v true (.int .u64 (A : Nat))), (8, .v true (.int .u64 (wmI A b i s k).2)), (34, .v true (.int .i64 (i : Nat))), (33, .v true (.int .i64 (a.length : Nat))), (32, .v false (words a)), (5, .own 31 0 N), (1, .v false (words b))], mem := [(31, .buf 76 1 true ((wmI A b i s k).1.map fun n => .int .u64 n))] }) (fun k => k ≤ b.length) (fun k => b.length - k) 0 (Nat.zero_le _) (fun x w h => by
     have := Rel.keep [41, 40, 39, 6, 7, 8, 34, 33, 32, 5, 1] [31] h
     rw [wmI, hs]
     exact this) ?_
    intro k hk
    obtain ⟨k1, k2, k3⟩ := hI k
    by_cases hend2 : k = b.length
    ·have g2 : ¬ (k : Int) < b.length := by omega
     refine zs1 g2 ?_
     refine Holds.seq (Holds.condF rfl (Holds.exit ⟨rfl, fun x w h => ?_⟩))
     rw [← hend2]
     exact Rel.keep [6, 8, 34, 33, 32, 5, 1] [31] h
    have hkb : k < b.length := by omega
    have g2 : (k : Int) < b.length := by omega
    have gB := get_map hkb
    have hU := okW_getD o2 k
    have hik : i + k < (wmI A b i s k).1.length := by omega
    have gZ := get_map hik
    have hZ := okW_getD k1 (i + k)
    have esucc : wmI A b i s (k + 1) = ((wmI A b i s k).1.set (i + k) (((wmI A b i s k).2 + (wmI A b i s k).1.getD (i + k) 0 + A * b.getD k 0) % 18446744073709551616), ((wmI A b i s k).2 + (wmI A b i s k).1.getD (i + k) 0 + A * b.getD k 0) / 18446744073709551616) := rfl
    obtain ⟨U, hUe⟩ : ∃ U : Nat, b.getD k 0 = U := ⟨(b.getD k 0).toNat, by omega⟩
    rw [hUe] at gB hU esucc
    obtain ⟨T, hT⟩ : ∃ T, T = wmI A b i s k := ⟨_, rfl⟩
    rw [← hT] at k1 k2 k3 hik gZ hZ esucc ⊢
    obtain ⟨z, hz⟩ : ∃ z : Nat, T.1.getD (i + k) 0 = z := ⟨(T.1.getD (i + k) 0).toNat, by omega⟩
    rw [hz] at gZ hZ esucc
    obtain ⟨c, hc⟩ : ∃ c : Nat, T.2 = c := ⟨T.2.toNat, by omega⟩
    rw [hc] at k2 esucc ⊢
    have hst := mul_step (A := A) (U := U) (z := z) (c := c) (by omega) (by omega) (by omega) (by omega)
    have hM := mul64_ok A U (by omega) (by omega)
    obtain ⟨hi_, hhi⟩ : ∃ h, h = A * U / 18446744073709551616 := ⟨_, rfl⟩
    obtain ⟨lo, hlo⟩ : ∃ l, l = A * U % 18446744073709551616 := ⟨_, rfl⟩
    have hlo8 : lo < 18446744073709551616 := by rw [hlo]; exact Nat.mod_lt _ (by decide)
    rw [← hhi, ← hlo] at hM hst
    have ecast : ((c : Int) + (z : Int) + (A : Int) * (U : Int)) = ((c + z + A * U : Nat) : Int) := by rw [Int.natCast_add, Int.natCast_add, Int.natCast_mul]
    rw [ecast] at esucc
    obtain ⟨q, hq⟩ : ∃ q, q = c + z + A * U := ⟨_, rfl⟩
    rw [← hq] at esucc hst
    obtain ⟨s1, hs1'⟩ : ∃ s1, s1 = (lo + z + 0) % 18446744073709551616 := ⟨_, rfl⟩
    obtain ⟨c1, hc1'⟩ : ∃ c1, c1 = (lo + z + 0) / 18446744073709551616 := ⟨_, rfl⟩
    have hA1 := add64N lo z 0 (by omega) hs1' hc1'
    obtain ⟨s2, hs2'⟩ : ∃ s2, s2 = (s1 + c + 0) % 18446744073709551616 := ⟨_, rfl⟩
    obtain ⟨c2, hc2'⟩ : ∃ c2, c2 = (s1 + c + 0) / 18446744073709551616 := ⟨_, rfl⟩
    have hA2 := add64N s1 c 0 (by omega) hs2' hc2'
    rw [Nat.add_zero] at hs1' hc1' hs2' hc2'
    rw [← hs1', ← hc1', ← hs2', ← hc2'] at hst
    obtain ⟨st1, st2, st3⟩ := hst
    obtain ⟨h1', hh1'⟩ : ∃ h, h = hi_ + c1 := ⟨_, rfl⟩
    have w1 : IntKind.u64.wrap ((hi_ : Int) + (c1 : Int)) = (h1' : Int) := by rw [wrap_u64]; omega
    obtain ⟨h2', hh2'⟩ : ∃ h, h = h1' + c2 := ⟨_, rfl⟩
    have w2 : IntKind.u64.wrap ((h1' : Int) + (c2 : Int)) = (h2' : Int) := by rw [wrap_u64]; omega
    have eik : IntKind.i64.wrap ((i : Int) + (k : Int)) = ((i + k : Nat) : Int) := by rw [wrap_i64 (by omega) (by omega)]; omega
    obtain ⟨ik, hike⟩ : ∃ ik, ik = i + k := ⟨_, rfl⟩
    rw [← hike] at eik hik gZ esucc
    have gik : (ik : Int) < N := by omega
    have ek1 : IntKind.i64.wrap ((k : Int) + 1) = ((k + 1 : Nat) : Int) := by rw [wrap_i64 (by omega) (by omega)]; omega
    obtain ⟨k', hk'⟩ : ∃ k', k' = k + 1 := ⟨_, rfl⟩
    rw [← hk'] at ek1 esucc
    have es2 : (q : Int) % 18446744073709551616 = (s2 : Int) := by omega
    have eh2 : (q : Int) / 18446744073709551616 = (h2' : Int) := by omega
    rw [es2, eh2] at esucc
    clear hhi hlo hq hs1' hc1' hs2' hc2' st1 st2 st3 es2 eh2 ecast hT hs hs1 hs2 os hsl hI h1 h2 h3 h4 f1 f2 f3 f4 v1 v2
    refine zs1 g2 ?_
    refine Holds.seq (Holds.condT rfl (Holds.skip ?_))
    show Holds _ _ _ _ _ _ _
    refine Holds.next (fun σ => ∀ x w, Rel cx w0 σ x w → Rel cx w0 { nt := 93, env := [(41, .v true (.int .i64 (k : Nat))), (40, .v true (.int .i64 (b.length : Nat))), (39, .v false (words b)), (6, .v true (.int .i64 (i : Nat))), (7, .v true (.int .u64 (A : Nat))), (8, .v true (.int .u64 (h2' : Nat))), (34, .v true (.int .i64 (i : Nat))), (33, .v true (.int .i64 (a.length : Nat))), (32, .v false (words a)), (5, .own 31 0 N), (1, .v false (words b))], mem := [(31, .buf 76 1 true ((T.1.set ik s2).map fun n => .int .u64 n))] } x w) ?_ ?_
    ·refine Holds.blockN ?_
     refine zs1 gB ?_
     refine zs2 (ρ := fun _ => [.v true (.int .u64 (hi_ : Nat)), .v true (.int .u64 (lo : Nat))]) (o := by repeat' first|exact hM|trivial|constructor) (k := ?_)
     refine zs0 ?_
     refine zs3 (ρ := fun _ => [.v true (.int .u64 (s1 : Nat)), .v true (.int .u64 (c1 : Nat))]) (an eik <| an gZ <| an gik <| hik) (o := by repeat' first|exact hA1|trivial|constructor) (k := ?_)
     refine Holds.from (σ' := { nt := 93, env := [(9, .v true (.int .i64 (k : Nat))), (11, .v true (.int .u64 (hi_ : Nat))), (12, .v true (.int .u64 (s1 : Nat))), (13, .v true (.int .u64 (c1 : Nat))), (41, .v true (.int .i64 (k : Nat))), (40, .v true (.int .i64 (b.length : Nat))), (39, .v false (words b)), (6, .v true (.int .i64 (i : Nat))), (7, .v true (.int .u64 (A : Nat))), (8, .v true (.int .u64 (c : Nat))), (34, .v true (.int .i64 (i : Nat))), (33, .v true (.int .i64 (a.length : Nat))), (32, .v false (words a)), (5, .own 31 0 N), (1, .v false (words b))], mem := [(31, .buf 76 1 true (T.1.map fun n => .int .u64 n))] }) (fun x w h => Rel.keep [9, 11, 12, 13, 41, 40, 39, 6, 7, 8, 34, 33, 32, 5, 1] [31] h) ?_
     refine zs1 w1 ?_
     refine zs2 (ρ := fun _ => [.v true (.int .u64 (s2 : Nat)), .v true (.int .u64 (c2 : Nat))]) (o := by repeat' first|exact hA2|trivial|constructor) (k := ?_)
     refine zs1 w2 ?_
     refine zr1 (an eik <| an gZ <| an gik <| hik) ?_
     intro x w h
     rw [List.map_set]
     exact Rel.keep [41, 40, 39, 6, 7, 8, 34, 33, 32, 5, 1] [31] h
    ·intro σ hσ
     refine Holds.from hσ ?_
     refine zr1 ek1 ?_
     refine ⟨k', (by show k' ≤ b.length; omega), (show b.length - k' < b.length - k by omega), fun x w h => ?_⟩
     simp only [esucc]
     exact Rel.keep [41, 40, 39, 6, 7, 8, 34, 33, 32, 5, 1] [31] h
   ·intro σ hσ
    refine Holds.from hσ ?_
    obtain ⟨k1, k2, k3⟩ := hI b.length
    have hib : i + b.length < (wmI A b i s b.length).1.length := by omega
    have e : wmO a b (i + 1) = (wmI A b i s b.length).1.set (i + b.length) (wmI A b i s b.length).2 := by rw [wmO, hAe, hs]
    have eib : IntKind.i64.wrap ((i : Int) + (b.length : Int)) = ((i + b.length : Nat) : Int) := by rw [wrap_i64 (by omega) (by omega)]; omega
    obtain ⟨ib, hibe⟩ : ∃ ib, ib = i + b.length := ⟨_, rfl⟩
    rw [← hibe] at eib hib e
    have gZ := get_map hib
    have gib : (ib : Int) < N := by omega
    refine zr1 (an eib <| an gZ <| an gib <| hib) ?_
    intro x w h
    rw [e, List.map_set]
    exact Rel.keep [34, 33, 32, 5, 1] [31] h
  ·intro σ hσ
   refine Holds.from hσ ?_
   obtain ⟨i1, hi1⟩ : ∃ i1, i1 = i + 1 := ⟨_, rfl⟩
   rw [← hi1] at ei1 ⊢
   refine zr1 ei1 ?_
   exact ⟨i1, (by show i1 ≤ a.length; omega), (show a.length - i1 < a.length - i by omega), fun x w h => Rel.keep [34, 33, 32, 5, 1] [31] h⟩
 ·intro σ hσ
  refine Holds.from hσ ?_
  have hTr := wTrim_ok _ (by rw [f2]; omega) f1
  rw [f3] at hTr
  have htk : List.take N (List.map (fun n => V.int .u64 n) (wmO a b a.length)) = List.map (fun n => V.int .u64 n) (wmO a b a.length) := List.take_of_length_le (by rw [List.length_map, f2]; omega)
  refine zs3 (ρ := fun _ => [.v true (words (digs (val a * val b)))]) htk (o := by repeat' first|exact hTr|trivial|constructor) (k := ?_)
  exact Holds.ret (RetOk.vs rfl (by exact ⟨⟨rfl, id⟩, trivial⟩) rfl)
theorem flush_ok (n t u : Nat) (hn : (digs n).length < 40000) (hnt : (digs (n * t)).length < 40000) (ht : t < 18446744073709551616) (hu : u < 18446744073709551616) :
 ClosOk Tryz.prog 136 [(5, .box 30 (.v true (words (digs n)))), (6, .box 76 (.v true (.int .u64 t))), (7, .box 76 (.v true (.int .u64 u)))] [(5, .box 30 (.v true (words (digs (n * t + u))))), (6, .box 76 (.v true (.int .u64 1))), (7, .box 76 (.v true (.int .u64 0)))] := by
 have c1 := wWord_ok t ht
 have c2 := wWord_ok u hu
 have lt : (digs t).length < 40000 := by have := digs_len (v := t) (m := 1) (by omega); omega
 have lu : (digs u).length < 40000 := by have := digs_len (v := u) (m := 1) (by omega); omega
 have c3 := wMul_ok (digs n) (digs t) (by omega) (by omega) (digs_ok n).1 (digs_ok t).1
 rw [(digs_ok n).2.2, (digs_ok t).2.2] at c3
 have c4 := wAdd_ok (digs (n * t)) (digs u) (by omega) (by omega) (digs_ok _).1 (digs_ok _).1
 rw [(digs_ok (n * t)).2.2, (digs_ok u).2.2] at c4
 refine ClosOk.of Tryz.func136 rfl rfl fun cx w0 M Rt F => ?_
 show Holds Tryz.prog none cx w0 _ { nt := 10, env := [(0, .ptr 5 0 [] 0), (1, .ptr 6 0 [] 0), (2, .ptr 7 0 [] 0)], mem := (5, .box 30 (.v true (words (digs n)))) :: (6, .box 76 (.v true (.int .u64 t))) :: (7, .box 76 (.v true (.int .u64 u))) :: M, root := Rt, fix := F } _
 unfold words
 obtain ⟨nt, hnte⟩ : ∃ nt, nt = n * t := ⟨_, rfl⟩
 rw [← hnte] at c3 c4 ⊢
 obtain ⟨z, hz⟩ : ∃ z, z = nt + u := ⟨_, rfl⟩
 rw [← hz] at c4 ⊢
 unfold words at c1 c2 c3 c4
 refine zd2 [] (ρ := fun d => if d = 5 then [.v true (.sl 1 ((digs t).map fun n => .int .u64 n))] else if d = 6 then [.v true (.sl 1 ((digs nt).map fun n => .int .u64 n))] else if d = 8 then [.v true (.sl 1 ((digs u).map fun n => .int .u64 n))] else [.v true (.sl 1 ((digs z).map fun n => .int .u64 n))]) (o := by repeat' first|exact c1|exact c3|exact c2|exact c4|trivial|constructor) (k := ?_)
 refine zr0 ?_
 refine ⟨.inr rfl, rfl, rfl, rfl, fun q => ?_, rfl⟩
 simp only [look, List.cons_append, List.nil_append]
 (repeat' split) <;> first | rfl | omega
theorem Rel.boxNil {cx : Cx} {w0 w : World} {σ : St} {a : Act} {s z : Nat} {e : TypeId} (hat : σ.at s = .box e .nil) (h : Rel cx w0 σ a w) : Rel cx w0 (σ.upd [(s, .box e (.v true (.sl z [])))]) a w := by
 obtain ⟨hd, μ, hr⟩ := h
 have at_eq : ∀ t, (σ.upd [(s, Blk.box e (.v true (.sl z [])))]).at t = if s = t then .box e (.v true (.sl z [])) else σ.at t := fun _ => rfl
 have hm := hr.mem s
 rw [hat] at hm
 obtain ⟨b, cap, cur, val, m1, m2, m3, m4, m5⟩ := hm
 rw [repA_nil] at m3
 refine ⟨hd, μ, hr.next ⟨Nat.le_refl _, fun _ _ _ _ h => h, fun s b c h => .inl ⟨s, c, h⟩, fun _ _ h _ => h⟩ hr.below hr.sites (fun q => ?_) (fun q => ?_)⟩
 ·rw [at_eq]
  split
  ·next he =>
   subst he
   right
   exact ⟨b, cap, cur, val, m1, m2, by rw [RepA]; exact ⟨[.slice none 0 0], by rw [Rep]; exact .inl ⟨rfl, _, _, rfl⟩, m3⟩, m4, fun h => by cases h⟩
  ·exact .inl ⟨rfl, rfl, fun _ _ _ => rfl⟩
 ·rw [at_eq]
  split
  ·next he => subst he; rw [hat]; exact .inr (.inl ⟨rfl, trivial⟩)
  ·exact .inr (.inl ⟨rfl, Blk.fits_refl _⟩)
def dvN (c : Nat) : Nat := if 97 ≤ c then c - 87 else if 65 ≤ c then c - 55 else c - 48
def fbN (s : ByteArray) (base : Nat) : Nat → Nat
 | 0 => 0
 | k + 1 => fbN s base k * base + dvN (bAt s k)
def okDig (s : ByteArray) (base : Nat) : Prop := ∀ i, i < s.size → 48 ≤ bAt s i ∧ dvN (bAt s i) < base
theorem fbN_lt {s : ByteArray} {base : Nat} (hb : base ≤ 16) (hd : okDig s base) : ∀ k, k ≤ s.size → fbN s base k < 16 ^ k
 | 0, _ => by simp [fbN]
 | k + 1, hk => by
   have ih := fbN_lt hb hd k (by omega)
   have h1 := (hd k (by omega)).2
   rw [fbN, Nat.pow_succ]
   have h2 : fbN s base k * base ≤ (16 ^ k - 1) * 16 := Nat.mul_le_mul (by omega) hb
   rw [Nat.sub_mul] at h2
   omega
set_option maxHeartbeats 2000000 in
theorem fromBase_ok (s : ByteArray) (base : Nat) (hs : s.size ≤ 1000) (hb : base ≤ 16) (hb2 : 2 ≤ base) (hd : okDig s base) :
 FnOk Tryz.prog 77 [.v (.str s), .v (.int .u64 base)] [.v true (words (digs (fbN s base s.size)))] := by
 refine FnOk.of Tryz.func77 rfl rfl fun cx w0 => ?_
 rw [show Tryz.f77.ntmps = 49 from rfl]
 refine zs0 ?_
 refine zs0 ?_
 refine zs0 ?_
 refine zs0 ?_
 refine Holds.from (fun a w h => Rel.boxNil (s := 5) (z := 1) rfl h) ?_
 refine Holds.from (σ' := { nt := 49, env := [(8, .fn 136 [.ptr 5 0 [] 0, .ptr 6 0 [] 0, .ptr 7 0 [] 0]), (5, .ptr 5 0 [] 0), (6, .ptr 6 0 [] 0), (7, .ptr 7 0 [] 0), (0, .v true (.str s)), (1, .v true (.int .u64 base))], mem := [(5, .box 30 (.v true (words (digs 0)))), (6, .box 76 (.v true (.int .u64 (1 : Nat)))), (7, .box 76 (.v true (.int .u64 (0 : Nat))))] }) (fun a w h => Rel.keep [8, 5, 6, 7, 0, 1] [5, 6, 7] h) ?_
 have hlt := fbN_lt hb hd
 refine Holds.next (fun σ => ∃ n t u : Nat, n * t + u = fbN s base s.size ∧ n ≤ fbN s base s.size ∧ n * t ≤ fbN s base s.size ∧ t < 18446744073709551616 ∧ u < 18446744073709551616 ∧ ∀ a w, Rel cx w0 σ a w → Rel cx w0 { nt := 49, env := [(8, .fn 136 [.ptr 5 0 [] 0, .ptr 6 0 [] 0, .ptr 7 0 [] 0]), (5, .ptr 5 0 [] 0), (6, .ptr 6 0 [] 0), (7, .ptr 7 0 [] 0), (0, .v true (.str s)), (1, .v true (.int .u64 base))], mem := [(5, .box 30 (.v true (words (digs n)))), (6, .box 76 (.v true (.int .u64 (t : Nat)))), (7, .box 76 (.v true (.int .u64 (u : Nat))))] } a w) ?_ ?_
 ·refine zs0 ?_
  refine Holds.loopB (fun q : Nat × Nat × Nat × Nat => { nt := 49, env := [(14, .v true (.int .i64 (q.1 : Nat))), (13, .v true (.int .i64 (s.size : Nat))), (8, .fn 136 [.ptr 5 0 [] 0, .ptr 6 0 [] 0, .ptr 7 0 [] 0]), (5, .ptr 5 0 [] 0), (6, .ptr 6 0 [] 0), (7, .ptr 7 0 [] 0), (0, .v true (.str s)), (1, .v true (.int .u64 base))], mem := [(5, .box 30 (.v true (words (digs q.2.1)))), (6, .box 76 (.v true (.int .u64 (q.2.2.1 : Nat)))), (7, .box 76 (.v true (.int .u64 (q.2.2.2 : Nat))))] })
   (fun q => q.1 ≤ s.size ∧ q.2.1 * q.2.2.1 + q.2.2.2 = fbN s base q.1 ∧ q.2.2.2 < q.2.2.1 ∧ q.2.2.1 < 72057594037927936) (fun q => s.size - q.1) (0, 0, 1, 0) ⟨Nat.zero_le _, rfl, by show 0 < 1; omega, by show 1 < _; omega⟩ (fun a w h => Rel.keep [14, 13, 8, 5, 6, 7, 0, 1] [5, 6, 7] h) ?_
  rintro ⟨i, n, t, u⟩ ⟨hi, hv, hut, ht⟩
  simp only at hi hv hut ht
  by_cases hend : i = s.size
  ·have g : ¬ (i : Int) < s.size := by omega
   refine zs1 g ?_
   refine Holds.seq (Holds.condF rfl (Holds.exit ⟨rfl, n, t, u, by rw [hv, hend], ?_, ?_, by omega, by omega, fun a w h => Rel.keep [8, 5, 6, 7, 0, 1] [5, 6, 7] h⟩))
   ·rw [← hend, ← hv]
    have : n * 1 ≤ n * t := Nat.mul_le_mul_left _ (by omega)
    omega
   ·rw [← hend, ← hv]; omega
  have hil : i < s.size := by omega
  have g : (i : Int) < s.size := by omega
  obtain ⟨x, hx, ex⟩ := bAt_some hil
  obtain ⟨hd1, hd2⟩ := hd i hil
  have hv1 : fbN s base (i + 1) = fbN s base i * base + dvN (bAt s i) := rfl
  have hlt1 := hlt (i + 1) (by omega)
  rw [ex] at hd1 hd2 hv1
  have hx8 := x.toNat_lt
  obtain ⟨c, hc⟩ : ∃ c, c = x.toNat := ⟨_, rfl⟩
  rw [← hc] at hd1 hd2 hv1 hx8
  obtain ⟨d, hde⟩ : ∃ d, d = dvN c := ⟨_, rfl⟩
  have w0' : IntKind.u64.wrap (c : Int) = c := by rw [wrap_u64]; omega
  have ei1 : IntKind.i64.wrap ((i : Int) + 1) = ((i + 1 : Nat) : Int) := by rw [wrap_i64 (by omega) (by omega)]; omega
  obtain ⟨i1, hi1⟩ : ∃ i1, i1 = i + 1 := ⟨_, rfl⟩
  rw [← hi1] at ei1 hv1 hlt1
  have htb : t * base ≤ 72057594037927936 * 16 := Nat.mul_le_mul (by omega) hb
  have hub : u * base + base ≤ t * base := by
   have : (u + 1) * base ≤ t * base := Nat.mul_le_mul_right _ (by omega)
   rw [Nat.add_mul, Nat.one_mul] at this
   exact this
  have hnew : n * (t * base) + (u * base + d) = fbN s base i1 := by
   rw [hv1, ← hv, hde, Nat.add_mul, Nat.mul_assoc, Nat.add_assoc]
  have w1 : IntKind.u64.wrap ((t : Int) * (base : Int)) = ((t * base : Nat) : Int) := by rw [← Int.natCast_mul, wrap_u64]; omega
  have w2 : IntKind.u64.wrap ((u : Int) * (base : Int)) = ((u * base : Nat) : Int) := by rw [← Int.natCast_mul, wrap_u64]; omega
  rw [← hde] at hd2
  have w3 : IntKind.u64.wrap (((u * base : Nat) : Int) + (d : Int)) = ((u * base + d : Nat) : Int) := by rw [wrap_u64]; omega
  obtain ⟨tb, htbe⟩ : ∃ tb, tb = t * base := ⟨_, rfl⟩
  obtain ⟨ub, hube⟩ : ∃ ub, ub = u * base := ⟨_, rfl⟩
  rw [← htbe] at w1 htb hub hnew
  rw [← hube] at w2 w3 hub hnew
  obtain ⟨ud, hude⟩ : ∃ ud, ud = ub + d := ⟨_, rfl⟩
  rw [← hude] at w3 hnew
  have hutb : ud < tb := by omega
  refine zs1 g ?_
  refine Holds.seq (Holds.condT rfl (Holds.skip ?_))
  show Holds _ _ _ _ _ _ _
  refine Holds.next (fun σ => ∃ n t u : Nat, n * t + u = fbN s base i1 ∧ u < t ∧ t < 72057594037927936 ∧ ∀ a w, Rel cx w0 σ a w → Rel cx w0 { nt := 49, env := [(14, .v true (.int .i64 (i : Nat))), (13, .v true (.int .i64 (s.size : Nat))), (8, .fn 136 [.ptr 5 0 [] 0, .ptr 6 0 [] 0, .ptr 7 0 [] 0]), (5, .ptr 5 0 [] 0), (6, .ptr 6 0 [] 0), (7, .ptr 7 0 [] 0), (0, .v true (.str s)), (1, .v true (.int .u64 base))], mem := [(5, .box 30 (.v true (words (digs n)))), (6, .box 76 (.v true (.int .u64 (t : Nat)))), (7, .box 76 (.v true (.int .u64 (u : Nat))))] } a w) ?_ ?_
  ·refine Holds.blockN ?_
   refine zs0 ?_
   refine Holds.step (Px := px) (T := TT) (ρ := fun _ => []) TTe (by simp (maxSteps := 100000) (disch := omega) only [go_sem, V.isAgg, V.flat, ↓reduceIte, Nat.reduceAdd, Nat.reduceSub, Nat.reduceLT, Nat.reduceEqDiff, reduceCtorEq, Nat.reduceLeDiff, Nat.reduceBEq, Nat.reduceMul, Int.reduceToNat, indexA, hx, g]; rfl) (by repeat' first | exact trivial | constructor) ?_
   rw [← hc]
   refine Holds.next (fun σ => ∀ a w, Rel cx w0 σ a w → Rel cx w0 { nt := 49, env := [(10, .v true (.int .u64 (d : Nat))), (14, .v true (.int .i64 (i : Nat))), (13, .v true (.int .i64 (s.size : Nat))), (8, .fn 136 [.ptr 5 0 [] 0, .ptr 6 0 [] 0, .ptr 7 0 [] 0]), (5, .ptr 5 0 [] 0), (6, .ptr 6 0 [] 0), (7, .ptr 7 0 [] 0), (0, .v true (.str s)), (1, .v true (.int .u64 base))], mem := [(5, .box 30 (.v true (words (digs n)))), (6, .box 76 (.v true (.int .u64 (t : Nat)))), (7, .box 76 (.v true (.int .u64 (u : Nat))))] } a w) ?_ ?_
   ·refine Holds.blockN ?_
    by_cases h97 : 97 ≤ c
    ·have e : d = c - 87 := by rw [hde, dvN, if_pos h97]
     have g1 : (97 : Int) ≤ c := by omega
     have w : IntKind.u64.wrap ((c : Int) - 87) = (d : Int) := by rw [wrap_u64]; omega
     refine zs1 (an w0' <| g1) ?_
     refine Holds.condT rfl ?_
     refine zr1 (an w0' <| w) ?_
     exact fun a w h => Rel.keep [10, 14, 13, 8, 5, 6, 7, 0, 1] [5, 6, 7] h
    ·have g1 : ¬ (97 : Int) ≤ c := by omega
     by_cases h65 : 65 ≤ c
     ·have e : d = c - 55 := by rw [hde, dvN, if_neg h97, if_pos h65]
      have g2 : (65 : Int) ≤ c := by omega
      have w : IntKind.u64.wrap ((c : Int) - 55) = (d : Int) := by rw [wrap_u64]; omega
      refine zs1 (an w0' <| g1) ?_
      refine Holds.condF rfl ?_
      refine zs1 (an w0' <| g2) ?_
      refine Holds.condT rfl ?_
      refine zr1 (an w0' <| w) ?_
      exact fun a w h => Rel.keep [10, 14, 13, 8, 5, 6, 7, 0, 1] [5, 6, 7] h
     ·have e : d = c - 48 := by rw [hde, dvN, if_neg h97, if_neg h65]
      have g2 : ¬ (65 : Int) ≤ c := by omega
      have w : IntKind.u64.wrap ((c : Int) - 48) = (d : Int) := by rw [wrap_u64]; omega
      refine zs1 (an w0' <| g1) ?_
      refine Holds.condF rfl ?_
      refine zs1 (an w0' <| g2) ?_
      refine Holds.condF rfl ?_
      refine zr1 (an w0' <| w) ?_
      exact fun a w h => Rel.keep [10, 14, 13, 8, 5, 6, 7, 0, 1] [5, 6, 7] h
   intro σ hσ
   refine Holds.from hσ ?_
   clear hσ
   refine zd1 [(3, 8)] (an w1 <| an w2 <| w3) ?_
   refine Holds.from (σ' := { nt := 49, env := [(14, .v true (.int .i64 (i : Nat))), (13, .v true (.int .i64 (s.size : Nat))), (8, .fn 136 [.ptr 5 0 [] 0, .ptr 6 0 [] 0, .ptr 7 0 [] 0]), (5, .ptr 5 0 [] 0), (6, .ptr 6 0 [] 0), (7, .ptr 7 0 [] 0), (0, .v true (.str s)), (1, .v true (.int .u64 base))], mem := [(5, .box 30 (.v true (words (digs n)))), (6, .box 76 (.v true (.int .u64 (tb : Nat)))), (7, .box 76 (.v true (.int .u64 (ud : Nat))))] }) (fun a w h => Rel.keep [14, 13, 8, 5, 6, 7, 0, 1] [5, 6, 7] h) ?_
   by_cases hbig : 72057594037927936 ≤ tb
   ·have g1 : (72057594037927936 : Int) ≤ tb := by omega
    have hle : n * tb ≤ fbN s base i1 := by omega
    have hle2 : n ≤ n * tb := by
     have : n * 1 ≤ n * tb := Nat.mul_le_mul_left _ (by omega)
     omega
    have hF := flush_ok n tb ud (digs_short (i := i1) (by omega) (by omega)) (digs_short (i := i1) (by omega) (by omega)) (by omega) (by omega)
    rw [hnew] at hF
    refine zs1 g1 ?_
    refine Holds.condT rfl ?_
    refine Holds.regionF (Px := px) (T := TT) (ρ := fun _ => []) (k := 1) TTe (by simp (maxSteps := 100000) (disch := omega) only [List.take_succ_cons, List.take_zero, go_sem, V.isAgg, V.flat, ↓reduceIte, Nat.reduceAdd, Nat.reduceSub, Nat.reduceLT, Nat.reduceEqDiff, reduceCtorEq, Nat.reduceLeDiff, Nat.reduceBEq, Nat.reduceMul, Int.reduceToNat]; rfl) (by repeat' first | exact trivial | constructor) rfl (by rfl) rfl rfl (Nat.le_of_ble_eq_true rfl) (by rfl) (by rfl) (by repeat' first | exact trivial | exact rfl | constructor) (hF) ⟨_, _, by simp (maxSteps := 100000) (disch := omega) only [List.drop_succ_cons, List.drop_zero, mres, go_sem, V.isAgg, V.flat, ↓reduceIte, Nat.reduceAdd, Nat.reduceSub, Nat.reduceLT, Nat.reduceEqDiff, reduceCtorEq, Nat.reduceLeDiff, Nat.reduceBEq, Nat.reduceMul, Int.reduceToNat]; rfl, by repeat' first | exact trivial | constructor, ?_⟩
    exact ⟨fbN s base i1, 1, 0, by omega, by omega, by omega, fun a w h => Rel.keep [14, 13, 8, 5, 6, 7, 0, 1] [5, 6, 7] h⟩
   ·have g1 : ¬ (72057594037927936 : Int) ≤ tb := by omega
    refine zs1 g1 ?_
    exact Holds.condF rfl (Holds.skip ⟨n, tb, ud, hnew, hutb, by omega, fun a w h => Rel.keep [14, 13, 8, 5, 6, 7, 0, 1] [5, 6, 7] h⟩)
  ·rintro σ ⟨n, t, u, hv, hut, ht, hσ⟩
   refine Holds.from hσ ?_
   refine zr1 ei1 ?_
   exact ⟨(i1, n, t, u), ⟨by show i1 ≤ _; omega, hv, hut, ht⟩, (show s.size - i1 < s.size - i by omega), fun a w h => Rel.keep [14, 13, 8, 5, 6, 7, 0, 1] [5, 6, 7] h⟩
 ·rintro σ ⟨n, t, u, hv, hn, hnt, ht, hu, hσ⟩
  refine Holds.from hσ ?_
  clear hσ
  have hl := hlt s.size (Nat.le_refl _)
  have hF := flush_ok n t u (digs_short (i := s.size) (by omega) (by omega)) (digs_short (i := s.size) (by omega) (by omega)) ht hu
  rw [hv] at hF
  refine Holds.seq (Holds.regionF (Px := px) (T := TT) (ρ := fun _ => []) (k := 1) TTe (by simp (maxSteps := 100000) (disch := omega) only [List.take_succ_cons, List.take_zero, go_sem, V.isAgg, V.flat, ↓reduceIte, Nat.reduceAdd, Nat.reduceSub, Nat.reduceLT, Nat.reduceEqDiff, reduceCtorEq, Nat.reduceLeDiff, Nat.reduceBEq, Nat.reduceMul, Int.reduceToNat]; rfl) (by repeat' first | exact trivial | constructor) rfl (by rfl) rfl rfl (Nat.le_of_ble_eq_true rfl) (by rfl) (by rfl) (by repeat' first | exact trivial | exact rfl | constructor) (hF) ⟨_, _, by simp (maxSteps := 100000) (disch := omega) only [List.drop_succ_cons, List.drop_zero, mres, go_sem, V.isAgg, V.flat, ↓reduceIte, Nat.reduceAdd, Nat.reduceSub, Nat.reduceLT, Nat.reduceEqDiff, reduceCtorEq, Nat.reduceLeDiff, Nat.reduceBEq, Nat.reduceMul, Int.reduceToNat]; rfl, by repeat' first | exact trivial | constructor, ?_⟩); show Holds _ _ _ _ _ _ _
  unfold words
  refine zs0 ?_
  exact Holds.ret (RetOk.vs rfl (by exact ⟨⟨rfl, id⟩, trivial⟩) rfl)
instance (s : ByteArray) (base : Nat) : Decidable (okDig s base) := inferInstanceAs (Decidable (∀ i, i < s.size → _))
def extA (f : FuncId) (l : List Arg) : Option (List R) :=
 match f, l with
 | 31, [.v (.str s), .v (.bool b)] => if s.size < 1000000 then some (longR (longM s b)) else none
 | 77, [.v (.str s), .v (.int .u64 (.ofNat base))] => if s.size ≤ 1000 ∧ base ≤ 16 ∧ 2 ≤ base ∧ okDig s base then some [.v true (words (digs (fbN s base s.size)))] else none
 | 91, [.v (.int .u64 x), .v (.int .u64 y), .v (.int .u64 c)] => if 0 ≤ x ∧ 0 ≤ y ∧ 0 ≤ c ∧ c ≤ 1 then some [.v true (.int .u64 ((x + y + c) % 18446744073709551616)), .v true (.int .u64 ((x + y + c) / 18446744073709551616))] else none
 | 177, [.v (.int .u64 x), .v (.int .u64 y), .v (.int .u64 c)] => if 0 ≤ x ∧ x < 18446744073709551616 ∧ 0 ≤ y ∧ y < 18446744073709551616 ∧ 0 ≤ c ∧ c ≤ 1 then some [.v true (.int .u64 ((x - y - c) % 18446744073709551616)), .v true (.int .u64 (if x < y + c then 1 else 0))] else none
 | _, _ => none
theorem extA_ok (f : FuncId) (l : List Arg) (rs : List R) (h : extA f l = some rs) : FnOk Tryz.prog f l rs := by
 unfold extA at h
 split at h
 ·split at h
  ·next hs => cases h; exact longest_ok _ _ hs
  ·cases h
 ·split at h
  ·next hs => cases h; exact fromBase_ok _ _ hs.1 hs.2.1 hs.2.2.1 hs.2.2.2
  ·cases h
 ·split at h
  ·next hs => cases h; exact add64_ok _ _ _ hs.1 hs.2.1 hs.2.2.1 hs.2.2.2
  ·cases h
 ·split at h
  ·next hs => cases h; exact sub64_ok _ _ _ hs.1 hs.2.1 hs.2.2.1 hs.2.2.2.1 hs.2.2.2.2.1 hs.2.2.2.2.2
  ·cases h
 ·cases h
theorem awake_ok : FnOk Tryz.prog 8 [] [.v true (.bool true)] :=
 runF_ok (Px := px) (T := TT) rfl mixed extA_ok (fuel := 100000) 1000 _ _ _ (by kernel_rfl)
end Go.Proofs.YtobacemgcjnahaaGreatDoor.L
namespace Go.Proofs.YtobacemgcjnahaaGreatDoor.L
open Go Go.RowKit
structure Pre (t l : ByteArray) (k : Nat) : Prop where
 size : l.size = k
 le : k ≤ t.size
 byte : ∀ i, i < k → bAt l i = nxB t i
theorem bAt_mk {xs : List UInt8} {i : Nat} : bAt ⟨xs.toArray⟩ i = match xs[i]? with | some b => b.toNat | none => 0 := by
 unfold bAt
 have : (⟨xs.toArray⟩ : ByteArray)[i]? = xs[i]? := by
  by_cases h : i < xs.length
  ·rw [getElem?_pos (⟨xs.toArray⟩ : ByteArray) i (by show i < xs.toArray.size; simpa using h), getElem?_pos xs i h]
   rfl
  ·rw [getElem?_neg (⟨xs.toArray⟩ : ByteArray) i (by show ¬ i < xs.toArray.size; simpa using h), getElem?_neg xs i h]
 rw [this]
 cases xs[i]? <;> rfl
theorem bAt_lowS {s : ByteArray} {i : Nat} (h : i < s.size) : bAt (lowS s) i = nxB s i := by
 unfold lowS
 rw [bAt_mk, List.getElem?_map, lwL, List.getElem?_map, List.getElem?_range h]
 simp only [Option.map_some]
 have := nxB_lt s i
 unfold nxB at this ⊢
 rw [UInt8.toNat_ofNat']
 omega
theorem pre_self {t : ByteArray} : Pre t (lowS t) t.size where
 size := lowS_size t
 le := Nat.le_refl _
 byte := fun i hi => bAt_lowS hi
def dgZ (t : ByteArray) (hex : Bool) : Nat → Nat → Bool → Nat × List UInt8 × Nat
 | 0, i, _ => (i, [], 0)
 | f + 1, i, pt => if dgN (nxB t i) hex = true then ((dgZ t hex f (i + 1) pt).1, UInt8.ofNat (nxB t i) :: (dgZ t hex f (i + 1) pt).2.1, b2n pt + (dgZ t hex f (i + 1) pt).2.2) else
   if dotN (nxB t i) pt = true then dgZ t hex f (i + 1) true else (i, [], 0)
theorem dgL_eq (t : ByteArray) (hex : Bool) : ∀ (f i : Nat) (pt : Bool) (l : List UInt8) (b : Nat), dgL t hex f i pt l b = ((dgZ t hex f i pt).1, l ++ (dgZ t hex f i pt).2.1, b + (dgZ t hex f i pt).2.2)
 | 0, i, pt, l, b => by simp [dgL, dgZ]
 | f + 1, i, pt, l, b => by
   rw [dgL, dgZ]
   split
   ·rw [dgL_eq t hex f (i + 1) pt]
    simp [Nat.add_assoc]
   ·split
    ·rw [dgL_eq t hex f (i + 1) true]
    ·simp
theorem dgR_eq (t : ByteArray) (i : Nat) (hex : Bool) : dgR t i hex = dgZ t hex (t.size + 1 - i) i false := by
 unfold dgR
 rw [dgL_eq]
 simp
theorem dgZ_ge (t : ByteArray) (hex : Bool) : ∀ (f i : Nat) (pt : Bool), i ≤ (dgZ t hex f i pt).1
 | 0, i, pt => Nat.le_refl _
 | f + 1, i, pt => by
   rw [dgZ]
   split
   ·have := dgZ_ge t hex f (i + 1) pt; simp only; omega
   ·split
    ·have := dgZ_ge t hex f (i + 1) true; omega
    ·exact Nat.le_refl _
def vL (base : Nat) : Nat → List UInt8 → Nat
 | n, [] => n
 | n, d :: r => vL base (n * base + dvN d.toNat) r
def bases (hex : Bool) : Nat := if hex = true then 16 else 10
theorem dg_iff {c : Nat} {hex : Bool} : dgN c hex = true ↔ 0 ≤ dgI c (bases hex) := by
 cases hex
 ·simp only [dgN, bases, Bool.false_and, Bool.or_false, decide_eq_true_eq, Bool.false_eq_true, if_false]
  unfold dgI dgRaw
  repeat' split
  all_goals (constructor <;> intro h)
  all_goals omega
 ·simp only [dgN, bases, Bool.true_and, Bool.or_eq_true, decide_eq_true_eq, if_true]
  unfold dgI dgRaw
  repeat' split
  all_goals (constructor <;> intro h)
  all_goals omega
theorem dg_val {c : Nat} {hex : Bool} (h : dgN c hex = true) : (dgI c (bases hex)).toNat = dvN c := by
 cases hex
 ·simp only [dgN, Bool.false_and, Bool.or_false, decide_eq_true_eq] at h
  rw [show bases false = 10 from rfl]
  unfold dgI dgRaw dvN
  repeat' split
  all_goals omega
 ·simp only [dgN, Bool.true_and, Bool.or_eq_true, decide_eq_true_eq] at h
  rw [show bases true = 16 from rfl]
  unfold dgI dgRaw dvN
  repeat' split
  all_goals omega
theorem dot_not {c : Nat} {hex pt : Bool} (h : dgN c hex = true) : dotN c pt = false := by
 unfold dotN
 rw [decide_eq_false, Bool.false_and]
 rintro rfl
 cases hex <;> simp [dgN] at h
theorem nx_nat (t : ByteArray) (i : Nat) : (UInt8.ofNat (nxB t i)).toNat = nxB t i := by
 rw [UInt8.toNat_ofNat']; have := nxB_lt t i; omega
theorem mn_full {t l : ByteArray} {k : Nat} (hp : Pre t l k) (hex : Bool) : ∀ (f i : Nat) (pt : Bool) (n m b : Nat), i ≤ k → f = t.size + 1 - i → (dgZ t hex f i pt).1 ≤ k →
 mnL l (bases hex) (k - i) i pt n m b = ((dgZ t hex f i pt).1, vL (bases hex) n (dgZ t hex f i pt).2.1, m + (dgZ t hex f i pt).2.1.length, b + (dgZ t hex f i pt).2.2)
 | 0, i, pt, n, m, b, hi, hf, _ => by have := hp.le; omega
 | f + 1, i, pt, n, m, b, hi, hf, he => by
   have hle := hp.le
   by_cases hik : i = k
   ·rw [hik, Nat.sub_self, mnL]
    rw [dgZ] at he ⊢
    by_cases hd : dgN (nxB t i) hex = true
    ·rw [if_pos hd] at he
     have := dgZ_ge t hex f (i + 1) pt
     simp only at he
     omega
    ·rw [if_neg hd] at he
     by_cases hq : dotN (nxB t i) pt = true
     ·rw [if_pos hq] at he
      have := dgZ_ge t hex f (i + 1) true
      omega
     ·rw [← hik, if_neg hd, if_neg hq]
      simp [vL]
   ·have hlt : i < k := by omega
    rw [show k - i = (k - (i + 1)) + 1 from by omega, mnL, hp.byte i hlt]
    rw [dgZ] at he ⊢
    by_cases hd : dgN (nxB t i) hex = true
    ·rw [if_pos hd] at he ⊢
     simp only at he ⊢
     rw [dot_not hd, if_neg (by simp), if_pos (dg_iff.1 hd), dg_val hd, mn_full hp hex f (i + 1) pt _ _ _ (by omega) (by omega) he, vL, nx_nat]
     simp only [List.length_cons, Prod.mk.injEq, true_and]
     omega
    ·rw [if_neg hd] at he ⊢
     by_cases hq : dotN (nxB t i) pt = true
     ·rw [if_pos hq] at he ⊢
      rw [if_pos hq, mn_full hp hex f (i + 1) true _ _ _ (by omega) (by omega) he]
     ·rw [if_neg hq, if_neg hq, if_neg (fun h => hd (dg_iff.2 h))]
      simp [vL]
theorem mn_cut {t l : ByteArray} {k : Nat} (hp : Pre t l k) (hex : Bool) : ∀ (f i : Nat) (pt : Bool) (n m b : Nat), i ≤ k → f = t.size + 1 - i → k < (dgZ t hex f i pt).1 → (mnL l (bases hex) (k - i) i pt n m b).1 = k
 | 0, i, pt, n, m, b, hi, hf, _ => by have := hp.le; omega
 | f + 1, i, pt, n, m, b, hi, hf, he => by
   have hle := hp.le
   by_cases hik : i = k
   ·rw [hik, Nat.sub_self, mnL]
   ·have hlt : i < k := by omega
    rw [show k - i = (k - (i + 1)) + 1 from by omega, mnL, hp.byte i hlt]
    rw [dgZ] at he
    by_cases hd : dgN (nxB t i) hex = true
    ·rw [if_pos hd] at he
     rw [dot_not hd, if_neg (by simp), if_pos (dg_iff.1 hd)]
     exact mn_cut hp hex f (i + 1) pt _ _ _ (by omega) (by omega) he
    ·rw [if_neg hd] at he
     by_cases hq : dotN (nxB t i) pt = true
     ·rw [if_pos hq] at he ⊢
      exact mn_cut hp hex f (i + 1) true _ _ _ (by omega) (by omega) he
     ·rw [if_neg hq] at he
      simp only at he
      omega
theorem mn_none {t l : ByteArray} {k : Nat} (hp : Pre t l k) (hex : Bool) : ∀ (f i : Nat) (pt : Bool) (n m b : Nat), i ≤ k → f = t.size + 1 - i → (dgZ t hex f i pt).2.1 = [] → (mnL l (bases hex) (k - i) i pt n m b).2.2.1 = m
 | 0, i, pt, n, m, b, hi, hf, _ => by have := hp.le; omega
 | f + 1, i, pt, n, m, b, hi, hf, he => by
   have hle := hp.le
   by_cases hik : i = k
   ·rw [hik, Nat.sub_self, mnL]
   ·have hlt : i < k := by omega
    rw [show k - i = (k - (i + 1)) + 1 from by omega, mnL, hp.byte i hlt]
    rw [dgZ] at he
    by_cases hd : dgN (nxB t i) hex = true
    ·rw [if_pos hd] at he
     cases he
    ·rw [if_neg hd] at he
     by_cases hq : dotN (nxB t i) pt = true
     ·rw [if_pos hq] at he ⊢
      exact mn_none hp hex f (i + 1) true _ _ _ (by omega) (by omega) he
     ·rw [if_neg hq, if_neg (fun h => hd (dg_iff.2 h))]
theorem exp_ge (t : ByteArray) : ∀ (f j n : Nat), j ≤ (expL t f j n).1
 | 0, j, n => Nat.le_refl _
 | f + 1, j, n => by
   rw [expL]
   split
   ·have := exp_ge t f (j + 1) (min 1099511627776 (10 * n + (nxB t j - 48))); omega
   ·exact Nat.le_refl _
theorem dgF_iff {c : Nat} : dgN c false = true ↔ ¬ dgI c 10 < 0 := by
 have := @dg_iff c false
 rw [this]
 unfold bases
 simp
theorem rx_some {t l : ByteArray} {k : Nat} (hp : Pre t l k) : ∀ (f j n n' : Nat) (g : Bool), j ≤ k → f = t.size + 1 - j → (expL t f j n).1 = k → n' = min n 100000000 → n ≤ 1099511627776 →
 ∃ g', rxL l (k - j) j n' g = some (min (expL t f j n).2 100000000, g')
 | 0, j, n, n', g, hj, hf, _, _, _ => by have := hp.le; omega
 | f + 1, j, n, n', g, hj, hf, he, hn, hn2 => by
   have hle := hp.le
   rw [expL] at he ⊢
   by_cases hd : dgN (nxB t j) false = true
   ·rw [if_pos hd] at he ⊢
    have h1 := exp_ge t f (j + 1) (min 1099511627776 (10 * n + (nxB t j - 48)))
    have hlt : j < k := by omega
    have hdd := dg_dec hd
    have hv : (dgI (nxB t j) 10).toNat = nxB t j - 48 := by
     have := dg_val (hex := false) hd
     rw [show bases false = 10 from rfl] at this
     rw [this]; unfold dvN; rw [if_neg (by omega), if_neg (by omega)]
    rw [show k - j = (k - (j + 1)) + 1 from by omega, rxL, hp.byte j hlt, if_neg (dgF_iff.1 hd), hv]
    obtain ⟨d, hde⟩ : ∃ d, d = nxB t j - 48 := ⟨_, rfl⟩
    rw [← hde] at he ⊢
    split
    ·exact rx_some hp f (j + 1) _ _ _ (by omega) (by omega) he (by omega) (by omega)
    ·exact rx_some hp f (j + 1) _ _ _ (by omega) (by omega) he (by omega) (by omega)
   ·rw [if_neg hd] at he ⊢
    simp only at he
    subst he
    rw [Nat.sub_self, rxL, hn]
    exact ⟨g, rfl⟩
theorem rx_none {t l : ByteArray} {k : Nat} (hp : Pre t l k) : ∀ (f j n n' : Nat) (g : Bool), j ≤ k → f = t.size + 1 - j → (expL t f j n).1 < k → rxL l (k - j) j n' g = none
 | 0, j, n, n', g, hj, hf, _ => by have := hp.le; omega
 | f + 1, j, n, n', g, hj, hf, he => by
   have hle := hp.le
   rw [expL] at he
   by_cases hd : dgN (nxB t j) false = true
   ·rw [if_pos hd] at he
    have h1 := exp_ge t f (j + 1) (min 1099511627776 (10 * n + (nxB t j - 48)))
    rw [show k - j = (k - (j + 1)) + 1 from by omega, rxL, hp.byte j (by omega), if_neg (dgF_iff.1 hd)]
    split
    ·exact rx_none hp f (j + 1) _ _ _ (by omega) (by omega) he
    ·exact rx_none hp f (j + 1) _ _ _ (by omega) (by omega) he
   ·rw [if_neg hd] at he
    simp only at he
    rw [show k - j = (k - (j + 1)) + 1 from by omega, rxL, hp.byte j he, if_pos (by have := mt dgF_iff.2 hd; omega)]
def clampE (x : Int) : Int := if x < -100000000 then -100000000 else if 100000000 < x then 100000000 else x
theorem may_iff {s : ByteArray} {i c : Nat} (hc : c ≠ 0) : mayB s i c = true ↔ nxB s i = c := by
 unfold mayB
 rw [decide_eq_true_eq]
 exact ⟨fun h => h.1, fun h => ⟨h, hc⟩⟩
theorem sgn_iff {s : ByteArray} {i : Nat} : sgnB s i = true ↔ nxB s i = 43 ∨ nxB s i = 45 := by
 unfold sgnB
 rw [Bool.or_eq_true, may_iff (by decide), may_iff (by decide)]
 exact Or.comm
theorem rxJ_pre {t l : ByteArray} {k i : Nat} (hp : Pre t l k) (hi : i < k) : rxJ l i = i + b2n (sgnB t i) := by
 unfold rxJ
 rw [hp.size, hp.byte i hi]
 by_cases h : nxB t i = 43 ∨ nxB t i = 45
 ·rw [if_pos ⟨hi, h⟩, sgn_iff.2 h]; rfl
 ·rw [if_neg (fun h' => h h'.2), Bool.eq_false_iff.2 (fun h' => h (sgn_iff.1 h'))]; rfl
theorem rxN_pre {t l : ByteArray} {k i : Nat} (hp : Pre t l k) (hi : i < k) : rxN l i = mayB t i 45 := by
 unfold rxN
 rw [hp.size, hp.byte i hi]
 by_cases h : nxB t i = 45
 ·rw [decide_eq_true ⟨hi, h⟩, (may_iff (by decide)).2 h]
 ·rw [decide_eq_false (fun h' => h h'.2), Bool.eq_false_iff.2 (fun h' => h ((may_iff (by decide)).1 h'))]
theorem nx_end {t : ByteArray} {i : Nat} (h : t.size ≤ i) : nxB t i = 0 := by rw [nxB, bAt_end h]; rfl
theorem exp_start {t : ByteArray} {i c : Nat} (h : (expR t i c).2.2 = true) : mayB t i c = true ∧ dgN (nxB t (i + 1 + b2n (sgnB t (i + 1)))) false = true := by
 unfold expR at h
 split at h
 ·next h1 =>
  split at h
  ·next h2 => exact ⟨h1, h2⟩
  ·cases h
 ·cases h
theorem exp_is {t : ByteArray} {i c : Nat} (h1 : mayB t i c = true) (h2 : dgN (nxB t (i + 1 + b2n (sgnB t (i + 1)))) false = true) :
 expR t i c = ((expL t (t.size + 1 - (i + 1 + b2n (sgnB t (i + 1)))) (i + 1 + b2n (sgnB t (i + 1))) 0).1,
  (if mayB t (i + 1) 45 = true then -((expL t (t.size + 1 - (i + 1 + b2n (sgnB t (i + 1)))) (i + 1 + b2n (sgnB t (i + 1))) 0).2 : Int) else ((expL t (t.size + 1 - (i + 1 + b2n (sgnB t (i + 1)))) (i + 1 + b2n (sgnB t (i + 1))) 0).2 : Int)), true) := by
 unfold expR
 rw [if_pos h1, if_pos h2]
theorem expL_first {t : ByteArray} {j n : Nat} (hd : dgN (nxB t j) false = true) : j + 1 ≤ (expL t (t.size + 1 - j) j n).1 := by
 have hj := dg_in hd
 rw [show t.size + 1 - j = (t.size - j) + 1 from by omega, expL, if_pos hd]
 exact exp_ge t _ _ _
theorem exp_bounds {t : ByteArray} {i c : Nat} (h : (expR t i c).2.2 = true) : i + 1 < (expR t i c).1 ∧ (expR t i c).1 ≤ t.size := by
 obtain ⟨h1, h2⟩ := exp_start h
 rw [exp_is h1 h2]
 have h3 := expL_first (n := 0) h2
 have h4 := expL_bd t (t.size + 1 - (i + 1 + b2n (sgnB t (i + 1)))) (i + 1 + b2n (sgnB t (i + 1))) 0 (by decide)
 have h5 := dg_in h2
 exact ⟨by simp only; omega, h4.2 (by omega)⟩
theorem exp_ok {t l : ByteArray} {i c : Nat} (h : (expR t i c).2.2 = true) (hp : Pre t l (expR t i c).1) : ∃ g, rxR l (i + 1) = (clampE (expR t i c).2.1, g, true) := by
 have hb := exp_bounds h
 obtain ⟨h1, h2⟩ := exp_start h
 have e := exp_is h1 h2
 have h3 := expL_first (n := 0) h2
 have h4 := expL_bd t (t.size + 1 - (i + 1 + b2n (sgnB t (i + 1)))) (i + 1 + b2n (sgnB t (i + 1))) 0 (by decide)
 have hi1 : i + 1 < (expR t i c).1 := hb.1
 unfold rxR
 rw [rxJ_pre hp hi1, rxN_pre hp hi1, hp.size]
 rw [e] at hp hi1 ⊢
 simp only at hp hi1 ⊢
 obtain ⟨j, hj⟩ : ∃ j, j = i + 1 + b2n (sgnB t (i + 1)) := ⟨_, rfl⟩
 rw [← hj] at hp hi1 h3 h4 ⊢
 rw [if_neg (by omega)]
 obtain ⟨g, hg⟩ := rx_some hp (t.size + 1 - j) j 0 0 false (by omega) rfl rfl rfl (by decide)
 rw [hg]
 refine ⟨g, ?_⟩
 simp only
 have hm := h4.1
 generalize (expL t (t.size + 1 - j) j 0).2 = m at *
 congr 1
 unfold clampE
 cases mayB t (i + 1) 45
 ·simp only [Bool.false_eq_true, if_false]
  repeat' split
  all_goals omega
 ·simp only [if_true]
  repeat' split
  all_goals omega
theorem exp_far {t l : ByteArray} {i c k : Nat} (h : (expR t i c).2.2 = true) (hk : (expR t i c).1 < k) (hp : Pre t l k) : (rxR l (i + 1)).2.2 = false := by
 have hb := exp_bounds h
 obtain ⟨h1, h2⟩ := exp_start h
 have e := exp_is h1 h2
 have h3 := expL_first (n := 0) h2
 unfold rxR
 rw [rxJ_pre hp (by omega), hp.size]
 rw [e] at hk hb
 simp only at hk hb
 obtain ⟨j, hj⟩ : ∃ j, j = i + 1 + b2n (sgnB t (i + 1)) := ⟨_, rfl⟩
 rw [← hj] at hk hb h3 ⊢
 rw [if_neg (by omega), rx_none hp (t.size + 1 - j) j 0 0 false (by omega) rfl hk]
theorem exp_no {t l : ByteArray} {i c k : Nat} (hc : c ≠ 0) (h : (expR t i c).2.2 = false) (hk : i < k) (hl : nxB t i = c) (hp : Pre t l k) : (rxR l (i + 1)).2.2 = false := by
 have h1 := (may_iff (s := t) hc).2 hl
 have h2 : ¬ dgN (nxB t (i + 1 + b2n (sgnB t (i + 1)))) false = true := fun h2 => by rw [exp_is h1 h2] at h; cases h
 unfold rxR
 by_cases hi : i + 1 < k
 ·rw [rxJ_pre hp hi, hp.size]
  obtain ⟨j, hj⟩ : ∃ j, j = i + 1 + b2n (sgnB t (i + 1)) := ⟨_, rfl⟩
  have hb : b2n (sgnB t (i + 1)) ≤ 1 := by cases sgnB t (i + 1) <;> decide
  rw [← hj] at h2 ⊢
  by_cases hjk : j = k
  ·rw [if_pos hjk]
  ·have := hp.le
   rw [if_neg hjk, rx_none hp (t.size + 1 - j) j 0 0 false (by omega) rfl (by
    rw [show t.size + 1 - j = (t.size - j) + 1 from by omega, expL, if_neg h2]; show j < k; omega)]
 ·have : rxJ l (i + 1) = i + 1 := by
   unfold rxJ
   rw [hp.size, if_neg (fun h => hi h.1)]
  rw [this, hp.size, if_pos (by omega)]
theorem seB_iff {x w : ByteArray} : seB x w = true ↔ x.size = w.size ∧ ∀ j, j < w.size → bAt x j = bAt w j := by
 unfold seB
 rw [beq_iff_eq, ByteArray.toList_eq, ByteArray.toList_eq]
 constructor
 ·intro h
  have h1 : x.data = w.data := by
   apply Array.toList_inj.1 h
  have h2 : x = w := by cases x; cases w; simpa using h1
  rw [h2]
  exact ⟨rfl, fun _ _ => rfl⟩
 ·rintro ⟨h1, h2⟩
  apply List.ext_getElem
  ·rw [Array.length_toList, Array.length_toList]; exact h1
  ·intro i hi1 hi2
   have e1 : i < x.size := by rw [Array.length_toList] at hi1; exact hi1
   have e2 : i < w.size := by rw [Array.length_toList] at hi2; exact hi2
   have h3 := h2 i e2
   unfold bAt at h3
   rw [getElem?_pos x i e1, getElem?_pos w i e2] at h3
   simp only at h3
   exact UInt8.toNat_inj.1 h3
theorem bAt_mid {t : ByteArray} {a b j : Nat} (hb : b ≤ t.size) (hj : a + j < b) : bAt (t.extract a b) j = bAt t (a + j) := by
 unfold bAt
 have h1 : j < (t.extract a b).size := by simp; omega
 rw [getElem?_pos (t.extract a b) j h1, getElem?_pos t (a + j) (by omega), ByteArray.getElem_extract]
theorem wdB_iff {t w : ByteArray} {a : Nat} : wdB t a w = true ↔ a + w.size ≤ t.size ∧ ∀ j, j < w.size → nxB t (a + j) = bAt w j := by
 unfold wdB
 rw [Bool.and_eq_true, decide_eq_true_eq]
 constructor
 ·rintro ⟨h1, h2⟩
  refine ⟨h1, fun j hj => ?_⟩
  have h3 := of_decide_eq_true h2 j (by simp; omega)
  rw [bAt_mid h1 (by omega)] at h3
  exact h3
 ·rintro ⟨h1, h2⟩
  refine ⟨h1, decide_eq_true fun j hj => ?_⟩
  have hj' : j < w.size := by simp at hj; omega
  rw [bAt_mid h1 (by omega)]
  exact h2 j hj'
theorem tail_iff {t l w : ByteArray} {a k : Nat} (hp : Pre t l k) (ha : a ≤ k) : seB (l.extract a l.size) w = true ↔ k = a + w.size ∧ wdB t a w = true := by
 have hs := hp.size
 have hle := hp.le
 have hz : (l.extract a l.size).size = k - a := by simp [hs]
 rw [seB_iff, wdB_iff, hz]
 constructor
 ·rintro ⟨h1, h2⟩
  refine ⟨by omega, by omega, fun j hj => ?_⟩
  have h3 := h2 j hj
  rw [bAt_mid (Nat.le_refl _) (by omega), hp.byte _ (by omega)] at h3
  exact h3
 ·rintro ⟨h1, h2, h3⟩
  refine ⟨by omega, fun j hj => ?_⟩
  rw [bAt_mid (Nat.le_refl _) (by omega), hp.byte _ (by omega)]
  exact h3 j hj
theorem rHex_iff {t l : ByteArray} {a k : Nat} (hp : Pre t l k) : rHex l a = true ↔ a + 1 < k ∧ wdB t a w0x = true := by
 have hle := hp.le
 unfold rHex
 rw [decide_eq_true_eq, hp.size, wdB_iff]
 constructor
 ·rintro ⟨h1, h2, h3⟩
  rw [hp.byte _ (by omega)] at h2
  rw [hp.byte _ (by omega)] at h3
  refine ⟨h1, by show a + 2 ≤ _; omega, fun j hj => ?_⟩
  have hj2 : j < 2 := hj
  rcases j with _ | _ | j
  ·exact h2
  ·exact h3
  ·omega
 ·rintro ⟨h1, h2, h3⟩
  refine ⟨h1, ?_, ?_⟩
  ·rw [hp.byte _ (by omega)]; exact h3 0 (by decide)
  ·rw [hp.byte _ (by omega)]; exact h3 1 (by decide)
theorem mnR_full {t l : ByteArray} {k i : Nat} (hp : Pre t l k) (hex : Bool) (hi : i ≤ k) (he : (dgR t i hex).1 ≤ k) :
 mnR l i (bases hex) = ((dgR t i hex).1, vL (bases hex) 0 (dgR t i hex).2.1, (dgR t i hex).2.1.length, (dgR t i hex).2.2) := by
 rw [dgR_eq] at he ⊢
 unfold mnR
 rw [hp.size, mn_full hp hex _ i false 0 0 0 hi rfl he]
 simp
theorem mnR_cut {t l : ByteArray} {k i : Nat} (hp : Pre t l k) (hex : Bool) (hi : i ≤ k) (he : k < (dgR t i hex).1) : (mnR l i (bases hex)).1 = k := by
 rw [dgR_eq] at he
 unfold mnR
 rw [hp.size, mn_cut hp hex _ i false 0 0 0 hi rfl he]
theorem mnR_none {t l : ByteArray} {k i : Nat} (hp : Pre t l k) (hex : Bool) (hi : i ≤ k) (he : (dgR t i hex).2.1 = []) : (mnR l i (bases hex)).2.2.1 = 0 := by
 rw [dgR_eq] at he
 unfold mnR
 rw [hp.size, mn_none hp hex _ i false 0 0 0 hi rfl he]
theorem rNum_eq (s : ByteArray) (a : Nat) (neg hex : Bool) (p2 base letter each kind : Nat) (h1 : p2 = if hex = true then a + 2 else a) (h2 : base = if hex = true then 16 else 10) (h3 : letter = if hex = true then 112 else 101)
 (h4 : each = if hex = true then 4 else 1) (h5 : kind = if hex = true then 2 else 1) : rNum s a neg hex =
 if (mnR s p2 base).2.2.1 = 0 then rZ else
 if (mnR s p2 base).1 < s.size ∧ bAt s (mnR s p2 base).1 = letter then
  if (rxR s ((mnR s p2 base).1 + 1)).2.2 = true then
   ⟨kind, neg, (mnR s p2 base).2.1, (rxR s ((mnR s p2 base).1 + 1)).1 - (each * (mnR s p2 base).2.2.2 : Nat), (rxR s ((mnR s p2 base).1 + 1)).2.1⟩ else rZ
 else if (mnR s p2 base).1 < s.size ∨ hex = true then rZ else ⟨1, neg, (mnR s p2 base).2.1, 0 - ((mnR s p2 base).2.2.2 : Nat), false⟩ := by
 unfold rNum
 rw [← h1, ← h2, ← h3, ← h4, ← h5]
 cases hex
 ·simp only [Bool.false_eq_true, if_false] at h1 h2
  rw [h1, h2]
 ·by_cases h0 : (mnR s p2 base).2.2.1 = 0
  ·rw [if_pos h0, if_pos h0]
  ·rw [if_neg h0, if_neg h0]
   by_cases h : (mnR s p2 base).1 < s.size ∧ bAt s (mnR s p2 base).1 = letter
   ·rw [if_pos h, if_pos h]
   ·rw [if_neg h, if_neg h, if_pos (.inr rfl), if_pos (.inr rfl)]
theorem num_none {t l : ByteArray} {k a : Nat} {neg hex : Bool} (hp : Pre t l k) (ha : (if hex = true then a + 2 else a) ≤ k) (hd : (dgR t (if hex = true then a + 2 else a) hex).2.1 = []) : (rNum l a neg hex).kind = 0 := by
 rw [rNum_eq l a neg hex _ (bases hex) _ _ _ rfl rfl rfl rfl rfl, if_pos (mnR_none hp hex ha hd)]
 rfl
def Nums (r : RNum) (kind : Nat) (neg : Bool) (base : Nat) (ds : List UInt8) (e : Int) (each b : Nat) : Prop :=
 ∃ g, r = ⟨kind, neg, vL base 0 ds, clampE e - (each * b : Nat), g⟩
theorem num_exp {t l : ByteArray} {a : Nat} {neg hex : Bool} (hd : (dgR t (if hex = true then a + 2 else a) hex).2.1 ≠ []) (hX : (expR t (dgR t (if hex = true then a + 2 else a) hex).1 (if hex = true then 112 else 101)).2.2 = true)
 (hp : Pre t l (expR t (dgR t (if hex = true then a + 2 else a) hex).1 (if hex = true then 112 else 101)).1) :
 Nums (rNum l a neg hex) (if hex = true then 2 else 1) neg (bases hex) (dgR t (if hex = true then a + 2 else a) hex).2.1 (expR t (dgR t (if hex = true then a + 2 else a) hex).1 (if hex = true then 112 else 101)).2.1 (if hex = true then 4 else 1) (dgR t (if hex = true then a + 2 else a) hex).2.2 := by
 obtain ⟨p2, hp2⟩ : ∃ p2, p2 = if hex = true then a + 2 else a := ⟨_, rfl⟩
 obtain ⟨c, hc⟩ : ∃ c, c = if hex = true then 112 else 101 := ⟨_, rfl⟩
 have hc0 : c ≠ 0 := by rw [hc]; split <;> decide
 rw [rNum_eq l a neg hex p2 (bases hex) c _ _ hp2 rfl hc rfl rfl]
 rw [← hp2] at hd hX hp ⊢
 rw [← hc] at hX hp ⊢
 have hb := exp_bounds hX
 obtain ⟨g, hg⟩ := exp_ok hX hp
 have hge : p2 ≤ (dgR t p2 hex).1 := by rw [dgR_eq]; exact dgZ_ge t hex _ _ _
 have hM := mnR_full hp hex (i := p2) (by omega) (by omega)
 have hl := (may_iff (s := t) hc0).1 (exp_start hX).1
 rw [hM]
 simp only
 rw [if_neg (by intro h; exact hd (List.eq_nil_of_length_eq_zero h)), hp.size, hp.byte _ (by omega), if_pos ⟨by omega, hl⟩, hg, if_pos rfl]
 exact ⟨g, rfl⟩
theorem num_exp_far {t l : ByteArray} {a k : Nat} {neg hex : Bool} (hX : (expR t (dgR t (if hex = true then a + 2 else a) hex).1 (if hex = true then 112 else 101)).2.2 = true)
 (hk : (expR t (dgR t (if hex = true then a + 2 else a) hex).1 (if hex = true then 112 else 101)).1 < k) (hp : Pre t l k) : (rNum l a neg hex).kind = 0 := by
 obtain ⟨p2, hp2⟩ : ∃ p2, p2 = if hex = true then a + 2 else a := ⟨_, rfl⟩
 obtain ⟨c, hc⟩ : ∃ c, c = if hex = true then 112 else 101 := ⟨_, rfl⟩
 have hc0 : c ≠ 0 := by rw [hc]; split <;> decide
 rw [rNum_eq l a neg hex p2 (bases hex) c _ _ hp2 rfl hc rfl rfl]
 rw [← hp2, ← hc] at hX hk
 have hb := exp_bounds hX
 have hge : p2 ≤ (dgR t p2 hex).1 := by rw [dgR_eq]; exact dgZ_ge t hex _ _ _
 have hM := mnR_full hp hex (i := p2) (by omega) (by omega)
 have hl := (may_iff (s := t) hc0).1 (exp_start hX).1
 rw [hM]
 simp only
 split
 ·rfl
 ·rw [hp.size, hp.byte _ (by omega), if_pos ⟨by omega, hl⟩, exp_far hX hk hp, if_neg (by simp)]
  rfl
theorem num_no {t l : ByteArray} {a k : Nat} {neg hex : Bool} (hX : (expR t (dgR t (if hex = true then a + 2 else a) hex).1 (if hex = true then 112 else 101)).2.2 = false) (ha : (if hex = true then a + 2 else a) ≤ k)
 (hk : hex = true ∨ (dgR t (if hex = true then a + 2 else a) hex).1 < k) (hp : Pre t l k) : (rNum l a neg hex).kind = 0 := by
 obtain ⟨p2, hp2⟩ : ∃ p2, p2 = if hex = true then a + 2 else a := ⟨_, rfl⟩
 obtain ⟨c, hc⟩ : ∃ c, c = if hex = true then 112 else 101 := ⟨_, rfl⟩
 have hc0 : c ≠ 0 := by rw [hc]; split <;> decide
 rw [rNum_eq l a neg hex p2 (bases hex) c _ _ hp2 rfl hc rfl rfl]
 rw [← hp2] at hX ha hk
 rw [← hc] at hX
 split
 ·rfl
 ·by_cases he : (dgR t p2 hex).1 < k
  ·have hM := mnR_full hp hex (i := p2) ha (by omega)
   rw [hM]
   simp only
   rw [hp.size, hp.byte _ he]
   by_cases hl : nxB t (dgR t p2 hex).1 = c
   ·rw [if_pos ⟨he, hl⟩, exp_no hc0 hX he hl hp, if_neg (by simp)]
    rfl
   ·rw [if_neg (fun h => hl h.2), if_pos (.inl he)]
    rfl
  ·have hM : (mnR l p2 (bases hex)).1 = k := by
    by_cases he2 : k < (dgR t p2 hex).1
    ·exact mnR_cut hp hex ha he2
    ·rw [mnR_full hp hex ha (by omega)]
     show (dgR t p2 hex).1 = k
     omega
   rw [hM, hp.size, if_neg (fun h => absurd h.1 (Nat.lt_irrefl k)), if_pos (.inr (hk.resolve_right he))]
   rfl
theorem num_plain {t l : ByteArray} {a : Nat} {neg : Bool} (hd : (dgR t a false).2.1 ≠ []) (hp : Pre t l (dgR t a false).1) : Nums (rNum l a neg false) 1 neg 10 (dgR t a false).2.1 0 1 (dgR t a false).2.2 := by
 rw [rNum_eq l a neg false a 10 101 1 1 rfl rfl rfl rfl rfl]
 have hge : a ≤ (dgR t a false).1 := by rw [dgR_eq]; exact dgZ_ge t false _ _ _
 have hM := mnR_full hp false (i := a) hge (Nat.le_refl _)
 rw [show bases false = 10 from rfl] at hM
 rw [hM]
 simp only
 rw [if_neg (by intro h; exact hd (List.eq_nil_of_length_eq_zero h)), hp.size, if_neg (fun h => absurd h.1 (Nat.lt_irrefl _)), if_neg (by simp)]
 exact ⟨false, by rw [Nat.one_mul]; rfl⟩
def Says (r : RNum) (n : Nm) : Prop :=
 (n.kind = 0 ∧ Nums r 1 n.neg 10 n.digits n.exp 1 n.behind) ∨ (n.kind = 1 ∧ Nums r 2 n.neg 16 n.digits n.exp 4 n.behind) ∨ (n.kind = 2 ∧ r = ⟨3, n.neg, 0, 0, false⟩) ∨ (n.kind = 3 ∧ n.neg = false ∧ r = ⟨4, false, 0, 0, false⟩)
theorem read_zero {t l : ByteArray} (hp : Pre t l 0) : (rRead l).kind = 0 := by
 have hs := hp.size
 have hJ : rxJ l 0 = 0 := by unfold rxJ; rw [hs, if_neg (fun h => absurd h.1 (Nat.lt_irrefl 0))]
 have hz : (l.extract 0 l.size).size = 0 := by simp [hs]
 have hno : ∀ w : ByteArray, 0 < w.size → seB (l.extract 0 l.size) w = false := fun w hw => Bool.eq_false_iff.2 (fun h => by have := (seB_iff.1 h).1; omega)
 unfold rRead
 rw [hJ, hno wInf (by decide), hno wInfinity (by decide), hno wNan (by decide)]
 simp only [Bool.or_self, Bool.false_eq_true, if_false]
 have hh : rHex l 0 = false := Bool.eq_false_iff.2 (fun h => by have := ((rHex_iff hp).1 h).1; omega)
 rw [hh, rNum_eq l 0 _ false 0 10 101 1 1 rfl rfl rfl rfl rfl]
 have : mnR l 0 10 = (0, 0, 0, 0) := by unfold mnR; rw [hs]; rfl
 rw [this, if_pos rfl]
 rfl
section
variable {t l : ByteArray} {k : Nat}
def sgA (t : ByteArray) : Nat := b2n (sgnB t 0)
theorem sgA_le (hk : 0 < k) : sgA t ≤ k := by unfold sgA; cases sgnB t 0 <;> simp [b2n]; omega
theorem read_all (hp : Pre t l k) (hk : 0 < k) : rRead l =
 if (seB (l.extract (sgA t) l.size) wInf || seB (l.extract (sgA t) l.size) wInfinity) = true then ⟨3, mayB t 0 45, 0, 0, false⟩ else
 if seB (l.extract (sgA t) l.size) wNan = true then (if sgA t = 0 then ⟨4, false, 0, 0, false⟩ else rZ) else
 rNum l (sgA t) (mayB t 0 45) (rHex l (sgA t)) := by
 unfold rRead
 have hJ := rxJ_pre hp hk
 rw [Nat.zero_add] at hJ
 rw [hJ, rxN_pre hp hk]
 rfl
theorem read_inf (hp : Pre t l k) (hk : 0 < k) (h : (k = sgA t + 3 ∧ wdB t (sgA t) wInf = true) ∨ (k = sgA t + 8 ∧ wdB t (sgA t) wInfinity = true)) : rRead l = ⟨3, mayB t 0 45, 0, 0, false⟩ := by
 rw [read_all hp hk, if_pos]
 rw [Bool.or_eq_true, tail_iff hp (sgA_le hk), tail_iff hp (sgA_le hk)]
 exact h
theorem read_nan (hp : Pre t l k) (hk : 0 < k) (h0 : wdB t (sgA t) wInf = false) (h : k = sgA t + 3 ∧ wdB t (sgA t) wNan = true) : rRead l = if sgA t = 0 then ⟨4, false, 0, 0, false⟩ else rZ := by
 rw [read_all hp hk, if_neg, if_pos]
 ·rw [tail_iff hp (sgA_le hk)]; exact h
 ·rw [Bool.or_eq_true, tail_iff hp (sgA_le hk), tail_iff hp (sgA_le hk)]
  rintro (h1 | h1)
  ·rw [h0] at h1; cases h1.2
  ·have h3 : k = sgA t + 8 := h1.1
   omega
theorem read_num (hp : Pre t l k) (hk : 0 < k) (h1 : ¬ (k = sgA t + 3 ∧ wdB t (sgA t) wInf = true)) (h2 : ¬ (k = sgA t + 8 ∧ wdB t (sgA t) wInfinity = true)) (h3 : ¬ (k = sgA t + 3 ∧ wdB t (sgA t) wNan = true)) :
 rRead l = rNum l (sgA t) (mayB t 0 45) (rHex l (sgA t)) := by
 rw [read_all hp hk, if_neg, if_neg]
 ·rw [tail_iff hp (sgA_le hk)]; exact h3
 ·rw [Bool.or_eq_true, tail_iff hp (sgA_le hk), tail_iff hp (sgA_le hk)]
  rintro (h | h)
  ·exact h1 h
  ·exact h2 h
theorem wd_first {w : ByteArray} {a : Nat} (hw : 0 < w.size) (h : wdB t a w = true) : nxB t a = bAt w 0 := (wdB_iff.1 h).2 0 hw
theorem dg_letter {a : Nat} (h : nxB t a = 105 ∨ nxB t a = 110) : dgR t a false = (a, [], 0) := by
 have ha : a < t.size := by
  rcases Nat.lt_or_ge a t.size with h1 | h1
  ·exact h1
  ·rw [nx_end h1] at h; omega
 rw [dgR_eq, show t.size + 1 - a = (t.size - a) + 1 from by omega, dgZ, if_neg, if_neg]
 ·rcases h with h | h <;> rw [h] <;> decide
 ·rcases h with h | h <;> rw [h] <;> decide
theorem num_letter {a : Nat} {neg : Bool} (hp : Pre t l k) (ha : a ≤ k) (h : nxB t a = 105 ∨ nxB t a = 110) : (rNum l a neg (rHex l a)).kind = 0 := by
 have hh : rHex l a = false := Bool.eq_false_iff.2 fun h' => by
  have h1 := wd_first (by decide) ((rHex_iff hp).1 h').2
  rw [show bAt w0x 0 = 48 from rfl] at h1
  omega
 rw [hh]
 exact num_none hp (by simpa using ha) (by simp [dg_letter h])
theorem longM_eq : longM t true = restM t (sgA t) (mayB t 0 45) (!sgnB t 0) := by
 unfold longM; rw [if_pos rfl]; rfl
theorem sgl_zero : (!sgnB t 0) = true ↔ sgA t = 0 := by
 unfold sgA
 cases sgnB t 0 <;> simp [b2n]
theorem sgl_neg (h : (!sgnB t 0) = true) : mayB t 0 45 = false := by
 rw [Bool.not_eq_true'] at h
 unfold sgnB at h
 rw [Bool.or_eq_false_iff] at h
 exact h.1
theorem spc_far {n : Nm} (h : spcM t (sgA t) (mayB t 0 45) (!sgnB t 0) = some n) (hk : n.len < k) (hp : Pre t l k) : (rRead l).kind = 0 := by
 unfold spcM at h
 split at h
 ·next h1 =>
  cases h
  simp only at hk
  rw [read_num hp (by omega) (by omega) (by omega) (by omega)]
  exact num_letter hp (by omega) (.inl (wd_first (by decide) h1))
 ·next h1 =>
  split at h
  ·next h2 =>
   cases h
   simp only at hk
   rw [read_num hp (by omega) (by omega) (fun h => h1 h.2) (by omega)]
   exact num_letter hp (by omega) (.inl (wd_first (by decide) h2))
  ·next h2 =>
   split at h
   ·next h3 =>
    cases h
    simp only at hk
    rw [read_num hp (by omega) (by omega) (fun h => h1 h.2) (by omega)]
    exact num_letter hp (by omega) (.inr (wd_first (by decide) h3.2))
   ·cases h
theorem spc_ok {n : Nm} (h : spcM t (sgA t) (mayB t 0 45) (!sgnB t 0) = some n) : n.len ≤ t.size ∧ 0 < n.len ∧ ∀ l, Pre t l n.len → Says (rRead l) n := by
 unfold spcM at h
 split at h
 ·next h1 =>
  cases h
  have hle : sgA t + 8 ≤ t.size := (wdB_iff.1 h1).1
  exact ⟨hle, by simp only; omega, fun l hp => .inr (.inr (.inl ⟨rfl, read_inf hp (by simp only; omega) (.inr ⟨rfl, h1⟩)⟩))⟩
 ·next h1 =>
  split at h
  ·next h2 =>
   cases h
   have hle : sgA t + 3 ≤ t.size := (wdB_iff.1 h2).1
   exact ⟨hle, by simp only; omega, fun l hp => .inr (.inr (.inl ⟨rfl, read_inf hp (by simp only; omega) (.inl ⟨rfl, h2⟩)⟩))⟩
  ·next h2 =>
   split at h
   ·next h3 =>
    cases h
    have hle : sgA t + 3 ≤ t.size := (wdB_iff.1 h3.2).1
    refine ⟨hle, by simp only; omega, fun l hp => .inr (.inr (.inr ⟨rfl, sgl_neg h3.1, ?_⟩))⟩
    rw [read_nan hp (by simp only; omega) (Bool.eq_false_iff.2 h2) ⟨rfl, h3.2⟩, if_pos (sgl_zero.1 h3.1)]
   ·cases h
theorem spc_none (h : spcM t (sgA t) (mayB t 0 45) (!sgnB t 0) = none) (hp : Pre t l k) (hk : 0 < k) : rRead l = rNum l (sgA t) (mayB t 0 45) (rHex l (sgA t)) ∨ (rRead l = rZ ∧ wdB t (sgA t) wNan = true) := by
 unfold spcM at h
 split at h
 ·cases h
 ·next h1 =>
  split at h
  ·cases h
  ·next h2 =>
   split at h
   ·cases h
   ·next h3 =>
    by_cases hn : k = sgA t + 3 ∧ wdB t (sgA t) wNan = true
    ·right
     refine ⟨?_, hn.2⟩
     rw [read_nan hp hk (Bool.eq_false_iff.2 h2) hn, if_neg (fun h => h3 ⟨sgl_zero.2 h, hn.2⟩)]
    ·left
     exact read_num hp hk (fun h => h2 h.2) (fun h => h1 h.2) hn
end
theorem hexM_wd {t : ByteArray} {a : Nat} {neg sgl : Bool} {n : Nm} (h : hexM t a neg sgl = some n) : wdB t a w0x = true ∧ 0 < (dgR t (a + 2) true).2.1.length ∧ (expR t (dgR t (a + 2) true).1 112).2.2 = true ∧
 n = ⟨1, neg, (dgR t (a + 2) true).2.1, (dgR t (a + 2) true).2.2, (expR t (dgR t (a + 2) true).1 112).2.1, (expR t (dgR t (a + 2) true).1 112).1, sgl⟩ := by
 unfold hexM at h
 split at h
 ·next h1 => cases h; exact ⟨h1.1, h1.2.1, h1.2.2, rfl⟩
 ·cases h
theorem dg_0x {t : ByteArray} {a : Nat} (h : wdB t a w0x = true) : dgR t a false = (a + 1, [48], 0) ∧ nxB t (a + 1) = 120 := by
 obtain ⟨h1, h2⟩ := wdB_iff.1 h
 have h48 := h2 0 (by decide)
 have h120 := h2 1 (by decide)
 rw [show bAt w0x 0 = 48 from rfl, Nat.add_zero] at h48
 rw [show bAt w0x 1 = 120 from rfl] at h120
 have hle : a + 2 ≤ t.size := h1
 refine ⟨?_, h120⟩
 rw [dgR_eq, show t.size + 1 - a = (t.size - a - 1) + 1 + 1 from by omega, dgZ, h48, if_pos (by decide), dgZ, h120, if_neg (by decide), if_neg (by decide)]
 rfl
theorem long_some {t : ByteArray} {n : Nm} (h : longM t true = some n) : n.len ≤ t.size ∧ 0 < n.len ∧ (∀ l, Pre t l n.len → Says (rRead l) n) ∧ ∀ k l, n.len < k → Pre t l k → (rRead l).kind = 0 := by
 rw [longM_eq] at h
 unfold restM at h
 split at h
 ·next m hm =>
  cases h
  obtain ⟨h1, h2, h3⟩ := spc_ok hm
  exact ⟨h1, h2, h3, fun k l hk hp => spc_far hm hk hp⟩
 ·next hm =>
  split at h
  ·next m hx =>
   cases h
   obtain ⟨g1, g2, g3, rfl⟩ := hexM_wd hx
   have hb := exp_bounds g3
   have hge : sgA t + 2 ≤ (dgR t (sgA t + 2) true).1 := by rw [dgR_eq]; exact dgZ_ge t true _ _ _
   have hnan : wdB t (sgA t) wNan = true → False := fun hn => by
    have e1 := wd_first (by decide) hn
    have e2 := wd_first (by decide) g1
    rw [e2] at e1
    exact absurd e1 (by decide)
   refine ⟨hb.2, by simp only; omega, fun l hp => ?_, fun k l hk hp => ?_⟩
   ·simp only at hp
    have hr := (spc_none hm hp (by omega)).resolve_right (fun h => hnan h.2)
    rw [hr, (rHex_iff hp).2 ⟨by omega, g1⟩]
    exact .inr (.inl ⟨rfl, num_exp (hex := true) (List.length_pos_iff.1 g2) g3 hp⟩)
   ·simp only at hk
    have hr := (spc_none hm hp (by omega)).resolve_right (fun h => hnan h.2)
    rw [hr, (rHex_iff hp).2 ⟨by omega, g1⟩]
    exact num_exp_far (hex := true) g3 hk hp
  ·next hx =>
   unfold decM at h
   split at h
   ·cases h
   ·next hd0 =>
    have hd : (dgR t (sgA t) false).2.1 ≠ [] := fun h => hd0 (by rw [h]; rfl)
    have hge : sgA t ≤ (dgR t (sgA t) false).1 := by rw [dgR_eq]; exact dgZ_ge t false _ _ _
    have hle0 : sgA t ≤ t.size := by
     unfold sgA
     cases hs : sgnB t 0
     ·exact Nat.zero_le _
     ·rcases Nat.lt_or_ge 0 t.size with h1 | h1
      ·exact h1
      ·have := sgn_iff.1 hs; rw [nx_end h1] at this; omega
    have hle1 : (dgR t (sgA t) false).1 ≤ t.size := dgR_le t _ false hle0
    have hnan : wdB t (sgA t) wNan = true → False := fun hn => by
     have e1 := wd_first (by decide) hn
     rw [show bAt wNan 0 = 110 from rfl] at e1
     exact hd (by rw [dg_letter (.inr e1)])
    have hgt : sgA t < (dgR t (sgA t) false).1 := by
     refine Nat.lt_of_le_of_ne hge fun he => hd ?_
     rw [dgR_eq] at he ⊢
     obtain ⟨f, hf⟩ : ∃ f, t.size + 1 - sgA t = f + 1 := ⟨t.size - sgA t, by omega⟩
     rw [hf, dgZ] at he ⊢
     split at he
     ·have := dgZ_ge t false f (sgA t + 1) false; simp only at he; omega
     ·next h1 =>
      split at he
      ·have := dgZ_ge t false f (sgA t + 1) true; omega
      ·next h2 => rw [if_neg h1, if_neg h2]
    have hxno : wdB t (sgA t) w0x = true → ∀ k l, sgA t + 2 ≤ k → Pre t l k → (rNum l (sgA t) (mayB t 0 45) true).kind = 0 := fun h0 k l hk hp => by
     unfold hexM at hx
     split at hx
     ·cases hx
     ·next hc =>
      by_cases hl : 0 < (dgR t (sgA t + 2) true).2.1.length
      ·exact num_no (hex := true) (Bool.eq_false_iff.2 fun he => hc ⟨h0, hl, he⟩) hk (.inl rfl) hp
      ·exact num_none (hex := true) hp hk (List.eq_nil_of_length_eq_zero (by simp only [if_true]; omega))
    cases hX : (expR t (dgR t (sgA t) false).1 101).2.2
    ·rw [hX, if_neg (by simp)] at h
     cases h
     refine ⟨hle1, by simp only; omega, fun l hp => ?_, fun k l hk hp => ?_⟩
     ·simp only at hp
      have hr := (spc_none hm hp (by omega)).resolve_right (fun h => hnan h.2)
      have hh : rHex l (sgA t) = false := Bool.eq_false_iff.2 fun h' => by
       obtain ⟨e1, e2⟩ := (rHex_iff hp).1 h'
       rw [(dg_0x e2).1] at e1
       simp only at e1
       omega
      rw [hr, hh]
      exact .inl ⟨rfl, num_plain hd hp⟩
     ·simp only at hk
      have hr := (spc_none hm hp (by omega)).resolve_right (fun h => hnan h.2)
      rw [hr]
      cases hh : rHex l (sgA t)
      ·exact num_no (hex := false) hX (by simp only [Bool.false_eq_true, if_false]; omega) (.inr hk) hp
      ·obtain ⟨e1, e2⟩ := (rHex_iff hp).1 hh
       exact hxno e2 k l (by omega) hp
    ·rw [hX, if_pos rfl] at h
     cases h
     have hb := exp_bounds hX
     have hno0x : wdB t (sgA t) w0x = true → False := fun h0 => by
      obtain ⟨e1, e2⟩ := dg_0x h0
      rw [e1] at hX
      have := (may_iff (by decide)).1 (exp_start hX).1
      simp only at this
      omega
     have hh : ∀ k l, Pre t l k → rHex l (sgA t) = false := fun k l hp => Bool.eq_false_iff.2 fun h' => hno0x ((rHex_iff hp).1 h').2
     refine ⟨hb.2, by simp only; omega, fun l hp => ?_, fun k l hk hp => ?_⟩
     ·simp only at hp
      have hr := (spc_none hm hp (by omega)).resolve_right (fun h => hnan h.2)
      rw [hr, hh _ _ hp]
      exact .inl ⟨rfl, num_exp (hex := false) hd hX hp⟩
     ·simp only at hk
      have hr := (spc_none hm hp (by omega)).resolve_right (fun h => hnan h.2)
      rw [hr, hh _ _ hp]
      exact num_exp_far (hex := false) hX hk hp
theorem long_none {t : ByteArray} (h : longM t true = none) : ∀ k l, Pre t l k → (rRead l).kind = 0 := fun k l hp => by
 rcases Nat.eq_zero_or_pos k with rfl | hk
 ·exact read_zero hp
 rw [longM_eq] at h
 unfold restM at h
 split at h
 ·cases h
 ·next hm =>
  split at h
  ·cases h
  ·next hx =>
   unfold decM at h
   split at h
   ·next hd0 =>
    have hd := List.eq_nil_of_length_eq_zero hd0
    rcases spc_none hm hp hk with hr | ⟨hr, _⟩
    ·rw [hr]
     have hh : rHex l (sgA t) = false := Bool.eq_false_iff.2 fun h' => by
      rw [(dg_0x ((rHex_iff hp).1 h').2).1] at hd
      cases hd
     rw [hh]
     exact num_none (hex := false) hp (sgA_le hk) hd
    ·rw [hr]; rfl
   ·cases h
end Go.Proofs.YtobacemgcjnahaaGreatDoor.L
namespace Go.Proofs.YtobacemgcjnahaaGreatDoor.L
open Go Go.RowKit Go.Proofs Go.ChangeShapes Go.WideShapes Go.ChangeAt
theorem laidVars_mem {P : Program} {w : World} {n : String} {d : DataW Unit} : ∀ {l : List (String × DataW Unit)} {ps : List MemPlace}, DataW.LaidVars P w l ps → (n, d) ∈ l →
 ∃ g t cs fuel p, P.globalNamed n = some g ∧ (P.globals[g]?).map (·.type) = some t ∧ w.var? P n = some cs ∧ DataW.trod (fun _ => ()) P w 0 (fun _ => true) false fuel t cs.toList = some (d, p)
 | [], _, _, hm => by cases hm
 | x :: r, ps, h, hm => by
   obtain ⟨g, t, cs, fuel, p, q, h1, h2, h3, h4, h5, _⟩ := h
   rcases List.mem_cons.1 hm with rfl | hm
   ·exact ⟨g, t, cs, fuel, p, h1, h2, h3, h4⟩
   ·exact laidVars_mem h5 hm
theorem repL_ints {w : World} {ok : Nat → Prop} {k : IntKind} : ∀ zs : List Int, RepL w ok (zs.map fun n => V.int k n) (zs.map fun n => Value.int k n)
 | [] => by rw [List.map_nil, List.map_nil, RepL]
 | z :: r => by
   rw [List.map_cons, List.map_cons, RepL]
   exact ⟨[.int k z], _, rfl, by rw [Rep], repL_ints r⟩
theorem ints_cells {P : Program} {w : World} {t e : TypeId} {n : Nat} {k : IntKind} {zs : List Int} {fuel : Nat} {cs : List Value} {p : List MemPlace} (hu : P.underlying t = some (.array n e)) (he : P.underlying e = some (.int k)) (c1 : P.cellsOf e = 1) (ct : P.cellsOf t = n) (hn : zs.length = n)
 (h : DataW.trod (fun _ => ()) P w 0 (fun _ => true) false fuel t cs = some (.agg (zs.map fun z => .lit (.int k z)), p)) : cs = zs.map fun n => Value.int k n := by
 obtain ⟨xs, m, _, ex, hl0, hl, hel⟩ := DataW.trod_array hu h
 have e3 : (xs.map (·.1)) = zs.map fun n => .lit (.int k n) := (DataW.agg.inj (Prod.mk.inj ex).1).symm
 apply List.ext_getElem
 ·rw [hl0, ct, List.length_map, hn]
 ·intro r h1 h2
  rw [List.length_map] at h2
  have hE := hel r (by omega)
  rw [c1, Nat.mul_one, List.getElem?_eq_getElem (by omega)] at hE
  obtain ⟨z, e1, e2, _⟩ := DataW.trod_int he hE
  have e4 : (xs.map (·.1))[r]? = (zs.map fun n => (DataW.lit (.int k n) : DataW Unit))[r]? := by rw [e3]
  rw [List.getElem?_map, List.getElem?_map, List.getElem?_eq_getElem (by omega : r < xs.length), List.getElem?_eq_getElem h2, e2] at e4
  have hz : z = zs[r] := by simpa using e4
  have h0 : ((cs.drop r).take 1)[0]? = some (.int k z) := by rw [e1]; rfl
  have h3 : cs[r]? = some (.int k z) := by simpa using h0
  rw [List.getElem?_eq_getElem h1] at h3
  rw [Option.some.inj h3, List.getElem_map, hz]
theorem gl_one {W : World} {nm : String} {g : Nat} {cs : Array Value} {x : V} {ok : Nat → Prop} (hg : Tryz.prog.globalNamed nm = some g) (hv : W.var? Tryz.prog nm = some cs) (hne : cs.toList ≠ []) (hr : Rep W ok x cs.toList) :
 g < W.heap.size ∧ ∃ cs, Rep W ok x cs ∧ ∀ j, j < cs.length → W.cell? ⟨g, j, none⟩ = cs[j]? := by
 refine ⟨?_, cs.toList, hr, fun j _ => by rw [World.var?_cell hg hv j, Array.getElem?_toList]⟩
 have h0 := World.var?_cell hg hv 0
 refine Nat.lt_of_not_le fun hle => ?_
 rw [show W.cell? ⟨g, 0, none⟩ = none from by simp [World.cell?, Array.getElem?_eq_none hle], ← Array.getElem?_toList] at h0
 cases h : cs.toList with
 | nil => exact hne h
 | cons a r => rw [h] at h0; cases h0
def intOf' : V → Int
 | .int _ n => n
 | _ => 0
def intsOf' : V → List Int
 | .agg fs => fs.map intOf'
 | _ => []
def foldZ : List Int := intsOf' foldV
def bruijnZ : List Int := intsOf' bruijnV
theorem foldV_eq : foldV = .agg (foldZ.map fun n => .int .u16 n) := by kernel_rfl
theorem bruijnV_eq : bruijnV = .agg (bruijnZ.map fun n => .int .u8 n) := by kernel_rfl
theorem foldD_eq : Rows.laid_unicode_asciiFold = (.agg (foldZ.map fun n => .lit (.int .u16 n)) : DataW Unit) := by kernel_rfl
theorem bruijnD_eq : Rows.laid_math_bits_deBruijn64tab = (.agg (bruijnZ.map fun n => .lit (.int .u8 n)) : DataW Unit) := by kernel_rfl
def LAID : List (String × DataW Unit) := Rows.parseIsRow.laid
theorem laid_GL {W : World} (h : laidMetH Tryz.prog LAID W) : GL W := by
 have hF := h.funcs (n := "reckoner/fin.more") (d := .agg [.iface "func" (.lit (.string [114, 101, 99, 107, 111, 110, 101, 114, 47, 102, 105, 110, 46, 109, 111, 114, 101, 36, 49])), .iface "func" (.lit (.string [114, 101, 99, 107, 111, 110, 101, 114, 47, 102, 105, 110, 46, 109, 111, 114, 101, 36, 50])), .iface "func" (.lit (.string [114, 101, 99, 107, 111, 110, 101, 114, 47, 102, 105, 110, 46, 109, 111, 114, 101, 36, 51])), .iface "func" (.lit (.string [114, 101, 99, 107, 111, 110, 101, 114, 47, 102, 105, 110, 46, 109, 111, 114, 101, 36, 52])), .iface "func" (.lit (.string [114, 101, 99, 107, 111, 110, 101, 114, 47, 102, 105, 110, 46, 109, 111, 114, 101, 36, 53]))]) (by
  show _ ∈ Rows.parseIsRow.laid
  simp only [Rows.parseIsRow, Rows.laid_reckoner_fin_more, List.mem_cons, true_or, or_true])
 have hP : laidMet Tryz.prog (LAID.filter fun x => x.2.handleName?.isNone) W := by
  unfold laidMetH at h
  have e : (LAID.filter fun x => x.2.handleName?.isSome) = [("reckoner/fin.more", Rows.laid_reckoner_fin_more)] := by rfl
  rw [e] at h
  exact h.1
 obtain ⟨ps, hL, _, _⟩ := hP
 have hm1 : ("unicode.asciiFold", (Rows.laid_unicode_asciiFold : DataW Unit)) ∈ LAID.filter fun x => x.2.handleName?.isNone := by
  rw [List.mem_filter]
  exact ⟨by show _ ∈ Rows.parseIsRow.laid; simp only [Rows.parseIsRow, List.mem_cons, true_or, or_true], rfl⟩
 have hm2 : ("math/bits.deBruijn64tab", (Rows.laid_math_bits_deBruijn64tab : DataW Unit)) ∈ LAID.filter fun x => x.2.handleName?.isNone := by
  rw [List.mem_filter]
  exact ⟨by show _ ∈ Rows.parseIsRow.laid; simp only [Rows.parseIsRow, List.mem_cons, true_or, or_true], rfl⟩
 intro q hq
 simp only [GLOB, List.mem_cons, List.not_mem_nil, or_false] at hq
 rcases hq with rfl | rfl | rfl
 ·obtain ⟨g, t, cs, fuel, p, hg, ht, hv, hd⟩ := hF
  obtain rfl := Option.some.inj ((show Tryz.prog.globalNamed "reckoner/fin.more" = some 0 by kernel_rfl).symm.trans hg)
  obtain rfl := Option.some.inj ((show (Tryz.prog.globals[0]?).map (·.type) = some 207 by kernel_rfl).symm.trans ht)
  obtain ⟨xs, m, _, ex, hl0, hl, hel⟩ := DataW.trod_array Tryz.underlying207 hd
  have c1 : Tryz.prog.cellsOf 206 = 1 := by kernel_rfl
  have ct : Tryz.prog.cellsOf 207 = 5 := by kernel_rfl
  have e3 := (DataW.agg.inj (Prod.mk.inj ex).1).symm
  have one : ∀ (i : Nat) (f : FuncId) (s : UInt8), i < 5 → (xs.map (·.1))[i]? = some (.held [114, 101, 99, 107, 111, 110, 101, 114, 47, 102, 105, 110, 46, 109, 111, 114, 101, 36, s]) →
   ((List.range Tryz.prog.funcs.size).filter fun f => (Tryz.prog.funcs[f]?).any (·.name.toUTF8.data.toList == [114, 101, 99, 107, 111, 110, 101, 114, 47, 102, 105, 110, 46, 109, 111, 114, 101, 36, s])) = [f] → cs.toList[i]? = some (.func (.func f) #[] #[]) := by
   intro i f s hi hx hone
   have hE := hel i hi
   rw [c1, Nat.mul_one] at hE
   rw [List.getElem?_map] at hx
   cases hxi : xs[i]? with
   | none => rw [hxi] at hx; cases hx
   | some y =>
     rw [hxi] at hx hE
     obtain ⟨y1, y2⟩ := y
     simp only [Option.map_some, Option.some.injEq] at hx
     subst hx
     have hlt : i < cs.toList.length := by rw [hl0, ct]; exact hi
     have h1 : ((cs.toList.drop i).take 1) = [cs.toList[i]] := by rw [List.drop_eq_getElem_cons hlt]; rfl
     rw [h1] at hE
     have := func_of_trod (f0 := f) Tryz.underlying206 hone hE
     rw [List.getElem?_eq_getElem hlt, this]
  have k0 := one 0 209 49 (by decide) (by rw [e3]; rfl) (by kernel_rfl)
  have k1 := one 1 210 50 (by decide) (by rw [e3]; rfl) (by kernel_rfl)
  have k2 := one 2 211 51 (by decide) (by rw [e3]; rfl) (by kernel_rfl)
  have k3 := one 3 212 52 (by decide) (by rw [e3]; rfl) (by kernel_rfl)
  have k4 := one 4 213 53 (by decide) (by rw [e3]; rfl) (by kernel_rfl)
  rw [ct] at hl0
  have hc : cs.toList = [.func (.func 209) #[] #[], .func (.func 210) #[] #[], .func (.func 211) #[] #[], .func (.func 212) #[] #[], .func (.func 213) #[] #[]] := by
   match hcs : cs.toList, hl0 with
   | [a, b, c, d, e], _ =>
     rw [hcs] at k0 k1 k2 k3 k4
     simp only [List.getElem?_cons_zero, List.getElem?_cons_succ, Option.some.injEq] at k0 k1 k2 k3 k4
     rw [k0, k1, k2, k3, k4]
  refine gl_one hg hv (by rw [hc]; exact List.cons_ne_nil _ _) ?_
  rw [hc]
  unfold moreV
  rw [Rep, RepL]; refine ⟨[_], _, rfl, by rw [Rep], ?_⟩
  rw [RepL]; refine ⟨[_], _, rfl, by rw [Rep], ?_⟩
  rw [RepL]; refine ⟨[_], _, rfl, by rw [Rep], ?_⟩
  rw [RepL]; refine ⟨[_], _, rfl, by rw [Rep], ?_⟩
  rw [RepL]; refine ⟨[_], _, rfl, by rw [Rep], ?_⟩
  rw [RepL]
 ·obtain ⟨g, t, cs, fuel, p, hg, ht, hv, hd⟩ := laidVars_mem hL hm1
  obtain rfl := Option.some.inj ((show Tryz.prog.globalNamed "unicode.asciiFold" = some 1 by kernel_rfl).symm.trans hg)
  obtain rfl := Option.some.inj ((show (Tryz.prog.globals[1]?).map (·.type) = some 239 by kernel_rfl).symm.trans ht)
  rw [foldD_eq] at hd
  have hc := ints_cells Tryz.underlying239 Tryz.underlying238 (by kernel_rfl) (by kernel_rfl) (by kernel_rfl) hd
  refine gl_one hg hv (by rw [hc]; exact List.cons_ne_nil _ _) ?_
  rw [foldV_eq, hc, Rep]
  exact repL_ints _
 ·obtain ⟨g, t, cs, fuel, p, hg, ht, hv, hd⟩ := laidVars_mem hL hm2
  obtain rfl := Option.some.inj ((show Tryz.prog.globalNamed "math/bits.deBruijn64tab" = some 4 by kernel_rfl).symm.trans hg)
  obtain rfl := Option.some.inj ((show (Tryz.prog.globals[4]?).map (·.type) = some 249 by kernel_rfl).symm.trans ht)
  rw [bruijnD_eq] at hd
  have hc := ints_cells Tryz.underlying249 Tryz.underlying5 (by kernel_rfl) (by kernel_rfl) (by kernel_rfl) hd
  refine gl_one hg hv (by rw [hc]; exact List.cons_ne_nil _ _) ?_
  rw [bruijnV_eq, hc, Rep]
  exact repL_ints _
def PLAIN : List (String × DataW Unit) := LAID.filter fun x => x.2.handleName?.isNone
noncomputable def witBase (os : Os) : World :=
 { World.holding Tryz.prog os ⟨#[], #[], []⟩ with heap := ⟨Lay.setRows (World.holding Tryz.prog os ⟨#[], #[], []⟩).heap.toList [(0, [.func (.func 209) #[] #[], .func (.func 210) #[] #[], .func (.func 211) #[] #[], .func (.func 212) #[] #[], .func (.func 213) #[] #[]])]⟩ }
noncomputable def wit (os : Os) : World := (witBase os).layVars Tryz.prog PLAIN
theorem wit_os (os : Os) : (wit os).os = os := (World.layVars_os _ _ _).trans rfl
theorem wit_plain (os : Os) (args : Array Value) : laidMet Tryz.prog PLAIN ((wit os).forCall (fun _ _ => 0) ⟨#[], args, []⟩).memory := by
 have e1 : (PLAIN.filter fun x => (PLAIN.map (·.1)).contains x.1) = PLAIN := List.filter_eq_self.2 fun x hx => List.contains_iff_mem.2 (List.mem_map.2 ⟨x, hx, rfl⟩)
 have e2 : (PLAIN.filter fun x => !(PLAIN.map (·.1)).contains x.1) = [] := List.filter_eq_nil_iff.2 fun x hx => by rw [List.contains_iff_mem.2 (List.mem_map.2 ⟨x, hx, rfl⟩)]; simp
 have hf : (witBase os).layFits Tryz.prog PLAIN [] = true := by kernel_rfl
 have hi : (witBase os).layIfaces Tryz.prog PLAIN (wit os) = true := by kernel_rfl
 have h : laidMet Tryz.prog PLAIN (wit os) := laidMet_layVars (w0 := witBase os) (PLAIN.map (·.1)) [] (by rw [e1]; rfl) (by rw [e1]; exact hf) (by rw [e1]; exact hi) (by rw [e2]; exact LaidIn.none)
 exact h.of_heap (by simp [World.memory, World.forCall, Input.heap])
theorem wit_met (os : Os) (args : Array Value) : laidMetH Tryz.prog LAID ((wit os).forCall (fun _ _ => 0) ⟨#[], args, []⟩).memory :=
 laidMetH_of_parts3 (fuel := 8) (wit_plain os args) (by kernel_rfl) (by kernel_rfl)
end Go.Proofs.YtobacemgcjnahaaGreatDoor.L
