/-
  Bh Bi
-/
import Derived.Test.YtobacemgcjnahaaGreatDoorH3
set_option linter.unusedSimpArgs false
set_option linter.unusedVariables false
/-
  The reference's Read.
-/
namespace Go.Proofs.YtobacemgcjnahaaGreatDoor.L
open Go Go.RowKit Go.Proofs
attribute [local go_sem] evalOps_nil evalOps_cons runW_t runW_f runE_s runP_s wantA evalOp effOp letters okDst coreA St.opv St.get St.at look constA St.put St.upd St.set decide_true List.all_nil List.all_cons Bool.and_true Bool.true_and and_self and_true true_and if_true if_false true_or Int.sub_zero List.nil_append List.cons_append List.append_nil Option.isSome_some List.getElem?_toArray List.getElem?_cons_succ List.getElem?_cons_zero Option.bind_some Option.map_some Option.map_none beq_self_eq_true Bool.false_beq Bool.true_beq Bool.not_true Bool.not_false Bool.false_eq_true cond_true cond_false binA binI List.map_cons List.map_nil boundA List.length_nil List.length_cons Nat.zero_mul Nat.one_mul Nat.mul_one Nat.zero_add Nat.add_zero Nat.zero_le Option.toList St.freshB AV.ment AV.ments Blk.ment V.sizes Nat.lt_add_one Bool.or_true Bool.true_or Bool.or_false Bool.false_or Bool.or_self if_pos if_neg decide_false decide_eq_true decide_eq_false wrap_i64 Int.toNat_natCast minA maxA Int.natCast_add Int.cast_ofNat_Int Option.isSome_none false_implies true_implies forall_const List.drop_zero Int.toNat_zero Int.add_sub_cancel lenA sliceA loadA indexAddrA partA fitsT V.atP V.offP V.size List.length_map List.getElem?_map Int.toNat_natCast_add_one Int.ofNat_eq_natCast TY calleeA capArg knotA capArgs toArgs toArg callA R.res R.mems R.blks R.av R.names R.nw invokeA storeA storeV fieldAddrA liveB V.off V.offs V.setP List.set_cons_zero List.set_cons_succ buildA buildP partsA appendA srcA copyA boxOk makeA AV.pure List.take_succ_cons List.take_zero nilA words entry List.zipIdx_cons List.zipIdx_nil Arg.av Arg.avs

/-- What a whole text says, by the reference. -/
structure RNum where
  kind : Nat
  neg : Bool
  num : Nat
  exp : Int
  far : Bool
def RNum.v (x : RNum) : V := .agg [.int .i64 (x.kind : Nat), .bool x.neg, words (digs x.num), .int .i64 x.exp, .bool x.far]
def rZ : RNum := ⟨0, false, 0, 0, false⟩
def seB (a b : ByteArray) : Bool := a.toList == b.toList

def rHex (s : ByteArray) (a : Nat) : Bool := decide (a + 1 < s.size ∧ bAt s a = 48 ∧ bAt s (a + 1) = 120)
/-- A number behind its sign, of a text of small letters. -/
def rNum (s : ByteArray) (a : Nat) (neg hex : Bool) : RNum :=
  if (mnR s (if hex = true then a + 2 else a) (if hex = true then 16 else 10)).2.2.1 = 0 then rZ else
  if (mnR s (if hex = true then a + 2 else a) (if hex = true then 16 else 10)).1 < s.size ∧ bAt s (mnR s (if hex = true then a + 2 else a) (if hex = true then 16 else 10)).1 = (if hex = true then 112 else 101) then
    if (rxR s ((mnR s (if hex = true then a + 2 else a) (if hex = true then 16 else 10)).1 + 1)).2.2 = true then
      ⟨if hex = true then 2 else 1, neg, (mnR s (if hex = true then a + 2 else a) (if hex = true then 16 else 10)).2.1, (rxR s ((mnR s (if hex = true then a + 2 else a) (if hex = true then 16 else 10)).1 + 1)).1 - ((if hex = true then 4 else 1 : Nat) * (mnR s (if hex = true then a + 2 else a) (if hex = true then 16 else 10)).2.2.2 : Nat), (rxR s ((mnR s (if hex = true then a + 2 else a) (if hex = true then 16 else 10)).1 + 1)).2.1⟩ else rZ
  else if (mnR s (if hex = true then a + 2 else a) (if hex = true then 16 else 10)).1 < s.size ∨ hex = true then rZ else
    ⟨1, neg, (mnR s a 10).2.1, 0 - ((mnR s a 10).2.2.2 : Nat), false⟩
def rRead (s : ByteArray) : RNum :=
  if (seB (s.extract (rxJ s 0) s.size) wInf || seB (s.extract (rxJ s 0) s.size) wInfinity) = true then ⟨3, rxN s 0, 0, 0, false⟩ else
  if seB (s.extract (rxJ s 0) s.size) wNan = true then (if rxJ s 0 = 0 then ⟨4, false, 0, 0, false⟩ else rZ) else
  rNum s (rxJ s 0) (rxN s 0) (rHex s (rxJ s 0))

theorem mnL_bd (l : ByteArray) (base : Nat) : ∀ (f i : Nat) (pt : Bool) (n m b : Nat), i + f = l.size → (mnL l base f i pt n m b).1 ≤ l.size ∧ (mnL l base f i pt n m b).2.2.2 ≤ b + f
  | 0, i, pt, n, m, b, h => ⟨by rw [mnL]; show i ≤ _; omega, by rw [mnL]; exact Nat.le_refl _⟩
  | f + 1, i, pt, n, m, b, h => by
    rw [mnL]
    split
    · have := mnL_bd l base f (i + 1) true n m b (by omega)
      exact ⟨this.1, by omega⟩
    · split
      · have := mnL_bd l base f (i + 1) pt (n * base + (dgI (bAt l i) base).toNat) (m + 1) (b + b2n pt) (by omega)
        have h1 : b2n pt ≤ 1 := by cases pt <;> decide
        exact ⟨this.1, by omega⟩
      · exact ⟨by show i ≤ _; omega, Nat.le_add_right _ _⟩
theorem mnR_bd (l : ByteArray) (i base : Nat) (h : i ≤ l.size) : (mnR l i base).1 ≤ l.size ∧ (mnR l i base).2.2.2 ≤ l.size := by
  have := mnL_bd l base (l.size - i) i false 0 0 0 (by omega)
  exact ⟨this.1, by have := this.2; unfold mnR; omega⟩
theorem rxL_bd (s : ByteArray) : ∀ (k i n : Nat) (f : Bool) (m : Nat) (g : Bool), n ≤ 100000000 → rxL s k i n f = some (m, g) → m ≤ 100000000
  | 0, i, n, f, m, g, hn, h => by rw [rxL] at h; cases h; exact hn
  | k + 1, i, n, f, m, g, hn, h => by
    rw [rxL] at h
    split at h
    · cases h
    · split at h
      · exact rxL_bd s k _ _ _ m g (Nat.le_refl _) h
      · exact rxL_bd s k _ _ _ m g (by omega) h
theorem rxR_bd (s : ByteArray) (i : Nat) : -100000000 ≤ (rxR s i).1 ∧ (rxR s i).1 ≤ 100000000 := by
  unfold rxR
  split
  · simp
  · split
    · simp
    · next n f h =>
      have := rxL_bd s _ _ _ _ _ _ (by decide) h
      simp only
      split <;> omega

set_option maxRecDepth 100000 in
set_option maxHeartbeats 4000000 in
theorem rRead_ok (t : ByteArray) (ht : t.size ≤ 1000) (hls : (lowS t).size ≤ 1000) : FnOk Tryz.prog 15 [.v (.str t)] [.v true (rRead (lowS t)).v] := by
  have hL := lower_ok t (by omega)
  obtain ⟨s, hs⟩ : ∃ s, s = lowS t := ⟨_, rfl⟩
  rw [← hs] at hL hls ⊢
  clear hs
  refine FnOk.of Tryz.func15 rfl rfl fun cx w0 => ?_
  rw [show Tryz.f15.ntmps = 133 from rfl]
  obtain ⟨T, hT⟩ : ∃ T, T = rRead s := ⟨_, rfl⟩
  rw [← hT]
  refine Holds.step (Px := px) (T := TT) (ρ := fun _ => []) TTe (by simp (maxSteps := 100000) (disch := omega) only [go_sem, V.isAgg, V.flat, ↓reduceIte, Nat.reduceAdd, Nat.reduceSub, Nat.reduceLT, Nat.reduceEqDiff, reduceCtorEq, Nat.reduceLeDiff, Nat.reduceBEq, Nat.reduceMul, Int.reduceToNat, List.length_cons, List.length_nil]; rfl) (by repeat' first | exact trivial | constructor) ?_
  refine Holds.step (Px := px) (T := TT) (ρ := fun _ => [.v true (.str s)]) TTe (by simp (maxSteps := 100000) (disch := omega) only [go_sem, V.isAgg, V.flat, ↓reduceIte, Nat.reduceAdd, Nat.reduceSub, Nat.reduceLT, Nat.reduceEqDiff, reduceCtorEq, Nat.reduceLeDiff, Nat.reduceBEq, Nat.reduceMul, Int.reduceToNat]; rfl) (by first | exact hL | (repeat' first | exact trivial | exact hL | constructor)) ?_
  refine Holds.step (Px := px) (T := TT) (ρ := fun _ => []) TTe (by simp (maxSteps := 100000) (disch := omega) only [go_sem, V.isAgg, V.flat, ↓reduceIte, Nat.reduceAdd, Nat.reduceSub, Nat.reduceLT, Nat.reduceEqDiff, reduceCtorEq, Nat.reduceLeDiff, Nat.reduceBEq, Nat.reduceMul, Int.reduceToNat]; rfl) (by repeat' first | exact trivial | constructor) ?_
  refine Holds.step (Px := px) (T := TT) (ρ := fun _ => []) TTe (by simp (maxSteps := 100000) (disch := omega) only [go_sem, V.isAgg, V.flat, ↓reduceIte, Nat.reduceAdd, Nat.reduceSub, Nat.reduceLT, Nat.reduceEqDiff, reduceCtorEq, Nat.reduceLeDiff, Nat.reduceBEq, Nat.reduceMul, Int.reduceToNat]; rfl) (by repeat' first | exact trivial | constructor) ?_
  refine Holds.next (fun σ => ∃ p neg, p = rxJ s 0 ∧ neg = rxN s 0 ∧ ∀ a w, Rel cx w0 σ a w → Rel cx w0 { nt := 133, env := [(5, .v true (.int .i64 (p : Nat))), (2, .ptr 2 0 [] 0), (4, .ptr 4 0 [] 0), (3, .v true (.str s))], mem := [(4, .box 39 (.v true (.agg [.int .i64 0, .bool neg, .sl 1 [], .int .i64 0, .bool false]))), (2, .box 39 (.v true (.agg [.int .i64 0, .bool false, .sl 1 [], .int .i64 0, .bool false])))] } a w) ?_ ?_
  · refine Holds.from (σ' := { nt := 133, env := [(5, .v true (.int .i64 0)), (2, .ptr 2 0 [] 0), (4, .ptr 4 0 [] 0), (3, .v true (.str s))], mem := [(4, .box 39 (.v true (.agg [.int .i64 0, .bool false, .sl 1 [], .int .i64 0, .bool false]))), (2, .box 39 (.v true (.agg [.int .i64 0, .bool false, .sl 1 [], .int .i64 0, .bool false])))] }) (fun a w h => Rel.keep [5, 2, 4, 3] [4, 2] h) ?_
    unfold rxJ rxN
    by_cases hl : 0 < s.size
    · have g0 : (0 : Int) < s.size := by omega
      obtain ⟨x, hx, ex⟩ := bAt_some hl
      rw [ex]
      have hx8 := x.toNat_lt
      by_cases h43 : x.toNat = 43
      · have g1 : (x.toNat : Int) = 43 := by omega
        have g2 : ¬ (43 : Int) = 45 := by decide
        rw [decide_eq_false (by omega), if_pos ⟨hl, .inl h43⟩]
        refine Holds.step (Px := px) (T := TT) (ρ := fun _ => []) TTe (by simp (maxSteps := 100000) (disch := omega) only [go_sem, V.isAgg, V.flat, ↓reduceIte, Nat.reduceAdd, Nat.reduceSub, Nat.reduceLT, Nat.reduceEqDiff, reduceCtorEq, Nat.reduceLeDiff, Nat.reduceBEq, Nat.reduceMul, Int.reduceToNat, indexA, hx, g0, g1]; rfl) (by repeat' first | exact trivial | constructor) ?_
        refine Holds.condT rfl ?_
        refine Holds.step (Px := px) (T := TT) (ρ := fun _ => []) TTe (by simp (maxSteps := 100000) (disch := omega) only [go_sem, V.isAgg, V.flat, ↓reduceIte, Nat.reduceAdd, Nat.reduceSub, Nat.reduceLT, Nat.reduceEqDiff, reduceCtorEq, Nat.reduceLeDiff, Nat.reduceBEq, Nat.reduceMul, Int.reduceToNat, indexA, hx, g0, g1, g2]; rfl) (by repeat' first | exact trivial | constructor) ?_
        refine Holds.region (Px := px) (T := TT) (ρ := fun _ => []) TTe (by simp (maxSteps := 100000) (disch := omega) only [go_sem, V.isAgg, V.flat, ↓reduceIte, Nat.reduceAdd, Nat.reduceSub, Nat.reduceLT, Nat.reduceEqDiff, reduceCtorEq, Nat.reduceLeDiff, Nat.reduceBEq, Nat.reduceMul, Int.reduceToNat]; rfl) (by repeat' first | exact trivial | constructor) ?_
        exact ⟨1, false, rfl, rfl, fun a w h => Rel.keep [5, 2, 4, 3] [4, 2] h⟩
      · have g1 : ¬ (x.toNat : Int) = 43 := by omega
        by_cases h45 : x.toNat = 45
        · have g2 : (x.toNat : Int) = 45 := by omega
          have g3 : ¬ (45 : Int) = 43 := by decide
          rw [decide_eq_true (by omega), if_pos ⟨hl, .inr h45⟩]
          refine Holds.step (Px := px) (T := TT) (ρ := fun _ => []) TTe (by simp (maxSteps := 100000) (disch := omega) only [go_sem, V.isAgg, V.flat, ↓reduceIte, Nat.reduceAdd, Nat.reduceSub, Nat.reduceLT, Nat.reduceEqDiff, reduceCtorEq, Nat.reduceLeDiff, Nat.reduceBEq, Nat.reduceMul, Int.reduceToNat, indexA, hx, g0, g2, g3]; rfl) (by repeat' first | exact trivial | constructor) ?_
          refine Holds.condT rfl ?_
          refine Holds.step (Px := px) (T := TT) (ρ := fun _ => []) TTe (by simp (maxSteps := 100000) (disch := omega) only [go_sem, V.isAgg, V.flat, ↓reduceIte, Nat.reduceAdd, Nat.reduceSub, Nat.reduceLT, Nat.reduceEqDiff, reduceCtorEq, Nat.reduceLeDiff, Nat.reduceBEq, Nat.reduceMul, Int.reduceToNat, indexA, hx, g0, g2]; rfl) (by repeat' first | exact trivial | constructor) ?_
          refine Holds.region (Px := px) (T := TT) (ρ := fun _ => []) TTe (by simp (maxSteps := 100000) (disch := omega) only [go_sem, V.isAgg, V.flat, ↓reduceIte, Nat.reduceAdd, Nat.reduceSub, Nat.reduceLT, Nat.reduceEqDiff, reduceCtorEq, Nat.reduceLeDiff, Nat.reduceBEq, Nat.reduceMul, Int.reduceToNat]; rfl) (by repeat' first | exact trivial | constructor) ?_
          exact ⟨1, true, rfl, rfl, fun a w h => Rel.keep [5, 2, 4, 3] [4, 2] h⟩
        · have g2 : ¬ (x.toNat : Int) = 45 := by omega
          rw [decide_eq_false (by omega), if_neg (by omega)]
          refine Holds.step (Px := px) (T := TT) (ρ := fun _ => []) TTe (by simp (maxSteps := 100000) (disch := omega) only [go_sem, V.isAgg, V.flat, ↓reduceIte, Nat.reduceAdd, Nat.reduceSub, Nat.reduceLT, Nat.reduceEqDiff, reduceCtorEq, Nat.reduceLeDiff, Nat.reduceBEq, Nat.reduceMul, Int.reduceToNat, indexA, hx, g0, g1, g2]; rfl) (by repeat' first | exact trivial | constructor) ?_
          exact Holds.condF rfl (Holds.skip ⟨0, false, rfl, rfl, fun a w h => Rel.keep [5, 2, 4, 3] [4, 2] h⟩)
    · have g0 : ¬ (0 : Int) < s.size := by omega
      rw [decide_eq_false (by omega), if_neg (by omega)]
      refine Holds.step (Px := px) (T := TT) (ρ := fun _ => []) TTe (by simp (maxSteps := 100000) (disch := omega) only [go_sem, V.isAgg, V.flat, ↓reduceIte, Nat.reduceAdd, Nat.reduceSub, Nat.reduceLT, Nat.reduceEqDiff, reduceCtorEq, Nat.reduceLeDiff, Nat.reduceBEq, Nat.reduceMul, Int.reduceToNat, g0]; rfl) (by repeat' first | exact trivial | constructor) ?_
      exact Holds.condF rfl (Holds.skip ⟨0, false, rfl, rfl, fun a w h => Rel.keep [5, 2, 4, 3] [4, 2] h⟩)
  rintro σ ⟨p, neg, hp, hneg, hσ⟩
  refine Holds.from hσ ?_
  clear hσ
  have hale : p ≤ s.size := by rw [hp]; unfold rxJ; split <;> omega
  have ha1 : p ≤ 1 := by rw [hp]; unfold rxJ; split <;> omega
  unfold rRead at hT
  rw [← hp, ← hneg] at hT
  clear hp hneg
  refine Holds.next (fun σ => T = rNum s p neg (rHex s p) ∧ ∀ a w, Rel cx w0 σ a w → Rel cx w0 { nt := 133, env := [(5, .v true (.int .i64 (p : Nat))), (2, .ptr 2 0 [] 0), (4, .ptr 4 0 [] 0), (3, .v true (.str s))], mem := [(4, .box 39 (.v true (.agg [.int .i64 0, .bool neg, .sl 1 [], .int .i64 0, .bool false]))), (2, .box 39 (.v true (.agg [.int .i64 0, .bool false, .sl 1 [], .int .i64 0, .bool false])))] } a w) ?_ ?_
  · have g0 : (p : Int) ≤ s.size := by omega
    refine Holds.step (Px := px) (T := TT) (ρ := fun _ => []) TTe (by simp (maxSteps := 100000) (disch := omega) only [go_sem, V.isAgg, V.flat, ↓reduceIte, Nat.reduceAdd, Nat.reduceSub, Nat.reduceLT, Nat.reduceEqDiff, reduceCtorEq, Nat.reduceLeDiff, Nat.reduceBEq, Nat.reduceMul, Int.reduceToNat, g0]; rfl) (by repeat' first | exact trivial | constructor) ?_
    unfold wInf wInfinity wNan at hT
    unfold seB at hT
    obtain ⟨b1, hb1⟩ : ∃ b, ((s.extract p s.size).toList == (⟨#[105, 110, 102]⟩ : ByteArray).toList) = b := ⟨_, rfl⟩
    obtain ⟨b2, hb2⟩ : ∃ b, ((s.extract p s.size).toList == (⟨#[105, 110, 102, 105, 110, 105, 116, 121]⟩ : ByteArray).toList) = b := ⟨_, rfl⟩
    obtain ⟨b3, hb3⟩ : ∃ b, ((s.extract p s.size).toList == (⟨#[110, 97, 110]⟩ : ByteArray).toList) = b := ⟨_, rfl⟩
    rw [hb1, hb2, hb3] at hT
    refine Holds.blockN ?_
    refine Holds.from (σ' := { nt := 133, env := [(5, .v true (.int .i64 (p : Nat))), (38, .v true (.str (s.extract p s.size))), (2, .ptr 2 0 [] 0), (4, .ptr 4 0 [] 0), (3, .v true (.str s))], mem := [(4, .box 39 (.v true (.agg [.int .i64 0, .bool neg, .sl 1 [], .int .i64 0, .bool false]))), (2, .box 39 (.v true (.agg [.int .i64 0, .bool false, .sl 1 [], .int .i64 0, .bool false])))] }) (fun a w h => Rel.keep [5, 38, 2, 4, 3] [4, 2] h) ?_
    refine Holds.next (fun σ => ∀ a w, Rel cx w0 σ a w → Rel cx w0 { nt := 133, env := [(39, .v true (.bool (b1 || b2))), (5, .v true (.int .i64 (p : Nat))), (38, .v true (.str (s.extract p s.size))), (2, .ptr 2 0 [] 0), (4, .ptr 4 0 [] 0), (3, .v true (.str s))], mem := [(4, .box 39 (.v true (.agg [.int .i64 0, .bool neg, .sl 1 [], .int .i64 0, .bool false]))), (2, .box 39 (.v true (.agg [.int .i64 0, .bool false, .sl 1 [], .int .i64 0, .bool false])))] } a w) ?_ ?_
    · cases b1
      · refine Holds.step (Px := px) (T := TT) (ρ := fun _ => []) TTe (by simp (maxSteps := 100000) (disch := omega) only [go_sem, V.isAgg, V.flat, ↓reduceIte, Nat.reduceAdd, Nat.reduceSub, Nat.reduceLT, Nat.reduceEqDiff, reduceCtorEq, Nat.reduceLeDiff, Nat.reduceBEq, Nat.reduceMul, Int.reduceToNat, hb1]; rfl) (by repeat' first | exact trivial | constructor) ?_
        refine Holds.condF rfl ?_
        refine Holds.region (Px := px) (T := TT) (ρ := fun _ => []) TTe (by simp (maxSteps := 100000) (disch := omega) only [go_sem, V.isAgg, V.flat, ↓reduceIte, Nat.reduceAdd, Nat.reduceSub, Nat.reduceLT, Nat.reduceEqDiff, reduceCtorEq, Nat.reduceLeDiff, Nat.reduceBEq, Nat.reduceMul, Int.reduceToNat, hb2]; rfl) (by repeat' first | exact trivial | constructor) ?_
        rw [Bool.false_or]
        exact fun a w h => Rel.keep [39, 5, 38, 2, 4, 3] [4, 2] h
      · refine Holds.step (Px := px) (T := TT) (ρ := fun _ => []) TTe (by simp (maxSteps := 100000) (disch := omega) only [go_sem, V.isAgg, V.flat, ↓reduceIte, Nat.reduceAdd, Nat.reduceSub, Nat.reduceLT, Nat.reduceEqDiff, reduceCtorEq, Nat.reduceLeDiff, Nat.reduceBEq, Nat.reduceMul, Int.reduceToNat, hb1]; rfl) (by repeat' first | exact trivial | constructor) ?_
        exact Holds.condT rfl (Holds.skip fun a w h => Rel.keep [39, 5, 38, 2, 4, 3] [4, 2] h)
    intro σ hσ
    refine Holds.from hσ ?_
    cases hb : (b1 || b2)
    · refine Holds.condF rfl ?_
      rw [hb, if_neg (by simp)] at hT
      cases b3
      · rw [if_neg (by simp)] at hT
        refine Holds.step (Px := px) (T := TT) (ρ := fun _ => []) TTe (by simp (maxSteps := 100000) (disch := omega) only [go_sem, V.isAgg, V.flat, ↓reduceIte, Nat.reduceAdd, Nat.reduceSub, Nat.reduceLT, Nat.reduceEqDiff, reduceCtorEq, Nat.reduceLeDiff, Nat.reduceBEq, Nat.reduceMul, Int.reduceToNat, hb3]; rfl) (by repeat' first | exact trivial | constructor) ?_
        exact Holds.condF rfl (Holds.skip ⟨hT, fun a w h => Rel.keep [5, 2, 4, 3] [4, 2] h⟩)
      · rw [if_pos rfl] at hT
        refine Holds.step (Px := px) (T := TT) (ρ := fun _ => []) TTe (by simp (maxSteps := 100000) (disch := omega) only [go_sem, V.isAgg, V.flat, ↓reduceIte, Nat.reduceAdd, Nat.reduceSub, Nat.reduceLT, Nat.reduceEqDiff, reduceCtorEq, Nat.reduceLeDiff, Nat.reduceBEq, Nat.reduceMul, Int.reduceToNat, hb3]; rfl) (by repeat' first | exact trivial | constructor) ?_
        refine Holds.condT rfl ?_
        by_cases hp0 : p = 0
        · rw [if_pos hp0] at hT
          rw [hT]
          have g : (p : Int) = 0 := by omega
          refine Holds.seq ?_
          refine Holds.step (Px := px) (T := TT) (ρ := fun _ => []) TTe (by simp (maxSteps := 100000) (disch := omega) only [go_sem, V.isAgg, V.flat, ↓reduceIte, Nat.reduceAdd, Nat.reduceSub, Nat.reduceLT, Nat.reduceEqDiff, reduceCtorEq, Nat.reduceLeDiff, Nat.reduceBEq, Nat.reduceMul, Int.reduceToNat, g]; rfl) (by repeat' first | exact trivial | constructor) ?_
          refine Holds.condT rfl ?_
          refine Holds.step (Px := px) (T := TT) (ρ := fun _ => []) TTe (by simp (maxSteps := 100000) (disch := omega) only [go_sem, V.isAgg, V.flat, ↓reduceIte, Nat.reduceAdd, Nat.reduceSub, Nat.reduceLT, Nat.reduceEqDiff, reduceCtorEq, Nat.reduceLeDiff, Nat.reduceBEq, Nat.reduceMul, Int.reduceToNat]; rfl) (by repeat' first | exact trivial | constructor) ?_
          exact Holds.ret (RetOk.vs rfl (by exact ⟨⟨rfl, fun h => h⟩, trivial⟩) rfl)
        · rw [if_neg hp0] at hT
          rw [hT]
          have g : ¬ (p : Int) = 0 := by omega
          refine Holds.seq ?_
          refine Holds.step (Px := px) (T := TT) (ρ := fun _ => []) TTe (by simp (maxSteps := 100000) (disch := omega) only [go_sem, V.isAgg, V.flat, ↓reduceIte, Nat.reduceAdd, Nat.reduceSub, Nat.reduceLT, Nat.reduceEqDiff, reduceCtorEq, Nat.reduceLeDiff, Nat.reduceBEq, Nat.reduceMul, Int.reduceToNat, g]; rfl) (by repeat' first | exact trivial | constructor) ?_
          refine Holds.condF rfl (Holds.skip ?_)
          refine Holds.step (Px := px) (T := TT) (ρ := fun _ => []) TTe (by simp (maxSteps := 100000) (disch := omega) only [go_sem, V.isAgg, V.flat, ↓reduceIte, Nat.reduceAdd, Nat.reduceSub, Nat.reduceLT, Nat.reduceEqDiff, reduceCtorEq, Nat.reduceLeDiff, Nat.reduceBEq, Nat.reduceMul, Int.reduceToNat]; rfl) (by repeat' first | exact trivial | constructor) ?_
          exact Holds.ret (RetOk.vs rfl (by exact ⟨⟨rfl, fun h => h⟩, trivial⟩) rfl)
    · refine Holds.condT rfl ?_
      rw [hb, if_pos rfl] at hT
      rw [hT]
      refine Holds.step (Px := px) (T := TT) (ρ := fun _ => []) TTe (by simp (maxSteps := 100000) (disch := omega) only [go_sem, V.isAgg, V.flat, ↓reduceIte, Nat.reduceAdd, Nat.reduceSub, Nat.reduceLT, Nat.reduceEqDiff, reduceCtorEq, Nat.reduceLeDiff, Nat.reduceBEq, Nat.reduceMul, Int.reduceToNat]; rfl) (by repeat' first | exact trivial | constructor) ?_
      exact Holds.ret (RetOk.vs rfl (by exact ⟨⟨rfl, fun h => h⟩, trivial⟩) rfl)
  rintro σ ⟨hT, hσ⟩
  refine Holds.from hσ ?_
  clear hσ
  refine Holds.step (Px := px) (T := TT) (ρ := fun _ => []) TTe (by simp (maxSteps := 100000) (disch := omega) only [go_sem, V.isAgg, V.flat, ↓reduceIte, Nat.reduceAdd, Nat.reduceSub, Nat.reduceLT, Nat.reduceEqDiff, reduceCtorEq, Nat.reduceLeDiff, Nat.reduceBEq, Nat.reduceMul, Int.reduceToNat]; rfl) (by repeat' first | exact trivial | constructor) ?_
  refine Holds.step (Px := px) (T := TT) (ρ := fun _ => []) TTe (by simp (maxSteps := 100000) (disch := omega) only [go_sem, V.isAgg, V.flat, ↓reduceIte, Nat.reduceAdd, Nat.reduceSub, Nat.reduceLT, Nat.reduceEqDiff, reduceCtorEq, Nat.reduceLeDiff, Nat.reduceBEq, Nat.reduceMul, Int.reduceToNat]; rfl) (by repeat' first | exact trivial | constructor) ?_
  refine Holds.from (σ' := { nt := 133, env := [(5, .v true (.int .i64 (p : Nat))), (6, .v true (.int .i64 10)), (7, .v true (.int .u8 101)), (8, .v true (.int .i64 1)), (2, .ptr 2 0 [] 0), (4, .ptr 4 0 [] 0), (3, .v true (.str s))], mem := [(4, .box 39 (.v true (.agg [.int .i64 1, .bool neg, .sl 1 [], .int .i64 0, .bool false]))), (2, .box 39 (.v true (.agg [.int .i64 0, .bool false, .sl 1 [], .int .i64 0, .bool false])))] }) (fun a w h => Rel.keep [5, 6, 7, 8, 2, 4, 3] [4, 2] h) ?_
  obtain ⟨hx, hhx⟩ : ∃ hx, hx = rHex s p := ⟨_, rfl⟩
  rw [← hhx] at hT
  refine Holds.next (fun σ => ∃ base letter each p2 kind : Nat, (base = (if hx = true then 16 else 10) ∧ letter = (if hx = true then 112 else 101) ∧ each = (if hx = true then 4 else 1) ∧ p2 = (if hx = true then p + 2 else p) ∧ kind = (if hx = true then 2 else 1) ∧ p2 ≤ s.size) ∧ ∀ a w, Rel cx w0 σ a w → Rel cx w0 { nt := 133, env := [(5, .v true (.int .i64 (p2 : Nat))), (6, .v true (.int .i64 (base : Nat))), (7, .v true (.int .u8 (letter : Nat))), (8, .v true (.int .i64 (each : Nat))), (2, .ptr 2 0 [] 0), (4, .ptr 4 0 [] 0), (3, .v true (.str s))], mem := [(4, .box 39 (.v true (.agg [.int .i64 (kind : Nat), .bool neg, .sl 1 [], .int .i64 0, .bool false]))), (2, .box 39 (.v true (.agg [.int .i64 0, .bool false, .sl 1 [], .int .i64 0, .bool false])))] } a w) ?_ ?_
  · by_cases hl : p + 1 < s.size
    · have e1 : IntKind.i64.wrap ((p : Int) + 1) = ((p + 1 : Nat) : Int) := by rw [wrap_i64 (by omega) (by omega)]; omega
      have e2 : IntKind.i64.wrap ((p : Int) + 2) = ((p + 2 : Nat) : Int) := by rw [wrap_i64 (by omega) (by omega)]; omega
      obtain ⟨x, hx1, ex⟩ := bAt_some (s := s) (i := p) (by omega)
      obtain ⟨y, hy1, ey⟩ := bAt_some hl
      have hxx : hx = decide (x.toNat = 48 ∧ y.toNat = 120) := by
        rw [hhx]; unfold rHex; rw [ex, ey]
        by_cases h1 : x.toNat = 48 ∧ y.toNat = 120
        · rw [decide_eq_true h1, decide_eq_true ⟨hl, h1⟩]
        · rw [decide_eq_false h1, decide_eq_false (fun h => h1 h.2)]
      clear hhx ex ey
      obtain ⟨q, hq⟩ : ∃ q, q = p + 1 := ⟨_, rfl⟩
      rw [← hq] at e1 hl hy1
      have g0 : (q : Int) < s.size := by omega
      have g00 : (p : Int) < s.size := by omega
      have hp0 : p < s.size := by omega
      by_cases h48 : x.toNat = 48
      · have g1 : (x.toNat : Int) = 48 := by omega
        by_cases h120 : y.toNat = 120
        · have g2 : (y.toNat : Int) = 120 := by omega
          rw [decide_eq_true ⟨h48, h120⟩] at hxx
          subst hxx
          obtain ⟨p2, hp2⟩ : ∃ p2, p2 = p + 2 := ⟨_, rfl⟩
          rw [← hp2] at e2
          refine Holds.step (Px := px) (T := TT) (ρ := fun _ => []) TTe (by simp (maxSteps := 100000) (disch := omega) only [go_sem, V.isAgg, V.flat, ↓reduceIte, Nat.reduceAdd, Nat.reduceSub, Nat.reduceLT, Nat.reduceEqDiff, reduceCtorEq, Nat.reduceLeDiff, Nat.reduceBEq, Nat.reduceMul, Int.reduceToNat, indexA, hx1, hy1, e1, g0, g00, hl, hp0, g1, g2]; rfl) (by repeat' first | exact trivial | constructor) ?_
          refine Holds.condT rfl ?_
          refine Holds.step (Px := px) (T := TT) (ρ := fun _ => []) TTe (by simp (maxSteps := 100000) (disch := omega) only [go_sem, V.isAgg, V.flat, ↓reduceIte, Nat.reduceAdd, Nat.reduceSub, Nat.reduceLT, Nat.reduceEqDiff, reduceCtorEq, Nat.reduceLeDiff, Nat.reduceBEq, Nat.reduceMul, Int.reduceToNat]; rfl) (by repeat' first | exact trivial | constructor) ?_
          refine Holds.step (Px := px) (T := TT) (ρ := fun _ => []) TTe (by simp (maxSteps := 100000) (disch := omega) only [go_sem, V.isAgg, V.flat, ↓reduceIte, Nat.reduceAdd, Nat.reduceSub, Nat.reduceLT, Nat.reduceEqDiff, reduceCtorEq, Nat.reduceLeDiff, Nat.reduceBEq, Nat.reduceMul, Int.reduceToNat]; rfl) (by repeat' first | exact trivial | constructor) ?_
          refine Holds.region (Px := px) (T := TT) (ρ := fun _ => []) TTe (by simp (maxSteps := 100000) (disch := omega) only [go_sem, V.isAgg, V.flat, ↓reduceIte, Nat.reduceAdd, Nat.reduceSub, Nat.reduceLT, Nat.reduceEqDiff, reduceCtorEq, Nat.reduceLeDiff, Nat.reduceBEq, Nat.reduceMul, Int.reduceToNat, e2]; rfl) (by repeat' first | exact trivial | constructor) ?_
          exact ⟨16, 112, 4, p2, 2, ⟨rfl, rfl, rfl, hp2, rfl, by omega⟩, fun a w h => Rel.keep [5, 6, 7, 8, 2, 4, 3] [4, 2] h⟩
        · have g2 : ¬ (y.toNat : Int) = 120 := by omega
          rw [decide_eq_false (fun h => h120 h.2)] at hxx
          subst hxx
          refine Holds.step (Px := px) (T := TT) (ρ := fun _ => []) TTe (by simp (maxSteps := 100000) (disch := omega) only [go_sem, V.isAgg, V.flat, ↓reduceIte, Nat.reduceAdd, Nat.reduceSub, Nat.reduceLT, Nat.reduceEqDiff, reduceCtorEq, Nat.reduceLeDiff, Nat.reduceBEq, Nat.reduceMul, Int.reduceToNat, indexA, hx1, hy1, e1, g0, g00, hl, hp0, g1, g2]; rfl) (by repeat' first | exact trivial | constructor) ?_
          exact Holds.condF rfl (Holds.skip ⟨10, 101, 1, p, 1, ⟨rfl, rfl, rfl, rfl, rfl, hale⟩, fun a w h => Rel.keep [5, 6, 7, 8, 2, 4, 3] [4, 2] h⟩)
      · have g1 : ¬ (x.toNat : Int) = 48 := by omega
        rw [decide_eq_false (fun h => h48 h.1)] at hxx
        subst hxx
        refine Holds.step (Px := px) (T := TT) (ρ := fun _ => []) TTe (by simp (maxSteps := 100000) (disch := omega) only [go_sem, V.isAgg, V.flat, ↓reduceIte, Nat.reduceAdd, Nat.reduceSub, Nat.reduceLT, Nat.reduceEqDiff, reduceCtorEq, Nat.reduceLeDiff, Nat.reduceBEq, Nat.reduceMul, Int.reduceToNat, indexA, hx1, hy1, e1, g0, g00, hl, hp0, g1]; rfl) (by repeat' first | exact trivial | constructor) ?_
        exact Holds.condF rfl (Holds.skip ⟨10, 101, 1, p, 1, ⟨rfl, rfl, rfl, rfl, rfl, hale⟩, fun a w h => Rel.keep [5, 6, 7, 8, 2, 4, 3] [4, 2] h⟩)
    · have e1 : IntKind.i64.wrap ((p : Int) + 1) = ((p + 1 : Nat) : Int) := by rw [wrap_i64 (by omega) (by omega)]; omega
      have hxx : hx = false := by rw [hhx]; exact decide_eq_false (fun h => hl h.1)
      subst hxx
      obtain ⟨q, hq⟩ : ∃ q, q = p + 1 := ⟨_, rfl⟩
      rw [← hq] at e1 hl
      have g0 : ¬ (q : Int) < s.size := by omega
      refine Holds.step (Px := px) (T := TT) (ρ := fun _ => []) TTe (by simp (maxSteps := 100000) (disch := omega) only [go_sem, V.isAgg, V.flat, ↓reduceIte, Nat.reduceAdd, Nat.reduceSub, Nat.reduceLT, Nat.reduceEqDiff, reduceCtorEq, Nat.reduceLeDiff, Nat.reduceBEq, Nat.reduceMul, Int.reduceToNat, e1, g0]; rfl) (by repeat' first | exact trivial | constructor) ?_
      exact Holds.condF rfl (Holds.skip ⟨10, 101, 1, p, 1, ⟨rfl, rfl, rfl, rfl, rfl, hale⟩, fun a w h => Rel.keep [5, 6, 7, 8, 2, 4, 3] [4, 2] h⟩)
  rintro σ ⟨base, letter, each, p2, kind, ⟨hbase, hletter, heach, hp2, hkind, hp2s⟩, hσ⟩
  refine Holds.from hσ ?_
  clear hσ
  unfold rNum at hT
  rw [← hbase, ← hletter, ← heach, ← hp2, ← hkind] at hT
  have hb16 : base ≤ 16 ∧ 1 ≤ base := by rw [hbase]; split <;> omega
  have he4 : each ≤ 4 := by rw [heach]; split <;> omega
  have hlt8 : letter < 256 := by rw [hletter]; split <;> omega
  have hM := mantissa_ok s p2 base hls hp2s hb16.1 hb16.2
  have hMb := mnR_bd s p2 base hp2s
  have hdec : hx = false → mnR s p 10 = mnR s p2 base := fun h => by rw [hp2, hbase, h]; rfl
  obtain ⟨M, hMe⟩ : ∃ M, M = mnR s p2 base := ⟨_, rfl⟩
  rw [← hMe] at hM hMb hT hdec
  obtain ⟨en, num, many, bh⟩ := M
  simp only at hM hMb hT hdec
  refine Holds.step (Px := px) (T := TT) (ρ := fun _ => [.v true (words (digs num)), .v true (.int .i64 (bh : Nat)), .v true (.int .i64 (many : Nat)), .v true (.int .i64 (en : Nat))]) TTe (by simp (maxSteps := 100000) (disch := omega) only [go_sem, V.isAgg, V.flat, ↓reduceIte, Nat.reduceAdd, Nat.reduceSub, Nat.reduceLT, Nat.reduceEqDiff, reduceCtorEq, Nat.reduceLeDiff, Nat.reduceBEq, Nat.reduceMul, Int.reduceToNat]; rfl) (by first | exact hM | (repeat' first | exact trivial | exact hM | constructor)) ?_
  refine Holds.from (σ' := { nt := 133, env := [(9, .v true (words (digs num))), (10, .v true (.int .i64 (bh : Nat))), (11, .v true (.int .i64 (many : Nat))), (12, .v true (.int .i64 (en : Nat))), (7, .v true (.int .u8 (letter : Nat))), (8, .v true (.int .i64 (each : Nat))), (2, .ptr 2 0 [] 0), (4, .ptr 4 0 [] 0), (3, .v true (.str s))], mem := [(4, .box 39 (.v true (.agg [.int .i64 (kind : Nat), .bool neg, .sl 1 [], .int .i64 0, .bool false]))), (2, .box 39 (.v true (.agg [.int .i64 0, .bool false, .sl 1 [], .int .i64 0, .bool false])))] }) (fun a w h => Rel.keep [9, 10, 11, 12, 7, 8, 2, 4, 3] [4, 2] h) ?_
  by_cases hm0 : many = 0
  · rw [if_pos hm0] at hT
    rw [hT]
    have g : (many : Int) = 0 := by omega
    refine Holds.seq ?_
    refine Holds.step (Px := px) (T := TT) (ρ := fun _ => []) TTe (by simp (maxSteps := 100000) (disch := omega) only [go_sem, V.isAgg, V.flat, ↓reduceIte, Nat.reduceAdd, Nat.reduceSub, Nat.reduceLT, Nat.reduceEqDiff, reduceCtorEq, Nat.reduceLeDiff, Nat.reduceBEq, Nat.reduceMul, Int.reduceToNat, g]; rfl) (by repeat' first | exact trivial | constructor) ?_
    refine Holds.condT rfl ?_
    refine Holds.step (Px := px) (T := TT) (ρ := fun _ => []) TTe (by simp (maxSteps := 100000) (disch := omega) only [go_sem, V.isAgg, V.flat, ↓reduceIte, Nat.reduceAdd, Nat.reduceSub, Nat.reduceLT, Nat.reduceEqDiff, reduceCtorEq, Nat.reduceLeDiff, Nat.reduceBEq, Nat.reduceMul, Int.reduceToNat]; rfl) (by repeat' first | exact trivial | constructor) ?_
    exact Holds.ret (RetOk.vs rfl (by exact ⟨⟨rfl, fun h => h⟩, trivial⟩) rfl)
  rw [if_neg hm0] at hT
  have g : ¬ (many : Int) = 0 := by omega
  refine Holds.next (fun σ => ∀ a w, Rel cx w0 σ a w → Rel cx w0 { nt := 133, env := [(9, .v true (words (digs num))), (10, .v true (.int .i64 (bh : Nat))), (12, .v true (.int .i64 (en : Nat))), (7, .v true (.int .u8 (letter : Nat))), (8, .v true (.int .i64 (each : Nat))), (2, .ptr 2 0 [] 0), (4, .ptr 4 0 [] 0), (3, .v true (.str s))], mem := [(4, .box 39 (.v true (.agg [.int .i64 (kind : Nat), .bool neg, .sl 1 [], .int .i64 0, .bool false]))), (2, .box 39 (.v true (.agg [.int .i64 0, .bool false, .sl 1 [], .int .i64 0, .bool false])))] } a w) ?_ ?_
  · refine Holds.step (Px := px) (T := TT) (ρ := fun _ => []) TTe (by simp (maxSteps := 100000) (disch := omega) only [go_sem, V.isAgg, V.flat, ↓reduceIte, Nat.reduceAdd, Nat.reduceSub, Nat.reduceLT, Nat.reduceEqDiff, reduceCtorEq, Nat.reduceLeDiff, Nat.reduceBEq, Nat.reduceMul, Int.reduceToNat, g]; rfl) (by repeat' first | exact trivial | constructor) ?_
    exact Holds.condF rfl (Holds.skip fun a w h => Rel.keep [9, 10, 12, 7, 8, 2, 4, 3] [4, 2] h)
  intro σ hσ
  refine Holds.from hσ ?_
  clear hσ g
  unfold words
  refine Holds.step (Px := px) (T := TT) (ρ := fun _ => []) TTe (by simp (maxSteps := 100000) (disch := omega) only [go_sem, V.isAgg, V.flat, ↓reduceIte, Nat.reduceAdd, Nat.reduceSub, Nat.reduceLT, Nat.reduceEqDiff, reduceCtorEq, Nat.reduceLeDiff, Nat.reduceBEq, Nat.reduceMul, Int.reduceToNat]; rfl) (by repeat' first | exact trivial | constructor) ?_
  refine Holds.from (σ' := { nt := 133, env := [(10, .v true (.int .i64 (bh : Nat))), (12, .v true (.int .i64 (en : Nat))), (7, .v true (.int .u8 (letter : Nat))), (8, .v true (.int .i64 (each : Nat))), (2, .ptr 2 0 [] 0), (4, .ptr 4 0 [] 0), (3, .v true (.str s))], mem := [(4, .box 39 (.v true (.agg [.int .i64 (kind : Nat), .bool neg, words (digs num), .int .i64 0, .bool false]))), (2, .box 39 (.v true (.agg [.int .i64 0, .bool false, .sl 1 [], .int .i64 0, .bool false])))] }) (fun a w h => Rel.keep [10, 12, 7, 8, 2, 4, 3] [4, 2] h) ?_
  have wf : words (digs num) = .sl 1 ((digs num).map fun n => .int .u64 n) := rfl
  obtain ⟨W, hW⟩ : ∃ W, W = (digs num).map fun n => V.int .u64 n := ⟨_, rfl⟩
  rw [wf, ← hW]
  refine Holds.next (fun σ => ∃ (e : Int) (far : Bool), T = ⟨kind, neg, num, e - (each * bh : Nat), far⟩ ∧ -100000000 ≤ e ∧ e ≤ 100000000 ∧ ∀ a w, Rel cx w0 σ a w → Rel cx w0 { nt := 133, env := [(10, .v true (.int .i64 (bh : Nat))), (8, .v true (.int .i64 (each : Nat))), (2, .ptr 2 0 [] 0), (4, .ptr 4 0 [] 0), (3, .v true (.str s))], mem := [(4, .box 39 (.v true (.agg [.int .i64 (kind : Nat), .bool neg, .sl 1 W, .int .i64 e, .bool far]))), (2, .box 39 (.v true (.agg [.int .i64 0, .bool false, .sl 1 [], .int .i64 0, .bool false])))] } a w) ?_ ?_
  · refine Holds.blockN ?_
    obtain ⟨c, hc⟩ : ∃ c : Bool, c = decide (en < s.size ∧ bAt s en = letter) := ⟨_, rfl⟩
    refine Holds.next (fun σ => ∀ a w, Rel cx w0 σ a w → Rel cx w0 { nt := 133, env := [(87, .v true (.bool c)), (12, .v true (.int .i64 (en : Nat))), (10, .v true (.int .i64 (bh : Nat))), (8, .v true (.int .i64 (each : Nat))), (2, .ptr 2 0 [] 0), (4, .ptr 4 0 [] 0), (3, .v true (.str s))], mem := [(4, .box 39 (.v true (.agg [.int .i64 (kind : Nat), .bool neg, .sl 1 W, .int .i64 0, .bool false]))), (2, .box 39 (.v true (.agg [.int .i64 0, .bool false, .sl 1 [], .int .i64 0, .bool false])))] } a w) ?_ ?_
    · by_cases hl : en < s.size
      · obtain ⟨x, hx1, ex⟩ := bAt_some hl
        rw [ex] at hc
        have g0 : (en : Int) < s.size := by omega
        by_cases hxl : x.toNat = letter
        · rw [decide_eq_true ⟨hl, hxl⟩] at hc
          subst hc
          have g1 : (x.toNat : Int) = letter := by omega
          refine Holds.region (Px := px) (T := TT) (ρ := fun _ => []) TTe (by simp (maxSteps := 100000) (disch := omega) only [go_sem, V.isAgg, V.flat, ↓reduceIte, Nat.reduceAdd, Nat.reduceSub, Nat.reduceLT, Nat.reduceEqDiff, reduceCtorEq, Nat.reduceLeDiff, Nat.reduceBEq, Nat.reduceMul, Int.reduceToNat, indexA, hx1, g0, hl, g1]; rfl) (by repeat' first | exact trivial | constructor) ?_
          exact fun a w h => Rel.keep [87, 12, 10, 8, 2, 4, 3] [4, 2] h
        · rw [decide_eq_false (fun h => hxl h.2)] at hc
          subst hc
          have g1 : ¬ (x.toNat : Int) = letter := by omega
          refine Holds.region (Px := px) (T := TT) (ρ := fun _ => []) TTe (by simp (maxSteps := 100000) (disch := omega) only [go_sem, V.isAgg, V.flat, ↓reduceIte, Nat.reduceAdd, Nat.reduceSub, Nat.reduceLT, Nat.reduceEqDiff, reduceCtorEq, Nat.reduceLeDiff, Nat.reduceBEq, Nat.reduceMul, Int.reduceToNat, indexA, hx1, g0, hl, g1]; rfl) (by repeat' first | exact trivial | constructor) ?_
          exact fun a w h => Rel.keep [87, 12, 10, 8, 2, 4, 3] [4, 2] h
      · rw [decide_eq_false (fun h => hl h.1)] at hc
        subst hc
        have g0 : ¬ (en : Int) < s.size := by omega
        refine Holds.region (Px := px) (T := TT) (ρ := fun _ => []) TTe (by simp (maxSteps := 100000) (disch := omega) only [go_sem, V.isAgg, V.flat, ↓reduceIte, Nat.reduceAdd, Nat.reduceSub, Nat.reduceLT, Nat.reduceEqDiff, reduceCtorEq, Nat.reduceLeDiff, Nat.reduceBEq, Nat.reduceMul, Int.reduceToNat, g0]; rfl) (by repeat' first | exact trivial | constructor) ?_
        exact fun a w h => Rel.keep [87, 12, 10, 8, 2, 4, 3] [4, 2] h
    intro σ hσ
    refine Holds.from hσ ?_
    clear hσ
    cases c
    · refine Holds.condF rfl ?_
      have hc' := of_decide_eq_false hc.symm
      rw [if_neg hc'] at hT
      obtain ⟨d, hd⟩ : ∃ d : Bool, d = decide (en < s.size ∨ hx = true) := ⟨_, rfl⟩
      refine Holds.next (fun σ => ∀ a w, Rel cx w0 σ a w → Rel cx w0 { nt := 133, env := [(114, .v true (.bool d)), (10, .v true (.int .i64 (bh : Nat))), (8, .v true (.int .i64 (each : Nat))), (2, .ptr 2 0 [] 0), (4, .ptr 4 0 [] 0), (3, .v true (.str s))], mem := [(4, .box 39 (.v true (.agg [.int .i64 (kind : Nat), .bool neg, .sl 1 W, .int .i64 0, .bool false]))), (2, .box 39 (.v true (.agg [.int .i64 0, .bool false, .sl 1 [], .int .i64 0, .bool false])))] } a w) ?_ ?_
      · by_cases hl : en < s.size
        · rw [decide_eq_true (.inl hl)] at hd
          subst hd
          have g0 : (en : Int) < s.size := by omega
          refine Holds.region (Px := px) (T := TT) (ρ := fun _ => []) TTe (by simp (maxSteps := 100000) (disch := omega) only [go_sem, V.isAgg, V.flat, ↓reduceIte, Nat.reduceAdd, Nat.reduceSub, Nat.reduceLT, Nat.reduceEqDiff, reduceCtorEq, Nat.reduceLeDiff, Nat.reduceBEq, Nat.reduceMul, Int.reduceToNat, g0]; rfl) (by repeat' first | exact trivial | constructor) ?_
          exact fun a w h => Rel.keep [114, 10, 8, 2, 4, 3] [4, 2] h
        · have g0 : ¬ (en : Int) < s.size := by omega
          cases hx
          · rw [decide_eq_false (by simp [hl])] at hd
            rw [if_neg (by simp)] at hkind
            subst hd
            subst hkind
            refine Holds.region (Px := px) (T := TT) (ρ := fun _ => []) TTe (by simp (maxSteps := 100000) (disch := omega) only [go_sem, V.isAgg, V.flat, ↓reduceIte, Nat.reduceAdd, Nat.reduceSub, Nat.reduceLT, Nat.reduceEqDiff, reduceCtorEq, Nat.reduceLeDiff, Nat.reduceBEq, Nat.reduceMul, Int.reduceToNat, g0]; rfl) (by repeat' first | exact trivial | constructor) ?_
            exact fun a w h => Rel.keep [114, 10, 8, 2, 4, 3] [4, 2] h
          · rw [decide_eq_true (.inr rfl)] at hd
            rw [if_pos rfl] at hkind
            subst hd
            subst hkind
            refine Holds.region (Px := px) (T := TT) (ρ := fun _ => []) TTe (by simp (maxSteps := 100000) (disch := omega) only [go_sem, V.isAgg, V.flat, ↓reduceIte, Nat.reduceAdd, Nat.reduceSub, Nat.reduceLT, Nat.reduceEqDiff, reduceCtorEq, Nat.reduceLeDiff, Nat.reduceBEq, Nat.reduceMul, Int.reduceToNat, g0]; rfl) (by repeat' first | exact trivial | constructor) ?_
            exact fun a w h => Rel.keep [114, 10, 8, 2, 4, 3] [4, 2] h
      intro σ hσ
      refine Holds.from hσ ?_
      clear hσ
      cases d
      · have hd' := of_decide_eq_false hd.symm
        rw [if_neg hd'] at hT
        have hxf : hx = false := by
          cases hx
          · rfl
          · exact absurd (.inr rfl) hd'
        rw [hdec hxf] at hT
        rw [hxf, if_neg (by simp)] at hkind heach
        simp only at hT
        rw [hkind, heach]
        rw [hkind, heach] at *
        exact Holds.condF rfl (Holds.skip ⟨0, false, by rw [hT, Nat.one_mul], by decide, by decide, fun a w h => Rel.keep [10, 8, 2, 4, 3] [4, 2] h⟩)
      · have hd' := of_decide_eq_true hd.symm
        rw [if_pos hd'] at hT
        rw [hT]
        refine Holds.condT rfl ?_
        refine Holds.step (Px := px) (T := TT) (ρ := fun _ => []) TTe (by simp (maxSteps := 100000) (disch := omega) only [go_sem, V.isAgg, V.flat, ↓reduceIte, Nat.reduceAdd, Nat.reduceSub, Nat.reduceLT, Nat.reduceEqDiff, reduceCtorEq, Nat.reduceLeDiff, Nat.reduceBEq, Nat.reduceMul, Int.reduceToNat]; rfl) (by repeat' first | exact trivial | constructor) ?_
        exact Holds.ret (RetOk.vs rfl (by exact ⟨⟨rfl, fun h => h⟩, trivial⟩) rfl)
    · refine Holds.condT rfl ?_
      have hc' := of_decide_eq_true hc.symm
      rw [if_pos hc'] at hT
      have hX := rexponent_ok s (en + 1) (by omega) (by omega)
      have hXb := rxR_bd s (en + 1)
      obtain ⟨X, hXe⟩ : ∃ X, X = rxR s (en + 1) := ⟨_, rfl⟩
      rw [← hXe] at hX hXb hT
      obtain ⟨x1, x2, x3⟩ := X
      simp only at hX hXb hT
      have e1 : IntKind.i64.wrap ((en : Int) + 1) = ((en + 1 : Nat) : Int) := by rw [wrap_i64 (by omega) (by omega)]; omega
      obtain ⟨en1, hen1⟩ : ∃ en1, en1 = en + 1 := ⟨_, rfl⟩
      rw [← hen1] at e1 hX
      refine Holds.step (Px := px) (T := TT) (ρ := fun _ => [.v true (.int .i64 x1), .v true (.bool x2), .v true (.bool x3)]) TTe (by simp (maxSteps := 100000) (disch := omega) only [go_sem, V.isAgg, V.flat, ↓reduceIte, Nat.reduceAdd, Nat.reduceSub, Nat.reduceLT, Nat.reduceEqDiff, reduceCtorEq, Nat.reduceLeDiff, Nat.reduceBEq, Nat.reduceMul, Int.reduceToNat, e1]; rfl) (by first | exact hX | (repeat' first | exact trivial | exact hX | constructor)) ?_
      cases x3
      · rw [if_neg (by simp)] at hT
        rw [hT]
        refine Holds.seq ?_
        refine Holds.step (Px := px) (T := TT) (ρ := fun _ => []) TTe (by simp (maxSteps := 100000) (disch := omega) only [go_sem, V.isAgg, V.flat, ↓reduceIte, Nat.reduceAdd, Nat.reduceSub, Nat.reduceLT, Nat.reduceEqDiff, reduceCtorEq, Nat.reduceLeDiff, Nat.reduceBEq, Nat.reduceMul, Int.reduceToNat, unA]; rfl) (by repeat' first | exact trivial | constructor) ?_
        refine Holds.condT rfl ?_
        refine Holds.step (Px := px) (T := TT) (ρ := fun _ => []) TTe (by simp (maxSteps := 100000) (disch := omega) only [go_sem, V.isAgg, V.flat, ↓reduceIte, Nat.reduceAdd, Nat.reduceSub, Nat.reduceLT, Nat.reduceEqDiff, reduceCtorEq, Nat.reduceLeDiff, Nat.reduceBEq, Nat.reduceMul, Int.reduceToNat]; rfl) (by repeat' first | exact trivial | constructor) ?_
        exact Holds.ret (RetOk.vs rfl (by exact ⟨⟨rfl, fun h => h⟩, trivial⟩) rfl)
      · rw [if_pos rfl] at hT
        refine Holds.next (fun σ => ∀ a w, Rel cx w0 σ a w → Rel cx w0 { nt := 133, env := [(13, .v true (.int .i64 x1)), (14, .v true (.bool x2)), (10, .v true (.int .i64 (bh : Nat))), (8, .v true (.int .i64 (each : Nat))), (2, .ptr 2 0 [] 0), (4, .ptr 4 0 [] 0), (3, .v true (.str s))], mem := [(4, .box 39 (.v true (.agg [.int .i64 (kind : Nat), .bool neg, .sl 1 W, .int .i64 0, .bool false]))), (2, .box 39 (.v true (.agg [.int .i64 0, .bool false, .sl 1 [], .int .i64 0, .bool false])))] } a w) ?_ ?_
        · refine Holds.step (Px := px) (T := TT) (ρ := fun _ => []) TTe (by simp (maxSteps := 100000) (disch := omega) only [go_sem, V.isAgg, V.flat, ↓reduceIte, Nat.reduceAdd, Nat.reduceSub, Nat.reduceLT, Nat.reduceEqDiff, reduceCtorEq, Nat.reduceLeDiff, Nat.reduceBEq, Nat.reduceMul, Int.reduceToNat, unA]; rfl) (by repeat' first | exact trivial | constructor) ?_
          exact Holds.condF rfl (Holds.skip fun a w h => Rel.keep [13, 14, 10, 8, 2, 4, 3] [4, 2] h)
        intro σ hσ
        refine Holds.from hσ ?_
        clear hσ
        refine Holds.region (Px := px) (T := TT) (ρ := fun _ => []) TTe (by simp (maxSteps := 100000) (disch := omega) only [go_sem, V.isAgg, V.flat, ↓reduceIte, Nat.reduceAdd, Nat.reduceSub, Nat.reduceLT, Nat.reduceEqDiff, reduceCtorEq, Nat.reduceLeDiff, Nat.reduceBEq, Nat.reduceMul, Int.reduceToNat]; rfl) (by repeat' first | exact trivial | constructor) ?_
        exact ⟨x1, x2, hT, hXb.1, hXb.2, fun a w h => Rel.keep [10, 8, 2, 4, 3] [4, 2] h⟩
  · rintro σ ⟨e, far, hT, he1, he2, hσ⟩
    refine Holds.from hσ ?_
    clear hσ
    have hbb : each * bh ≤ 4 * 1000 := Nat.mul_le_mul he4 (by omega)
    have w1 : IntKind.i64.wrap ((each : Int) * (bh : Int)) = ((each * bh : Nat) : Int) := by
      have : (each : Int) * (bh : Int) = ((each * bh : Nat) : Int) := by rw [Int.natCast_mul]
      rw [this, wrap_i64 (by omega) (by omega)]
    obtain ⟨eb, heb⟩ : ∃ eb, eb = each * bh := ⟨_, rfl⟩
    rw [← heb] at w1 hT hbb
    have w2 : IntKind.i64.wrap (e - (eb : Int)) = e - eb := wrap_i64 (by omega) (by omega)
    refine Holds.step (Px := px) (T := TT) (ρ := fun _ => []) TTe (by simp (maxSteps := 100000) (disch := omega) only [go_sem, V.isAgg, V.flat, ↓reduceIte, Nat.reduceAdd, Nat.reduceSub, Nat.reduceLT, Nat.reduceEqDiff, reduceCtorEq, Nat.reduceLeDiff, Nat.reduceBEq, Nat.reduceMul, Int.reduceToNat, w1, w2]; rfl) (by repeat' first | exact trivial | constructor) ?_
    refine Holds.step (Px := px) (T := TT) (ρ := fun _ => []) TTe (by simp (maxSteps := 100000) (disch := omega) only [go_sem, V.isAgg, V.flat, ↓reduceIte, Nat.reduceAdd, Nat.reduceSub, Nat.reduceLT, Nat.reduceEqDiff, reduceCtorEq, Nat.reduceLeDiff, Nat.reduceBEq, Nat.reduceMul, Int.reduceToNat]; rfl) (by repeat' first | exact trivial | constructor) ?_
    rw [hT]
    unfold RNum.v
    rw [wf, ← hW]
    exact Holds.ret (RetOk.vs rfl (by exact ⟨⟨rfl, fun h => h⟩, trivial⟩) rfl)
/-
  The reference's Is and Prefix.
-/

theorem lowS_size (s : ByteArray) : (lowS s).size = s.size := by
  show ((lwL s s.size).map UInt8.ofNat).toArray.size = _
  rw [List.size_toArray, List.length_map, lwL_len]
def rIsB (t : ByteArray) : Bool := decide ((rRead (lowS t)).kind ≠ 0)
/-- The length of the longest beginning that is one, of at most k bytes. -/
def rPf (t : ByteArray) : Nat → Nat
  | 0 => 0
  | k + 1 => if rIsB (t.extract 0 (k + 1)) = true then k + 1 else rPf t k

set_option maxRecDepth 100000 in
theorem rIs_ok (t : ByteArray) (ht : t.size ≤ 1000) : FnOk Tryz.prog 11 [.v (.str t)] [.v true (.bool (rIsB t))] := by
  have hR := rRead_ok t ht (by rw [lowS_size]; exact ht)
  unfold rIsB
  obtain ⟨x, hx⟩ : ∃ x, x = rRead (lowS t) := ⟨_, rfl⟩
  rw [← hx] at hR ⊢
  obtain ⟨k, neg, num, e, far⟩ := x
  unfold RNum.v at hR
  simp only at hR ⊢
  refine FnOk.of Tryz.func11 rfl rfl fun cx w0 => ?_
  rw [show Tryz.f11.ntmps = 7 from rfl]
  refine Holds.step (Px := px) (T := TT) (ρ := fun _ => []) TTe (by simp (maxSteps := 100000) (disch := omega) only [go_sem, V.isAgg, V.flat, ↓reduceIte, Nat.reduceAdd, Nat.reduceSub, Nat.reduceLT, Nat.reduceEqDiff, reduceCtorEq, Nat.reduceLeDiff, Nat.reduceBEq, Nat.reduceMul, Int.reduceToNat, List.length_cons, List.length_nil]; rfl) (by repeat' first | exact trivial | constructor) ?_
  refine Holds.step (Px := px) (T := TT) (ρ := fun _ => [.v true (.agg [.int .i64 (k : Nat), .bool neg, words (digs num), .int .i64 e, .bool far])]) TTe (by simp (maxSteps := 100000) (disch := omega) only [go_sem, V.isAgg, V.flat, ↓reduceIte, Nat.reduceAdd, Nat.reduceSub, Nat.reduceLT, Nat.reduceEqDiff, reduceCtorEq, Nat.reduceLeDiff, Nat.reduceBEq, Nat.reduceMul, Int.reduceToNat]; rfl) (by first | exact hR | (repeat' first | exact trivial | exact hR | constructor)) ?_
  refine Holds.ret (RetOk.vs rfl (by refine ⟨⟨?_, fun h => h⟩, trivial⟩; show V.bool (!decide ((k : Int) = 0)) = _; by_cases h : k = 0 <;> simp [h]) rfl)

set_option maxRecDepth 100000 in
theorem rPrefix_ok (t : ByteArray) (ht : t.size ≤ 1000) : FnOk Tryz.prog 12 [.v (.str t)] [.v true (.int .i64 (rPf t t.size : Nat))] := by
  refine FnOk.of Tryz.func12 rfl rfl fun cx w0 => ?_
  rw [show Tryz.f12.ntmps = 15 from rfl]
  obtain ⟨E, hE⟩ : ∃ E, E = rPf t t.size := ⟨_, rfl⟩
  rw [← hE]
  refine Holds.step (Px := px) (T := TT) (ρ := fun _ => []) TTe (by simp (maxSteps := 100000) (disch := omega) only [go_sem, V.isAgg, V.flat, ↓reduceIte, Nat.reduceAdd, Nat.reduceSub, Nat.reduceLT, Nat.reduceEqDiff, reduceCtorEq, Nat.reduceLeDiff, Nat.reduceBEq, Nat.reduceMul, Int.reduceToNat, List.length_cons, List.length_nil]; rfl) (by repeat' first | exact trivial | constructor) ?_
  refine Holds.next (fun σ => E = 0 ∧ ∀ a w, Rel cx w0 σ a w → Rel cx w0 { nt := 15, env := [(0, .v true (.str t))], mem := [] } a w) ?_ ?_
  · refine Holds.step (Px := px) (T := TT) (ρ := fun _ => []) TTe (by simp (maxSteps := 100000) (disch := omega) only [go_sem, V.isAgg, V.flat, ↓reduceIte, Nat.reduceAdd, Nat.reduceSub, Nat.reduceLT, Nat.reduceEqDiff, reduceCtorEq, Nat.reduceLeDiff, Nat.reduceBEq, Nat.reduceMul, Int.reduceToNat]; rfl) (by repeat' first | exact trivial | constructor) ?_
    refine Holds.loopB (fun k : Nat => { nt := 15, env := [(3, .v true (.int .i64 (k : Nat))), (0, .v true (.str t))], mem := [] }) (fun k => k ≤ t.size ∧ E = rPf t k) id t.size ⟨Nat.le_refl _, hE⟩ (fun a w h => Rel.keep [3, 0] [] h) ?_
    rintro k ⟨hk, hEk⟩
    rcases k with _ | k
    · refine Holds.seq ?_
      refine Holds.step (Px := px) (T := TT) (ρ := fun _ => []) TTe (by simp (maxSteps := 100000) (disch := omega) only [go_sem, V.isAgg, V.flat, ↓reduceIte, Nat.reduceAdd, Nat.reduceSub, Nat.reduceLT, Nat.reduceEqDiff, reduceCtorEq, Nat.reduceLeDiff, Nat.reduceBEq, Nat.reduceMul, Int.reduceToNat]; rfl) (by repeat' first | exact trivial | constructor) ?_
      exact Holds.condF rfl (Holds.exit ⟨rfl, hEk, fun a w h => Rel.keep [0] [] h⟩)
    · have g : (0 : Int) < ((k + 1 : Nat) : Int) := by omega
      have hsz : (t.extract 0 (k + 1)).size ≤ 1000 := by simp; omega
      have hI := rIs_ok (t.extract 0 (k + 1)) hsz
      rw [rPf] at hEk
      obtain ⟨b, hb⟩ : ∃ b, b = rIsB (t.extract 0 (k + 1)) := ⟨_, rfl⟩
      rw [← hb] at hI hEk
      have e1 : IntKind.i64.wrap (((k + 1 : Nat) : Int) - 1) = ((k : Nat) : Int) := by rw [wrap_i64 (by omega) (by omega)]; omega
      obtain ⟨q, hq⟩ : ∃ q, q = k + 1 := ⟨_, rfl⟩
      rw [← hq] at g hI e1 hEk hk ⊢
      have g2 : (q : Int) ≤ t.size := by omega
      have g3 : (0 : Int) ≤ q := by omega
      refine Holds.seq ?_
      refine Holds.step (Px := px) (T := TT) (ρ := fun _ => []) TTe (by simp (maxSteps := 100000) (disch := omega) only [go_sem, V.isAgg, V.flat, ↓reduceIte, Nat.reduceAdd, Nat.reduceSub, Nat.reduceLT, Nat.reduceEqDiff, reduceCtorEq, Nat.reduceLeDiff, Nat.reduceBEq, Nat.reduceMul, Int.reduceToNat, g]; rfl) (by repeat' first | exact trivial | constructor) ?_
      refine Holds.condT rfl (Holds.skip ?_)
      refine Holds.next (fun σ => E = rPf t k ∧ ∀ a w, Rel cx w0 σ a w → Rel cx w0 { nt := 15, env := [(3, .v true (.int .i64 (q : Nat))), (0, .v true (.str t))], mem := [] } a w) ?_ ?_
      · refine Holds.blockN ?_
        cases b
        · rw [if_neg (by simp)] at hEk
          refine Holds.step (Px := px) (T := TT) (ρ := fun _ => [.v true (.bool false)]) TTe (by simp (maxSteps := 100000) (disch := omega) only [go_sem, V.isAgg, V.flat, ↓reduceIte, Nat.reduceAdd, Nat.reduceSub, Nat.reduceLT, Nat.reduceEqDiff, reduceCtorEq, Nat.reduceLeDiff, Nat.reduceBEq, Nat.reduceMul, Int.reduceToNat, g2, g3]; rfl) (by first | exact hI | (repeat' first | exact trivial | exact hI | constructor)) ?_
          exact Holds.condF rfl (Holds.skip ⟨hEk, fun a w h => Rel.keep [3, 0] [] h⟩)
        · rw [if_pos rfl] at hEk
          rw [hEk]
          refine Holds.step (Px := px) (T := TT) (ρ := fun _ => [.v true (.bool true)]) TTe (by simp (maxSteps := 100000) (disch := omega) only [go_sem, V.isAgg, V.flat, ↓reduceIte, Nat.reduceAdd, Nat.reduceSub, Nat.reduceLT, Nat.reduceEqDiff, reduceCtorEq, Nat.reduceLeDiff, Nat.reduceBEq, Nat.reduceMul, Int.reduceToNat, g2, g3]; rfl) (by first | exact hI | (repeat' first | exact trivial | exact hI | constructor)) ?_
          refine Holds.condT rfl ?_
          refine Holds.step (Px := px) (T := TT) (ρ := fun _ => []) TTe (by simp (maxSteps := 100000) (disch := omega) only [go_sem, V.isAgg, V.flat, ↓reduceIte, Nat.reduceAdd, Nat.reduceSub, Nat.reduceLT, Nat.reduceEqDiff, reduceCtorEq, Nat.reduceLeDiff, Nat.reduceBEq, Nat.reduceMul, Int.reduceToNat]; rfl) (by repeat' first | exact trivial | constructor) ?_
          exact Holds.ret (RetOk.vs rfl (by exact ⟨⟨rfl, fun h => h⟩, trivial⟩) rfl)
      · rintro σ ⟨hEk, hσ⟩
        refine Holds.from hσ ?_
        refine Holds.region (Px := px) (T := TT) (ρ := fun _ => []) TTe (by simp (maxSteps := 100000) (disch := omega) only [go_sem, V.isAgg, V.flat, ↓reduceIte, Nat.reduceAdd, Nat.reduceSub, Nat.reduceLT, Nat.reduceEqDiff, reduceCtorEq, Nat.reduceLeDiff, Nat.reduceBEq, Nat.reduceMul, Int.reduceToNat, e1]; rfl) (by repeat' first | exact trivial | constructor) ?_
        exact ⟨k, ⟨by omega, hEk⟩, (show k < q by omega), fun a w h => Rel.keep [3, 0] [] h⟩
  · rintro σ ⟨hE0, hσ⟩
    refine Holds.from hσ ?_
    rw [hE0]
    refine Holds.step (Px := px) (T := TT) (ρ := fun _ => []) TTe (by simp (maxSteps := 100000) (disch := omega) only [go_sem, V.isAgg, V.flat, ↓reduceIte, Nat.reduceAdd, Nat.reduceSub, Nat.reduceLT, Nat.reduceEqDiff, reduceCtorEq, Nat.reduceLeDiff, Nat.reduceBEq, Nat.reduceMul, Int.reduceToNat]; rfl) (by repeat' first | exact trivial | constructor) ?_
    exact Holds.ret (RetOk.vs rfl (by exact ⟨⟨rfl, fun h => h⟩, trivial⟩) rfl)
end Go.Proofs.YtobacemgcjnahaaGreatDoor.L
