/-
  Bm Bn Bo Bp
-/
import Derived.Test.YtobacemgcjnahaaGreatDoorH8
import Derived.Test.YtobacemgcjnahaaGreatDoorH6
set_option linter.unusedSimpArgs false
set_option linter.unusedVariables false
/-
  What a whole number text says, on both sides.
-/
namespace Go.Proofs.YtobacemgcjnahaaGreatDoor.L
open Go Go.RowKit Go.Proofs

/-- The base of a text's digits, and how much each digit behind the point takes. -/
def Nm.base (n : Nm) : Nat := if n.kind = 1 then 16 else 10
def Nm.each (n : Nm) : Nat := if n.kind = 1 then 4 else 1
def Nm.num (n : Nm) : Nat := vL n.base 0 n.digits
structure NmOk (n : Nm) (N : Nat) : Prop where
  dig : okDig ⟨n.digits.toArray⟩ n.base
  len : n.digits.length ≤ N + 1
  beh : n.behind ≤ N + 1
  lo : -1099511627776 ≤ n.exp
  hi : n.exp ≤ 1099511627776
  kd : n.kind ≤ 3

theorem dgZ_ok (t : ByteArray) (hex : Bool) : ∀ (f i : Nat) (pt : Bool), (∀ c ∈ (dgZ t hex f i pt).2.1, dgN c.toNat hex = true) ∧ (dgZ t hex f i pt).2.1.length ≤ f ∧ (dgZ t hex f i pt).2.2 ≤ f
  | 0, i, pt => by simp [dgZ]
  | f + 1, i, pt => by
    rw [dgZ]
    split
    · rename_i h
      obtain ⟨h1, h2, h3⟩ := dgZ_ok t hex f (i + 1) pt
      refine ⟨?_, ?_, ?_⟩
      · intro c hc
        rcases List.mem_cons.1 hc with rfl | hc
        · rw [nx_nat]; exact h
        · exact h1 c hc
      · simp only [List.length_cons]; omega
      · simp only; cases pt <;> simp [b2n] <;> omega
    · split
      · obtain ⟨h1, h2, h3⟩ := dgZ_ok t hex f (i + 1) true
        exact ⟨h1, by omega, by omega⟩
      · simp

theorem dg_ok {c : Nat} {hex : Bool} (h : dgN c hex = true) : 48 ≤ c ∧ dvN c < bases hex := by
  cases hex
  · simp only [dgN, Bool.false_and, Bool.or_false, decide_eq_true_eq] at h
    rw [show bases false = 10 from rfl]
    unfold dvN
    repeat' split
    all_goals omega
  · simp only [dgN, Bool.true_and, Bool.or_eq_true, decide_eq_true_eq] at h
    rw [show bases true = 16 from rfl]
    unfold dvN
    repeat' split
    all_goals omega

theorem okDig_of {l : List UInt8} {hex : Bool} (h : ∀ c ∈ l, dgN c.toNat hex = true) : okDig ⟨l.toArray⟩ (bases hex) := by
  intro i hi
  have hi' : i < l.length := hi
  have e : bAt ⟨l.toArray⟩ i = (l[i]'hi').toNat := by rw [bAt_mk, List.getElem?_eq_getElem hi']
  rw [e]
  exact dg_ok (h _ (List.getElem_mem _))

theorem dgR_ok (t : ByteArray) (i : Nat) (hex : Bool) : okDig ⟨(dgR t i hex).2.1.toArray⟩ (bases hex) ∧ (dgR t i hex).2.1.length ≤ t.size + 1 ∧ (dgR t i hex).2.2 ≤ t.size + 1 := by
  rw [dgR_eq]
  obtain ⟨h1, h2, h3⟩ := dgZ_ok t hex (t.size + 1 - i) i false
  exact ⟨okDig_of h1, by omega, by omega⟩

theorem expR_bd (t : ByteArray) (i c : Nat) : -1099511627776 ≤ (expR t i c).2.1 ∧ (expR t i c).2.1 ≤ 1099511627776 := by
  unfold expR
  split
  · split
    · have := (expL_bd t (t.size + 1 - (i + 1 + b2n (sgnB t (i + 1)))) (i + 1 + b2n (sgnB t (i + 1))) 0 (by omega)).1
      simp only
      split <;> omega
    · simp
  · simp

theorem nm_ok {t : ByteArray} {n : Nm} (h : longM t true = some n) : NmOk n t.size := by
  rw [longM_eq] at h
  generalize sgA t = a at h
  generalize mayB t 0 45 = neg at h
  generalize (!sgnB t 0) = sgl at h
  have nil : ∀ b, okDig ⟨([] : List UInt8).toArray⟩ b := fun b i hi => absurd hi (Nat.not_lt_zero _)
  unfold restM at h
  cases hs : spcM t a neg sgl with
  | some m =>
    rw [hs] at h
    obtain rfl := Option.some.inj h
    unfold spcM at hs
    repeat' split at hs
    all_goals first | cases hs; exact ⟨nil _, Nat.zero_le _, Nat.zero_le _, by simp, by simp, by simp⟩ | cases hs
  | none =>
    rw [hs] at h
    cases hh : hexM t a neg sgl with
    | some m =>
      rw [hh] at h
      obtain rfl := Option.some.inj h
      unfold hexM at hh
      split at hh
      · obtain ⟨h1, h2, h3⟩ := dgR_ok t (a + 2) true
        have h4 := expR_bd t (dgR t (a + 2) true).1 112
        obtain rfl := Option.some.inj hh
        exact ⟨h1, h2, h3, h4.1, h4.2, by simp⟩
      · cases hh
    | none =>
      rw [hh] at h
      simp only at h
      unfold decM at h
      split at h
      · cases h
      · obtain ⟨h1, h2, h3⟩ := dgR_ok t a false
        have h4 := expR_bd t (dgR t a false).1 101
        obtain rfl := Option.some.inj h
        split
        · exact ⟨h1, h2, h3, h4.1, h4.2, by simp⟩
        · exact ⟨h1, h2, h3, by simp, by simp, by simp⟩

/-- A text is no number on both sides, or both say the same. -/
theorem whole (t : ByteArray) : (rdB t = false ∧ (rRead (lowS t)).kind = 0) ∨ ∃ n, longM t true = some n ∧ rdB t = true ∧ NmOk n t.size ∧ Says (rRead (lowS t)) n := by
  unfold rdB
  cases h : longM t true with
  | none => exact .inl ⟨rfl, long_none h _ _ pre_self⟩
  | some n =>
    obtain ⟨h1, h2, h3, h4⟩ := long_some h
    simp only
    by_cases hl : n.len = t.size
    · have hp : Pre t (lowS t) n.len := by rw [hl]; exact pre_self
      exact .inr ⟨n, rfl, decide_eq_true hl, nm_ok h, h3 _ hp⟩
    · exact .inl ⟨decide_eq_false hl, h4 t.size _ (by omega) pre_self⟩

/-- Numbers of digits, told in two ways. -/
theorem vL_snoc (base : Nat) : ∀ (l : List UInt8) (n : Nat) (c : UInt8), vL base n (l ++ [c]) = vL base n l * base + dvN c.toNat
  | [], n, c => rfl
  | d :: l, n, c => vL_snoc base l (n * base + dvN d.toNat) c
theorem fbN_vL (base : Nat) (l : List UInt8) : ∀ k, k ≤ l.length → fbN ⟨l.toArray⟩ base k = vL base 0 (l.take k)
  | 0, _ => by simp [fbN, vL]
  | k + 1, hk => by
    have hk' : k < l.length := hk
    rw [fbN, fbN_vL base l k (by omega), List.take_succ_eq_append_getElem hk', vL_snoc, bAt_mk, List.getElem?_eq_getElem hk']
theorem fbN_all (base : Nat) (l : List UInt8) : fbN ⟨l.toArray⟩ base l.length = vL base 0 l := by
  rw [fbN_vL base l _ (Nat.le_refl _), List.take_length]
theorem num_lt {n : Nm} {N : Nat} (h : NmOk n N) : n.num < 16 ^ n.digits.length := by
  unfold Nm.num
  rw [← fbN_all]
  exact fbN_lt (by unfold Nm.base; split <;> omega) h.dig n.digits.length (Nat.le_refl _)
theorem pow16 {a b : Nat} (h : a ≤ 16 * b) : 16 ^ a ≤ 18446744073709551616 ^ b := by
  rw [show 18446744073709551616 = 16 ^ 16 from rfl, ← Nat.pow_mul]
  exact Nat.pow_le_pow_right (by omega) h
/-- At most 20 words. -/
theorem num_words {n : Nm} {N : Nat} (h : NmOk n N) (hN : N ≤ 301) : (digs n.num).length ≤ 20 :=
  digs_len (Nat.lt_of_lt_of_le (num_lt h) (pow16 (by have := h.len; omega)))
theorem Says.num {r : RNum} {n : Nm} (h : Says r n) (hk : n.kind ≤ 1) : ∃ g, r = ⟨n.kind + 1, n.neg, n.num, clampE n.exp - (n.each * n.behind : Nat), g⟩ := by
  rcases h with ⟨k, g, h⟩ | ⟨k, g, h⟩ | ⟨k, h⟩ | ⟨k, _, h⟩
  · exact ⟨g, by rw [h, Nm.num, Nm.base, Nm.each, k]; rfl⟩
  · exact ⟨g, by rw [h, Nm.num, Nm.base, Nm.each, k]; rfl⟩
  · omega
  · omega
/-
  parse: dec, special, mag, Exact.
-/
attribute [local go_sem] evalOps_nil evalOps_cons runW_t runW_f runE_s runP_s wantA evalOp effOp letters okDst coreA St.opv St.get St.at look constA St.put St.upd St.set decide_true List.all_nil List.all_cons Bool.and_true Bool.true_and and_self and_true true_and if_true if_false true_or Int.sub_zero List.nil_append List.cons_append List.append_nil Option.isSome_some List.getElem?_toArray List.getElem?_cons_succ List.getElem?_cons_zero Option.bind_some Option.map_some Option.map_none beq_self_eq_true Bool.false_beq Bool.true_beq Bool.not_true Bool.not_false Bool.false_eq_true cond_true cond_false binA binI List.map_cons List.map_nil boundA List.length_nil List.length_cons Nat.zero_mul Nat.one_mul Nat.mul_one Nat.zero_add Nat.add_zero Nat.zero_le Option.toList St.freshB AV.ment AV.ments Blk.ment V.sizes Nat.lt_add_one Bool.or_true Bool.true_or Bool.or_false Bool.false_or Bool.or_self if_pos if_neg decide_false decide_eq_true decide_eq_false wrap_i64 Int.toNat_natCast minA maxA Int.natCast_add Int.cast_ofNat_Int Option.isSome_none false_implies true_implies forall_const List.drop_zero Int.toNat_zero Int.add_sub_cancel lenA sliceA loadA indexAddrA partA fitsT V.atP V.offP V.size List.length_map List.getElem?_map Int.toNat_natCast_add_one Int.ofNat_eq_natCast TY calleeA capArg knotA capArgs toArgs toArg callA R.res R.mems R.blks R.av R.names R.nw invokeA storeA storeV fieldAddrA liveB V.off V.offs V.setP List.set_cons_zero List.set_cons_succ buildA buildP partsA appendA srcA copyA boxOk makeA AV.pure List.take_succ_cons List.take_zero nilA words entry List.zipIdx_cons List.zipIdx_nil Arg.av Arg.avs

/-- A Dec: its kind, sign, coefficient, exponent. -/
def decV (k : Nat) (neg : Bool) (m : Nat) (e : Int) : V := .agg [.int .i64 (k : Nat), .bool neg, words (digs m), .int .i64 e]
theorem decV_eq (k : Nat) (neg : Bool) (m : Nat) (e : Int) : decV k neg m e = .agg [.int .i64 (k : Nat), .bool neg, .sl 1 ((digs m).map fun n => .int .u64 n), .int .i64 e] := rfl
theorem decV_zero (k : Nat) (neg : Bool) (e : Int) : decV k neg 0 e = .agg [.int .i64 (k : Nat), .bool neg, .sl 1 [], .int .i64 e] := rfl

set_option maxRecDepth 100000 in
theorem dec_none (t : ByteArray) (ht : t.size ≤ 301) (h : rdB t = false ∨ ∃ n, longM t true = some n ∧ n.kind = 1) :
    FnOk Tryz.prog 55 [.v (.str t)] [.v true (.agg [.int .i64 (0 : Nat), .bool false, .str ⟨#[]⟩, .int .i64 0, .int .i64 0, .int .i64 0, .bool false]), .v true (.int .i64 6)] := by
  have hL := read_ok t (by omega)
  have gs : ¬ (65536 : Int) < t.size := by omega
  refine FnOk.of Tryz.func55 rfl rfl fun cx w0 => ?_
  rw [show Tryz.f55.ntmps = 24 from rfl]
  rcases h with h | ⟨n, h, hk⟩
  · rw [h] at hL
    obtain ⟨k, neg, d, bh, e, len, sg, hf⟩ := lgV_form (longM t true)
    rw [hf] at hL
    refine Holds.step (Px := px) (T := TT) (ρ := fun _ => []) TTe (by simp (maxSteps := 100000) (disch := omega) only [go_sem, V.isAgg, V.flat, ↓reduceIte, Nat.reduceAdd, Nat.reduceSub, Nat.reduceLT, Nat.reduceEqDiff, reduceCtorEq, Nat.reduceLeDiff, Nat.reduceBEq, Nat.reduceMul, Int.reduceToNat, List.length_cons, List.length_nil]; rfl) (by repeat' first | exact trivial | constructor) ?_
    refine Holds.seq ?_
    refine Holds.step (Px := px) (T := TT) (ρ := fun _ => []) TTe (by simp (maxSteps := 100000) (disch := omega) only [go_sem, V.isAgg, V.flat, ↓reduceIte, Nat.reduceAdd, Nat.reduceSub, Nat.reduceLT, Nat.reduceEqDiff, reduceCtorEq, Nat.reduceLeDiff, Nat.reduceBEq, Nat.reduceMul, Int.reduceToNat, gs]; rfl) (by repeat' first | exact trivial | constructor) ?_
    refine Holds.condF rfl (Holds.skip ?_)
    refine Holds.step (Px := px) (T := TT) (ρ := fun _ => [.v true (.agg [.int .i64 k, .bool neg, .str d, .int .i64 bh, .int .i64 e, .int .i64 len, .bool sg]), .v true (.bool false)]) TTe (by simp (maxSteps := 100000) (disch := omega) only [go_sem, V.isAgg, V.flat, ↓reduceIte, Nat.reduceAdd, Nat.reduceSub, Nat.reduceLT, Nat.reduceEqDiff, reduceCtorEq, Nat.reduceLeDiff, Nat.reduceBEq, Nat.reduceMul, Int.reduceToNat]; rfl) (by first | exact hL | (repeat' first | exact trivial | exact hL | constructor)) ?_
    refine Holds.seq ?_
    refine Holds.step (Px := px) (T := TT) (ρ := fun _ => []) TTe (by simp (maxSteps := 100000) (disch := omega) only [go_sem, V.isAgg, V.flat, ↓reduceIte, Nat.reduceAdd, Nat.reduceSub, Nat.reduceLT, Nat.reduceEqDiff, reduceCtorEq, Nat.reduceLeDiff, Nat.reduceBEq, Nat.reduceMul, Int.reduceToNat, unA]; rfl) (by repeat' first | exact trivial | constructor) ?_
    refine Holds.condT rfl ?_
    refine Holds.step (Px := px) (T := TT) (ρ := fun _ => []) TTe (by simp (maxSteps := 100000) (disch := omega) only [go_sem, V.isAgg, V.flat, ↓reduceIte, Nat.reduceAdd, Nat.reduceSub, Nat.reduceLT, Nat.reduceEqDiff, reduceCtorEq, Nat.reduceLeDiff, Nat.reduceBEq, Nat.reduceMul, Int.reduceToNat]; rfl) (by repeat' first | exact trivial | constructor) ?_
    exact Holds.ret (RetOk.vs rfl (by exact ⟨⟨rfl, fun h => h⟩, ⟨rfl, fun h => h⟩, trivial⟩) rfl)
  · obtain ⟨b, hb⟩ : ∃ b, b = rdB t := ⟨_, rfl⟩
    rw [h, ← hb] at hL
    obtain ⟨k, neg, d, bh, e, len, sg⟩ := n
    unfold lgV Nm.v numV at hL
    simp only at hL hk
    subst hk
    refine Holds.step (Px := px) (T := TT) (ρ := fun _ => []) TTe (by simp (maxSteps := 100000) (disch := omega) only [go_sem, V.isAgg, V.flat, ↓reduceIte, Nat.reduceAdd, Nat.reduceSub, Nat.reduceLT, Nat.reduceEqDiff, reduceCtorEq, Nat.reduceLeDiff, Nat.reduceBEq, Nat.reduceMul, Int.reduceToNat, List.length_cons, List.length_nil]; rfl) (by repeat' first | exact trivial | constructor) ?_
    refine Holds.seq ?_
    refine Holds.step (Px := px) (T := TT) (ρ := fun _ => []) TTe (by simp (maxSteps := 100000) (disch := omega) only [go_sem, V.isAgg, V.flat, ↓reduceIte, Nat.reduceAdd, Nat.reduceSub, Nat.reduceLT, Nat.reduceEqDiff, reduceCtorEq, Nat.reduceLeDiff, Nat.reduceBEq, Nat.reduceMul, Int.reduceToNat, gs]; rfl) (by repeat' first | exact trivial | constructor) ?_
    refine Holds.condF rfl (Holds.skip ?_)
    refine Holds.step (Px := px) (T := TT) (ρ := fun _ => [.v true (.agg [.int .i64 (1 : Nat), .bool neg, .str ⟨d.toArray⟩, .int .i64 (bh : Nat), .int .i64 e, .int .i64 (len : Nat), .bool sg]), .v true (.bool b)]) TTe (by simp (maxSteps := 100000) (disch := omega) only [go_sem, V.isAgg, V.flat, ↓reduceIte, Nat.reduceAdd, Nat.reduceSub, Nat.reduceLT, Nat.reduceEqDiff, reduceCtorEq, Nat.reduceLeDiff, Nat.reduceBEq, Nat.reduceMul, Int.reduceToNat]; rfl) (by first | exact hL | (repeat' first | exact trivial | exact hL | constructor)) ?_
    cases b with
    | false =>
      refine Holds.seq ?_
      refine Holds.step (Px := px) (T := TT) (ρ := fun _ => []) TTe (by simp (maxSteps := 100000) (disch := omega) only [go_sem, V.isAgg, V.flat, ↓reduceIte, Nat.reduceAdd, Nat.reduceSub, Nat.reduceLT, Nat.reduceEqDiff, reduceCtorEq, Nat.reduceLeDiff, Nat.reduceBEq, Nat.reduceMul, Int.reduceToNat, unA]; rfl) (by repeat' first | exact trivial | constructor) ?_
      refine Holds.condT rfl ?_
      refine Holds.step (Px := px) (T := TT) (ρ := fun _ => []) TTe (by simp (maxSteps := 100000) (disch := omega) only [go_sem, V.isAgg, V.flat, ↓reduceIte, Nat.reduceAdd, Nat.reduceSub, Nat.reduceLT, Nat.reduceEqDiff, reduceCtorEq, Nat.reduceLeDiff, Nat.reduceBEq, Nat.reduceMul, Int.reduceToNat]; rfl) (by repeat' first | exact trivial | constructor) ?_
      exact Holds.ret (RetOk.vs rfl (by exact ⟨⟨rfl, fun h => h⟩, ⟨rfl, fun h => h⟩, trivial⟩) rfl)
    | true =>
      refine Holds.seq ?_
      refine Holds.step (Px := px) (T := TT) (ρ := fun _ => []) TTe (by simp (maxSteps := 100000) (disch := omega) only [go_sem, V.isAgg, V.flat, ↓reduceIte, Nat.reduceAdd, Nat.reduceSub, Nat.reduceLT, Nat.reduceEqDiff, reduceCtorEq, Nat.reduceLeDiff, Nat.reduceBEq, Nat.reduceMul, Int.reduceToNat, unA]; rfl) (by repeat' first | exact trivial | constructor) ?_
      refine Holds.condT rfl ?_
      refine Holds.step (Px := px) (T := TT) (ρ := fun _ => []) TTe (by simp (maxSteps := 100000) (disch := omega) only [go_sem, V.isAgg, V.flat, ↓reduceIte, Nat.reduceAdd, Nat.reduceSub, Nat.reduceLT, Nat.reduceEqDiff, reduceCtorEq, Nat.reduceLeDiff, Nat.reduceBEq, Nat.reduceMul, Int.reduceToNat]; rfl) (by repeat' first | exact trivial | constructor) ?_
      exact Holds.ret (RetOk.vs rfl (by exact ⟨⟨rfl, fun h => h⟩, ⟨rfl, fun h => h⟩, trivial⟩) rfl)

set_option maxRecDepth 100000 in
theorem dec_some (t : ByteArray) (ht : t.size ≤ 301) {n : Nm} (h : longM t true = some n) (hr : rdB t = true) (hk : n.kind ≠ 1) :
    FnOk Tryz.prog 55 [.v (.str t)] [.v true n.v, .v true (.int .i64 0)] := by
  have hL := read_ok t (by omega)
  have gs : ¬ (65536 : Int) < t.size := by omega
  rw [h, hr] at hL
  obtain ⟨k, neg, d, bh, e, len, sg⟩ := n
  unfold lgV at hL
  unfold Nm.v numV at hL ⊢
  simp only at hL hk ⊢
  have gk : ¬ (k : Int) = 1 := by omega
  refine FnOk.of Tryz.func55 rfl rfl fun cx w0 => ?_
  rw [show Tryz.f55.ntmps = 24 from rfl]
  refine Holds.step (Px := px) (T := TT) (ρ := fun _ => []) TTe (by simp (maxSteps := 100000) (disch := omega) only [go_sem, V.isAgg, V.flat, ↓reduceIte, Nat.reduceAdd, Nat.reduceSub, Nat.reduceLT, Nat.reduceEqDiff, reduceCtorEq, Nat.reduceLeDiff, Nat.reduceBEq, Nat.reduceMul, Int.reduceToNat, List.length_cons, List.length_nil]; rfl) (by repeat' first | exact trivial | constructor) ?_
  refine Holds.seq ?_
  refine Holds.step (Px := px) (T := TT) (ρ := fun _ => []) TTe (by simp (maxSteps := 100000) (disch := omega) only [go_sem, V.isAgg, V.flat, ↓reduceIte, Nat.reduceAdd, Nat.reduceSub, Nat.reduceLT, Nat.reduceEqDiff, reduceCtorEq, Nat.reduceLeDiff, Nat.reduceBEq, Nat.reduceMul, Int.reduceToNat, gs]; rfl) (by repeat' first | exact trivial | constructor) ?_
  refine Holds.condF rfl (Holds.skip ?_)
  refine Holds.step (Px := px) (T := TT) (ρ := fun _ => [.v true (.agg [.int .i64 (k : Nat), .bool neg, .str ⟨d.toArray⟩, .int .i64 (bh : Nat), .int .i64 e, .int .i64 (len : Nat), .bool sg]), .v true (.bool true)]) TTe (by simp (maxSteps := 100000) (disch := omega) only [go_sem, V.isAgg, V.flat, ↓reduceIte, Nat.reduceAdd, Nat.reduceSub, Nat.reduceLT, Nat.reduceEqDiff, reduceCtorEq, Nat.reduceLeDiff, Nat.reduceBEq, Nat.reduceMul, Int.reduceToNat]; rfl) (by first | exact hL | (repeat' first | exact trivial | exact hL | constructor)) ?_
  refine Holds.seq ?_
  refine Holds.step (Px := px) (T := TT) (ρ := fun _ => []) TTe (by simp (maxSteps := 100000) (disch := omega) only [go_sem, V.isAgg, V.flat, ↓reduceIte, Nat.reduceAdd, Nat.reduceSub, Nat.reduceLT, Nat.reduceEqDiff, reduceCtorEq, Nat.reduceLeDiff, Nat.reduceBEq, Nat.reduceMul, Int.reduceToNat, unA, gk]; rfl) (by repeat' first | exact trivial | constructor) ?_
  refine Holds.condF rfl (Holds.skip ?_)
  refine Holds.step (Px := px) (T := TT) (ρ := fun _ => []) TTe (by simp (maxSteps := 100000) (disch := omega) only [go_sem, V.isAgg, V.flat, ↓reduceIte, Nat.reduceAdd, Nat.reduceSub, Nat.reduceLT, Nat.reduceEqDiff, reduceCtorEq, Nat.reduceLeDiff, Nat.reduceBEq, Nat.reduceMul, Int.reduceToNat]; rfl) (by repeat' first | exact trivial | constructor) ?_
  exact Holds.ret (RetOk.vs rfl (by exact ⟨⟨rfl, fun h => h⟩, ⟨rfl, fun h => h⟩, trivial⟩) rfl)

/-- What special gives. -/
def spV (n : Nm) : V := if n.kind = 3 then decV 2 false 0 0 else if n.kind = 2 then decV 1 n.neg 0 0 else decV 0 false 0 0
set_option maxRecDepth 100000 in
theorem special_ok (n : Nm) : FnOk Tryz.prog 56 [.v n.v] [.v true (spV n), .v true (.bool (decide (n.kind = 3 ∨ n.kind = 2)))] := by
  obtain ⟨k, neg, d, bh, e, len, sg⟩ := n
  unfold spV Nm.v numV
  simp only
  refine FnOk.of Tryz.func56 rfl rfl fun cx w0 => ?_
  rw [show Tryz.f56.ntmps = 15 from rfl]
  by_cases h3 : k = 3
  · rw [decide_eq_true (Or.inl h3), if_pos h3, decV_zero]
    subst h3
    refine Holds.step (Px := px) (T := TT) (ρ := fun _ => []) TTe (by simp (maxSteps := 100000) (disch := omega) only [go_sem, V.isAgg, V.flat, ↓reduceIte, Nat.reduceAdd, Nat.reduceSub, Nat.reduceLT, Nat.reduceEqDiff, reduceCtorEq, Nat.reduceLeDiff, Nat.reduceBEq, Nat.reduceMul, Int.reduceToNat, List.length_cons, List.length_nil]; rfl) (by repeat' first | exact trivial | constructor) ?_
    refine Holds.seq ?_
    refine Holds.step (Px := px) (T := TT) (ρ := fun _ => []) TTe (by simp (maxSteps := 100000) (disch := omega) only [go_sem, V.isAgg, V.flat, ↓reduceIte, Nat.reduceAdd, Nat.reduceSub, Nat.reduceLT, Nat.reduceEqDiff, reduceCtorEq, Nat.reduceLeDiff, Nat.reduceBEq, Nat.reduceMul, Int.reduceToNat]; rfl) (by repeat' first | exact trivial | constructor) ?_
    refine Holds.block ?_
    refine Holds.step (Px := px) (T := TT) (ρ := fun _ => []) TTe (by simp (maxSteps := 100000) (disch := omega) only [go_sem, V.isAgg, V.flat, ↓reduceIte, Nat.reduceAdd, Nat.reduceSub, Nat.reduceLT, Nat.reduceEqDiff, reduceCtorEq, Nat.reduceLeDiff, Nat.reduceBEq, Nat.reduceMul, Int.reduceToNat]; rfl) (by repeat' first | exact trivial | constructor) ?_
    refine Holds.condT rfl ?_
    refine Holds.step (Px := px) (T := TT) (ρ := fun _ => []) TTe (by simp (maxSteps := 100000) (disch := omega) only [go_sem, V.isAgg, V.flat, ↓reduceIte, Nat.reduceAdd, Nat.reduceSub, Nat.reduceLT, Nat.reduceEqDiff, reduceCtorEq, Nat.reduceLeDiff, Nat.reduceBEq, Nat.reduceMul, Int.reduceToNat]; rfl) (by repeat' first | exact trivial | constructor) ?_
    exact Holds.ret (RetOk.vs rfl (by exact ⟨⟨rfl, fun h => h⟩, ⟨rfl, fun h => h⟩, trivial⟩) rfl)
  · have g3 : ¬ (k : Int) = 3 := by omega
    by_cases h2 : k = 2
    · rw [decide_eq_true (Or.inr h2), if_neg h3, if_pos h2, decV_zero]
      subst h2
      refine Holds.step (Px := px) (T := TT) (ρ := fun _ => []) TTe (by simp (maxSteps := 100000) (disch := omega) only [go_sem, V.isAgg, V.flat, ↓reduceIte, Nat.reduceAdd, Nat.reduceSub, Nat.reduceLT, Nat.reduceEqDiff, reduceCtorEq, Nat.reduceLeDiff, Nat.reduceBEq, Nat.reduceMul, Int.reduceToNat, List.length_cons, List.length_nil]; rfl) (by repeat' first | exact trivial | constructor) ?_
      refine Holds.seq ?_
      refine Holds.step (Px := px) (T := TT) (ρ := fun _ => []) TTe (by simp (maxSteps := 100000) (disch := omega) only [go_sem, V.isAgg, V.flat, ↓reduceIte, Nat.reduceAdd, Nat.reduceSub, Nat.reduceLT, Nat.reduceEqDiff, reduceCtorEq, Nat.reduceLeDiff, Nat.reduceBEq, Nat.reduceMul, Int.reduceToNat]; rfl) (by repeat' first | exact trivial | constructor) ?_
      refine Holds.block ?_
      refine Holds.step (Px := px) (T := TT) (ρ := fun _ => []) TTe (by simp (maxSteps := 100000) (disch := omega) only [go_sem, V.isAgg, V.flat, ↓reduceIte, Nat.reduceAdd, Nat.reduceSub, Nat.reduceLT, Nat.reduceEqDiff, reduceCtorEq, Nat.reduceLeDiff, Nat.reduceBEq, Nat.reduceMul, Int.reduceToNat]; rfl) (by repeat' first | exact trivial | constructor) ?_
      refine Holds.condF rfl ?_
      refine Holds.step (Px := px) (T := TT) (ρ := fun _ => []) TTe (by simp (maxSteps := 100000) (disch := omega) only [go_sem, V.isAgg, V.flat, ↓reduceIte, Nat.reduceAdd, Nat.reduceSub, Nat.reduceLT, Nat.reduceEqDiff, reduceCtorEq, Nat.reduceLeDiff, Nat.reduceBEq, Nat.reduceMul, Int.reduceToNat]; rfl) (by repeat' first | exact trivial | constructor) ?_
      refine Holds.condT rfl ?_
      refine Holds.step (Px := px) (T := TT) (ρ := fun _ => []) TTe (by simp (maxSteps := 100000) (disch := omega) only [go_sem, V.isAgg, V.flat, ↓reduceIte, Nat.reduceAdd, Nat.reduceSub, Nat.reduceLT, Nat.reduceEqDiff, reduceCtorEq, Nat.reduceLeDiff, Nat.reduceBEq, Nat.reduceMul, Int.reduceToNat]; rfl) (by repeat' first | exact trivial | constructor) ?_
      exact Holds.ret (RetOk.vs rfl (by exact ⟨⟨rfl, fun h => h⟩, ⟨rfl, fun h => h⟩, trivial⟩) rfl)
    · have g2 : ¬ (k : Int) = 2 := by omega
      rw [decide_eq_false (by omega), if_neg h3, if_neg h2, decV_zero]
      refine Holds.step (Px := px) (T := TT) (ρ := fun _ => []) TTe (by simp (maxSteps := 100000) (disch := omega) only [go_sem, V.isAgg, V.flat, ↓reduceIte, Nat.reduceAdd, Nat.reduceSub, Nat.reduceLT, Nat.reduceEqDiff, reduceCtorEq, Nat.reduceLeDiff, Nat.reduceBEq, Nat.reduceMul, Int.reduceToNat, List.length_cons, List.length_nil]; rfl) (by repeat' first | exact trivial | constructor) ?_
      refine Holds.seq ?_
      refine Holds.step (Px := px) (T := TT) (ρ := fun _ => []) TTe (by simp (maxSteps := 100000) (disch := omega) only [go_sem, V.isAgg, V.flat, ↓reduceIte, Nat.reduceAdd, Nat.reduceSub, Nat.reduceLT, Nat.reduceEqDiff, reduceCtorEq, Nat.reduceLeDiff, Nat.reduceBEq, Nat.reduceMul, Int.reduceToNat]; rfl) (by repeat' first | exact trivial | constructor) ?_
      refine Holds.block ?_
      refine Holds.step (Px := px) (T := TT) (ρ := fun _ => []) TTe (by simp (maxSteps := 100000) (disch := omega) only [go_sem, V.isAgg, V.flat, ↓reduceIte, Nat.reduceAdd, Nat.reduceSub, Nat.reduceLT, Nat.reduceEqDiff, reduceCtorEq, Nat.reduceLeDiff, Nat.reduceBEq, Nat.reduceMul, Int.reduceToNat, g3]; rfl) (by repeat' first | exact trivial | constructor) ?_
      refine Holds.condF rfl ?_
      refine Holds.step (Px := px) (T := TT) (ρ := fun _ => []) TTe (by simp (maxSteps := 100000) (disch := omega) only [go_sem, V.isAgg, V.flat, ↓reduceIte, Nat.reduceAdd, Nat.reduceSub, Nat.reduceLT, Nat.reduceEqDiff, reduceCtorEq, Nat.reduceLeDiff, Nat.reduceBEq, Nat.reduceMul, Int.reduceToNat, g2]; rfl) (by repeat' first | exact trivial | constructor) ?_
      refine Holds.condF rfl (Holds.skip ?_)
      refine Holds.step (Px := px) (T := TT) (ρ := fun _ => []) TTe (by simp (maxSteps := 100000) (disch := omega) only [go_sem, V.isAgg, V.flat, ↓reduceIte, Nat.reduceAdd, Nat.reduceSub, Nat.reduceLT, Nat.reduceEqDiff, reduceCtorEq, Nat.reduceLeDiff, Nat.reduceBEq, Nat.reduceMul, Int.reduceToNat]; rfl) (by repeat' first | exact trivial | constructor) ?_
      exact Holds.ret (RetOk.vs rfl (by exact ⟨⟨rfl, fun h => h⟩, ⟨rfl, fun h => h⟩, trivial⟩) rfl)

theorem size_mk (l : List UInt8) : (⟨l.toArray⟩ : ByteArray).size = l.length := rfl
set_option maxRecDepth 100000 in
theorem mag_ok {n : Nm} {N : Nat} (h : NmOk n N) (hN : N ≤ 301) : FnOk Tryz.prog 35 [.v n.v] [.v true (words (digs n.num)), .v true (.int .i64 (n.exp - (n.each * n.behind : Nat)))] := by
  have hF := fromBase_ok ⟨n.digits.toArray⟩ n.base (by rw [size_mk]; have := h.len; omega) (by unfold Nm.base; split <;> omega) (by unfold Nm.base; split <;> omega) h.dig
  rw [size_mk, fbN_all, ← show n.num = vL n.base 0 n.digits from rfl] at hF
  obtain ⟨m, hm⟩ : ∃ m, m = n.num := ⟨_, rfl⟩
  rw [← hm] at hF ⊢
  have hb := h.beh
  have hlo := h.lo
  have hhi := h.hi
  unfold Nm.each
  unfold Nm.base at hF
  clear h hm
  obtain ⟨k, neg, d, bh, e, len, sg⟩ := n
  unfold Nm.v numV
  simp only at hF hb hlo hhi ⊢
  refine FnOk.of Tryz.func35 rfl rfl fun cx w0 => ?_
  rw [show Tryz.f35.ntmps = 24 from rfl]
  by_cases hk : k = 1
  · subst hk
    rw [if_pos rfl] at hF ⊢
    have w1 : IntKind.i64.wrap (4 * (bh : Int)) = ((4 * bh : Nat) : Int) := by rw [wrap_i64] <;> omega
    have w2 : IntKind.i64.wrap (e - ((4 * bh : Nat) : Int)) = e - ((4 * bh : Nat) : Int) := by rw [wrap_i64] <;> omega
    have hF : FnOk Tryz.prog 77 [.v (.str ⟨d.toArray⟩), .v (.int .u64 16)] [.v true (words (digs m))] := hF
    refine Holds.step (Px := px) (T := TT) (ρ := fun _ => []) TTe (by simp (maxSteps := 100000) (disch := omega) only [go_sem, V.isAgg, V.flat, ↓reduceIte, Nat.reduceAdd, Nat.reduceSub, Nat.reduceLT, Nat.reduceEqDiff, reduceCtorEq, Nat.reduceLeDiff, Nat.reduceBEq, Nat.reduceMul, Int.reduceToNat, List.length_cons, List.length_nil]; rfl) (by repeat' first | exact trivial | constructor) ?_
    refine Holds.seq ?_
    refine Holds.step (Px := px) (T := TT) (ρ := fun _ => []) TTe (by simp (maxSteps := 100000) (disch := omega) only [go_sem, V.isAgg, V.flat, ↓reduceIte, Nat.reduceAdd, Nat.reduceSub, Nat.reduceLT, Nat.reduceEqDiff, reduceCtorEq, Nat.reduceLeDiff, Nat.reduceBEq, Nat.reduceMul, Int.reduceToNat]; rfl) (by repeat' first | exact trivial | constructor) ?_
    refine Holds.condT rfl ?_
    refine Holds.dstep (Px := px) (T := TT) (ρ := fun _ => [.v true (words (digs m))]) [] mixed (by kernel_rfl) TTe (by simp (maxSteps := 100000) (disch := omega) only [go_sem, V.isAgg, V.flat, ↓reduceIte, Nat.reduceAdd, Nat.reduceSub, Nat.reduceLT, Nat.reduceEqDiff, reduceCtorEq, Nat.reduceLeDiff, Nat.reduceBEq, Nat.reduceMul, Int.reduceToNat, w1, w2]; rfl) (by first | exact hF | (repeat' first | exact trivial | exact hF | constructor)) (by rfl) (by rfl) (by rfl) ?_
    exact Holds.ret (RetOk.vs rfl (by exact ⟨⟨rfl, fun h => h⟩, ⟨rfl, fun h => h⟩, trivial⟩) rfl)
  · have gk : ¬ (k : Int) = 1 := by omega
    rw [if_neg hk] at hF ⊢
    rw [Nat.one_mul]
    have w2 : IntKind.i64.wrap (e - (bh : Int)) = e - (bh : Int) := by rw [wrap_i64] <;> omega
    have hF : FnOk Tryz.prog 77 [.v (.str ⟨d.toArray⟩), .v (.int .u64 10)] [.v true (words (digs m))] := hF
    refine Holds.step (Px := px) (T := TT) (ρ := fun _ => []) TTe (by simp (maxSteps := 100000) (disch := omega) only [go_sem, V.isAgg, V.flat, ↓reduceIte, Nat.reduceAdd, Nat.reduceSub, Nat.reduceLT, Nat.reduceEqDiff, reduceCtorEq, Nat.reduceLeDiff, Nat.reduceBEq, Nat.reduceMul, Int.reduceToNat, List.length_cons, List.length_nil]; rfl) (by repeat' first | exact trivial | constructor) ?_
    refine Holds.seq ?_
    refine Holds.step (Px := px) (T := TT) (ρ := fun _ => []) TTe (by simp (maxSteps := 100000) (disch := omega) only [go_sem, V.isAgg, V.flat, ↓reduceIte, Nat.reduceAdd, Nat.reduceSub, Nat.reduceLT, Nat.reduceEqDiff, reduceCtorEq, Nat.reduceLeDiff, Nat.reduceBEq, Nat.reduceMul, Int.reduceToNat, gk]; rfl) (by repeat' first | exact trivial | constructor) ?_
    refine Holds.condF rfl (Holds.skip ?_)
    refine Holds.dstep (Px := px) (T := TT) (ρ := fun _ => [.v true (words (digs m))]) [] mixed (by kernel_rfl) TTe (by simp (maxSteps := 100000) (disch := omega) only [go_sem, V.isAgg, V.flat, ↓reduceIte, Nat.reduceAdd, Nat.reduceSub, Nat.reduceLT, Nat.reduceEqDiff, reduceCtorEq, Nat.reduceLeDiff, Nat.reduceBEq, Nat.reduceMul, Int.reduceToNat, w2]; rfl) (by first | exact hF | (repeat' first | exact trivial | exact hF | constructor)) (by rfl) (by rfl) (by rfl) ?_
    exact Holds.ret (RetOk.vs rfl (by exact ⟨⟨rfl, fun h => h⟩, ⟨rfl, fun h => h⟩, trivial⟩) rfl)
/-
  Decs: Their, None, Equal, Canonical, Is, Fits.
-/

theorem None_ok : FnOk Tryz.prog 60 [.v (decV 0 false 0 0)] [.v true (.bool true)] := by
  rw [decV_zero]
  refine FnOk.of Tryz.func60 rfl rfl fun cx w0 => ?_
  rw [show Tryz.f60.ntmps = 22 from rfl]
  refine Holds.step (Px := px) (T := TT) (ρ := fun _ => []) TTe (by simp (maxSteps := 100000) (disch := omega) only [go_sem, V.isAgg, V.flat, ↓reduceIte, Nat.reduceAdd, Nat.reduceSub, Nat.reduceLT, Nat.reduceEqDiff, reduceCtorEq, Nat.reduceLeDiff, Nat.reduceBEq, Nat.reduceMul, Int.reduceToNat, List.length_cons, List.length_nil]; rfl) (by repeat' first | exact trivial | constructor) ?_
  refine Holds.step (Px := px) (T := TT) (ρ := fun _ => []) TTe (by simp (maxSteps := 100000) (disch := omega) only [go_sem, V.isAgg, V.flat, ↓reduceIte, Nat.reduceAdd, Nat.reduceSub, Nat.reduceLT, Nat.reduceEqDiff, reduceCtorEq, Nat.reduceLeDiff, Nat.reduceBEq, Nat.reduceMul, Int.reduceToNat, unA]; rfl) (by repeat' first | exact trivial | constructor) ?_
  exact Holds.ret (RetOk.vs rfl (by exact ⟨⟨rfl, fun h => h⟩, trivial⟩) rfl)

set_option maxRecDepth 100000 in
theorem Their_ok (k : Nat) (neg : Bool) (m : Nat) (e : Int) : FnOk Tryz.prog 58 [.v (decV k neg m e)] [.v false (decV k neg m e)] := by
  rw [decV_eq]
  obtain ⟨l, hl⟩ : ∃ l, l = digs m := ⟨_, rfl⟩
  rw [← hl]
  refine FnOk.of Tryz.func58 rfl rfl fun cx w0 => ?_
  rw [show Tryz.f58.ntmps = 12 from rfl]
  refine Holds.step (Px := px) (T := TT) (ρ := fun _ => []) TTe (by simp (maxSteps := 100000) (disch := omega) only [go_sem, V.isAgg, V.flat, ↓reduceIte, Nat.reduceAdd, Nat.reduceSub, Nat.reduceLT, Nat.reduceEqDiff, reduceCtorEq, Nat.reduceLeDiff, Nat.reduceBEq, Nat.reduceMul, Int.reduceToNat, List.length_cons, List.length_nil]; rfl) (by repeat' first | exact trivial | constructor) ?_
  refine Holds.step (Px := px) (T := TT) (ρ := fun _ => []) TTe (by simp (maxSteps := 100000) (disch := omega) only [go_sem, V.isAgg, V.flat, ↓reduceIte, Nat.reduceAdd, Nat.reduceSub, Nat.reduceLT, Nat.reduceEqDiff, reduceCtorEq, Nat.reduceLeDiff, Nat.reduceBEq, Nat.reduceMul, Int.reduceToNat]; rfl) (by repeat' first | exact trivial | constructor) ?_
  exact Holds.ret (RetOk.vs rfl (by exact ⟨⟨rfl, by simp⟩, trivial⟩) rfl)

set_option maxRecDepth 100000 in
theorem Canonical_ok (k : Nat) (neg : Bool) (m : Nat) (e : Int) (hm : (digs m).length < 100000) : FnOk Tryz.prog 116 [.v (decV k neg m e)] [.v false (decV k neg m e)] := by
  have hT := rTrim_ok (digs m) hm (digs_ok m).1
  rw [(digs_ok m).2.2] at hT
  rw [decV_eq]
  obtain ⟨l, hl⟩ : ∃ l, l = digs m := ⟨_, rfl⟩
  rw [← hl] at hT ⊢
  refine FnOk.of Tryz.func116 rfl rfl fun cx w0 => ?_
  rw [show Tryz.f116.ntmps = 8 from rfl]
  refine Holds.step (Px := px) (T := TT) (ρ := fun _ => []) TTe (by simp (maxSteps := 100000) (disch := omega) only [go_sem, V.isAgg, V.flat, ↓reduceIte, Nat.reduceAdd, Nat.reduceSub, Nat.reduceLT, Nat.reduceEqDiff, reduceCtorEq, Nat.reduceLeDiff, Nat.reduceBEq, Nat.reduceMul, Int.reduceToNat, List.length_cons, List.length_nil]; rfl) (by repeat' first | exact trivial | constructor) ?_
  refine Holds.step (Px := px) (T := TT) (ρ := fun _ => [.v true (words l)]) TTe (by simp (maxSteps := 100000) (disch := omega) only [go_sem, V.isAgg, V.flat, ↓reduceIte, Nat.reduceAdd, Nat.reduceSub, Nat.reduceLT, Nat.reduceEqDiff, reduceCtorEq, Nat.reduceLeDiff, Nat.reduceBEq, Nat.reduceMul, Int.reduceToNat]; rfl) (by first | exact hT | (repeat' first | exact trivial | exact hT | constructor)) ?_
  refine Holds.step (Px := px) (T := TT) (ρ := fun _ => []) TTe (by simp (maxSteps := 100000) (disch := omega) only [go_sem, V.isAgg, V.flat, ↓reduceIte, Nat.reduceAdd, Nat.reduceSub, Nat.reduceLT, Nat.reduceEqDiff, reduceCtorEq, Nat.reduceLeDiff, Nat.reduceBEq, Nat.reduceMul, Int.reduceToNat, words]; rfl) (by repeat' first | exact trivial | constructor) ?_
  exact Holds.ret (RetOk.vs rfl (by exact ⟨⟨rfl, by simp⟩, trivial⟩) rfl)

set_option maxRecDepth 100000 in
theorem Equal_ok (k : Nat) (neg : Bool) (m : Nat) (e : Int) (hm : (digs m).length < 100000) : FnOk Tryz.prog 115 [.v (decV k neg m e), .v (decV k neg m e)] [.v true (.bool true)] := by
  rw [decV_eq]
  obtain ⟨l, hl⟩ : ∃ l, l = digs m := ⟨_, rfl⟩
  rw [← hl] at hm ⊢
  refine FnOk.of Tryz.func115 rfl rfl fun cx w0 => ?_
  rw [show Tryz.f115.ntmps = 52 from rfl]
  refine Holds.step (Px := px) (T := TT) (ρ := fun _ => []) TTe (by simp (maxSteps := 100000) (disch := omega) only [go_sem, V.isAgg, V.flat, ↓reduceIte, Nat.reduceAdd, Nat.reduceSub, Nat.reduceLT, Nat.reduceEqDiff, reduceCtorEq, Nat.reduceLeDiff, Nat.reduceBEq, Nat.reduceMul, Int.reduceToNat, List.length_cons, List.length_nil]; rfl) (by repeat' first | exact trivial | constructor) ?_
  refine Holds.next (fun σ => ∀ a w, Rel cx w0 σ a w → Rel cx w0 { nt := 52, env := [(2, .ptr 2 0 [] 0), (3, .ptr 3 0 [] 0)], mem := [(2, .box 59 (.v false (.agg [.int .i64 (k : Nat), .bool neg, .sl 1 (l.map fun n => .int .u64 n), .int .i64 e]))), (3, .box 59 (.v false (.agg [.int .i64 (k : Nat), .bool neg, .sl 1 (l.map fun n => .int .u64 n), .int .i64 e])))] } a w) ?_ ?_
  · cases neg
    · refine Holds.step (Px := px) (T := TT) (ρ := fun _ => []) TTe (by simp (maxSteps := 100000) (disch := omega) only [go_sem, V.isAgg, V.flat, ↓reduceIte, Nat.reduceAdd, Nat.reduceSub, Nat.reduceLT, Nat.reduceEqDiff, reduceCtorEq, Nat.reduceLeDiff, Nat.reduceBEq, Nat.reduceMul, Int.reduceToNat, eq_self]; rfl) (by repeat' first | exact trivial | constructor) ?_
      exact Holds.condF rfl (Holds.skip fun a w h => Rel.keep [2, 3] [2, 3] h)
    · refine Holds.step (Px := px) (T := TT) (ρ := fun _ => []) TTe (by simp (maxSteps := 100000) (disch := omega) only [go_sem, V.isAgg, V.flat, ↓reduceIte, Nat.reduceAdd, Nat.reduceSub, Nat.reduceLT, Nat.reduceEqDiff, reduceCtorEq, Nat.reduceLeDiff, Nat.reduceBEq, Nat.reduceMul, Int.reduceToNat, eq_self]; rfl) (by repeat' first | exact trivial | constructor) ?_
      exact Holds.condF rfl (Holds.skip fun a w h => Rel.keep [2, 3] [2, 3] h)
  · intro σ hσ
    refine Holds.from hσ ?_
    clear hσ
    refine Holds.next (fun σ => ∀ a w, Rel cx w0 σ a w → Rel cx w0 { nt := 52, env := [], mem := [] } a w) ?_ ?_
    · refine Holds.step (Px := px) (T := TT) (ρ := fun _ => []) TTe (by simp (maxSteps := 100000) (disch := omega) only [go_sem, V.isAgg, V.flat, ↓reduceIte, Nat.reduceAdd, Nat.reduceSub, Nat.reduceLT, Nat.reduceEqDiff, reduceCtorEq, Nat.reduceLeDiff, Nat.reduceBEq, Nat.reduceMul, Int.reduceToNat]; rfl) (by repeat' first | exact trivial | constructor) ?_
      refine Holds.loopB (fun i : Nat => { nt := 52, env := [(5, .v true (.int .i64 (i : Nat))), (2, .ptr 2 0 [] 0), (3, .ptr 3 0 [] 0)], mem := [(2, .box 59 (.v false (.agg [.int .i64 (k : Nat), .bool neg, .sl 1 (l.map fun n => .int .u64 n), .int .i64 e]))), (3, .box 59 (.v false (.agg [.int .i64 (k : Nat), .bool neg, .sl 1 (l.map fun n => .int .u64 n), .int .i64 e])))] }) (fun i => i ≤ l.length) (fun i => l.length - i) 0 (Nat.zero_le _) (fun a w h => Rel.keep [5, 2, 3] [2, 3] h) ?_
      intro i hi
      by_cases hlt : i < l.length
      · have g : (i : Int) < l.length := by omega
        have e1 : l[i]? = some (l.getD i 0) := by rw [List.getD_eq_getElem?_getD, List.getElem?_eq_getElem hlt]; rfl
        refine Holds.seq ?_
        refine Holds.step (Px := px) (T := TT) (ρ := fun _ => []) TTe (by simp (maxSteps := 100000) (disch := omega) only [go_sem, V.isAgg, V.flat, ↓reduceIte, Nat.reduceAdd, Nat.reduceSub, Nat.reduceLT, Nat.reduceEqDiff, reduceCtorEq, Nat.reduceLeDiff, Nat.reduceBEq, Nat.reduceMul, Int.reduceToNat, g]; rfl) (by repeat' first | exact trivial | constructor) ?_
        refine Holds.condT rfl (Holds.skip ?_)
        refine Holds.next (fun σ => ∀ a w, Rel cx w0 σ a w → Rel cx w0 { nt := 52, env := [(5, .v true (.int .i64 (i : Nat))), (2, .ptr 2 0 [] 0), (3, .ptr 3 0 [] 0)], mem := [(2, .box 59 (.v false (.agg [.int .i64 (k : Nat), .bool neg, .sl 1 (l.map fun n => .int .u64 n), .int .i64 e]))), (3, .box 59 (.v false (.agg [.int .i64 (k : Nat), .bool neg, .sl 1 (l.map fun n => .int .u64 n), .int .i64 e])))] } a w) ?_ ?_
        · refine Holds.blockN ?_
          refine Holds.dstep (Px := px) (T := TT) (ρ := fun _ => []) [] mixed (by kernel_rfl) TTe (by simp (maxSteps := 100000) (disch := omega) only [go_sem, V.isAgg, V.flat, ↓reduceIte, Nat.reduceAdd, Nat.reduceSub, Nat.reduceLT, Nat.reduceEqDiff, reduceCtorEq, Nat.reduceLeDiff, Nat.reduceBEq, Nat.reduceMul, Int.reduceToNat, g, e1, eq_self]; rfl) (by repeat' first | exact trivial | constructor) (by rfl) (by rfl) (by rfl) ?_
          exact Holds.condF rfl (Holds.skip fun a w h => Rel.keep [5, 2, 3] [2, 3] h)
        · intro σ hσ
          refine Holds.from hσ ?_
          have w1 : IntKind.i64.wrap ((i : Int) + 1) = ((i + 1 : Nat) : Int) := by rw [wrap_i64] <;> omega
          refine Holds.region (Px := px) (T := TT) (ρ := fun _ => []) TTe (by simp (maxSteps := 100000) (disch := omega) only [go_sem, V.isAgg, V.flat, ↓reduceIte, Nat.reduceAdd, Nat.reduceSub, Nat.reduceLT, Nat.reduceEqDiff, reduceCtorEq, Nat.reduceLeDiff, Nat.reduceBEq, Nat.reduceMul, Int.reduceToNat, w1]; rfl) (by repeat' first | exact trivial | constructor) ?_
          exact ⟨i + 1, (by show i + 1 ≤ l.length; omega), (show l.length - (i + 1) < l.length - i by omega), fun a w h => Rel.keep [5, 2, 3] [2, 3] h⟩
      · have g : ¬ (i : Int) < l.length := by omega
        refine Holds.seq ?_
        refine Holds.step (Px := px) (T := TT) (ρ := fun _ => []) TTe (by simp (maxSteps := 100000) (disch := omega) only [go_sem, V.isAgg, V.flat, ↓reduceIte, Nat.reduceAdd, Nat.reduceSub, Nat.reduceLT, Nat.reduceEqDiff, reduceCtorEq, Nat.reduceLeDiff, Nat.reduceBEq, Nat.reduceMul, Int.reduceToNat, g]; rfl) (by repeat' first | exact trivial | constructor) ?_
        exact Holds.condF rfl (Holds.exit ⟨rfl, fun a w h => Rel.keep [] [] h⟩)
    · intro σ hσ
      refine Holds.from hσ ?_
      refine Holds.step (Px := px) (T := TT) (ρ := fun _ => []) TTe (by simp (maxSteps := 100000) (disch := omega) only [go_sem, V.isAgg, V.flat, ↓reduceIte, Nat.reduceAdd, Nat.reduceSub, Nat.reduceLT, Nat.reduceEqDiff, reduceCtorEq, Nat.reduceLeDiff, Nat.reduceBEq, Nat.reduceMul, Int.reduceToNat]; rfl) (by repeat' first | exact trivial | constructor) ?_
      exact Holds.ret (RetOk.vs rfl (by exact ⟨⟨rfl, fun h => h⟩, trivial⟩) rfl)

set_option maxRecDepth 100000 in
theorem dIs_ok (k : Nat) (neg : Bool) (m : Nat) (e : Int) (hm : (digs m).length < 100000) : FnOk Tryz.prog 61 [.v (decV k neg m e), .v (decV k neg m e)] [.v true (.bool true)] := by
  have h1 := Canonical_ok k neg m e hm
  have h2 := Equal_ok k neg m e hm
  rw [decV_eq] at h1 h2 ⊢
  obtain ⟨l, hl⟩ : ∃ l, l = digs m := ⟨_, rfl⟩
  rw [← hl] at h1 h2 ⊢
  refine FnOk.of Tryz.func61 rfl rfl fun cx w0 => ?_
  rw [show Tryz.f61.ntmps = 9 from rfl]
  refine Holds.step (Px := px) (T := TT) (ρ := fun _ => []) TTe (by simp (maxSteps := 100000) (disch := omega) only [go_sem, V.isAgg, V.flat, ↓reduceIte, Nat.reduceAdd, Nat.reduceSub, Nat.reduceLT, Nat.reduceEqDiff, reduceCtorEq, Nat.reduceLeDiff, Nat.reduceBEq, Nat.reduceMul, Int.reduceToNat, List.length_cons, List.length_nil]; rfl) (by repeat' first | exact trivial | constructor) ?_
  refine Holds.dstep (Px := px) (T := TT) (ρ := fun d => if d = 8 then [.v true (.bool true)] else [.v false (.agg [.int .i64 (k : Nat), .bool neg, .sl 1 (l.map fun n => .int .u64 n), .int .i64 e])]) [] mixed (by kernel_rfl) TTe (by simp (maxSteps := 100000) (disch := omega) only [go_sem, V.isAgg, V.flat, ↓reduceIte, Nat.reduceAdd, Nat.reduceSub, Nat.reduceLT, Nat.reduceEqDiff, reduceCtorEq, Nat.reduceLeDiff, Nat.reduceBEq, Nat.reduceMul, Int.reduceToNat]; rfl) (by first | exact ⟨h1, h2⟩ | (repeat' first | exact trivial | exact h1 | exact h2 | constructor)) (by rfl) (by rfl) (by rfl) ?_
  exact Holds.ret (RetOk.vs rfl (by exact ⟨⟨rfl, fun h => h⟩, trivial⟩) rfl)

set_option maxRecDepth 100000 in
theorem dFits_err (w : Int) (hw : w ≠ 0) (y : V) (hy : ∃ ky ny my ey, y = decV ky ny my ey) (fl : Int) :
    FnOk Tryz.prog 21 [.v (decV 0 false 0 0), .v (.int .i64 0), .v (.int .i64 w), .v y, .v (.int .i64 fl), .v (.int .i64 w)] [.v true (.bool true)] := by
  obtain ⟨ky, ny, my, ey, rfl⟩ := hy
  have h1 := None_ok
  rw [decV_eq] at h1
  rw [decV_eq, decV_eq]
  obtain ⟨l, hl⟩ : ∃ l, l = digs my := ⟨_, rfl⟩
  rw [← hl]
  refine FnOk.of Tryz.func21 rfl rfl fun cx w0 => ?_
  rw [show Tryz.f21.ntmps = 39 from rfl]
  refine Holds.step (Px := px) (T := TT) (ρ := fun _ => []) TTe (by simp (maxSteps := 100000) (disch := omega) only [go_sem, V.isAgg, V.flat, ↓reduceIte, Nat.reduceAdd, Nat.reduceSub, Nat.reduceLT, Nat.reduceEqDiff, reduceCtorEq, Nat.reduceLeDiff, Nat.reduceBEq, Nat.reduceMul, Int.reduceToNat, List.length_cons, List.length_nil]; rfl) (by repeat' first | exact trivial | constructor) ?_
  refine Holds.seq ?_
  refine Holds.step (Px := px) (T := TT) (ρ := fun _ => []) TTe (by simp (maxSteps := 100000) (disch := omega) only [go_sem, V.isAgg, V.flat, ↓reduceIte, Nat.reduceAdd, Nat.reduceSub, Nat.reduceLT, Nat.reduceEqDiff, reduceCtorEq, Nat.reduceLeDiff, Nat.reduceBEq, Nat.reduceMul, Int.reduceToNat, hw]; rfl) (by repeat' first | exact trivial | constructor) ?_
  refine Holds.condT rfl ?_
  refine Holds.step (Px := px) (T := TT) (ρ := fun _ => [.v true (.bool true)]) TTe (by simp (maxSteps := 100000) (disch := omega) only [go_sem, V.isAgg, V.flat, ↓reduceIte, Nat.reduceAdd, Nat.reduceSub, Nat.reduceLT, Nat.reduceEqDiff, reduceCtorEq, Nat.reduceLeDiff, Nat.reduceBEq, Nat.reduceMul, Int.reduceToNat, eq_self]; rfl) (by first | exact h1 | (repeat' first | exact trivial | exact h1 | constructor)) ?_
  exact Holds.ret (RetOk.vs rfl (by exact ⟨⟨rfl, fun h => h⟩, trivial⟩) rfl)

set_option maxRecDepth 100000 in
theorem dFits_ok (k : Nat) (neg : Bool) (m : Nat) (e : Int) (hm : (digs m).length < 100000) (fl : Int) :
    FnOk Tryz.prog 21 [.v (decV k neg m e), .v (.int .i64 fl), .v (.int .i64 0), .v (decV k neg m e), .v (.int .i64 fl), .v (.int .i64 0)] [.v true (.bool true)] := by
  have h1 := Their_ok k neg m e
  have h2 := dIs_ok k neg m e hm
  rw [decV_eq] at h1 h2 ⊢
  obtain ⟨l, hl⟩ : ∃ l, l = digs m := ⟨_, rfl⟩
  rw [← hl] at h1 h2 ⊢
  refine FnOk.of Tryz.func21 rfl rfl fun cx w0 => ?_
  rw [show Tryz.f21.ntmps = 39 from rfl]
  refine Holds.step (Px := px) (T := TT) (ρ := fun _ => []) TTe (by simp (maxSteps := 100000) (disch := omega) only [go_sem, V.isAgg, V.flat, ↓reduceIte, Nat.reduceAdd, Nat.reduceSub, Nat.reduceLT, Nat.reduceEqDiff, reduceCtorEq, Nat.reduceLeDiff, Nat.reduceBEq, Nat.reduceMul, Int.reduceToNat, List.length_cons, List.length_nil]; rfl) (by repeat' first | exact trivial | constructor) ?_
  refine Holds.seq ?_
  refine Holds.step (Px := px) (T := TT) (ρ := fun _ => []) TTe (by simp (maxSteps := 100000) (disch := omega) only [go_sem, V.isAgg, V.flat, ↓reduceIte, Nat.reduceAdd, Nat.reduceSub, Nat.reduceLT, Nat.reduceEqDiff, reduceCtorEq, Nat.reduceLeDiff, Nat.reduceBEq, Nat.reduceMul, Int.reduceToNat]; rfl) (by repeat' first | exact trivial | constructor) ?_
  refine Holds.condF rfl (Holds.skip ?_)
  refine Holds.dstep (Px := px) (T := TT) (ρ := fun d => if d = 30 then [.v false (.agg [.int .i64 (k : Nat), .bool neg, .sl 1 (l.map fun n => .int .u64 n), .int .i64 e])] else [.v true (.bool true)]) [] mixed (by kernel_rfl) TTe (by simp (maxSteps := 100000) (disch := omega) only [go_sem, V.isAgg, V.flat, ↓reduceIte, Nat.reduceAdd, Nat.reduceSub, Nat.reduceLT, Nat.reduceEqDiff, reduceCtorEq, Nat.reduceLeDiff, Nat.reduceBEq, Nat.reduceMul, Int.reduceToNat, eq_self]; rfl) (by first | exact ⟨h1, h2⟩ | (repeat' first | exact trivial | exact h1 | exact h2 | constructor)) (by rfl) (by rfl) (by rfl) ?_
  exact Holds.ret (RetOk.vs rfl (by exact ⟨⟨rfl, fun h => h⟩, trivial⟩) rfl)
/-
  parse.Exact and the reference's.
-/

set_option maxRecDepth 100000 in
theorem exact_none (t : ByteArray) (ht : t.size ≤ 300) (h : rdB t = false ∨ ∃ n, longM t true = some n ∧ n.kind = 1) :
    FnOk Tryz.prog 24 [.v (.str t)] [.v true (decV 0 false 0 0), .v true (.int .i64 6)] := by
  have hD := dec_none t (by omega) h
  rw [decV_zero]
  refine FnOk.of Tryz.func24 rfl rfl fun cx w0 => ?_
  rw [show Tryz.f24.ntmps = 47 from rfl]
  refine Holds.step (Px := px) (T := TT) (ρ := fun _ => []) TTe (by simp (maxSteps := 100000) (disch := omega) only [go_sem, V.isAgg, V.flat, ↓reduceIte, Nat.reduceAdd, Nat.reduceSub, Nat.reduceLT, Nat.reduceEqDiff, reduceCtorEq, Nat.reduceLeDiff, Nat.reduceBEq, Nat.reduceMul, Int.reduceToNat, List.length_cons, List.length_nil]; rfl) (by repeat' first | exact trivial | constructor) ?_
  refine Holds.step (Px := px) (T := TT) (ρ := fun _ => [.v true (.agg [.int .i64 (0 : Nat), .bool false, .str ⟨#[]⟩, .int .i64 0, .int .i64 0, .int .i64 0, .bool false]), .v true (.int .i64 6)]) TTe (by simp (maxSteps := 100000) (disch := omega) only [go_sem, V.isAgg, V.flat, ↓reduceIte, Nat.reduceAdd, Nat.reduceSub, Nat.reduceLT, Nat.reduceEqDiff, reduceCtorEq, Nat.reduceLeDiff, Nat.reduceBEq, Nat.reduceMul, Int.reduceToNat]; rfl) (by first | exact hD | (repeat' first | exact trivial | exact hD | constructor)) ?_
  refine Holds.seq ?_
  refine Holds.step (Px := px) (T := TT) (ρ := fun _ => []) TTe (by simp (maxSteps := 100000) (disch := omega) only [go_sem, V.isAgg, V.flat, ↓reduceIte, Nat.reduceAdd, Nat.reduceSub, Nat.reduceLT, Nat.reduceEqDiff, reduceCtorEq, Nat.reduceLeDiff, Nat.reduceBEq, Nat.reduceMul, Int.reduceToNat]; rfl) (by repeat' first | exact trivial | constructor) ?_
  refine Holds.condT rfl ?_
  refine Holds.step (Px := px) (T := TT) (ρ := fun _ => []) TTe (by simp (maxSteps := 100000) (disch := omega) only [go_sem, V.isAgg, V.flat, ↓reduceIte, Nat.reduceAdd, Nat.reduceSub, Nat.reduceLT, Nat.reduceEqDiff, reduceCtorEq, Nat.reduceLeDiff, Nat.reduceBEq, Nat.reduceMul, Int.reduceToNat]; rfl) (by repeat' first | exact trivial | constructor) ?_
  exact Holds.ret (RetOk.vs rfl (by exact ⟨⟨rfl, fun h => h⟩, ⟨rfl, fun h => h⟩, trivial⟩) rfl)

theorem spV_form (n : Nm) : ∃ k neg, spV n = .agg [.int .i64 (k : Nat), .bool neg, .sl 1 [], .int .i64 0] := by
  unfold spV
  split
  · exact ⟨2, false, rfl⟩
  · split
    · exact ⟨1, n.neg, rfl⟩
    · exact ⟨0, false, rfl⟩

set_option maxRecDepth 100000 in
theorem exact_spec (t : ByteArray) (ht : t.size ≤ 300) {n : Nm} (h : longM t true = some n) (hr : rdB t = true) (hk : n.kind = 3 ∨ n.kind = 2) :
    FnOk Tryz.prog 24 [.v (.str t)] [.v true (spV n), .v true (.int .i64 0)] := by
  have hD := dec_some t (by omega) h hr (by omega)
  have hS := special_ok n
  rw [decide_eq_true hk] at hS
  obtain ⟨ks, ns, hs⟩ := spV_form n
  rw [hs] at hS ⊢
  clear hs h hk hr
  obtain ⟨k, neg, d, bh, e, len, sg⟩ := n
  unfold Nm.v numV at hD hS
  simp only at hD hS
  refine FnOk.of Tryz.func24 rfl rfl fun cx w0 => ?_
  rw [show Tryz.f24.ntmps = 47 from rfl]
  refine Holds.step (Px := px) (T := TT) (ρ := fun _ => []) TTe (by simp (maxSteps := 100000) (disch := omega) only [go_sem, V.isAgg, V.flat, ↓reduceIte, Nat.reduceAdd, Nat.reduceSub, Nat.reduceLT, Nat.reduceEqDiff, reduceCtorEq, Nat.reduceLeDiff, Nat.reduceBEq, Nat.reduceMul, Int.reduceToNat, List.length_cons, List.length_nil]; rfl) (by repeat' first | exact trivial | constructor) ?_
  refine Holds.step (Px := px) (T := TT) (ρ := fun _ => [.v true (.agg [.int .i64 (k : Nat), .bool neg, .str ⟨d.toArray⟩, .int .i64 (bh : Nat), .int .i64 e, .int .i64 (len : Nat), .bool sg]), .v true (.int .i64 0)]) TTe (by simp (maxSteps := 100000) (disch := omega) only [go_sem, V.isAgg, V.flat, ↓reduceIte, Nat.reduceAdd, Nat.reduceSub, Nat.reduceLT, Nat.reduceEqDiff, reduceCtorEq, Nat.reduceLeDiff, Nat.reduceBEq, Nat.reduceMul, Int.reduceToNat]; rfl) (by first | exact hD | (repeat' first | exact trivial | exact hD | constructor)) ?_
  refine Holds.seq ?_
  refine Holds.step (Px := px) (T := TT) (ρ := fun _ => []) TTe (by simp (maxSteps := 100000) (disch := omega) only [go_sem, V.isAgg, V.flat, ↓reduceIte, Nat.reduceAdd, Nat.reduceSub, Nat.reduceLT, Nat.reduceEqDiff, reduceCtorEq, Nat.reduceLeDiff, Nat.reduceBEq, Nat.reduceMul, Int.reduceToNat]; rfl) (by repeat' first | exact trivial | constructor) ?_
  refine Holds.condF rfl (Holds.skip ?_)
  refine Holds.seq ?_
  refine Holds.step (Px := px) (T := TT) (ρ := fun _ => [.v true (.agg [.int .i64 (ks : Nat), .bool ns, .sl 1 [], .int .i64 0]), .v true (.bool true)]) TTe (by simp (maxSteps := 100000) (disch := omega) only [go_sem, V.isAgg, V.flat, ↓reduceIte, Nat.reduceAdd, Nat.reduceSub, Nat.reduceLT, Nat.reduceEqDiff, reduceCtorEq, Nat.reduceLeDiff, Nat.reduceBEq, Nat.reduceMul, Int.reduceToNat]; rfl) (by first | exact hS | (repeat' first | exact trivial | exact hS | constructor)) ?_
  refine Holds.step (Px := px) (T := TT) (ρ := fun _ => []) TTe (by simp (maxSteps := 100000) (disch := omega) only [go_sem, V.isAgg, V.flat, ↓reduceIte, Nat.reduceAdd, Nat.reduceSub, Nat.reduceLT, Nat.reduceEqDiff, reduceCtorEq, Nat.reduceLeDiff, Nat.reduceBEq, Nat.reduceMul, Int.reduceToNat]; rfl) (by repeat' first | exact trivial | constructor) ?_
  refine Holds.condT rfl ?_
  refine Holds.step (Px := px) (T := TT) (ρ := fun _ => []) TTe (by simp (maxSteps := 100000) (disch := omega) only [go_sem, V.isAgg, V.flat, ↓reduceIte, Nat.reduceAdd, Nat.reduceSub, Nat.reduceLT, Nat.reduceEqDiff, reduceCtorEq, Nat.reduceLeDiff, Nat.reduceBEq, Nat.reduceMul, Int.reduceToNat]; rfl) (by repeat' first | exact trivial | constructor) ?_
  exact Holds.ret (RetOk.vs rfl (by exact ⟨⟨rfl, fun h => h⟩, ⟨rfl, fun h => h⟩, trivial⟩) rfl)

set_option maxRecDepth 100000 in
theorem exact_num (t : ByteArray) (ht : t.size ≤ 300) {n : Nm} (h : longM t true = some n) (hr : rdB t = true) (ho : NmOk n t.size) (hk : n.kind = 0) :
    FnOk Tryz.prog 24 [.v (.str t)] (if -1000000 ≤ n.exp - (n.each * n.behind : Nat) ∧ n.exp - (n.each * n.behind : Nat) ≤ 1000000 then [.v true (decV 0 n.neg n.num (n.exp - (n.each * n.behind : Nat))), .v true (.int .i64 0)]
      else [.v true (decV 0 false 0 0), .v true (.int .i64 4)]) := by
  have hD := dec_some t (by omega) h hr (by omega)
  have hS := special_ok n
  have hM := mag_ok ho (by omega)
  have hw := num_words ho (by omega)
  rw [decide_eq_false (by omega), show spV n = decV 0 false 0 0 from by unfold spV; rw [if_neg (by omega), if_neg (by omega)], decV_zero] at hS
  rw [decV_eq, decV_zero]
  obtain ⟨m, hm⟩ : ∃ m, m = digs n.num := ⟨_, rfl⟩
  obtain ⟨x, hx⟩ : ∃ x, x = n.exp - (n.each * n.behind : Nat) := ⟨_, rfl⟩
  rw [← hm] at hw
  rw [← hm, ← hx] at hM ⊢
  obtain ⟨y, hy⟩ : ∃ y, y = n.neg := ⟨_, rfl⟩
  rw [← hy]
  clear h hk hr ho hm hx
  obtain ⟨k, neg, d, bh, e, len, sg⟩ := n
  unfold Nm.v numV at hD hS hM
  simp only at hD hS hM hy
  subst hy
  refine FnOk.of Tryz.func24 rfl rfl fun cx w0 => ?_
  rw [show Tryz.f24.ntmps = 47 from rfl]
  refine Holds.step (Px := px) (T := TT) (ρ := fun _ => []) TTe (by simp (maxSteps := 100000) (disch := omega) only [go_sem, V.isAgg, V.flat, ↓reduceIte, Nat.reduceAdd, Nat.reduceSub, Nat.reduceLT, Nat.reduceEqDiff, reduceCtorEq, Nat.reduceLeDiff, Nat.reduceBEq, Nat.reduceMul, Int.reduceToNat, List.length_cons, List.length_nil]; rfl) (by repeat' first | exact trivial | constructor) ?_
  refine Holds.step (Px := px) (T := TT) (ρ := fun _ => [.v true (.agg [.int .i64 (k : Nat), .bool y, .str ⟨d.toArray⟩, .int .i64 (bh : Nat), .int .i64 e, .int .i64 (len : Nat), .bool sg]), .v true (.int .i64 0)]) TTe (by simp (maxSteps := 100000) (disch := omega) only [go_sem, V.isAgg, V.flat, ↓reduceIte, Nat.reduceAdd, Nat.reduceSub, Nat.reduceLT, Nat.reduceEqDiff, reduceCtorEq, Nat.reduceLeDiff, Nat.reduceBEq, Nat.reduceMul, Int.reduceToNat]; rfl) (by first | exact hD | (repeat' first | exact trivial | exact hD | constructor)) ?_
  refine Holds.seq ?_
  refine Holds.step (Px := px) (T := TT) (ρ := fun _ => []) TTe (by simp (maxSteps := 100000) (disch := omega) only [go_sem, V.isAgg, V.flat, ↓reduceIte, Nat.reduceAdd, Nat.reduceSub, Nat.reduceLT, Nat.reduceEqDiff, reduceCtorEq, Nat.reduceLeDiff, Nat.reduceBEq, Nat.reduceMul, Int.reduceToNat]; rfl) (by repeat' first | exact trivial | constructor) ?_
  refine Holds.condF rfl (Holds.skip ?_)
  refine Holds.seq ?_
  refine Holds.step (Px := px) (T := TT) (ρ := fun _ => [.v true (.agg [.int .i64 (0 : Nat), .bool false, .sl 1 [], .int .i64 0]), .v true (.bool false)]) TTe (by simp (maxSteps := 100000) (disch := omega) only [go_sem, V.isAgg, V.flat, ↓reduceIte, Nat.reduceAdd, Nat.reduceSub, Nat.reduceLT, Nat.reduceEqDiff, reduceCtorEq, Nat.reduceLeDiff, Nat.reduceBEq, Nat.reduceMul, Int.reduceToNat]; rfl) (by first | exact hS | (repeat' first | exact trivial | exact hS | constructor)) ?_
  refine Holds.step (Px := px) (T := TT) (ρ := fun _ => []) TTe (by simp (maxSteps := 100000) (disch := omega) only [go_sem, V.isAgg, V.flat, ↓reduceIte, Nat.reduceAdd, Nat.reduceSub, Nat.reduceLT, Nat.reduceEqDiff, reduceCtorEq, Nat.reduceLeDiff, Nat.reduceBEq, Nat.reduceMul, Int.reduceToNat]; rfl) (by repeat' first | exact trivial | constructor) ?_
  refine Holds.condF rfl (Holds.skip ?_)
  refine Holds.step (Px := px) (T := TT) (ρ := fun _ => [.v true (words m), .v true (.int .i64 x)]) TTe (by simp (maxSteps := 100000) (disch := omega) only [go_sem, V.isAgg, V.flat, ↓reduceIte, Nat.reduceAdd, Nat.reduceSub, Nat.reduceLT, Nat.reduceEqDiff, reduceCtorEq, Nat.reduceLeDiff, Nat.reduceBEq, Nat.reduceMul, Int.reduceToNat]; rfl) (by first | exact hM | (repeat' first | exact trivial | exact hM | constructor)) ?_
  by_cases h1 : x < -1000000
  · rw [if_neg (by omega)]
    refine Holds.seq ?_
    refine Holds.step (Px := px) (T := TT) (ρ := fun _ => []) TTe (by simp (maxSteps := 100000) (disch := omega) only [go_sem, V.isAgg, V.flat, ↓reduceIte, Nat.reduceAdd, Nat.reduceSub, Nat.reduceLT, Nat.reduceEqDiff, reduceCtorEq, Nat.reduceLeDiff, Nat.reduceBEq, Nat.reduceMul, Int.reduceToNat, h1]; rfl) (by repeat' first | exact trivial | constructor) ?_
    refine Holds.condT rfl ?_
    refine Holds.step (Px := px) (T := TT) (ρ := fun _ => []) TTe (by simp (maxSteps := 100000) (disch := omega) only [go_sem, V.isAgg, V.flat, ↓reduceIte, Nat.reduceAdd, Nat.reduceSub, Nat.reduceLT, Nat.reduceEqDiff, reduceCtorEq, Nat.reduceLeDiff, Nat.reduceBEq, Nat.reduceMul, Int.reduceToNat]; rfl) (by repeat' first | exact trivial | constructor) ?_
    exact Holds.ret (RetOk.vs rfl (by exact ⟨⟨rfl, fun h => h⟩, ⟨rfl, fun h => h⟩, trivial⟩) rfl)
  by_cases h2 : 1000000 < x
  · rw [if_neg (by omega)]
    refine Holds.seq ?_
    refine Holds.step (Px := px) (T := TT) (ρ := fun _ => []) TTe (by simp (maxSteps := 100000) (disch := omega) only [go_sem, V.isAgg, V.flat, ↓reduceIte, Nat.reduceAdd, Nat.reduceSub, Nat.reduceLT, Nat.reduceEqDiff, reduceCtorEq, Nat.reduceLeDiff, Nat.reduceBEq, Nat.reduceMul, Int.reduceToNat, h1, h2]; rfl) (by repeat' first | exact trivial | constructor) ?_
    refine Holds.condT rfl ?_
    refine Holds.step (Px := px) (T := TT) (ρ := fun _ => []) TTe (by simp (maxSteps := 100000) (disch := omega) only [go_sem, V.isAgg, V.flat, ↓reduceIte, Nat.reduceAdd, Nat.reduceSub, Nat.reduceLT, Nat.reduceEqDiff, reduceCtorEq, Nat.reduceLeDiff, Nat.reduceBEq, Nat.reduceMul, Int.reduceToNat]; rfl) (by repeat' first | exact trivial | constructor) ?_
    exact Holds.ret (RetOk.vs rfl (by exact ⟨⟨rfl, fun h => h⟩, ⟨rfl, fun h => h⟩, trivial⟩) rfl)
  rw [if_pos (by omega)]
  have g3 : ¬ (4096 : Int) < m.length := by omega
  refine Holds.seq ?_
  refine Holds.step (Px := px) (T := TT) (ρ := fun _ => []) TTe (by simp (maxSteps := 100000) (disch := omega) only [go_sem, V.isAgg, V.flat, ↓reduceIte, Nat.reduceAdd, Nat.reduceSub, Nat.reduceLT, Nat.reduceEqDiff, reduceCtorEq, Nat.reduceLeDiff, Nat.reduceBEq, Nat.reduceMul, Int.reduceToNat, h1, h2]; rfl) (by repeat' first | exact trivial | constructor) ?_
  refine Holds.condF rfl (Holds.skip ?_)
  refine Holds.seq ?_
  refine Holds.step (Px := px) (T := TT) (ρ := fun _ => []) TTe (by simp (maxSteps := 100000) (disch := omega) only [go_sem, V.isAgg, V.flat, ↓reduceIte, Nat.reduceAdd, Nat.reduceSub, Nat.reduceLT, Nat.reduceEqDiff, reduceCtorEq, Nat.reduceLeDiff, Nat.reduceBEq, Nat.reduceMul, Int.reduceToNat, g3, words]; rfl) (by repeat' first | exact trivial | constructor) ?_
  refine Holds.condF rfl (Holds.skip ?_)
  refine Holds.step (Px := px) (T := TT) (ρ := fun _ => []) TTe (by simp (maxSteps := 100000) (disch := omega) only [go_sem, V.isAgg, V.flat, ↓reduceIte, Nat.reduceAdd, Nat.reduceSub, Nat.reduceLT, Nat.reduceEqDiff, reduceCtorEq, Nat.reduceLeDiff, Nat.reduceBEq, Nat.reduceMul, Int.reduceToNat, words]; rfl) (by repeat' first | exact trivial | constructor) ?_
  exact Holds.ret (RetOk.vs rfl (by exact ⟨⟨rfl, fun h => h⟩, ⟨rfl, fun h => h⟩, trivial⟩) rfl)

/-- What the reference's Exact gives. -/
def rexV (r : RNum) : V := if r.kind = 3 then decV 1 r.neg 0 0 else if r.kind = 4 then decV 2 false 0 0 else decV 0 r.neg r.num r.exp
def rexB (r : RNum) : Bool := decide (r.kind = 3 ∨ r.kind = 4 ∨ -1000000 ≤ r.exp ∧ r.exp ≤ 1000000)
set_option maxRecDepth 100000 in
theorem rExact_ok (r : RNum) : FnOk Tryz.prog 25 [.v r.v] [.v false (rexV r), .v true (.bool (rexB r))] := by
  obtain ⟨k, neg, num, e, g⟩ := r
  unfold rexV rexB RNum.v
  simp only [words]
  refine FnOk.of Tryz.func25 rfl rfl fun cx w0 => ?_
  rw [show Tryz.f25.ntmps = 31 from rfl]
  by_cases h3 : k = 3
  · rw [decide_eq_true (Or.inl h3), if_pos h3, decV_zero]
    subst h3
    refine Holds.step (Px := px) (T := TT) (ρ := fun _ => []) TTe (by simp (maxSteps := 100000) (disch := omega) only [go_sem, V.isAgg, V.flat, ↓reduceIte, Nat.reduceAdd, Nat.reduceSub, Nat.reduceLT, Nat.reduceEqDiff, reduceCtorEq, Nat.reduceLeDiff, Nat.reduceBEq, Nat.reduceMul, Int.reduceToNat, List.length_cons, List.length_nil]; rfl) (by repeat' first | exact trivial | constructor) ?_
    refine Holds.seq ?_
    refine Holds.block ?_
    refine Holds.step (Px := px) (T := TT) (ρ := fun _ => []) TTe (by simp (maxSteps := 100000) (disch := omega) only [go_sem, V.isAgg, V.flat, ↓reduceIte, Nat.reduceAdd, Nat.reduceSub, Nat.reduceLT, Nat.reduceEqDiff, reduceCtorEq, Nat.reduceLeDiff, Nat.reduceBEq, Nat.reduceMul, Int.reduceToNat]; rfl) (by repeat' first | exact trivial | constructor) ?_
    refine Holds.condT rfl ?_
    refine Holds.step (Px := px) (T := TT) (ρ := fun _ => []) TTe (by simp (maxSteps := 100000) (disch := omega) only [go_sem, V.isAgg, V.flat, ↓reduceIte, Nat.reduceAdd, Nat.reduceSub, Nat.reduceLT, Nat.reduceEqDiff, reduceCtorEq, Nat.reduceLeDiff, Nat.reduceBEq, Nat.reduceMul, Int.reduceToNat]; rfl) (by repeat' first | exact trivial | constructor) ?_
    exact Holds.ret (RetOk.vs rfl (by exact ⟨⟨rfl, by simp⟩, ⟨rfl, fun h => h⟩, trivial⟩) rfl)
  have g3 : ¬ (k : Int) = 3 := by omega
  by_cases h4 : k = 4
  · rw [decide_eq_true (Or.inr (Or.inl h4)), if_neg h3, if_pos h4, decV_zero]
    subst h4
    refine Holds.step (Px := px) (T := TT) (ρ := fun _ => []) TTe (by simp (maxSteps := 100000) (disch := omega) only [go_sem, V.isAgg, V.flat, ↓reduceIte, Nat.reduceAdd, Nat.reduceSub, Nat.reduceLT, Nat.reduceEqDiff, reduceCtorEq, Nat.reduceLeDiff, Nat.reduceBEq, Nat.reduceMul, Int.reduceToNat, List.length_cons, List.length_nil]; rfl) (by repeat' first | exact trivial | constructor) ?_
    refine Holds.seq ?_
    refine Holds.block ?_
    refine Holds.step (Px := px) (T := TT) (ρ := fun _ => []) TTe (by simp (maxSteps := 100000) (disch := omega) only [go_sem, V.isAgg, V.flat, ↓reduceIte, Nat.reduceAdd, Nat.reduceSub, Nat.reduceLT, Nat.reduceEqDiff, reduceCtorEq, Nat.reduceLeDiff, Nat.reduceBEq, Nat.reduceMul, Int.reduceToNat]; rfl) (by repeat' first | exact trivial | constructor) ?_
    refine Holds.condF rfl ?_
    refine Holds.step (Px := px) (T := TT) (ρ := fun _ => []) TTe (by simp (maxSteps := 100000) (disch := omega) only [go_sem, V.isAgg, V.flat, ↓reduceIte, Nat.reduceAdd, Nat.reduceSub, Nat.reduceLT, Nat.reduceEqDiff, reduceCtorEq, Nat.reduceLeDiff, Nat.reduceBEq, Nat.reduceMul, Int.reduceToNat]; rfl) (by repeat' first | exact trivial | constructor) ?_
    refine Holds.condT rfl ?_
    refine Holds.step (Px := px) (T := TT) (ρ := fun _ => []) TTe (by simp (maxSteps := 100000) (disch := omega) only [go_sem, V.isAgg, V.flat, ↓reduceIte, Nat.reduceAdd, Nat.reduceSub, Nat.reduceLT, Nat.reduceEqDiff, reduceCtorEq, Nat.reduceLeDiff, Nat.reduceBEq, Nat.reduceMul, Int.reduceToNat]; rfl) (by repeat' first | exact trivial | constructor) ?_
    exact Holds.ret (RetOk.vs rfl (by exact ⟨⟨rfl, by simp⟩, ⟨rfl, fun h => h⟩, trivial⟩) rfl)
  have g4 : ¬ (k : Int) = 4 := by omega
  rw [if_neg h3, if_neg h4, decV_eq]
  obtain ⟨l, hl⟩ : ∃ l, l = digs num := ⟨_, rfl⟩
  rw [← hl]
  refine Holds.step (Px := px) (T := TT) (ρ := fun _ => []) TTe (by simp (maxSteps := 100000) (disch := omega) only [go_sem, V.isAgg, V.flat, ↓reduceIte, Nat.reduceAdd, Nat.reduceSub, Nat.reduceLT, Nat.reduceEqDiff, reduceCtorEq, Nat.reduceLeDiff, Nat.reduceBEq, Nat.reduceMul, Int.reduceToNat, List.length_cons, List.length_nil]; rfl) (by repeat' first | exact trivial | constructor) ?_
  refine Holds.seq ?_
  refine Holds.block ?_
  refine Holds.step (Px := px) (T := TT) (ρ := fun _ => []) TTe (by simp (maxSteps := 100000) (disch := omega) only [go_sem, V.isAgg, V.flat, ↓reduceIte, Nat.reduceAdd, Nat.reduceSub, Nat.reduceLT, Nat.reduceEqDiff, reduceCtorEq, Nat.reduceLeDiff, Nat.reduceBEq, Nat.reduceMul, Int.reduceToNat, g3]; rfl) (by repeat' first | exact trivial | constructor) ?_
  refine Holds.condF rfl ?_
  refine Holds.step (Px := px) (T := TT) (ρ := fun _ => []) TTe (by simp (maxSteps := 100000) (disch := omega) only [go_sem, V.isAgg, V.flat, ↓reduceIte, Nat.reduceAdd, Nat.reduceSub, Nat.reduceLT, Nat.reduceEqDiff, reduceCtorEq, Nat.reduceLeDiff, Nat.reduceBEq, Nat.reduceMul, Int.reduceToNat, g4]; rfl) (by repeat' first | exact trivial | constructor) ?_
  refine Holds.condF rfl (Holds.skip ?_)
  by_cases h1 : -1000000 ≤ e
  · by_cases h2 : e ≤ 1000000
    · rw [decide_eq_true (Or.inr (Or.inr ⟨h1, h2⟩))]
      refine Holds.dstepT (Px := px) (T := TT) (ρ := fun _ => []) [(7, 15), (8, 15), (11, 15), (12, 15)] mixed (by kernel_rfl) TTe (by simp (maxSteps := 100000) (disch := omega) only [go_sem, V.isAgg, V.flat, ↓reduceIte, Nat.reduceAdd, Nat.reduceSub, Nat.reduceLT, Nat.reduceEqDiff, reduceCtorEq, Nat.reduceLeDiff, Nat.reduceBEq, Nat.reduceMul, Int.reduceToNat, h1, h2]; rfl) (by repeat' first | exact trivial | constructor) (by rfl) (by rfl) (by simp (maxSteps := 100000) (disch := omega) only [trc_nil, trc_cons, effW_t, effW_f, trcE_s, opSites_eq, sitesOf, AV.sites, AV.sitesL, Op.operands, Call.operands, List.append_toArray, List.toList_toArray, List.filter_nil, List.filter_cons, List.contains_cons, List.contains_nil, go_sem, V.isAgg, V.flat, ↓reduceIte, Nat.reduceAdd, Nat.reduceSub, Nat.reduceLT, Nat.reduceEqDiff, reduceCtorEq, Nat.reduceLeDiff, Nat.reduceBEq, Nat.reduceMul, Int.reduceToNat, h1, h2]; rfl) (by rfl) ?_
      exact Holds.ret (RetOk.vs rfl (by exact ⟨⟨rfl, by simp⟩, ⟨rfl, fun h => h⟩, trivial⟩) rfl)
    · rw [decide_eq_false (by omega)]
      refine Holds.dstepT (Px := px) (T := TT) (ρ := fun _ => []) [(7, 15), (8, 15), (11, 15), (12, 15)] mixed (by kernel_rfl) TTe (by simp (maxSteps := 100000) (disch := omega) only [go_sem, V.isAgg, V.flat, ↓reduceIte, Nat.reduceAdd, Nat.reduceSub, Nat.reduceLT, Nat.reduceEqDiff, reduceCtorEq, Nat.reduceLeDiff, Nat.reduceBEq, Nat.reduceMul, Int.reduceToNat, h1, h2]; rfl) (by repeat' first | exact trivial | constructor) (by rfl) (by rfl) (by simp (maxSteps := 100000) (disch := omega) only [trc_nil, trc_cons, effW_t, effW_f, trcE_s, opSites_eq, sitesOf, AV.sites, AV.sitesL, Op.operands, Call.operands, List.append_toArray, List.toList_toArray, List.filter_nil, List.filter_cons, List.contains_cons, List.contains_nil, go_sem, V.isAgg, V.flat, ↓reduceIte, Nat.reduceAdd, Nat.reduceSub, Nat.reduceLT, Nat.reduceEqDiff, reduceCtorEq, Nat.reduceLeDiff, Nat.reduceBEq, Nat.reduceMul, Int.reduceToNat, h1, h2]; rfl) (by rfl) ?_
      exact Holds.ret (RetOk.vs rfl (by exact ⟨⟨rfl, by simp⟩, ⟨rfl, fun h => h⟩, trivial⟩) rfl)
  · rw [decide_eq_false (by omega)]
    refine Holds.dstepT (Px := px) (T := TT) (ρ := fun _ => []) [(7, 15), (8, 15), (11, 15), (12, 15)] mixed (by kernel_rfl) TTe (by simp (maxSteps := 100000) (disch := omega) only [go_sem, V.isAgg, V.flat, ↓reduceIte, Nat.reduceAdd, Nat.reduceSub, Nat.reduceLT, Nat.reduceEqDiff, reduceCtorEq, Nat.reduceLeDiff, Nat.reduceBEq, Nat.reduceMul, Int.reduceToNat, h1]; rfl) (by repeat' first | exact trivial | constructor) (by rfl) (by rfl) (by simp (maxSteps := 100000) (disch := omega) only [trc_nil, trc_cons, effW_t, effW_f, trcE_s, opSites_eq, sitesOf, AV.sites, AV.sitesL, Op.operands, Call.operands, List.append_toArray, List.toList_toArray, List.filter_nil, List.filter_cons, List.contains_cons, List.contains_nil, go_sem, V.isAgg, V.flat, ↓reduceIte, Nat.reduceAdd, Nat.reduceSub, Nat.reduceLT, Nat.reduceEqDiff, reduceCtorEq, Nat.reduceLeDiff, Nat.reduceBEq, Nat.reduceMul, Int.reduceToNat, h1]; rfl) (by rfl) ?_
    exact Holds.ret (RetOk.vs rfl (by exact ⟨⟨rfl, by simp⟩, ⟨rfl, fun h => h⟩, trivial⟩) rfl)
end Go.Proofs.YtobacemgcjnahaaGreatDoor.L
