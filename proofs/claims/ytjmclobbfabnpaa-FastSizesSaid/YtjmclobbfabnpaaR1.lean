/-
  Uo
-/
import Derived.Test.YtjmclobbfabnpaaQ9
set_option linter.unusedSimpArgs false
set_option linter.unusedVariables false
/-
  The law FastSizes: the walk.
-/
namespace Go.Proofs.Ytjmclobbfabnpaa.L
open Go Go.RowKit Go.Proofs
attribute [local go_sem] evalOps_nil evalOps_cons runW_t runW_f runE_s runP_s wantA evalOp effOp letters okDst coreA St.opv St.get St.at look constA St.put St.upd St.set decide_true List.all_nil List.all_cons Bool.and_true Bool.true_and and_self and_true true_and if_true if_false true_or Int.sub_zero List.nil_append List.cons_append List.append_nil Option.isSome_some List.getElem?_toArray List.getElem?_cons_succ List.getElem?_cons_zero Option.bind_some Option.map_some Option.map_none beq_self_eq_true Bool.false_beq Bool.true_beq Bool.not_true Bool.not_false Bool.false_eq_true cond_true cond_false binA binI List.map_cons List.map_nil boundA List.length_nil List.length_cons Nat.zero_mul Nat.one_mul Nat.mul_one Nat.zero_add Nat.add_zero Nat.zero_le Option.toList St.freshB AV.ment AV.ments Blk.ment V.sizes Nat.lt_add_one Bool.or_true Bool.true_or Bool.or_false Bool.false_or Bool.or_self if_pos if_neg decide_false decide_eq_true decide_eq_false wrap_i64 Int.toNat_natCast minA maxA Int.natCast_add Int.cast_ofNat_Int Option.isSome_none false_implies true_implies forall_const List.drop_zero Int.toNat_zero Int.add_sub_cancel lenA sliceA loadA indexAddrA partA fitsT V.atP V.offP V.size List.length_map List.getElem?_map Int.toNat_natCast_add_one Int.ofNat_eq_natCast TY calleeA capArg knotA capArgs toArgs toArg callA R.res R.mems R.blks R.av R.names R.nw invokeA storeA storeV fieldAddrA liveB V.off V.offs V.setP List.set_cons_zero List.set_cons_succ buildA buildP partsA appendA srcA copyA boxOk makeA AV.pure List.take_succ_cons List.take_zero nilA words entry List.zipIdx_cons List.zipIdx_nil Arg.av Arg.avs

theorem rep_wordsN (N : Nat) : (List.drop 0 (List.replicate N (V.int .u64 0))).take N = (List.replicate N (0 : Int)).map fun n => V.int .u64 n := by
  rw [List.drop_zero, List.take_of_length_le (by rw [List.length_replicate]; exact Nat.le_refl _), List.map_replicate]
theorem digs_pow (k : Nat) : (digs (18446744073709551616 ^ k)).length = k + 1 := by
  have h1 : (digs (18446744073709551616 ^ k)).length ≤ k + 1 := digs_len (Nat.pow_lt_pow_right (by decide) (by omega))
  have h2 := lt_len (18446744073709551616 ^ k)
  have h3 := (Nat.pow_lt_pow_iff_right (a := 18446744073709551616) (by decide)).1 h2
  omega
theorem digs_big {v k : Nat} (h : 18446744073709551616 ^ k ≤ v) : k + 1 ≤ (digs v).length := by
  rw [← digs_pow k]
  exact digs_mono h
theorem pow_half {k : Nat} (hk : 1 ≤ k) : 18446744073709551616 ^ k / 2 = 18446744073709551616 ^ (k - 1) * 9223372036854775808 := by
  obtain ⟨j, rfl⟩ : ∃ j, k = j + 1 := ⟨k - 1, by omega⟩
  rw [Nat.add_sub_cancel, Nat.pow_succ]
  generalize 18446744073709551616 ^ j = P
  omega
theorem low_part {m k : Nat} (hk : 1 ≤ k) : 18446744073709551616 ^ m * (18446744073709551616 ^ k - 1) % 18446744073709551616 ^ (m + 1) = 18446744073709551616 ^ m * 18446744073709551615 := by
  obtain ⟨j, rfl⟩ : ∃ j, k = j + 1 := ⟨k - 1, by omega⟩
  have hp : 0 < 18446744073709551616 ^ j := Nat.pow_pos (by decide)
  have e : 18446744073709551616 ^ (j + 1) - 1 = 18446744073709551616 * (18446744073709551616 ^ j - 1) + 18446744073709551615 := by
    rw [Nat.pow_succ]
    generalize 18446744073709551616 ^ j = P at hp ⊢
    omega
  rw [e, Nat.mul_add, ← Nat.mul_assoc, ← Nat.pow_succ, Nat.mul_add_mod, Nat.mod_eq_of_lt]
  rw [Nat.pow_succ]
  exact (Nat.mul_lt_mul_left (Nat.pow_pos (by decide))).2 (by decide)

set_option maxHeartbeats 2000000 in
set_option maxRecDepth 100000 in
theorem FastSizes_ok (more : Int) (X0 : List Int) (oX0 : okW X0) : FnOk Try.prog 11 [.v (.int .i64 more), .v (words X0)] [.v true (.bool true)] := by
  have ikd31 : ikd Try.prog 31 = some .u64 := by kernel_rfl
  have ikd3 : ikd Try.prog 3 = some .i64 := by kernel_rfl
  have und3 : (Try.prog.underlying 3).isSome = true := by kernel_rfl
  have und31 : (Try.prog.underlying 31).isSome = true := by kernel_rfl
  have f1 := few_ok X0 4 (by decide)
  have oA := okW_take oX0 4
  have lA : (X0.take 4).length ≤ 4 := by rw [List.length_take]; omega
  obtain ⟨A, hA⟩ : ∃ A, A = X0.take 4 := ⟨_, rfl⟩
  rw [← hA] at f1 oA lA
  obtain ⟨N, hN⟩ : ∃ N, N = 5000 := ⟨_, rfl⟩
  have hrep := rep_wordsN N
  obtain ⟨B, hB⟩ : ∃ B, B = List.replicate N (0 : Int) := ⟨_, rfl⟩
  have lB : B.length = 5000 := by rw [hB, List.length_replicate, hN]
  have oB : okW B := fun n hn => by
    rw [hB] at hn
    rw [(List.mem_replicate.1 hn).2]; decide
  rw [← hB, hN] at hrep
  clear hB hN
  -- numbers that are too large
  have s1 := Split_ok B 0 (by omega)
  rw [splitR, if_pos (by omega)] at s1
  have s2 := Join_size [A, B] 0 (by simp) (fun l hl => by
    simp only [List.mem_cons, List.not_mem_nil, or_false] at hl
    rcases hl with rfl | rfl <;> omega) (by simp; omega)
  have bg : ∀ ps : List (Bool × List Int), (false, B) ∈ ps → bigP ps = true := fun ps h => List.any_eq_true.2 ⟨_, h, by simp; omega⟩
  have ob : ∀ p ∈ [((false, A) : Bool × List Int), (false, B), (false, [])], p.2.length < 1000000 ∧ okW p.2 := fun p hp => by
    simp only [List.mem_cons, List.not_mem_nil, or_false] at hp
    rcases hp with rfl | rfl | rfl
    · exact ⟨by show A.length < _; omega, oA⟩
    · exact ⟨by show B.length < _; omega, oB⟩
    · exact ⟨by decide, fun n hn => by cases hn⟩
  have s3 := Value_size [(false, B)] 99 (by simp) (fun p hp => ob p (by simp at hp ⊢; right; left; exact hp)) (bg _ (by simp))
  have s4 := Five_size [(false, A), (false, B)] (by simp) (fun p hp => ob p (by simp at hp ⊢; rcases hp with h | h <;> simp [h])) (bg _ (by simp))
  have s5 := Back_size (false, B) (false, []) (false, []) (false, []) (false, []) (fun p hp => ob p (by simp at hp ⊢; rcases hp with h | h <;> simp [h])) (bg _ (by simp))
  have s6 := Karatsuba_of B A 0 _ _ (by have := checked_bad B A 0 (wayV 0) 96 (by omega) (by omega) (by omega); rw [if_pos (by omega)] at this; exact this)
  have s7 := Toom_of A B 0 _ _ (by have := checked_bad A B 0 (wayV 0) 95 (by omega) (by omega) (by omega); rw [if_pos (by omega)] at this; exact this)
  have s8 := Square_of B 0 _ _ (by have := checked_bad B B 0 (wayV 0) 96 (by omega) (by omega) (by omega); rw [if_pos (by omega)] at this; exact this)
  have s9 := MulK_of A B _ _ (by omega) (by omega) (by have := checked_bad A B 64 (wayV 64) 96 (by omega) (by omega) (by omega); rw [if_pos (by omega)] at this; exact this)
  have s10 := LowMul_size B A (-1) (by omega) (by omega) (by omega)
  -- results that are too large
  obtain ⟨j, hj⟩ : ∃ j : Nat, j = ((more % 18446744073709551616).tmod 50).toNat := ⟨_, rfl⟩
  have hj1 : (more % 18446744073709551616).tmod 50 = (more % 18446744073709551616) % 50 := Int.tmod_eq_emod_of_nonneg (by omega)
  have hjm : (more % 18446744073709551616).tmod 50 = j := by omega
  have hj7 : j < 50 := by omega
  clear hj hj1
  obtain ⟨m, hm⟩ : ∃ m, m = 2000 + j := ⟨_, rfl⟩
  obtain ⟨m1, hm1⟩ : ∃ m1, m1 = m + 1 := ⟨_, rfl⟩
  obtain ⟨k, hk⟩ : ∃ k, k = 2096 - j := ⟨_, rfl⟩
  obtain ⟨E, hE⟩ : ∃ E, E = 4095 := ⟨_, rfl⟩
  have em : (2000 : Int) + (j : Int) = (m : Int) := by omega
  have em1 : (2001 : Int) + (j : Int) = (m1 : Int) := by omega
  have ek : (2096 : Int) - (j : Int) = (k : Int) := by omega
  have o1 : okW [1] := fun n hn => by rw [List.mem_singleton] at hn; rw [hn]; decide
  have oF : okW [18446744073709551615] := fun n hn => by rw [List.mem_singleton] at hn; rw [hn]; decide
  obtain ⟨vr, hvr⟩ : ∃ vr, vr = 18446744073709551616 ^ (k - 1) * 9223372036854775808 := ⟨_, rfl⟩
  obtain ⟨vc, hvc⟩ : ∃ vc, vc = 18446744073709551616 ^ E * 9223372036854775808 := ⟨_, rfl⟩
  obtain ⟨vd, hvd⟩ : ∃ vd, vd = 18446744073709551616 ^ m * 18446744073709551615 := ⟨_, rfl⟩
  have L1 := Left_ok [1] m (by simp) (by omega) o1
  have L2 := Left_ok [1] k (by simp) (by omega) o1
  have L3 := LeftC_ok E hE
  have L4 := Left_ok [18446744073709551615] m (by simp) (by omega) oF
  rw [show val [1] = 1 from rfl, Nat.mul_one] at L1 L2
  rw [show val [18446744073709551615] = 18446744073709551615 from rfl, ← hvd] at L4
  rw [← hvc] at L3
  have lp := digs_pow m
  have lq := digs_pow k
  obtain ⟨op, _, vp⟩ := digs_ok (18446744073709551616 ^ m)
  obtain ⟨oq, _, vq⟩ := digs_ok (18446744073709551616 ^ k)
  have hpk : 1 ≤ 18446744073709551616 ^ k := Nat.pow_pos (by decide)
  have R1 := RightH_ok (digs (18446744073709551616 ^ k)) (by omega) (by omega) oq
  rw [vq, pow_half (by omega), ← hvr] at R1
  obtain ⟨oh, _, vh⟩ := digs_ok vr
  have lh : (digs vr).length ≤ k := by
    rw [hvr]
    refine digs_len ?_
    rw [show 18446744073709551616 ^ k = 18446744073709551616 ^ (k - 1) * 18446744073709551616 from by rw [← Nat.pow_succ]; congr 1; omega]
    exact (Nat.mul_lt_mul_left (Nat.pow_pos (by decide))).2 (by decide)
  have lh2 : k - 1 + 1 ≤ (digs vr).length := by rw [hvr]; exact digs_big (Nat.le_mul_of_pos_right _ (by decide))
  have lc : (digs vc).length ≤ E + 1 := by
    rw [hvc]
    refine digs_len ?_
    rw [Nat.pow_succ]
    exact (Nat.mul_lt_mul_left (Nat.pow_pos (by decide))).2 (by decide)
  have ld : (digs vd).length ≤ m + 1 := by
    rw [hvd]
    refine digs_len ?_
    rw [Nat.pow_succ]
    exact (Nat.mul_lt_mul_left (Nat.pow_pos (by decide))).2 (by decide)
  have eh : 18446744073709551616 ^ m * vr = vc := by
    rw [hvr, hvc, ← Nat.mul_assoc, ← Nat.pow_add]
    congr 2
    omega
  have hmk : 4096 < (digs (18446744073709551616 ^ (m + k))).length := by rw [digs_pow]; omega
  have hlow := low_part (m := m) (k := k) (by omega)
  rw [← hm1, ← hvd] at hlow
  clear hvr hvc hvd
  have M1 := MulT_ok (digs (18446744073709551616 ^ m)) (digs (18446744073709551616 ^ k)) (by omega) (by omega) (by omega) (by omega) op oq (by rw [vp, vq]; omega)
  rw [vp, vq, ← Nat.pow_add, fitR, if_pos hmk] at M1
  have M2 := MulT_ok (digs (18446744073709551616 ^ m)) (digs vr) (by omega) (by omega) (by omega) (by omega) op oh (by rw [vp, vh]; omega)
  rw [vp, vh, eh, fitR, if_neg (by omega)] at M2
  have S1 := rSub_ok (digs (18446744073709551616 ^ k)) [1] (by omega) (by simp) oq o1 (by rw [vq]; exact hpk)
  rw [vq, show val [1] = 1 from rfl] at S1
  obtain ⟨os, _, vs⟩ := digs_ok (18446744073709551616 ^ k - 1)
  have ls : (digs (18446744073709551616 ^ k - 1)).length ≤ k := digs_len (by omega)
  have bp : 64 ≤ (digs (18446744073709551616 ^ m % 18446744073709551616 ^ m1)).length := by
    rw [Nat.mod_eq_of_lt (Nat.pow_lt_pow_right (by decide) (by omega)), digs_pow]; omega
  have bq : 64 ≤ (digs ((18446744073709551616 ^ k - 1) % 18446744073709551616 ^ m1)).length := by
    refine Nat.le_trans (show 64 ≤ 100 + 1 by decide) (digs_big ?_)
    have hle : ∀ n, 100 < n → 18446744073709551616 ^ 100 ≤ 18446744073709551616 ^ n - 1 := fun n hn => Nat.le_sub_one_of_lt (Nat.pow_lt_pow_right (a := 18446744073709551616) (by decide) hn)
    rcases Nat.lt_or_ge k (m1 + 1) with h | h
    · have hkm : 18446744073709551616 ^ k ≤ 18446744073709551616 ^ m1 := Nat.pow_le_pow_right (by decide) (by omega)
      rw [Nat.mod_eq_of_lt (Nat.lt_of_lt_of_le (Nat.sub_lt hpk (by decide)) hkm)]
      exact hle k (by omega)
    · have h2 : 0 < 18446744073709551616 ^ (k - m1) := Nat.pow_pos (by decide)
      have h3 : 0 < 18446744073709551616 ^ m1 := Nat.pow_pos (by decide)
      have e : 18446744073709551616 ^ k - 1 = 18446744073709551616 ^ m1 * (18446744073709551616 ^ (k - m1) - 1) + (18446744073709551616 ^ m1 - 1) := by
        have h1 : 18446744073709551616 ^ k = 18446744073709551616 ^ m1 * 18446744073709551616 ^ (k - m1) := by rw [← Nat.pow_add]; congr 1; omega
        have h4 : 18446744073709551616 ^ m1 * 1 ≤ 18446744073709551616 ^ m1 * 18446744073709551616 ^ (k - m1) := Nat.mul_le_mul_left _ h2
        rw [h1, Nat.mul_sub, Nat.mul_one]
        generalize 18446744073709551616 ^ m1 * 18446744073709551616 ^ (k - m1) = PP at h4 ⊢
        generalize 18446744073709551616 ^ m1 = QQ at h3 h4 ⊢
        clear hlow hmk eh bp ls vs os S1 M1 M2
        omega
      rw [e, Nat.mul_add_mod, Nat.mod_eq_of_lt (Nat.sub_lt h3 (by decide))]
      exact hle m1 (by omega)
  have W1 := LowMulG_ok (digs (18446744073709551616 ^ m)) (digs (18446744073709551616 ^ k - 1)) m1 (by omega) (by omega) (by omega) op os (by rw [vp]; exact bp) (by rw [vs]; exact bq)
  rw [vp, vs, hlow] at W1
  have is : ∀ v, (digs v).length ≤ 5000 → FnOk Try.prog 29 [.v (words (digs v)), .v (words (digs v))] [.v true (.bool true)] := fun v h => by
    have := Is_ok (digs v) (digs v) (by omega) (by omega) (by rw [(digs_ok v).2.2]; omega) (digs_ok v).1
    rw [(digs_ok v).2.2, decide_eq_true rfl] at this
    exact this
  have I1 := is vc (by omega)
  have I2 := is vd (by omega)
  obtain ⟨p, hp⟩ : ∃ p, p = digs (18446744073709551616 ^ m) := ⟨_, rfl⟩
  obtain ⟨q, hq⟩ : ∃ q, q = digs (18446744073709551616 ^ k) := ⟨_, rfl⟩
  obtain ⟨r, hr⟩ : ∃ r, r = digs vr := ⟨_, rfl⟩
  obtain ⟨c, hc⟩ : ∃ c, c = digs vc := ⟨_, rfl⟩
  obtain ⟨s, hs⟩ : ∃ s, s = digs (18446744073709551616 ^ k - 1) := ⟨_, rfl⟩
  obtain ⟨d, hd⟩ : ∃ d, d = digs vd := ⟨_, rfl⟩
  rw [← hp] at L1 M1 M2 W1
  rw [← hq] at L2 M1 R1 S1
  rw [← hr] at R1 M2
  rw [← hc] at M2 L3 I1
  rw [← hs] at S1 W1
  rw [← hd] at W1 L4 I2
  have bm : m ≤ 2050 := by omega
  have bk : k ≤ 2096 := by omega
  have bm1 : m1 ≤ 2051 := by omega
  rw [show natsV [A, B] = .sl 1 [words A, words B] from rfl] at s2
  rw [show intsV [(false, B)] = .sl 2 [.agg [.bool false, words B]] from rfl] at s3
  rw [show intsV [(false, A), (false, B)] = .sl 2 [.agg [.bool false, words A], .agg [.bool false, words B]] from rfl] at s4
  rw [show V.agg [pV (false, B), pV (false, []), pV (false, []), pV (false, []), pV (false, [])] = .agg [.agg [.bool false, words B], .agg [.bool false, .sl 1 []], .agg [.bool false, .sl 1 []], .agg [.bool false, .sl 1 []], .agg [.bool false, .sl 1 []]] from rfl] at s5
  clear is hp hq hr hc hs hd lp lq op vp oq vq oh vh lh lh2 eh lc ld hpk os vs ls bp bq hlow hmk hm hm1 hk hE bg ob oA oB o1 oF hA
  simp only at s1 M1 M2
  refine FnOk.of Try.func11 rfl rfl fun cx w0 => ?_
  rw [show Try.f11.ntmps = 223 from rfl]
  refine Holds.step (Px := px) (T := TT) (ρ := fun _ => []) TTe (by simp (maxSteps := 100000) (disch := omega) only [go_sem, V.isAgg, V.flat, ↓reduceIte, Nat.reduceAdd, Nat.reduceSub, Nat.reduceLT, Nat.reduceEqDiff, reduceCtorEq, Nat.reduceLeDiff, Nat.reduceBEq, Nat.reduceMul, Int.reduceToNat, List.length_cons, List.length_nil]; rfl) (by repeat' first | exact trivial | constructor) ?_
  refine Holds.step (Px := px) (T := TT) (ρ := fun _ => []) TTe (by simp (maxSteps := 100000) (disch := omega) only [go_sem, V.isAgg, V.flat, ↓reduceIte, Nat.reduceAdd, Nat.reduceSub, Nat.reduceLT, Nat.reduceEqDiff, reduceCtorEq, Nat.reduceLeDiff, Nat.reduceBEq, Nat.reduceMul, Int.reduceToNat]; rfl) (by repeat' first | exact trivial | constructor) ?_
  refine Holds.from (σ' := { nt := 223, env := [(5, .v true (words B)), (0, .v true (.int .i64 more)), (1, .v false (words X0))], mem := [] }) (fun a w h => by
    have := Rel.keep [5, 0, 1] [] (Rel.freeze (s := 37) (e := 69) (z := 1) (nw := true) (xs := List.replicate 5000 (V.int .u64 0)) h rfl)
    rw [show words B = .sl 1 (((List.replicate 5000 (V.int .u64 0)).drop 0).take 5000) from by rw [hrep]; rfl]
    exact this) ?_
  refine Holds.step (Px := px) (T := TT) (ρ := fun _ => [.v true (words A)]) TTe (by simp (maxSteps := 100000) (disch := omega) only [go_sem, V.isAgg, V.flat, ↓reduceIte, Nat.reduceAdd, Nat.reduceSub, Nat.reduceLT, Nat.reduceEqDiff, reduceCtorEq, Nat.reduceLeDiff, Nat.reduceBEq, Nat.reduceMul, Int.reduceToNat]; rfl) (by first | exact f1 | (repeat' first | exact trivial | exact f1 | constructor)) ?_
  refine Holds.step (Px := px) (T := TT) (ρ := fun _ => []) TTe (by simp (maxSteps := 100000) (disch := omega) only [go_sem, V.isAgg, V.flat, ↓reduceIte, Nat.reduceAdd, Nat.reduceSub, Nat.reduceLT, Nat.reduceEqDiff, reduceCtorEq, Nat.reduceLeDiff, Nat.reduceBEq, Nat.reduceMul, Int.reduceToNat]; rfl) (by repeat' first | exact trivial | constructor) ?_
  refine Holds.step (Px := px) (T := TT) (ρ := fun _ => [.v true (natsV []), .v true (.int .i64 2)]) TTe (by simp (maxSteps := 100000) (disch := omega) only [go_sem, V.isAgg, V.flat, ↓reduceIte, Nat.reduceAdd, Nat.reduceSub, Nat.reduceLT, Nat.reduceEqDiff, reduceCtorEq, Nat.reduceLeDiff, Nat.reduceBEq, Nat.reduceMul, Int.reduceToNat]; rfl) (by first | exact s1 | (repeat' first | exact trivial | exact s1 | constructor)) ?_
  refine Holds.step (Px := px) (T := TT) (ρ := fun _ => [.v true (words []), .v true (.int .i64 2)]) TTe (by simp (maxSteps := 100000) (disch := omega) only [go_sem, V.isAgg, V.flat, ↓reduceIte, Nat.reduceAdd, Nat.reduceSub, Nat.reduceLT, Nat.reduceEqDiff, reduceCtorEq, Nat.reduceLeDiff, Nat.reduceBEq, Nat.reduceMul, Int.reduceToNat]; rfl) (by first | exact s2 | (repeat' first | exact trivial | exact s2 | constructor)) ?_
  refine Holds.step (Px := px) (T := TT) (ρ := fun _ => [.v true (.agg [.bool false, .sl 1 []]), .v true (.int .i64 2)]) TTe (by simp (maxSteps := 100000) (disch := omega) only [go_sem, V.isAgg, V.flat, ↓reduceIte, Nat.reduceAdd, Nat.reduceSub, Nat.reduceLT, Nat.reduceEqDiff, reduceCtorEq, Nat.reduceLeDiff, Nat.reduceBEq, Nat.reduceMul, Int.reduceToNat]; rfl) (by first | exact s3 | (repeat' first | exact trivial | exact s3 | constructor)) ?_
  refine Holds.from (σ' := { nt := 223, env := [(9, .v true (.int .i64 2)), (11, .v true (.int .i64 2)), (13, .v true (.int .i64 2)), (5, .v true (words B)), (6, .v true (words A)), (7, .v true (.int .i64 2)), (0, .v true (.int .i64 more))], mem := [] }) (fun a w h => Rel.keep [9, 11, 13, 5, 6, 7, 0] [] h) ?_
  refine Holds.step (Px := px) (T := TT) (ρ := fun _ => [.v true zero5, .v true (.int .i64 2)]) TTe (by simp (maxSteps := 100000) (disch := omega) only [go_sem, V.isAgg, V.flat, ↓reduceIte, Nat.reduceAdd, Nat.reduceSub, Nat.reduceLT, Nat.reduceEqDiff, reduceCtorEq, Nat.reduceLeDiff, Nat.reduceBEq, Nat.reduceMul, Int.reduceToNat, zero5]; rfl) (by first | exact s4 | (repeat' first | exact trivial | exact s4 | constructor)) ?_
  refine Holds.step (Px := px) (T := TT) (ρ := fun _ => [.v true zero5, .v true (.int .i64 2)]) TTe (by simp (maxSteps := 100000) (disch := omega) only [go_sem, V.isAgg, V.flat, ↓reduceIte, Nat.reduceAdd, Nat.reduceSub, Nat.reduceLT, Nat.reduceEqDiff, reduceCtorEq, Nat.reduceLeDiff, Nat.reduceBEq, Nat.reduceMul, Int.reduceToNat, zero5]; rfl) (by first | exact s5 | (repeat' first | exact trivial | exact s5 | constructor)) ?_
  refine Holds.step (Px := px) (T := TT) (ρ := fun _ => [.v true (words []), .v true (.int .i64 2)]) TTe (by simp (maxSteps := 100000) (disch := omega) only [go_sem, V.isAgg, V.flat, ↓reduceIte, Nat.reduceAdd, Nat.reduceSub, Nat.reduceLT, Nat.reduceEqDiff, reduceCtorEq, Nat.reduceLeDiff, Nat.reduceBEq, Nat.reduceMul, Int.reduceToNat]; rfl) (by first | exact s6 | (repeat' first | exact trivial | exact s6 | constructor)) ?_
  refine Holds.from (σ' := { nt := 223, env := [(9, .v true (.int .i64 2)), (11, .v true (.int .i64 2)), (13, .v true (.int .i64 2)), (15, .v true (.int .i64 2)), (17, .v true (.int .i64 2)), (19, .v true (.int .i64 2)), (5, .v true (words B)), (6, .v true (words A)), (7, .v true (.int .i64 2)), (0, .v true (.int .i64 more))], mem := [] }) (fun a w h => Rel.keep [9, 11, 13, 15, 17, 19, 5, 6, 7, 0] [] h) ?_
  refine Holds.step (Px := px) (T := TT) (ρ := fun _ => [.v true (words []), .v true (.int .i64 2)]) TTe (by simp (maxSteps := 100000) (disch := omega) only [go_sem, V.isAgg, V.flat, ↓reduceIte, Nat.reduceAdd, Nat.reduceSub, Nat.reduceLT, Nat.reduceEqDiff, reduceCtorEq, Nat.reduceLeDiff, Nat.reduceBEq, Nat.reduceMul, Int.reduceToNat]; rfl) (by first | exact s7 | (repeat' first | exact trivial | exact s7 | constructor)) ?_
  refine Holds.step (Px := px) (T := TT) (ρ := fun _ => [.v true (words []), .v true (.int .i64 2)]) TTe (by simp (maxSteps := 100000) (disch := omega) only [go_sem, V.isAgg, V.flat, ↓reduceIte, Nat.reduceAdd, Nat.reduceSub, Nat.reduceLT, Nat.reduceEqDiff, reduceCtorEq, Nat.reduceLeDiff, Nat.reduceBEq, Nat.reduceMul, Int.reduceToNat]; rfl) (by first | exact s8 | (repeat' first | exact trivial | exact s8 | constructor)) ?_
  refine Holds.step (Px := px) (T := TT) (ρ := fun _ => [.v true (words []), .v true (.int .i64 2)]) TTe (by simp (maxSteps := 100000) (disch := omega) only [go_sem, V.isAgg, V.flat, ↓reduceIte, Nat.reduceAdd, Nat.reduceSub, Nat.reduceLT, Nat.reduceEqDiff, reduceCtorEq, Nat.reduceLeDiff, Nat.reduceBEq, Nat.reduceMul, Int.reduceToNat]; rfl) (by first | exact s9 | (repeat' first | exact trivial | exact s9 | constructor)) ?_
  refine Holds.step (Px := px) (T := TT) (ρ := fun _ => [.v true (words []), .v true (.int .i64 2)]) TTe (by simp (maxSteps := 100000) (disch := omega) only [go_sem, V.isAgg, V.flat, ↓reduceIte, Nat.reduceAdd, Nat.reduceSub, Nat.reduceLT, Nat.reduceEqDiff, reduceCtorEq, Nat.reduceLeDiff, Nat.reduceBEq, Nat.reduceMul, Int.reduceToNat]; rfl) (by first | exact s10 | (repeat' first | exact trivial | exact s10 | constructor)) ?_
  refine Holds.next (fun σ => ∀ a w, Rel cx w0 σ a w → Rel cx w0 { nt := 223, env := [(7, .v true (.int .i64 2)), (0, .v true (.int .i64 more))], mem := [] } a w) ?_ ?_
  · refine Holds.from (σ' := { nt := 223, env := [(9, .v true (.int .i64 2)), (11, .v true (.int .i64 2)), (13, .v true (.int .i64 2)), (15, .v true (.int .i64 2)), (17, .v true (.int .i64 2)), (19, .v true (.int .i64 2)), (21, .v true (.int .i64 2)), (23, .v true (.int .i64 2)), (25, .v true (.int .i64 2)), (27, .v true (.int .i64 2)), (7, .v true (.int .i64 2)), (0, .v true (.int .i64 more))], mem := [] }) (fun a w h => Rel.keep [9, 11, 13, 15, 17, 19, 21, 23, 25, 27, 7, 0] [] h) ?_
    refine Holds.step (Px := px) (T := TT) (ρ := fun _ => []) TTe (by simp (maxSteps := 100000) (disch := omega) only [go_sem, V.isAgg, V.flat, ↓reduceIte, Nat.reduceAdd, Nat.reduceSub, Nat.reduceLT, Nat.reduceEqDiff, reduceCtorEq, Nat.reduceLeDiff, Nat.reduceBEq, Nat.reduceMul, Int.reduceToNat]; rfl) (by repeat' first | exact trivial | constructor) ?_
    exact Holds.condF rfl (Holds.skip fun a w h => Rel.keep [7, 0] [] h)
  · intro σ hσ
    refine Holds.from hσ ?_
    refine Holds.step (Px := px) (T := TT) (ρ := fun _ => []) TTe (by simp (maxSteps := 100000) (disch := omega) only [go_sem, V.isAgg, V.flat, ↓reduceIte, Nat.reduceAdd, Nat.reduceSub, Nat.reduceLT, Nat.reduceEqDiff, reduceCtorEq, Nat.reduceLeDiff, Nat.reduceBEq, Nat.reduceMul, Int.reduceToNat, ikd31, ikd3, und3, und31, wrap_u64, hjm]; rfl) (by repeat' first | exact trivial | constructor) ?_
    refine Holds.step (Px := px) (T := TT) (ρ := fun t => if t = 160 then [.v true (words p)] else [.v true (words q)]) TTe (by simp (maxSteps := 100000) (disch := omega) only [go_sem, V.isAgg, V.flat, ↓reduceIte, Nat.reduceAdd, Nat.reduceSub, Nat.reduceLT, Nat.reduceEqDiff, reduceCtorEq, Nat.reduceLeDiff, Nat.reduceBEq, Nat.reduceMul, Int.reduceToNat, em, ek]; rfl) (by first | exact ⟨L1, L2⟩ | (repeat' first | exact trivial | exact L1 | exact L2 | constructor)) ?_
    refine Holds.from (σ' := { nt := 223, env := [(29, .v true (words p)), (30, .v true (words q)), (28, .v true (.int .i64 j)), (7, .v true (.int .i64 2))], mem := [] }) (fun a w h => Rel.keep [29, 30, 28, 7] [] h) ?_
    refine Holds.step (Px := px) (T := TT) (ρ := fun _ => [.v true (words []), .v true (.int .i64 2)]) TTe (by simp (maxSteps := 100000) (disch := omega) only [go_sem, V.isAgg, V.flat, ↓reduceIte, Nat.reduceAdd, Nat.reduceSub, Nat.reduceLT, Nat.reduceEqDiff, reduceCtorEq, Nat.reduceLeDiff, Nat.reduceBEq, Nat.reduceMul, Int.reduceToNat]; rfl) (by first | exact M1 | (repeat' first | exact trivial | exact M1 | constructor)) ?_
    refine Holds.step (Px := px) (T := TT) (ρ := fun t => if t = 175 then [.v true (words r)] else [.v true (words c), .v true (.int .i64 0)]) TTe (by simp (maxSteps := 100000) (disch := omega) only [go_sem, V.isAgg, V.flat, ↓reduceIte, Nat.reduceAdd, Nat.reduceSub, Nat.reduceLT, Nat.reduceEqDiff, reduceCtorEq, Nat.reduceLeDiff, Nat.reduceBEq, Nat.reduceMul, Int.reduceToNat]; rfl) (by first | exact ⟨R1, M2⟩ | (repeat' first | exact trivial | exact R1 | exact M2 | constructor)) ?_
    refine Holds.step (Px := px) (T := TT) (ρ := fun t => if t = 183 then [.v true (words s)] else [.v true (words d), .v true (.int .i64 0)]) TTe (by simp (maxSteps := 100000) (disch := omega) only [go_sem, V.isAgg, V.flat, ↓reduceIte, Nat.reduceAdd, Nat.reduceSub, Nat.reduceLT, Nat.reduceEqDiff, reduceCtorEq, Nat.reduceLeDiff, Nat.reduceBEq, Nat.reduceMul, Int.reduceToNat, em1]; rfl) (by first | exact ⟨S1, W1⟩ | (repeat' first | exact trivial | exact S1 | exact W1 | constructor)) ?_
    refine Holds.from (σ' := { nt := 223, env := [(32, .v true (.int .i64 2)), (31, .v true (words [])), (34, .v true (.int .i64 0)), (33, .v true (words c)), (36, .v true (.int .i64 0)), (35, .v true (words d)), (28, .v true (.int .i64 j)), (7, .v true (.int .i64 2))], mem := [] }) (fun a w h => Rel.keep [32, 31, 34, 33, 36, 35, 28, 7] [] h) ?_
    refine Holds.step (Px := px) (T := TT) (ρ := fun t => if t = 204 then [.v true (words c)] else if t = 217 then [.v true (words d)] else [.v true (.bool true)]) TTe (by simp (maxSteps := 100000) (disch := omega) only [go_sem, V.isAgg, V.flat, ↓reduceIte, Nat.reduceAdd, Nat.reduceSub, Nat.reduceLT, Nat.reduceEqDiff, reduceCtorEq, Nat.reduceLeDiff, Nat.reduceBEq, Nat.reduceMul, Int.reduceToNat, em]; rfl) (by first | exact ⟨L3, I1, L4, I2, awake_ok⟩ | (repeat' first | exact trivial | exact L3 | exact I1 | exact L4 | exact I2 | exact awake_ok | constructor)) ?_
    exact Holds.ret (RetOk.vs rfl (by exact ⟨⟨rfl, fun h => h⟩, trivial⟩) rfl)
end Go.Proofs.Ytjmclobbfabnpaa.L
