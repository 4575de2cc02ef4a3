/-
  Vc Vd
-/
import Derived.Test.YtjmclobbfabnpaaGreatS1
import Derived.Test.YtjmclobbfabnpaaGreatP5
import Derived.Test.YtjmclobbfabnpaaGreatH9
set_option linter.unusedSimpArgs false
set_option linter.unusedVariables false
/-
  The reference's Back, and that the package's agrees.
-/
namespace Go.Proofs.YtjmclobbfabnpaaGreat.L
open Go Go.RowKit Go.Proofs
attribute [local go_sem] evalOps_nil evalOps_cons runW_t runW_f runE_s runP_s wantA evalOp effOp letters okDst coreA St.opv St.get St.at look constA St.put St.upd St.set decide_true List.all_nil List.all_cons Bool.and_true Bool.true_and and_self and_true true_and if_true if_false true_or Int.sub_zero List.nil_append List.cons_append List.append_nil Option.isSome_some List.getElem?_toArray List.getElem?_cons_succ List.getElem?_cons_zero Option.bind_some Option.map_some Option.map_none beq_self_eq_true Bool.false_beq Bool.true_beq Bool.not_true Bool.not_false Bool.false_eq_true cond_true cond_false binA binI List.map_cons List.map_nil boundA List.length_nil List.length_cons Nat.zero_mul Nat.one_mul Nat.mul_one Nat.zero_add Nat.add_zero Nat.zero_le Option.toList St.freshB AV.ment AV.ments Blk.ment V.sizes Nat.lt_add_one Bool.or_true Bool.true_or Bool.or_false Bool.false_or Bool.or_self if_pos if_neg decide_false decide_eq_true decide_eq_false wrap_i64 Int.toNat_natCast minA maxA Int.natCast_add Int.cast_ofNat_Int Option.isSome_none false_implies true_implies forall_const List.drop_zero Int.toNat_zero Int.add_sub_cancel lenA sliceA loadA indexAddrA partA fitsT V.atP V.offP V.size List.length_map List.getElem?_map Int.toNat_natCast_add_one Int.ofNat_eq_natCast TY calleeA capArg knotA capArgs toArgs toArg callA R.res R.mems R.blks R.av R.names R.nw invokeA storeA storeV fieldAddrA liveB V.off V.offs V.setP List.set_cons_zero List.set_cons_succ buildA buildP partsA appendA srcA copyA boxOk makeA AV.pure List.take_succ_cons List.take_zero nilA words entry List.zipIdx_cons List.zipIdx_nil Arg.av Arg.avs

def rbC (a b : Int) : Int := (a + b) / 2
def rbS (a b : Int) : Int := (a - b) / 2
def rbW (a b c : Int) : Int := c - 4 * rbC a b - 2 * rbS a b
def rbD (a b c : Int) : Int := rbW a b c / 6
def rbB (a b c : Int) : Bool := decide ((a + b) % 2 = 0) && decide ((a - b) % 2 = 0) && decide (rbW a b c % 6 = 0)
def rbL (v0 v4 a b c : Int) : List Int := [v0, rbS a b - rbD a b c, rbC a b, rbD a b c, v4]

theorem bk_rb (v0 v4 a b c : Int) : bkB a b c = rbB a b c ∧ (rbB a b c = true → V.agg (bkL v0 v4 a b c) = arrV (rbL v0 v4 a b c)) := by
  obtain ⟨C, hC⟩ : ∃ C, C = rbC a b := ⟨_, rfl⟩
  obtain ⟨S, hS⟩ : ∃ S, S = rbS a b := ⟨_, rfl⟩
  obtain ⟨D, hD⟩ : ∃ D, D = rbD a b c := ⟨_, rfl⟩
  have hC' : C = (a + b) / 2 := hC
  have hS' : S = (a - b) / 2 := hS
  have hW : rbW a b c = c - 4 * C - 2 * S := by rw [rbW, ← hC, ← hS]
  have hD' : D = (c - 4 * C - 2 * S) / 6 := by rw [← hW, hD]; rfl
  by_cases h2 : (a + b) % 2 = 0
  · have h2' : (a - b) % 2 = 0 := by omega
    have e2 : a + b = C * ((2 : Nat) : Int) := by omega
    have p2 : byP (a + b) 2 = zp C := by rw [e2]; exact byP_mul (by decide) C
    have hO : bkO a b = S := by
      unfold bkO
      rw [p2, ival_zp]; omega
    have hW2 : bkW a b c = c - 4 * C - 2 * S := by
      unfold bkW
      rw [p2, ival_zp, hO]; omega
    have hb : rbB a b c = decide ((c - 4 * C - 2 * S) % 6 = 0) := by
      unfold rbB
      rw [hW, decide_eq_true h2, decide_eq_true h2']; rfl
    have hk : bkB a b c = decide ((c - 4 * C - 2 * S).natAbs % 6 = 0) := by
      unfold bkB
      rw [hW2, decide_eq_true (show (a + b).natAbs % 2 = 0 by omega)]; rfl
    refine ⟨?_, fun h => ?_⟩
    · rw [hb, hk]
      by_cases h6 : (c - 4 * C - 2 * S) % 6 = 0
      · rw [decide_eq_true h6, decide_eq_true (by omega)]
      · rw [decide_eq_false h6, decide_eq_false (by omega)]
    · rw [hb] at h
      have h6 := of_decide_eq_true h
      have e6 : c - 4 * C - 2 * S = D * ((6 : Nat) : Int) := by omega
      have p6 : byP (bkW a b c) 6 = zp D := by rw [hW2, e6]; exact byP_mul (by decide) D
      unfold bkL rbL
      rw [p2, p6, ival_zp, hO, ← hC, ← hS, ← hD, show S + D * -1 = S - D from by omega]
      rfl
  · have hb : rbB a b c = false := by
      unfold rbB
      rw [decide_eq_false h2]; rfl
    have hk : bkB a b c = false := by
      unfold bkB
      rw [decide_eq_false (show ¬ (a + b).natAbs % 2 = 0 by omega)]; rfl
    exact ⟨by rw [hb, hk], fun h => by rw [hb] at h; cases h⟩

theorem rb_bnd {v0 v4 a b c : Int} {B : Nat} (h0 : v0.natAbs < 48 * B) (h4 : v4.natAbs < 48 * B) (ha : a.natAbs < 4 * B) (hb : b.natAbs < 4 * B) (hc : c.natAbs < 20 * B) :
    (rbC a b).natAbs < 48 * B ∧ (rbS a b).natAbs < 48 * B ∧ (rbD a b c).natAbs < 48 * B ∧ (rbW a b c).natAbs < 48 * B ∧ (4 * rbC a b).natAbs < 48 * B ∧ (2 * rbS a b).natAbs < 48 * B ∧ (c - 4 * rbC a b).natAbs < 48 * B ∧ ∀ z ∈ rbL v0 v4 a b c, z.natAbs < 48 * B := by
  obtain ⟨C, hC⟩ : ∃ C, C = rbC a b := ⟨_, rfl⟩
  obtain ⟨S, hS⟩ : ∃ S, S = rbS a b := ⟨_, rfl⟩
  obtain ⟨D, hD⟩ : ∃ D, D = rbD a b c := ⟨_, rfl⟩
  have hC' : C = (a + b) / 2 := hC
  have hS' : S = (a - b) / 2 := hS
  have hW : rbW a b c = c - 4 * C - 2 * S := by rw [rbW, ← hC, ← hS]
  have hD' : D = (c - 4 * C - 2 * S) / 6 := by rw [← hW, hD]; rfl
  rw [rbL, hW, ← hC, ← hS, ← hD]
  clear hC hS hD hW
  refine ⟨by omega, by omega, by omega, by omega, by omega, by omega, by omega, fun z hz => ?_⟩
  simp only [List.mem_cons, List.not_mem_nil, or_false] at hz
  rcases hz with rfl | rfl | rfl | rfl | rfl <;> omega

theorem nb3 {x y z : Int} {B : Nat} (hx : x.natAbs < B) (hy : y.natAbs < B) (hz : z.natAbs < B) : (x - y - z).natAbs < 4 * B := by omega
theorem nb2 {x y : Int} {B : Nat} (hx : x.natAbs < B) (hy : y.natAbs < B) : (x - y).natAbs < 48 * B := by omega
theorem nb16 {x : Int} {B : Nat} (hx : x.natAbs < B) : (16 * x).natAbs < 48 * B := by omega
theorem nb316 {x y z : Int} {B : Nat} (hx : x.natAbs < B) (hy : y.natAbs < B) (hz : z.natAbs < B) : (x - y - 16 * z).natAbs < 20 * B := by omega
theorem nbu {x : Int} {B : Nat} (hx : x.natAbs < B) : x.natAbs < 48 * B := by omega
theorem nbu4 {x : Int} {B : Nat} (hx : x.natAbs < 4 * B) : x.natAbs < 48 * B := by omega
theorem nbu20 {x : Int} {B : Nat} (hx : x.natAbs < 20 * B) : x.natAbs < 48 * B := by omega
theorem nbs {x y : Int} {B : Nat} (hx : x.natAbs < 4 * B) (hy : y.natAbs < 4 * B) : (x + y).natAbs < 48 * B := by omega
theorem nbd {x y : Int} {B : Nat} (hx : x.natAbs < 4 * B) (hy : y.natAbs < 4 * B) : (x - y).natAbs < 48 * B := by omega

set_option maxRecDepth 100000 in
set_option maxHeartbeats 8000000 in
theorem rBack_ok (p0 p1 p2 p3 p4 : Bool × List Int) (hp : ∀ p ∈ [p0, p1, p2, p3, p4], p.2.length ≤ 1000 ∧ okW p.2) :
    FnOk Tryz.prog 6 [.v (.agg [pV p0, pV p1, pV p2, pV p3, pV p4])] [.v true (arrV (rbL (ival p0) (ival p4) (ival p1 - ival p0 - ival p4) (ival p2 - ival p0 - ival p4) (ival p3 - ival p0 - 16 * ival p4))), .v true (.bool (rbB (ival p1 - ival p0 - ival p4) (ival p2 - ival p0 - ival p4) (ival p3 - ival p0 - 16 * ival p4)))] := by
  obtain ⟨K, hK⟩ : ∃ K, K = 1000 := ⟨_, rfl⟩
  rw [← hK] at hp
  obtain ⟨l0, o0⟩ := hp p0 (by simp)
  obtain ⟨l1, o1⟩ := hp p1 (by simp)
  obtain ⟨l2, o2⟩ := hp p2 (by simp)
  obtain ⟨l3, o3⟩ := hp p3 (by simp)
  obtain ⟨l4, o4⟩ := hp p4 (by simp)
  have b0 := ival_lt l0 o0
  have b1 := ival_lt l1 o1
  have b2 := ival_lt l2 o2
  have b3 := ival_lt l3 o3
  have b4 := ival_lt l4 o4
  have hup : 48 * 18446744073709551616 ^ K ≤ 18446744073709551616 ^ (K + 1) := by
    rw [Nat.pow_succ, Nat.mul_comm]
    exact Nat.mul_le_mul_left _ (by decide)
  obtain ⟨B, hB⟩ : ∃ B, B = 18446744073709551616 ^ K := ⟨_, rfl⟩
  rw [← hB] at b0 b1 b2 b3 b4 hup
  have hlen : ∀ z : Int, z.natAbs < 48 * B → (zp z).2.length ≤ K + 1 := fun z h => zp_len (Nat.lt_of_lt_of_le h hup)
  have hT := TrimI_ok p0 (by omega) o0
  have hT4 := TrimI_ok p4 (by omega) o4
  have s1 := SubI_ok p1 p0 (by omega) (by omega) o1 o0
  have s2 := SubI_ok p2 p0 (by omega) (by omega) o2 o0
  have s3 := SubI_ok p3 p0 (by omega) (by omega) o3 o0
  have f16 := From_ok 16 (by decide) (by decide)
  have f4 := From_ok 4 (by decide) (by decide)
  have f2 := From_ok 2 (by decide) (by decide)
  have l16 : (zp 16).2.length < 20000 := by decide +kernel
  have lf4 : (zp 4).2.length < 20000 := by decide +kernel
  have lf2 : (zp 2).2.length < 20000 := by decide +kernel
  have m16 := MulI_ok (zp 16) p4 l16 (by omega) (zp_ok _) o4
  rw [ival_zp] at m16
  obtain ⟨i0, e0⟩ : ∃ i, i = ival p0 := ⟨_, rfl⟩
  obtain ⟨i1, e1⟩ : ∃ i, i = ival p1 := ⟨_, rfl⟩
  obtain ⟨i2, e2⟩ : ∃ i, i = ival p2 := ⟨_, rfl⟩
  obtain ⟨i3, e3⟩ : ∃ i, i = ival p3 := ⟨_, rfl⟩
  obtain ⟨i4, e4⟩ : ∃ i, i = ival p4 := ⟨_, rfl⟩
  have k1 := hlen (i1 - i0) (by rw [e1, e0]; exact nb2 b1 b0)
  have k2 := hlen (i2 - i0) (by rw [e2, e0]; exact nb2 b2 b0)
  have k3 := hlen (i3 - i0) (by rw [e3, e0]; exact nb2 b3 b0)
  have k4 := hlen (16 * i4) (by rw [e4]; exact nb16 b4)
  have u1 := SubI_ok (zp (i1 - i0)) p4 (by omega) (by omega) (zp_ok _) o4
  have u2 := SubI_ok (zp (i2 - i0)) p4 (by omega) (by omega) (zp_ok _) o4
  have u3 := SubI_ok (zp (i3 - i0)) (zp (16 * i4)) (by omega) (by omega) (zp_ok _) (zp_ok _)
  rw [ival_zp, ← e4] at u1 u2
  rw [ival_zp, ival_zp] at u3
  rw [← e0, ← e1] at s1
  rw [← e0, ← e2] at s2
  rw [← e0, ← e3] at s3
  rw [← e4] at m16 hT4 b4
  rw [← e0] at hT b0
  rw [← e1] at b1
  rw [← e2] at b2
  rw [← e3] at b3
  rw [← e0, ← e1, ← e2, ← e3, ← e4]
  clear e0 e1 e2 e3 e4
  obtain ⟨a, ha⟩ : ∃ a, a = i1 - i0 - i4 := ⟨_, rfl⟩
  obtain ⟨b, hb⟩ : ∃ b, b = i2 - i0 - i4 := ⟨_, rfl⟩
  obtain ⟨c, hc⟩ : ∃ c, c = i3 - i0 - 16 * i4 := ⟨_, rfl⟩
  have na : a.natAbs < 4 * B := by rw [ha]; exact nb3 b1 b0 b4
  have nb : b.natAbs < 4 * B := by rw [hb]; exact nb3 b2 b0 b4
  have nc : c.natAbs < 20 * B := by rw [hc]; exact nb316 b3 b0 b4
  rw [← ha] at u1 ⊢
  rw [← hb] at u2 ⊢
  rw [← hc] at u3 ⊢
  obtain ⟨nC, nS, nD, nW, n4C, n2S, nc4, _⟩ := rb_bnd (v0 := i0) (v4 := i4) (nbu b0) (nbu b4) na nb nc
  have ka := hlen a (nbu4 na)
  have kb := hlen b (nbu4 nb)
  have kc := hlen c (nbu20 nc)
  have kC := hlen _ nC
  have kS := hlen _ nS
  have kD := hlen _ nD
  have k4C := hlen _ n4C
  have k2S := hlen _ n2S
  have kc4 := hlen _ nc4
  have v1 := AddI_ok (zp a) (zp b) (by omega) (by omega) (zp_ok _) (zp_ok _)
  have v2 := SubI_ok (zp a) (zp b) (by omega) (by omega) (zp_ok _) (zp_ok _)
  rw [ival_zp, ival_zp] at v1 v2
  have w1 := half_ok (a + b) 2 (K + 1) (by omega) (Nat.lt_of_lt_of_le (nbs na nb) hup) (by decide) (by decide)
  have w2 := half_ok (a - b) 2 (K + 1) (by omega) (Nat.lt_of_lt_of_le (nbd na nb) hup) (by decide) (by decide)
  have w3 := half_ok (rbW a b c) 6 (K + 1) (by omega) (Nat.lt_of_lt_of_le nW hup) (by decide) (by decide)
  have x4 := MulI_ok (zp 4) (zp (rbC a b)) lf4 (by omega) (zp_ok _) (zp_ok _)
  have x2 := MulI_ok (zp 2) (zp (rbS a b)) lf2 (by omega) (zp_ok _) (zp_ok _)
  rw [ival_zp, ival_zp] at x4 x2
  have y1 := SubI_ok (zp c) (zp (4 * rbC a b)) (by omega) (by omega) (zp_ok _) (zp_ok _)
  have y2 := SubI_ok (zp (c - 4 * rbC a b)) (zp (2 * rbS a b)) (by omega) (by omega) (zp_ok _) (zp_ok _)
  have y3 := SubI_ok (zp (rbS a b)) (zp (rbD a b c)) (by omega) (by omega) (zp_ok _) (zp_ok _)
  rw [ival_zp, ival_zp] at y1 y2 y3
  rw [show c - 4 * rbC a b - 2 * rbS a b = rbW a b c from rfl] at y2
  rw [show (a + b) / ((2 : Nat) : Int) = rbC a b from rfl, show (a + b) % ((2 : Nat) : Int) = (a + b) % 2 from rfl] at w1
  rw [show (a - b) / ((2 : Nat) : Int) = rbS a b from rfl, show (a - b) % ((2 : Nat) : Int) = (a - b) % 2 from rfl] at w2
  rw [show rbW a b c / ((6 : Nat) : Int) = rbD a b c from rfl, show rbW a b c % ((6 : Nat) : Int) = rbW a b c % 6 from rfl] at w3
  unfold rbB rbL
  obtain ⟨x, hx⟩ : ∃ x, x = decide ((a + b) % 2 = 0) := ⟨_, rfl⟩
  obtain ⟨y, hy⟩ : ∃ y, y = decide ((a - b) % 2 = 0) := ⟨_, rfl⟩
  obtain ⟨z, hz⟩ : ∃ z, z = decide (rbW a b c % 6 = 0) := ⟨_, rfl⟩
  rw [← hx] at w1 ⊢
  rw [← hy] at w2 ⊢
  rw [← hz] at w3 ⊢
  clear hx hy hz hK b0 b1 b2 b3 b4 hup hlen l0 l1 l2 l3 l4 o0 o1 o2 o3 o4 hp l16 lf4 lf2 k1 k2 k3 k4 ka kb kc kC kS kD k4C k2S kc4 nC nS nD nW n4C n2S nc4 na nb nc ha hb hc hB
  obtain ⟨C, hC⟩ : ∃ C, C = rbC a b := ⟨_, rfl⟩
  obtain ⟨S, hS⟩ : ∃ S, S = rbS a b := ⟨_, rfl⟩
  obtain ⟨D, hD⟩ : ∃ D, D = rbD a b c := ⟨_, rfl⟩
  obtain ⟨W, hW⟩ : ∃ W, W = rbW a b c := ⟨_, rfl⟩
  rw [← hC] at w1 x4 y1 y2 ⊢
  rw [← hS] at w2 x2 y2 y3 ⊢
  rw [← hD] at w3 y3 ⊢
  rw [← hW] at w3 y2
  clear hC hS hD hW
  rw [show arrV [i0, S - D, C, D, i4] = .agg [pV (zp i0), pV (zp (S - D)), pV (zp C), pV (zp D), pV (zp i4)] from rfl]
  refine FnOk.of Tryz.func6 rfl rfl fun cx w0 => ?_
  rw [show Tryz.f6.ntmps = 83 from rfl]
  refine Holds.step (Px := px) (T := TT) (ρ := fun _ => []) TTe (by simp (maxSteps := 100000) (disch := omega) only [go_sem, V.isAgg, V.flat, ↓reduceIte, Nat.reduceAdd, Nat.reduceSub, Nat.reduceLT, Nat.reduceEqDiff, reduceCtorEq, Nat.reduceLeDiff, Nat.reduceBEq, Nat.reduceMul, Int.reduceToNat, List.length_cons, List.length_nil]; rfl) (by repeat' first | exact trivial | constructor) ?_
  refine Holds.dstepT (Px := px) (T := TT) (ρ := fun _ => []) [(2, 6), (3, 6)] mixed (by kernel_rfl) TTe (by simp (maxSteps := 100000) (disch := omega) only [go_sem, V.isAgg, V.flat, ↓reduceIte, Nat.reduceAdd, Nat.reduceSub, Nat.reduceLT, Nat.reduceEqDiff, reduceCtorEq, Nat.reduceLeDiff, Nat.reduceBEq, Nat.reduceMul, Int.reduceToNat, -V.isAgg, -V.flat, isAgg_agg, isAgg_int, isAgg_bool, isAgg_sl, flat_agg, flat_int, flat_bool, flat_sl, pV_size, pV_agg]; rfl) (by repeat' first | exact trivial | constructor) (by rfl) (by rfl) (by simp (maxSteps := 100000) (disch := omega) only [trc_nil, trc_cons, effW_t, effW_f, trcE_s, opSites_eq, sitesOf, AV.sites, AV.sitesL, Op.operands, Call.operands, List.append_toArray, List.toList_toArray, List.filter_nil, List.filter_cons, List.contains_cons, List.contains_nil, go_sem, V.isAgg, V.flat, ↓reduceIte, Nat.reduceAdd, Nat.reduceSub, Nat.reduceLT, Nat.reduceEqDiff, reduceCtorEq, Nat.reduceLeDiff, Nat.reduceBEq, Nat.reduceMul, Int.reduceToNat, -V.isAgg, -V.flat, isAgg_agg, isAgg_int, isAgg_bool, isAgg_sl, flat_agg, flat_int, flat_bool, flat_sl, pV_size, pV_agg]; rfl) (by rfl) ?_
  refine Holds.dstep (Px := px) (T := TT) (ρ := fun d => if d = 22 then [.v true (pV (zp (i1 - i0)))] else [.v true (pV (zp a))]) [] mixed (by kernel_rfl) TTe (by simp (maxSteps := 100000) (disch := omega) only [go_sem, V.isAgg, V.flat, ↓reduceIte, Nat.reduceAdd, Nat.reduceSub, Nat.reduceLT, Nat.reduceEqDiff, reduceCtorEq, Nat.reduceLeDiff, Nat.reduceBEq, Nat.reduceMul, Int.reduceToNat, -V.isAgg, -V.flat, isAgg_agg, isAgg_int, isAgg_bool, isAgg_sl, flat_agg, flat_int, flat_bool, flat_sl, pV_size, pV_agg]; rfl) (by first | exact ⟨s1, u1⟩ | (repeat' first | exact trivial | exact s1 | exact u1 | constructor)) (by rfl) (by rfl) (by rfl) ?_
  refine Holds.dstep (Px := px) (T := TT) (ρ := fun d => if d = 28 then [.v true (pV (zp (i2 - i0)))] else [.v true (pV (zp b))]) [] mixed (by kernel_rfl) TTe (by simp (maxSteps := 100000) (disch := omega) only [go_sem, V.isAgg, V.flat, ↓reduceIte, Nat.reduceAdd, Nat.reduceSub, Nat.reduceLT, Nat.reduceEqDiff, reduceCtorEq, Nat.reduceLeDiff, Nat.reduceBEq, Nat.reduceMul, Int.reduceToNat, -V.isAgg, -V.flat, isAgg_agg, isAgg_int, isAgg_bool, isAgg_sl, flat_agg, flat_int, flat_bool, flat_sl, pV_size, pV_agg]; rfl) (by first | exact ⟨s2, u2⟩ | (repeat' first | exact trivial | exact s2 | exact u2 | constructor)) (by rfl) (by rfl) (by rfl) ?_
  refine Holds.dstep (Px := px) (T := TT) (ρ := fun d => if d = 34 then [.v true (pV (zp (i3 - i0)))] else if d = 35 then [.v true (pV (zp 16))] else if d = 37 then [.v true (pV (zp (16 * i4)))] else [.v true (pV (zp c))]) [] mixed (by kernel_rfl) TTe (by simp (maxSteps := 100000) (disch := omega) only [go_sem, V.isAgg, V.flat, ↓reduceIte, Nat.reduceAdd, Nat.reduceSub, Nat.reduceLT, Nat.reduceEqDiff, reduceCtorEq, Nat.reduceLeDiff, Nat.reduceBEq, Nat.reduceMul, Int.reduceToNat, -V.isAgg, -V.flat, isAgg_agg, isAgg_int, isAgg_bool, isAgg_sl, flat_agg, flat_int, flat_bool, flat_sl, pV_size, pV_agg]; rfl) (by first | exact ⟨s3, f16, m16, u3⟩ | (repeat' first | exact trivial | exact s3 | exact f16 | exact m16 | exact u3 | constructor)) (by rfl) (by rfl) (by rfl) ?_
  refine Holds.step (Px := px) (T := TT) (ρ := fun d => if d = 42 then [.v true (pV (zp (a + b)))] else [.v true (pV (zp C)), .v true (.bool x)]) TTe (by simp (maxSteps := 100000) (disch := omega) only [go_sem, V.isAgg, V.flat, ↓reduceIte, Nat.reduceAdd, Nat.reduceSub, Nat.reduceLT, Nat.reduceEqDiff, reduceCtorEq, Nat.reduceLeDiff, Nat.reduceBEq, Nat.reduceMul, Int.reduceToNat, -V.isAgg, -V.flat, isAgg_agg, isAgg_int, isAgg_bool, isAgg_sl, flat_agg, flat_int, flat_bool, flat_sl, pV_size, pV_agg]; rfl) (by first | exact ⟨v1, w1⟩ | (repeat' first | exact trivial | exact v1 | exact w1 | constructor)) ?_
  refine Holds.step (Px := px) (T := TT) (ρ := fun d => if d = 49 then [.v true (pV (zp (a - b)))] else [.v true (pV (zp S)), .v true (.bool y)]) TTe (by simp (maxSteps := 100000) (disch := omega) only [go_sem, V.isAgg, V.flat, ↓reduceIte, Nat.reduceAdd, Nat.reduceSub, Nat.reduceLT, Nat.reduceEqDiff, reduceCtorEq, Nat.reduceLeDiff, Nat.reduceBEq, Nat.reduceMul, Int.reduceToNat, -V.isAgg, -V.flat, isAgg_agg, isAgg_int, isAgg_bool, isAgg_sl, flat_agg, flat_int, flat_bool, flat_sl, pV_size, pV_agg]; rfl) (by first | exact ⟨v2, w2⟩ | (repeat' first | exact trivial | exact v2 | exact w2 | constructor)) ?_
  refine Holds.dstep (Px := px) (T := TT) (ρ := fun d => if d = 55 then [.v true (pV (zp 4))] else if d = 57 then [.v true (pV (zp (4 * C)))] else if d = 58 then [.v true (pV (zp (c - 4 * C)))] else if d = 59 then [.v true (pV (zp 2))] else if d = 61 then [.v true (pV (zp (2 * S)))] else if d = 62 then [.v true (pV (zp W))] else [.v true (pV (zp D)), .v true (.bool z)]) [] mixed (by kernel_rfl) TTe (by simp (maxSteps := 100000) (disch := omega) only [go_sem, V.isAgg, V.flat, ↓reduceIte, Nat.reduceAdd, Nat.reduceSub, Nat.reduceLT, Nat.reduceEqDiff, reduceCtorEq, Nat.reduceLeDiff, Nat.reduceBEq, Nat.reduceMul, Int.reduceToNat, -V.isAgg, -V.flat, isAgg_agg, isAgg_int, isAgg_bool, isAgg_sl, flat_agg, flat_int, flat_bool, flat_sl, pV_size, pV_agg]; rfl) (by first | exact ⟨f4, x4, y1, f2, x2, y2, w3⟩ | (repeat' first | exact trivial | exact f4 | exact x4 | exact y1 | exact f2 | exact x2 | exact y2 | exact w3 | constructor)) (by rfl) (by rfl) (by rfl) ?_
  cases x
  · refine Holds.dstep (Px := px) (T := TT) (ρ := fun d => if d = 67 then [.v true (pV (zp i0))] else if d = 70 then [.v true (pV (zp (S - D)))] else [.v true (pV (zp i4))]) [] mixed (by kernel_rfl) TTe (by simp (maxSteps := 100000) (disch := omega) only [go_sem, V.isAgg, V.flat, ↓reduceIte, Nat.reduceAdd, Nat.reduceSub, Nat.reduceLT, Nat.reduceEqDiff, reduceCtorEq, Nat.reduceLeDiff, Nat.reduceBEq, Nat.reduceMul, Int.reduceToNat, -V.isAgg, -V.flat, isAgg_agg, isAgg_int, isAgg_bool, isAgg_sl, flat_agg, flat_int, flat_bool, flat_sl, pV_size, pV_agg]; rfl) (by first | exact ⟨hT, y3, hT4⟩ | (repeat' first | exact trivial | exact hT | exact y3 | exact hT4 | constructor)) (by rfl) (by rfl) (by rfl) ?_
    exact Holds.ret (RetOk.vs (show resAVs Tryz.prog _ _ [ResultVar.cell 2 27, ResultVar.tmp 3] = _ from by simp (maxSteps := 100000) (disch := omega) only [resAVs, AV.isPtr, go_sem, V.isAgg, V.flat, ↓reduceIte, Nat.reduceAdd, Nat.reduceSub, Nat.reduceLT, Nat.reduceEqDiff, reduceCtorEq, Nat.reduceLeDiff, Nat.reduceBEq, Nat.reduceMul, Int.reduceToNat, -V.isAgg, -V.flat, isAgg_agg, isAgg_int, isAgg_bool, isAgg_sl, flat_agg, flat_int, flat_bool, flat_sl, pV_size, pV_agg]; rfl) (by exact ⟨⟨rfl, fun h => h⟩, ⟨rfl, fun h => h⟩, trivial⟩) rfl)
  cases y
  · refine Holds.dstep (Px := px) (T := TT) (ρ := fun d => if d = 67 then [.v true (pV (zp i0))] else if d = 70 then [.v true (pV (zp (S - D)))] else [.v true (pV (zp i4))]) [] mixed (by kernel_rfl) TTe (by simp (maxSteps := 100000) (disch := omega) only [go_sem, V.isAgg, V.flat, ↓reduceIte, Nat.reduceAdd, Nat.reduceSub, Nat.reduceLT, Nat.reduceEqDiff, reduceCtorEq, Nat.reduceLeDiff, Nat.reduceBEq, Nat.reduceMul, Int.reduceToNat, -V.isAgg, -V.flat, isAgg_agg, isAgg_int, isAgg_bool, isAgg_sl, flat_agg, flat_int, flat_bool, flat_sl, pV_size, pV_agg]; rfl) (by first | exact ⟨hT, y3, hT4⟩ | (repeat' first | exact trivial | exact hT | exact y3 | exact hT4 | constructor)) (by rfl) (by rfl) (by rfl) ?_
    exact Holds.ret (RetOk.vs (show resAVs Tryz.prog _ _ [ResultVar.cell 2 27, ResultVar.tmp 3] = _ from by simp (maxSteps := 100000) (disch := omega) only [resAVs, AV.isPtr, go_sem, V.isAgg, V.flat, ↓reduceIte, Nat.reduceAdd, Nat.reduceSub, Nat.reduceLT, Nat.reduceEqDiff, reduceCtorEq, Nat.reduceLeDiff, Nat.reduceBEq, Nat.reduceMul, Int.reduceToNat, -V.isAgg, -V.flat, isAgg_agg, isAgg_int, isAgg_bool, isAgg_sl, flat_agg, flat_int, flat_bool, flat_sl, pV_size, pV_agg]; rfl) (by exact ⟨⟨rfl, fun h => h⟩, ⟨rfl, fun h => h⟩, trivial⟩) rfl)
  · refine Holds.dstep (Px := px) (T := TT) (ρ := fun d => if d = 67 then [.v true (pV (zp i0))] else if d = 70 then [.v true (pV (zp (S - D)))] else [.v true (pV (zp i4))]) [] mixed (by kernel_rfl) TTe (by simp (maxSteps := 100000) (disch := omega) only [go_sem, V.isAgg, V.flat, ↓reduceIte, Nat.reduceAdd, Nat.reduceSub, Nat.reduceLT, Nat.reduceEqDiff, reduceCtorEq, Nat.reduceLeDiff, Nat.reduceBEq, Nat.reduceMul, Int.reduceToNat, -V.isAgg, -V.flat, isAgg_agg, isAgg_int, isAgg_bool, isAgg_sl, flat_agg, flat_int, flat_bool, flat_sl, pV_size, pV_agg]; rfl) (by first | exact ⟨hT, y3, hT4⟩ | (repeat' first | exact trivial | exact hT | exact y3 | exact hT4 | constructor)) (by rfl) (by rfl) (by rfl) ?_
    exact Holds.ret (RetOk.vs (show resAVs Tryz.prog _ _ [ResultVar.cell 2 27, ResultVar.tmp 3] = _ from by simp (maxSteps := 100000) (disch := omega) only [resAVs, AV.isPtr, go_sem, V.isAgg, V.flat, ↓reduceIte, Nat.reduceAdd, Nat.reduceSub, Nat.reduceLT, Nat.reduceEqDiff, reduceCtorEq, Nat.reduceLeDiff, Nat.reduceBEq, Nat.reduceMul, Int.reduceToNat, -V.isAgg, -V.flat, isAgg_agg, isAgg_int, isAgg_bool, isAgg_sl, flat_agg, flat_int, flat_bool, flat_sl, pV_size, pV_agg]; rfl) (by exact ⟨⟨rfl, fun h => h⟩, ⟨rfl, fun h => h⟩, trivial⟩) rfl)

/-- The package's Back against the reference's. -/
theorem backs_ok (p0 p1 p2 p3 p4 : Bool × List Int) (hp : ∀ p ∈ [p0, p1, p2, p3, p4], p.2.length ≤ 1000 ∧ okW p.2) :
    ∃ (ok : Bool) (L G : List V), L.length = 5 ∧ (∀ x ∈ L, x.size = 2 ∧ x.isAgg = true) ∧ G.length = 5 ∧ (∀ x ∈ G, x.size = 2 ∧ x.isAgg = true) ∧
      FnOk Tryz.prog 6 [.v (.agg [pV p0, pV p1, pV p2, pV p3, pV p4])] [.v true (.agg L), .v true (.bool ok)] ∧
      FnOk Tryz.prog 5 [.v (.agg [pV p0, pV p1, pV p2, pV p3, pV p4])] [.v false (.agg G), .v true (.int .i64 (if ok = true then 0 else 4))] ∧
      (ok = true → FnOk Tryz.prog 7 [.v (.sl 2 G), .v (.sl 2 L)] [.v true (.bool true)]) ∧
      (ok = false → G = [.agg [.bool false, .sl 1 []], .agg [.bool false, .sl 1 []], .agg [.bool false, .sl 1 []], .agg [.bool false, .sl 1 []], .agg [.bool false, .sl 1 []]]) := by
  have hR := rBack_ok p0 p1 p2 p3 p4 hp
  obtain ⟨K, hK⟩ : ∃ K, K = 1000 := ⟨_, rfl⟩
  rw [← hK] at hp
  have hlt : ∀ p ∈ [p0, p1, p2, p3, p4], (ival p).natAbs < 18446744073709551616 ^ K := fun p h => ival_lt (hp p h).1 (hp p h).2
  have b0 := hlt p0 (by simp)
  have b1 := hlt p1 (by simp)
  have b2 := hlt p2 (by simp)
  have b3 := hlt p3 (by simp)
  have b4 := hlt p4 (by simp)
  have hup : 48 * 18446744073709551616 ^ K ≤ 18446744073709551616 ^ (K + 1) := by
    rw [Nat.pow_succ, Nat.mul_comm]
    exact Nat.mul_le_mul_left _ (by decide)
  have hk := back_ok (ival p0) (ival p1) (ival p2) (ival p3) (ival p4) K (by omega) b0 b1 b2 b3 b4
  obtain ⟨i0, e0⟩ : ∃ i, i = ival p0 := ⟨_, rfl⟩
  obtain ⟨i1, e1⟩ : ∃ i, i = ival p1 := ⟨_, rfl⟩
  obtain ⟨i2, e2⟩ : ∃ i, i = ival p2 := ⟨_, rfl⟩
  obtain ⟨i3, e3⟩ : ∃ i, i = ival p3 := ⟨_, rfl⟩
  obtain ⟨i4, e4⟩ : ∃ i, i = ival p4 := ⟨_, rfl⟩
  rw [← e0, ← e1, ← e2, ← e3, ← e4] at hk hR
  rw [← e0] at b0
  rw [← e1] at b1
  rw [← e2] at b2
  rw [← e3] at b3
  rw [← e4] at b4
  obtain ⟨B, hB⟩ : ∃ B, B = 18446744073709551616 ^ K := ⟨_, rfl⟩
  rw [← hB] at b0 b1 b2 b3 b4 hup
  rw [show bkA i1 i0 i4 (-1) = i1 - i0 - i4 from by unfold bkA; omega, show bkA i2 i0 i4 (-1) = i2 - i0 - i4 from by unfold bkA; omega, show bkA i3 i0 i4 (-16) = i3 - i0 - 16 * i4 from by unfold bkA; omega] at hk
  obtain ⟨a, ha⟩ : ∃ a, a = i1 - i0 - i4 := ⟨_, rfl⟩
  obtain ⟨b, hb⟩ : ∃ b, b = i2 - i0 - i4 := ⟨_, rfl⟩
  obtain ⟨c, hc⟩ : ∃ c, c = i3 - i0 - 16 * i4 := ⟨_, rfl⟩
  have na : a.natAbs < 4 * B := by rw [ha]; exact nb3 b1 b0 b4
  have nb : b.natAbs < 4 * B := by rw [hb]; exact nb3 b2 b0 b4
  have nc : c.natAbs < 20 * B := by rw [hc]; exact nb316 b3 b0 b4
  rw [← ha, ← hb, ← hc] at hk hR
  obtain ⟨_, _, _, _, _, _, _, hL⟩ := rb_bnd (v0 := i0) (v4 := i4) (nbu b0) (nbu b4) na nb nc
  obtain ⟨q1, q2⟩ := bk_rb i0 i4 a b c
  rw [q1] at hk
  clear q1 ha hb hc na nb nc b0 b1 b2 b3 b4
  obtain ⟨ZL, hZL⟩ : ∃ Z, Z = rbL i0 i4 a b c := ⟨_, rfl⟩
  have hZl : ZL.length = 5 := by rw [hZL]; rfl
  obtain ⟨ok, hok⟩ : ∃ ok, ok = rbB a b c := ⟨_, rfl⟩
  rw [← hZL] at hR q2 hL
  rw [← hok] at hR q2 hk
  have hbl : (bkL i0 i4 a b c).length = 5 := rfl
  have hbs : ∀ x ∈ bkL i0 i4 a b c, x.size = 2 ∧ x.isAgg = true := fun x hx => by
    simp only [bkL, List.mem_cons, List.not_mem_nil, or_false] at hx
    rcases hx with rfl | rfl | rfl | rfl | rfl <;> exact ⟨rfl, rfl⟩
  obtain ⟨G, hG⟩ : ∃ G, G = bkL i0 i4 a b c := ⟨_, rfl⟩
  rw [← hG] at hk hbl hbs q2
  have hLt : ∀ z ∈ ZL, z.natAbs < 18446744073709551616 ^ (K + 1) := fun z h => Nat.lt_of_lt_of_le (hL z h) hup
  have hq : ok = true → G = ZL.map fun z => pV (zp z) := fun h => by
    have := q2 h
    rw [arrV] at this
    injection this
  have hBk := Back_of p0 p1 p2 p3 p4 G ok (fun p h => ⟨by have := (hp p h).1; omega, (hp p h).2⟩) hbl hbs (by rw [← e0, ← e1, ← e2, ← e3, ← e4]; exact hk) (fun h x hx => by
    rw [hq h] at hx
    obtain ⟨z, hz, rfl⟩ := List.mem_map.1 hx
    exact told_ok z (K + 1) (by omega) (hLt z hz))
  have hzs : ∀ x ∈ ZL.map (fun z => pV (zp z)), x.size = 2 ∧ x.isAgg = true := fun x hx => by
    obtain ⟨z, _, rfl⟩ := List.mem_map.1 hx
    exact ⟨rfl, rfl⟩
  cases ok
  · exact ⟨false, _, [.agg [.bool false, .sl 1 []], .agg [.bool false, .sl 1 []], .agg [.bool false, .sl 1 []], .agg [.bool false, .sl 1 []], .agg [.bool false, .sl 1 []]], by rw [List.length_map]; exact hZl, hzs, rfl, fun x hx => by
      simp only [List.mem_cons, List.not_mem_nil, or_false, or_self] at hx
      subst hx; exact ⟨rfl, rfl⟩, hR, hBk, (fun h => by cases h), (fun _ => rfl)⟩
  · refine ⟨true, _, G, by rw [List.length_map]; exact hZl, hzs, hbl, hbs, hR, hBk, (fun _ => ?_), (fun h => by cases h)⟩
    have := sameZ_ok ZL (ZL.map zp) (by omega) (fun z hz => by have := zp_len (hLt z hz); omega) (fun p hp => by
      obtain ⟨z, hz, rfl⟩ := List.mem_map.1 hp
      exact ⟨by have := zp_len (hLt z hz); omega, zp_ok z⟩) (by rw [List.map_map]; simp [Function.comp_def, ival_zp])
    rw [intsV, List.map_map] at this
    rw [hq rfl]
    exact this
/-
  The law FastBacks: the walk.
-/

set_option maxRecDepth 100000 in
set_option maxHeartbeats 2000000 in
theorem FastBacks_ok (ps : List (Bool × List Int)) (ops : ∀ p ∈ ps, okW p.2) : FnOk Tryz.prog 3 [.v (intsV ps)] [.v true (.bool true)] := by
  have hI := integers_ok ps 5 8 (by decide) (by decide)
  obtain ⟨hA1, hA2⟩ := fewP_all (ps := ps) (many := 5) (most := 8) ops
  obtain ⟨X, hX⟩ : ∃ X, X = fewP ps 5 8 := ⟨_, rfl⟩
  rw [← hX] at hI hA1 hA2
  have hFv := rFive_ok X hA1 hA2
  have hFl := five_lt (by rw [List.length_map]; exact hA1) (ivals_lt hA2)
  have hF5 : (fiveZ (X.map ival)).length = 5 := rfl
  obtain ⟨F, hF⟩ : ∃ F, F = fiveZ (X.map ival) := ⟨_, rfl⟩
  rw [← hF] at hFv hFl hF5
  have hFok : ∀ p ∈ F.map zp, p.2.length ≤ 1000 ∧ okW p.2 := fun p hp => by
    obtain ⟨z, hz, rfl⟩ := List.mem_map.1 hp
    exact ⟨by have := zp_len (hFl z hz); omega, zp_ok z⟩
  obtain ⟨f0, f1, f2, f3, f4, rfl⟩ : ∃ a b c d e, F = [a, b, c, d, e] := by
    match F, hF5 with
    | [a, b, c, d, e], _ => exact ⟨a, b, c, d, e, rfl⟩
  rw [show arrV [f0, f1, f2, f3, f4] = .agg [pV (zp f0), pV (zp f1), pV (zp f2), pV (zp f3), pV (zp f4)] from rfl] at hFv
  have hm : min X.length 5 = X.length := by omega
  have htk : List.take X.length (List.map pV X) = List.map pV X := List.take_of_length_le (by rw [List.length_map]; exact Nat.le_refl _)
  obtain ⟨P, hP⟩ : ∃ P, P = X ++ List.replicate (5 - X.length) (false, []) := ⟨_, rfl⟩
  have hPl : P.length = 5 := by rw [hP, List.length_append, List.length_replicate]; omega
  have hPok : ∀ p ∈ P, p.2.length ≤ 1000 ∧ okW p.2 := fun p hp => by
    rw [hP] at hp
    rcases List.mem_append.1 hp with h | h
    · exact ⟨by have := (hA2 p h).1; omega, (hA2 p h).2⟩
    · rw [(List.mem_replicate.1 h).2]
      exact ⟨by simp, fun n hn => by cases hn⟩
  have hcp : List.map pV X ++ List.drop X.length (List.replicate 5 (V.agg [.bool false, .sl 1 []])) = P.map pV := by
    rw [hP, List.map_append, List.map_replicate, show V.agg [.bool false, .sl 1 []] = pV (false, []) from rfl, List.drop_replicate]
  obtain ⟨q0, q1, q2, q3, q4, rfl⟩ : ∃ a b c d e, P = [a, b, c, d, e] := by
    match P, hPl with
    | [a, b, c, d, e], _ => exact ⟨a, b, c, d, e, rfl⟩
  rw [show [q0, q1, q2, q3, q4].map pV = [pV q0, pV q1, pV q2, pV q3, pV q4] from rfl, show List.replicate 5 (V.agg [.bool false, .sl 1 []]) = [.agg [.bool false, .sl 1 []], .agg [.bool false, .sl 1 []], .agg [.bool false, .sl 1 []], .agg [.bool false, .sl 1 []], .agg [.bool false, .sl 1 []]] from rfl] at hcp
  clear hP hF hFl
  refine FnOk.of Tryz.func3 rfl rfl fun cx w0 => ?_
  rw [show Tryz.f3.ntmps = 58 from rfl]
  refine Holds.step (Px := px) (T := TT) (ρ := fun _ => []) TTe (by simp (maxSteps := 100000) (disch := omega) only [go_sem, V.isAgg, V.flat, ↓reduceIte, Nat.reduceAdd, Nat.reduceSub, Nat.reduceLT, Nat.reduceEqDiff, reduceCtorEq, Nat.reduceLeDiff, Nat.reduceBEq, Nat.reduceMul, Int.reduceToNat, List.length_cons, List.length_nil]; rfl) (by repeat' first | exact trivial | constructor) ?_
  refine Holds.step (Px := px) (T := TT) (ρ := fun _ => []) TTe (by simp (maxSteps := 100000) (disch := omega) only [go_sem, V.isAgg, V.flat, ↓reduceIte, Nat.reduceAdd, Nat.reduceSub, Nat.reduceLT, Nat.reduceEqDiff, reduceCtorEq, Nat.reduceLeDiff, Nat.reduceBEq, Nat.reduceMul, Int.reduceToNat]; rfl) (by repeat' first | exact trivial | constructor) ?_
  refine Holds.dstep (Px := px) (T := TT) (ρ := fun _ => [.v true (intsV X)]) [] mixed (by kernel_rfl) TTe (by simp (maxSteps := 100000) (disch := omega) only [go_sem, V.isAgg, V.flat, ↓reduceIte, Nat.reduceAdd, Nat.reduceSub, Nat.reduceLT, Nat.reduceEqDiff, reduceCtorEq, Nat.reduceLeDiff, Nat.reduceBEq, Nat.reduceMul, Int.reduceToNat, intsV, hm, htk, hcp]; rfl) (by first | exact hI | (repeat' first | exact trivial | exact hI | constructor)) (by rfl) (by rfl) (by rfl) ?_
  refine Holds.next (fun σ => ∀ a w, Rel cx w0 σ a w → Rel cx w0 { nt := 58, env := [(2, .v true (.bool false))], mem := [] } a w) ?_ ?_
  · refine Holds.step (Px := px) (T := TT) (ρ := fun _ => []) TTe (by simp (maxSteps := 100000) (disch := omega) only [go_sem, V.isAgg, V.flat, ↓reduceIte, Nat.reduceAdd, Nat.reduceSub, Nat.reduceLT, Nat.reduceEqDiff, reduceCtorEq, Nat.reduceLeDiff, Nat.reduceBEq, Nat.reduceMul, Int.reduceToNat]; rfl) (by repeat' first | exact trivial | constructor) ?_
    refine Holds.loopB (fun i : Nat × List (Bool × List Int) => { nt := 58, env := [(4, .v true (.int .i64 (i.1 : Int))), (0, .v false (intsV ps)), (2, .v true (.bool false)), (3, .ptr 3 0 [] 0)], mem := [(3, .box 27 (.v true (.agg (i.2.map pV))))] }) (fun i => i.1 ≤ 2 ∧ i.2.length = 5 ∧ ∀ p ∈ i.2, p.2.length ≤ 1000 ∧ okW p.2) (fun i => 2 - i.1) (0, [q0, q1, q2, q3, q4]) ⟨Nat.zero_le _, rfl, hPok⟩ (fun a w h => Rel.keep [4, 0, 2, 3] [3] h) ?_
    rintro ⟨i, Q⟩ ⟨hi, hQl, hQ⟩
    simp only at hi hQl hQ
    obtain ⟨p0, p1, p2, p3, p4, rfl⟩ : ∃ a b c d e, Q = [a, b, c, d, e] := by
      match Q, hQl with
      | [a, b, c, d, e], _ => exact ⟨a, b, c, d, e, rfl⟩
    obtain ⟨ok, L, G, hL5, hLs, hG5, hGs, hR, hB, hsame, hzero⟩ := backs_ok p0 p1 p2 p3 p4 hQ
    rw [show [p0, p1, p2, p3, p4].map pV = [pV p0, pV p1, pV p2, pV p3, pV p4] from rfl]
    by_cases hend : i = 2
    · refine Holds.seq ?_
      refine Holds.step (Px := px) (T := TT) (ρ := fun _ => []) TTe (by simp (maxSteps := 100000) (disch := omega) only [go_sem, V.isAgg, V.flat, ↓reduceIte, Nat.reduceAdd, Nat.reduceSub, Nat.reduceLT, Nat.reduceEqDiff, reduceCtorEq, Nat.reduceLeDiff, Nat.reduceBEq, Nat.reduceMul, Int.reduceToNat]; rfl) (by repeat' first | exact trivial | constructor) ?_
      exact Holds.condF rfl (Holds.exit ⟨rfl, fun a w h => Rel.keep [2] [] h⟩)
    · refine Holds.seq ?_
      refine Holds.step (Px := px) (T := TT) (ρ := fun _ => []) TTe (by simp (maxSteps := 100000) (disch := omega) only [go_sem, V.isAgg, V.flat, ↓reduceIte, Nat.reduceAdd, Nat.reduceSub, Nat.reduceLT, Nat.reduceEqDiff, reduceCtorEq, Nat.reduceLeDiff, Nat.reduceBEq, Nat.reduceMul, Int.reduceToNat]; rfl) (by repeat' first | exact trivial | constructor) ?_
      refine Holds.condT rfl (Holds.skip ?_)
      refine Holds.next (fun σ => ∀ a w, Rel cx w0 σ a w → Rel cx w0 { nt := 58, env := [(4, .v true (.int .i64 (i : Int))), (0, .v false (intsV ps)), (2, .v true (.bool false)), (3, .ptr 3 0 [] 0)], mem := [(3, .box 27 (.v true (.agg [pV (zp f0), pV (zp f1), pV (zp f2), pV (zp f3), pV (zp f4)])))] } a w) ?_ ?_
      · refine Holds.blockN ?_
        have sL : V.sizes L = 10 := by
          obtain ⟨a, b, c, d, f, rfl⟩ : ∃ a b c d f, L = [a, b, c, d, f] := by
            match L, hL5 with
            | [a, b, c, d, f], _ => exact ⟨a, b, c, d, f, rfl⟩
          simp only [V.sizes, (hLs a (by simp)).1, (hLs b (by simp)).1, (hLs c (by simp)).1, (hLs d (by simp)).1, (hLs f (by simp)).1]
        have sG : V.sizes G = 10 := by
          obtain ⟨a, b, c, d, f, rfl⟩ : ∃ a b c d f, G = [a, b, c, d, f] := by
            match G, hG5 with
            | [a, b, c, d, f], _ => exact ⟨a, b, c, d, f, rfl⟩
          simp only [V.sizes, (hGs a (by simp)).1, (hGs b (by simp)).1, (hGs c (by simp)).1, (hGs d (by simp)).1, (hGs f (by simp)).1]
        have aL : (L.all fun x => x.size == 2) = true := List.all_eq_true.2 fun x hx => by rw [(hLs x hx).1]; rfl
        have aG : (G.all fun x => x.size == 2) = true := List.all_eq_true.2 fun x hx => by rw [(hGs x hx).1]; rfl
        obtain ⟨e, he⟩ : ∃ e : Int, e = if ok = true then 0 else 4 := ⟨_, rfl⟩
        rw [← he] at hB
        refine Holds.step (Px := px) (T := TT) (ρ := fun _ => [.v false (.agg G), .v true (.int .i64 e)]) TTe (by simp (maxSteps := 100000) (disch := omega) only [go_sem, V.isAgg, V.flat, ↓reduceIte, Nat.reduceAdd, Nat.reduceSub, Nat.reduceLT, Nat.reduceEqDiff, reduceCtorEq, Nat.reduceLeDiff, Nat.reduceBEq, Nat.reduceMul, Int.reduceToNat, -V.isAgg, -V.flat, isAgg_agg, isAgg_int, isAgg_bool, isAgg_sl, flat_agg, flat_int, flat_bool, flat_sl, pV_size, pV_agg, sG]; rfl) (by first | exact hB | (repeat' first | exact trivial | exact hB | constructor)) ?_
        refine Holds.step (Px := px) (T := TT) (ρ := fun _ => [.v true (.agg L), .v true (.bool ok)]) TTe (by simp (maxSteps := 100000) (disch := omega) only [go_sem, V.isAgg, V.flat, ↓reduceIte, Nat.reduceAdd, Nat.reduceSub, Nat.reduceLT, Nat.reduceEqDiff, reduceCtorEq, Nat.reduceLeDiff, Nat.reduceBEq, Nat.reduceMul, Int.reduceToNat, -V.isAgg, -V.flat, isAgg_agg, isAgg_int, isAgg_bool, isAgg_sl, flat_agg, flat_int, flat_bool, flat_sl, pV_size, pV_agg, sL]; rfl) (by first | exact hR | (repeat' first | exact trivial | exact hR | constructor)) ?_
        refine Holds.step (Px := px) (T := TT) (ρ := fun _ => []) TTe (by simp (maxSteps := 100000) (disch := omega) only [go_sem, V.isAgg, V.flat, ↓reduceIte, Nat.reduceAdd, Nat.reduceSub, Nat.reduceLT, Nat.reduceEqDiff, reduceCtorEq, Nat.reduceLeDiff, Nat.reduceBEq, Nat.reduceMul, Int.reduceToNat]; rfl) (by repeat' first | exact trivial | constructor) ?_
        refine Holds.next (fun σ => ∀ a w, Rel cx w0 σ a w → Rel cx w0 { nt := 58, env := [(4, .v true (.int .i64 (i : Int))), (0, .v false (intsV ps)), (2, .v true (.bool false)), (3, .ptr 3 0 [] 0)], mem := [(3, .box 27 (.v true (.agg [pV p0, pV p1, pV p2, pV p3, pV p4])))] } a w) ?_ ?_
        · cases ok
          · have hz := hzero rfl
            obtain rfl : e = 4 := he
            subst hz
            refine Holds.dstep (Px := px) (T := TT) (ρ := fun _ => [.v true (.bool true)]) [] mixed (by kernel_rfl) TTe (by simp (maxSteps := 100000) (disch := omega) only [go_sem, V.isAgg, V.flat, ↓reduceIte, Nat.reduceAdd, Nat.reduceSub, Nat.reduceLT, Nat.reduceEqDiff, reduceCtorEq, Nat.reduceLeDiff, Nat.reduceBEq, Nat.reduceMul, Int.reduceToNat, -V.isAgg, -V.flat, isAgg_agg, isAgg_int, isAgg_bool, isAgg_sl, flat_agg, flat_int, flat_bool, flat_sl, hL5, aL, unA]; rfl) (by first | exact zeros_same | (repeat' first | exact trivial | exact zeros_same | constructor)) (by rfl) (by rfl) (by rfl) ?_
            exact Holds.condF rfl (Holds.skip fun a w h => Rel.keep [4, 0, 2, 3] [3] h)
          · have hs := hsame rfl
            obtain rfl : e = 0 := he
            obtain ⟨y0, y1, y2, y3, y4, rfl⟩ : ∃ a b c d f, L = [a, b, c, d, f] := by
              match L, hL5 with
              | [a, b, c, d, f], _ => exact ⟨a, b, c, d, f, rfl⟩
            obtain ⟨g0, g1, g2, g3, g4, rfl⟩ : ∃ a b c d f, G = [a, b, c, d, f] := by
              match G, hG5 with
              | [a, b, c, d, f], _ => exact ⟨a, b, c, d, f, rfl⟩
            have v0 := (hLs y0 (by simp)).1
            have v1 := (hLs y1 (by simp)).1
            have v2 := (hLs y2 (by simp)).1
            have v3 := (hLs y3 (by simp)).1
            have v4 := (hLs y4 (by simp)).1
            have u0 := (hGs g0 (by simp)).1
            have u1 := (hGs g1 (by simp)).1
            have u2 := (hGs g2 (by simp)).1
            have u3 := (hGs g3 (by simp)).1
            have u4 := (hGs g4 (by simp)).1
            refine Holds.dstep (Px := px) (T := TT) (ρ := fun _ => [.v true (.bool true)]) [] mixed (by kernel_rfl) TTe (by simp (maxSteps := 100000) (disch := omega) only [go_sem, V.isAgg, V.flat, ↓reduceIte, Nat.reduceAdd, Nat.reduceSub, Nat.reduceLT, Nat.reduceEqDiff, reduceCtorEq, Nat.reduceLeDiff, Nat.reduceBEq, Nat.reduceMul, Int.reduceToNat, -V.isAgg, -V.flat, isAgg_agg, isAgg_int, isAgg_bool, isAgg_sl, flat_agg, flat_int, flat_bool, flat_sl, v0, v1, v2, v3, v4, u0, u1, u2, u3, u4, unA]; rfl) (by first | exact hs | (repeat' first | exact trivial | exact hs | constructor)) (by rfl) (by rfl) (by rfl) ?_
            exact Holds.condF rfl (Holds.skip fun a w h => Rel.keep [4, 0, 2, 3] [3] h)
        · intro σ hσ
          refine Holds.from hσ ?_
          refine Holds.region (Px := px) (T := TT) (ρ := fun d => if d = 55 then [.v true (intsV X)] else [.v true (.agg [pV (zp f0), pV (zp f1), pV (zp f2), pV (zp f3), pV (zp f4)])]) TTe (by simp (maxSteps := 100000) (disch := omega) only [go_sem, V.isAgg, V.flat, ↓reduceIte, Nat.reduceAdd, Nat.reduceSub, Nat.reduceLT, Nat.reduceEqDiff, reduceCtorEq, Nat.reduceLeDiff, Nat.reduceBEq, Nat.reduceMul, Int.reduceToNat, -V.isAgg, -V.flat, isAgg_agg, isAgg_int, isAgg_bool, isAgg_sl, flat_agg, flat_int, flat_bool, flat_sl, pV_size, pV_agg]; rfl) (by first | exact ⟨hI, hFv⟩ | (repeat' first | exact trivial | exact hI | exact hFv | constructor)) ?_
          exact fun a w h => Rel.keep [4, 0, 2, 3] [3] h
      · intro σ hσ
        refine Holds.from hσ ?_
        refine Holds.region (Px := px) (T := TT) (ρ := fun _ => []) TTe (by simp (maxSteps := 100000) (disch := omega) only [go_sem, V.isAgg, V.flat, ↓reduceIte, Nat.reduceAdd, Nat.reduceSub, Nat.reduceLT, Nat.reduceEqDiff, reduceCtorEq, Nat.reduceLeDiff, Nat.reduceBEq, Nat.reduceMul, Int.reduceToNat]; rfl) (by repeat' first | exact trivial | constructor) ?_
        exact ⟨(i + 1, [zp f0, zp f1, zp f2, zp f3, zp f4]), ⟨by show i + 1 ≤ 2; omega, rfl, hFok⟩, (show 2 - (i + 1) < 2 - i by omega), fun a w h => Rel.keep [4, 0, 2, 3] [3] h⟩
  · intro σ hσ
    refine Holds.from hσ ?_
    refine Holds.step (Px := px) (T := TT) (ρ := fun _ => [.v true (.bool true)]) TTe (by simp (maxSteps := 100000) (disch := omega) only [go_sem, V.isAgg, V.flat, ↓reduceIte, Nat.reduceAdd, Nat.reduceSub, Nat.reduceLT, Nat.reduceEqDiff, reduceCtorEq, Nat.reduceLeDiff, Nat.reduceBEq, Nat.reduceMul, Int.reduceToNat]; rfl) (by first | exact awake_ok | (repeat' first | exact trivial | exact awake_ok | constructor)) ?_
    exact Holds.ret (RetOk.vs rfl (by exact ⟨⟨rfl, fun h => h⟩, trivial⟩) rfl)
end Go.Proofs.YtjmclobbfabnpaaGreat.L
