/-
  Ub Ca Cb Cc Cd Ea Eb Bj Bk Bl Fa Fb Bm Bn Bo Bp Sa Sb Ta Tb Da
-/
import Derived.Test.YtobacemgcjnahaaGreatDoorU4
import Derived.Test.YtobacemgcjnahaaGreatDoorU5
import Derived.Test.YtobacemgcjnahaaGreatDoorU3
import Derived.Test.YtobacemgcjnahaaGreatDoorRows
import Derived.Test.YtobacemgcjnahaaGreatDoorU1
import Derived.ProofKit
import Derived.OpenShut
import Derived.LaidMore
import Derived.Lay
import Derived.SevenTiedAt
import Derived.Stop.Joined
set_option linter.unusedSimpArgs false
set_option linter.unusedVariables false
set_option maxRecDepth 100000
namespace Go.Proofs.YtobacemgcjnahaaGreatDoor.L
open Go Go.RowKit Go.Proofs
attribute [local go_sem] evalOps_nil evalOps_cons runW_t runW_f runE_s runP_s wantA evalOp effOp letters okDst coreA St.opv St.get St.at look constA St.put St.upd St.set decide_true List.all_nil List.all_cons Bool.and_true Bool.true_and and_self and_true true_and if_true if_false true_or Int.sub_zero List.nil_append List.cons_append List.append_nil Option.isSome_some List.getElem?_toArray List.getElem?_cons_succ List.getElem?_cons_zero Option.bind_some Option.map_some Option.map_none beq_self_eq_true Bool.false_beq Bool.true_beq Bool.not_true Bool.not_false Bool.false_eq_true cond_true cond_false binA binI List.map_cons List.map_nil boundA List.length_nil List.length_cons Nat.zero_mul Nat.one_mul Nat.mul_one Nat.zero_add Nat.add_zero Nat.zero_le Option.toList St.freshB AV.ment AV.ments Blk.ment V.sizes Nat.lt_add_one Bool.or_true Bool.true_or Bool.or_false Bool.false_or Bool.or_self if_pos if_neg decide_false decide_eq_true decide_eq_false wrap_i64 Int.toNat_natCast minA maxA Int.natCast_add Int.cast_ofNat_Int Option.isSome_none false_implies true_implies forall_const List.drop_zero Int.toNat_zero Int.add_sub_cancel lenA sliceA loadA indexAddrA partA fitsT V.atP V.offP V.size List.length_map List.getElem?_map Int.toNat_natCast_add_one Int.ofNat_eq_natCast TY calleeA capArg knotA capArgs toArgs toArg callA R.res R.mems R.blks R.av R.names R.nw invokeA storeA storeV fieldAddrA liveB V.off V.offs V.setP List.set_cons_zero List.set_cons_succ buildA buildP partsA appendA srcA copyA boxOk makeA AV.pure List.take_succ_cons List.take_zero nilA words unA entry List.zipIdx_cons List.zipIdx_nil Arg.av Arg.avs
theorem blockQ_other {id id' : Nat} {Q : Exit → St → Prop} {σ : St} (hn : id' ≠ id) (h : Q (.exit id') σ) : blockQ id Q (.exit id') σ := by
 unfold blockQ
 simp only [hn, if_false]
 exact h
theorem digit_less {U u Y1 Y0 q r Q : Nat} (hu : u < 4294967296) (hQ : Q = (U * 4294967296 + u) / (Y1 * 4294967296 + Y0)) (hQB : Q < 4294967296) (hY : 0 < Y1 * 4294967296 + Y0) (h : q * Y1 + r = U)
 (hc : 4294967296 ≤ q ∨ r * 4294967296 + u < q * Y0) : Q < q ∧ (q - 1) * Y1 + (r + Y1) = U := by
 have h1 : Q < q := by
  rcases hc with hc | hc
  ·omega
  ·rw [hQ]
   exact (Nat.div_lt_iff_lt_mul hY).2 ((guess_iff h).1 hc)
 refine ⟨h1, ?_⟩
 obtain ⟨p, rfl⟩ : ∃ p, q = p + 1 := ⟨q - 1, by omega⟩
 rw [Nat.add_mul, Nat.one_mul] at h
 rw [Nat.add_sub_cancel]
 omega
theorem digit_done {U u Y1 Y0 q r Q : Nat} (hQ : Q = (U * 4294967296 + u) / (Y1 * 4294967296 + Y0)) (hY : 0 < Y1 * 4294967296 + Y0) (h : q * Y1 + r = U) (h1 : Q ≤ q)
 (hc : q * Y0 ≤ r * 4294967296 + u) : q = Q :=
 div_is hY hQ h1 (by
  have := mt (guess_iff (u := u) (Y0 := Y0) h).2 (by omega)
  omega)
theorem digit_first {U u Y1 Y0 : Nat} (hu : u < 4294967296) (hY1 : 2147483648 ≤ Y1) (hY0 : Y0 < 4294967296) (hU : U < Y1 * 4294967296 + Y0) :
 (U * 4294967296 + u) / (Y1 * 4294967296 + Y0) ≤ U / Y1 ∧ U / Y1 ≤ 4294967297 ∧ (U * 4294967296 + u) / (Y1 * 4294967296 + Y0) < 4294967296 := by
 refine ⟨?_, ?_, ?_⟩
 ·refine Nat.le_trans (guess_first (by omega)) ?_
  have e1 := Nat.div_div_eq_div_mul (U * 4294967296 + u) 4294967296 Y1
  have e2 : (U * 4294967296 + u) / 4294967296 = U := by omega
  rw [e2, Nat.mul_comm 4294967296 Y1] at e1
  exact Nat.le_of_eq e1.symm
 ·have e : U < 4294967298 * Y1 := by
   rw [show 4294967298 = 4294967296 + 2 from rfl, Nat.add_mul, Nat.mul_comm 4294967296 Y1]
   omega
  exact Nat.le_of_lt_succ ((Nat.div_lt_iff_lt_mul (by omega)).2 e)
 ·refine (Nat.div_lt_iff_lt_mul (by omega)).2 ?_
  rw [Nat.mul_comm 4294967296]
  have : (U + 1) * 4294967296 ≤ (Y1 * 4294967296 + Y0) * 4294967296 := Nat.mul_le_mul_right _ hU
  rw [Nat.add_mul] at this
  omega
theorem mul_small {q Y0 : Nat} (hq : q ≤ 4294967296) (hY0 : Y0 < 4294967296) : q * Y0 ≤ 4294967296 * 4294967295 := Nat.mul_le_mul hq (by omega)
theorem div_lin {B G L1 Lo u1 u0 U P W P2 Rm : Nat} (hU : U = G + L1) (hu : Lo = u1 * B + u0) (e1 : U * B + u1 = P + W) (e2 : W * B + u0 = P2 + Rm) :
 G * (B * B) + (L1 * (B * B) + Lo) = P * B + P2 + Rm := by
 subst hU hu
 have h : ((G + L1) * B + u1) * B = (P + W) * B := by rw [e1]
 simp only [Nat.add_mul, Nat.mul_assoc] at h
 omega
theorem div_whole {hi lo y s Y Q Q2 W Rm U L1 Lo u1 u0 P P2 : Nat} (hy : 0 < y) (hY : Y = y * 2 ^ s) (hU : U = hi * 2 ^ s + L1) (elo : lo * 2 ^ s = L1 * 18446744073709551616 + Lo) (hu : Lo = u1 * 4294967296 + u0)
 (hP : P = Q * Y) (e1 : U * 4294967296 + u1 = P + W) (hP2 : P2 = Q2 * Y) (e2 : W * 4294967296 + u0 = P2 + Rm) (bR : Rm < Y) :
 (hi * 18446744073709551616 + lo) / y = Q * 4294967296 + Q2 ∧ Rm = (hi * 18446744073709551616 + lo) % y * 2 ^ s := by
 have pw : 0 < 2 ^ s := Nat.pow_pos (by decide)
 have key : (hi * 18446744073709551616 + lo) * 2 ^ s = (Q * 4294967296 + Q2) * Y + Rm := by
  have a0 : hi * 18446744073709551616 * 2 ^ s = (hi * 2 ^ s) * 18446744073709551616 := Nat.mul_right_comm _ _ _
  have a2 : Q * 4294967296 * Y = P * 4294967296 := by rw [hP]; exact Nat.mul_right_comm _ _ _
  rw [Nat.add_mul, Nat.add_mul, elo, a0, a2, ← hP2]
  exact div_lin hU hu e1 e2
 obtain ⟨Nn, hN⟩ : ∃ Nn, Nn = hi * 18446744073709551616 + lo := ⟨_, rfl⟩
 obtain ⟨K, hK⟩ : ∃ K, K = Q * 4294967296 + Q2 := ⟨_, rfl⟩
 rw [← hN, ← hK] at key ⊢
 clear hP e1 hP2 e2 hU elo hu
 rw [hY, ← Nat.mul_assoc] at key
 have l1 : K * y * 2 ^ s ≤ Nn * 2 ^ s := by omega
 have l2 := Nat.le_of_mul_le_mul_right l1 pw
 obtain ⟨t, ht⟩ : ∃ t, Nn = K * y + t := ⟨Nn - K * y, by omega⟩
 rw [ht, Nat.add_mul] at key
 have l3 : Rm = t * 2 ^ s := by omega
 have l4 : t < y := Nat.lt_of_mul_lt_mul_right (a := 2 ^ s) (by rw [← l3, ← hY]; exact bR)
 have l6 : Nn / y = K := by
  rw [ht, Nat.mul_comm K y, Nat.mul_add_div (by omega), Nat.div_eq_of_lt l4, Nat.add_zero]
 have l7 : Nn % y = t := by
  have h7 := Nat.div_add_mod Nn y
  rw [l6, Nat.mul_comm] at h7
  omega
 exact ⟨l6, by rw [l7]; exact l3⟩
set_option maxHeartbeats 2000000 in
theorem div64_ok (hi lo y : Nat) (hlo : lo < 18446744073709551616) (hy : y < 18446744073709551616) (hhi : hi < y) :
 FnOk Tryz.prog 179 [.v (.int .u64 hi), .v (.int .u64 lo), .v (.int .u64 y)] [.v true (.int .u64 (((hi * 18446744073709551616 + lo) / y : Nat) : Int)), .v true (.int .u64 (((hi * 18446744073709551616 + lo) % y : Nat) : Int))] := by
 have y0 : ¬ (y : Int) = 0 := by omega
 by_cases h0 : hi = 0
 ·subst h0
  have hq := quoN lo y
  have hr := remN lo y
  rw [Nat.zero_mul, Nat.zero_add]
  have hdl : lo / y ≤ lo := Nat.div_le_self _ _
  have hw := wrapN (lo / y) (by omega)
  refine FnOk.of Tryz.func179 rfl rfl fun cx w0 => ?_
  rw [show Tryz.f179.ntmps = 135 from rfl]
  refine zs0 ?_
  refine Holds.next (fun σ => ∀ a w, Rel cx w0 σ a w → Rel cx w0 { nt := 135, env := [(0, .v true (.int .u64 0)), (1, .v true (.int .u64 lo)), (2, .v true (.int .u64 y))], mem := [] } a w) ?_ ?_
  ·refine zs1 y0 ?_
   exact Holds.condF rfl (Holds.skip fun a w h => Rel.keep [0, 1, 2] [] h)
  ·intro σ hσ
   refine Holds.from hσ ?_
   refine Holds.next (fun σ => ∀ a w, Rel cx w0 σ a w → Rel cx w0 { nt := 135, env := [(0, .v true (.int .u64 0)), (1, .v true (.int .u64 lo)), (2, .v true (.int .u64 y))], mem := [] } a w) ?_ ?_
   ·refine zs0 ?_
    exact Holds.condF rfl (Holds.skip fun a w h => Rel.keep [0, 1, 2] [] h)
   ·intro σ hσ
    refine Holds.from hσ ?_
    refine Holds.seq ?_
    refine zs0 ?_
    refine Holds.condT rfl ?_
    refine zd1 [] (an y0 <| an hq <| an hr <| hw) ?_
    exact Holds.ret (RetOk.vs rfl (by exact ⟨⟨rfl, id⟩, ⟨rfl, id⟩, trivial⟩) rfl)
 ·have h0' : ¬ (hi : Int) = 0 := by omega
  obtain ⟨s, hs, es, hY63, hY64⟩ := norm64 hy (by omega)
  have hlz := lz64_ok y hy
  rw [es] at hlz
  obtain ⟨Y, hY⟩ : ∃ Y, Y = y * 2 ^ s := ⟨_, rfl⟩
  rw [← hY] at hY63 hY64
  obtain ⟨Y1, hY1⟩ : ∃ a, a = Y / 4294967296 := ⟨_, rfl⟩
  obtain ⟨Y0, hY0⟩ : ∃ a, a = Y % 4294967296 := ⟨_, rfl⟩
  have eY : Y = Y1 * 4294967296 + Y0 := by omega
  have pw : 0 < 2 ^ s := Nat.pow_pos (by decide)
  have pw2 : 2 ^ (64 - s) * 2 ^ s = 18446744073709551616 := by rw [← Nat.pow_add, show 64 - s + s = 64 from by omega]
  have b1 : hi * 2 ^ s + 2 ^ s ≤ Y := by
   rw [hY]
   have : (hi + 1) * 2 ^ s ≤ y * 2 ^ s := Nat.mul_le_mul_right _ hhi
   rw [Nat.add_mul, Nat.one_mul] at this
   exact this
  obtain ⟨L1, hL1⟩ : ∃ a, a = lo / 2 ^ (64 - s) := ⟨_, rfl⟩
  have bL1 : L1 < 2 ^ s := by
   rw [hL1]
   exact (Nat.div_lt_iff_lt_mul (Nat.pow_pos (by decide))).2 (by rw [Nat.mul_comm, pw2]; exact hlo)
  obtain ⟨U, hU⟩ : ∃ a, a = hi * 2 ^ s + L1 := ⟨_, rfl⟩
  obtain ⟨Lo, hLo⟩ : ∃ a, a = lo * 2 ^ s % 18446744073709551616 := ⟨_, rfl⟩
  obtain ⟨u1, hu1⟩ : ∃ a, a = Lo / 4294967296 := ⟨_, rfl⟩
  obtain ⟨u0, hu0⟩ : ∃ a, a = Lo % 4294967296 := ⟨_, rfl⟩
  have bU : U < Y := by omega
  have bLo : Lo < 18446744073709551616 := by rw [hLo]; exact Nat.mod_lt _ (by decide)
  have elo : lo * 2 ^ s = L1 * 18446744073709551616 + Lo := by
   rw [hLo, hL1, ← pw2, Nat.mul_comm (2 ^ (64 - s)) (2 ^ s)]
   have h1 := Nat.mod_add_div (lo * 2 ^ s) (2 ^ s * 2 ^ (64 - s))
   rw [show lo * 2 ^ s / (2 ^ s * 2 ^ (64 - s)) = lo / 2 ^ (64 - s) from by rw [Nat.mul_comm lo, Nat.mul_div_mul_left _ _ pw]] at h1
   rw [Nat.mul_comm (lo / 2 ^ (64 - s)), Nat.add_comm]
   exact h1.symm
  have bY1 : 2147483648 ≤ Y1 ∧ Y1 < 4294967296 := by omega
  have bY0 : Y0 < 4294967296 := by omega
  have bu1 : u1 < 4294967296 := by omega
  have bu0 : u0 < 4294967296 := by omega
  have eLo : Lo = u1 * 4294967296 + u0 := by omega
  have w1 := shlN y s hs
  rw [← hY, Nat.mod_eq_of_lt hY64] at w1
  have w2 := shrG Y 32 (by decide)
  rw [show Y / 2 ^ 32 = Y1 from by omega] at w2
  have w3 := maskN Y hY64
  rw [← hY0] at w3
  have w4 := shlN hi s hs
  rw [Nat.mod_eq_of_lt (show hi * 2 ^ s < 18446744073709551616 by omega)] at w4
  have w5 : IntKind.u64.wrap ((64 : Int) - (s : Int)) = ((64 - s : Nat) : Int) := by rw [wrap_u64]; omega
  have w6 := shrG lo (64 - s) (by omega)
  rw [← hL1] at w6
  have w7 := orN hi L1 s bL1 (by omega)
  rw [← hU] at w7
  have w8 := shlN lo s hs
  rw [← hLo] at w8
  have w9 := shrG Lo 32 (by decide)
  rw [show Lo / 2 ^ 32 = u1 from by omega] at w9
  have w10 := maskN Lo bLo
  rw [← hu0] at w10
  have Y1n : ¬ (Y1 : Int) = 0 := by omega
  have w11 := quoN U Y1
  have bq1 := digit_first (U := U) (u := u1) (Y1 := Y1) (Y0 := Y0) (by omega) (by omega) (by omega) (by omega)
  have eq1 : U / Y1 * Y1 + U % Y1 = U := by rw [Nat.mul_comm]; exact Nat.div_add_mod U Y1
  have br1 : U % Y1 < Y1 := Nat.mod_lt _ (by omega)
  obtain ⟨q, hq⟩ : ∃ a, a = U / Y1 := ⟨_, rfl⟩
  obtain ⟨r, hr⟩ : ∃ a, a = U % Y1 := ⟨_, rfl⟩
  rw [← hq] at w11 bq1 eq1
  rw [← hr] at eq1 br1
  obtain ⟨Q, hQ⟩ : ∃ a, a = (U * 4294967296 + u1) / (Y1 * 4294967296 + Y0) := ⟨_, rfl⟩
  rw [← hQ] at bq1
  have w12 := wrapN q (by omega)
  have w13 := mulN q Y1
  have w14 := wrapN (q * Y1) (by omega)
  have w15 : IntKind.u64.wrap ((U : Int) - ((q * Y1 : Nat) : Int)) = (r : Int) := by rw [wrap_u64]; omega
  refine FnOk.of Tryz.func179 rfl rfl fun cx w0 => ?_
  rw [show Tryz.f179.ntmps = 135 from rfl]
  refine zs0 ?_
  refine Holds.next (fun σ => ∀ a w, Rel cx w0 σ a w → Rel cx w0 { nt := 135, env := [(0, .v true (.int .u64 hi)), (1, .v true (.int .u64 lo)), (2, .v true (.int .u64 y))], mem := [] } a w) ?_ ?_
  ·refine zs1 y0 ?_
   exact Holds.condF rfl (Holds.skip fun a w h => Rel.keep [0, 1, 2] [] h)
  ·intro σ hσ
   refine Holds.from hσ ?_
   refine Holds.next (fun σ => ∀ a w, Rel cx w0 σ a w → Rel cx w0 { nt := 135, env := [(0, .v true (.int .u64 hi)), (1, .v true (.int .u64 lo)), (2, .v true (.int .u64 y))], mem := [] } a w) ?_ ?_
   ·refine zs0 ?_
    exact Holds.condF rfl (Holds.skip fun a w h => Rel.keep [0, 1, 2] [] h)
   ·intro σ hσ
    refine Holds.from hσ ?_
    refine Holds.next (fun σ => ∀ a w, Rel cx w0 σ a w → Rel cx w0 { nt := 135, env := [(0, .v true (.int .u64 hi)), (1, .v true (.int .u64 lo)), (2, .v true (.int .u64 y))], mem := [] } a w) ?_ ?_
    ·refine zs1 h0' ?_
     exact Holds.condF rfl (Holds.skip fun a w h => Rel.keep [0, 1, 2] [] h)
    ·intro σ hσ
     refine Holds.from hσ ?_
     have ikd31 : ikd Tryz.prog 213 = some .u64 := by kernel_rfl
     have ikd3 : ikd Tryz.prog 3 = some .i64 := by kernel_rfl
     have und3 : (Tryz.prog.underlying 3).isSome = true := by kernel_rfl
     have und31 : (Tryz.prog.underlying 213).isSome = true := by kernel_rfl
     have ws := wrapN s (by omega)
     refine zs3 (ρ := fun _ => [.v true (.int .i64 s)]) (an ikd31 <| an ikd3 <| an und3 <| an und31 <| ws) (o := by repeat' first|exact hlz|trivial|constructor) (k := ?_)
     refine zs1 w1 ?_
     refine zs1 w2 ?_
     refine zs1 w3 ?_
     refine zs1 (an w4 <| an w5 <| an w6 <| w7) ?_
     refine zs1 w8 ?_
     refine zs1 w9 ?_
     refine zs1 w10 ?_
     refine zs1 (an Y1n <| an w11 <| w12) ?_
     refine zs1 (an w13 <| an w14 <| w15) ?_
     refine Holds.next (fun σ => ∀ a w, Rel cx w0 σ a w → Rel cx w0 { nt := 135, env := [(15, .v true (.int .u64 Q)), (9, .v true (.int .u64 Y1)), (10, .v true (.int .u64 Y0)), (13, .v true (.int .u64 u1)), (14, .v true (.int .u64 u0)), (11, .v true (.int .u64 U)), (2, .v true (.int .u64 Y)), (8, .v true (.int .u64 s))], mem := [] } a w) ?_ ?_
     ·clear w1 w2 w3 w4 w5 w6 w7 w8 w9 w10 w11 w12 w13 w14 w15 ws hlz hlo es eLo elo hLo hL1 hu1 hu0 hU pw pw2 b1 bL1 bLo hY hY1 hY0 hY63 hY64 eY bU ikd3 ikd31 und3 und31 y0 h0 h0' hy hhi bu0 hs Y1n
      refine Holds.loopB (fun i : Nat × Nat => { nt := 135, env := [(15, .v true (.int .u64 i.1)), (16, .v true (.int .u64 i.2)), (9, .v true (.int .u64 Y1)), (10, .v true (.int .u64 Y0)), (13, .v true (.int .u64 u1)), (14, .v true (.int .u64 u0)), (11, .v true (.int .u64 U)), (2, .v true (.int .u64 Y)), (8, .v true (.int .u64 s))], mem := [] }) (fun i => i.1 * Y1 + i.2 = U ∧ Q ≤ i.1 ∧ i.1 ≤ 4294967297 ∧ i.2 < 4294967296) (fun i => i.1) (q, r) ⟨eq1, bq1.1, bq1.2.1, by show r < _; omega⟩ (fun a w h => Rel.keep [15, 16, 9, 10, 13, 14, 11, 2, 8] [] h) ?_
      rintro ⟨q, r⟩ ⟨i1, i2, i3, i4⟩
      simp only at i1 i2 i3 i4
      by_cases hc : 4294967296 ≤ q ∨ r * 4294967296 + u1 < q * Y0
      ·obtain ⟨c1, c2⟩ := digit_less (by omega) hQ bq1.2.2 (by omega) i1 hc
       refine Holds.next (fun σ => ∀ a w, Rel cx w0 σ a w → Rel cx w0 { nt := 135, env := [(15, .v true (.int .u64 q)), (16, .v true (.int .u64 r)), (9, .v true (.int .u64 Y1)), (10, .v true (.int .u64 Y0)), (13, .v true (.int .u64 u1)), (14, .v true (.int .u64 u0)), (11, .v true (.int .u64 U)), (2, .v true (.int .u64 Y)), (8, .v true (.int .u64 s))], mem := [] } a w) ?_ ?_
       ·have g0 : ∀ h : 4294967296 ≤ q, decide ((4294967296 : Int) ≤ (q : Int)) = true := fun h => decide_eq_true (by omega)
        by_cases hq1 : 4294967296 ≤ q
        ·refine zs1 hq1 ?_
         exact Holds.condT rfl (Holds.skip fun a w h => Rel.keep [15, 16, 9, 10, 13, 14, 11, 2, 8] [] h)
        ·have hc' : r * 4294967296 + u1 < q * Y0 := by omega
         have m1 := mul_small (q := q) (Y0 := Y0) (by omega) (by omega)
         have x1 := mulN q Y0
         obtain ⟨m, hm⟩ : ∃ m, m = q * Y0 := ⟨_, rfl⟩
         rw [← hm] at m1 hc' x1
         have x2 := wrapN m (by omega)
         have x3 : IntKind.u64.wrap ((4294967296 : Int) * (r : Int)) = ((4294967296 * r : Nat) : Int) := by rw [wrap_u64]; omega
         have x4 : IntKind.u64.wrap (((4294967296 * r : Nat) : Int) + (u1 : Int)) = ((4294967296 * r + u1 : Nat) : Int) := by rw [wrap_u64]; omega
         have x5 : ((4294967296 * r + u1 : Nat) : Int) < (m : Int) := by omega
         have x6 : ¬ (4294967296 : Int) ≤ (q : Int) := by omega
         refine zs1 (an x1 <| an x2 <| an x3 <| an x4 <| an x5 <| x6) ?_
         exact Holds.condT rfl (Holds.skip fun a w h => Rel.keep [15, 16, 9, 10, 13, 14, 11, 2, 8] [] h)
       ·intro σ hσ
        refine Holds.from hσ ?_
        refine Holds.block ?_
        have y1 : IntKind.u64.wrap ((q : Int) - 1) = ((q - 1 : Nat) : Int) := by rw [wrap_u64]; omega
        have y2 : IntKind.u64.wrap ((r : Int) + (Y1 : Int)) = ((r + Y1 : Nat) : Int) := by rw [wrap_u64]; omega
        refine zs1 y1 ?_
        refine zs1 y2 ?_
        by_cases hb : 4294967296 ≤ r + Y1
        ·have hb' : (4294967296 : Int) ≤ ((r + Y1 : Nat) : Int) := by omega
         have m1 := mul_small (q := q - 1) (Y0 := Y0) (by omega) (by omega)
         have hd := digit_done (q := q - 1) (r := r + Y1) hQ (by omega) c2 (by omega) (by omega)
         refine zs1 hb' ?_
         refine Holds.condT rfl (Holds.exit (blockQ_other (by decide) ⟨rfl, fun a w h => ?_⟩))
         rw [← hd]
         exact Rel.keep [15, 9, 10, 13, 14, 11, 2, 8] [] h
        ·have hb' : ¬ (4294967296 : Int) ≤ ((r + Y1 : Nat) : Int) := by omega
         refine zs1 hb' ?_
         refine Holds.condF rfl (Holds.skip ?_)
         exact ⟨(q - 1, r + Y1), ⟨c2, by show Q ≤ q - 1; omega, by show q - 1 ≤ _; omega, by show r + Y1 < _; omega⟩, (show q - 1 < q by omega), fun a w h => Rel.keep [15, 16, 9, 10, 13, 14, 11, 2, 8] [] h⟩
      ·have hq1 : q < 4294967296 := by omega
       have hc' : q * Y0 ≤ r * 4294967296 + u1 := by omega
       have hd := digit_done hQ (by omega) i1 i2 hc'
       have m1 := mul_small (q := q) (Y0 := Y0) (by omega) (by omega)
       have x1 := mulN q Y0
       obtain ⟨m, hm⟩ : ∃ m, m = q * Y0 := ⟨_, rfl⟩
       rw [← hm] at m1 hc' x1
       have x2 := wrapN m (by omega)
       have x3 : IntKind.u64.wrap ((4294967296 : Int) * (r : Int)) = ((4294967296 * r : Nat) : Int) := by rw [wrap_u64]; omega
       have x4 : IntKind.u64.wrap (((4294967296 * r : Nat) : Int) + (u1 : Int)) = ((4294967296 * r + u1 : Nat) : Int) := by rw [wrap_u64]; omega
       have x5 : ¬ ((4294967296 * r + u1 : Nat) : Int) < (m : Int) := by omega
       have x6 : ¬ (4294967296 : Int) ≤ (q : Int) := by omega
       refine Holds.seq ?_
       refine zs1 (an x1 <| an x2 <| an x3 <| an x4 <| an x5 <| x6) ?_
       refine Holds.condF rfl (Holds.exit ⟨rfl, fun a w h => ?_⟩)
       rw [← hd]
       exact Rel.keep [15, 9, 10, 13, 14, 11, 2, 8] [] h
     ·intro σ hσ
      refine Holds.from hσ ?_
      clear w1 w2 w3 w4 w5 w6 w7 w8 w9 w10 w11 w12 w13 w14 w15 ws hlz es ikd3 ikd31 und3 und31 y0 h0 h0' eq1 br1 hq hr
      have eT := Nat.div_add_mod (U * 4294967296 + u1) (Y1 * 4294967296 + Y0)
      rw [← hQ, ← eY] at eT
      have bT : (U * 4294967296 + u1) % Y < Y := Nat.mod_lt _ (by omega)
      obtain ⟨W, hW⟩ : ∃ W, W = (U * 4294967296 + u1) % Y := ⟨_, rfl⟩
      rw [← hW] at eT bT
      have z1 := mulN Q Y
      have eT' : U * 4294967296 + u1 = Q * Y + W := by rw [Nat.mul_comm Q Y]; exact eT.symm
      obtain ⟨P, hP⟩ : ∃ P, P = Q * Y := ⟨_, rfl⟩
      rw [← hP] at z1 eT'
      have z2 : IntKind.u64.wrap ((U : Int) * 4294967296) = ((U * 4294967296 % 18446744073709551616 : Nat) : Int) := by rw [wrap_u64]; omega
      have z3 : IntKind.u64.wrap (((U * 4294967296 % 18446744073709551616 : Nat) : Int) + (u1 : Int)) = (((P + W) % 18446744073709551616 : Nat) : Int) := by rw [wrap_u64]; omega
      have z4 := wrapM P
      have z5 : IntKind.u64.wrap ((((P + W) % 18446744073709551616 : Nat) : Int) - ((P % 18446744073709551616 : Nat) : Int)) = (W : Int) := by rw [wrap_u64]; omega
      have w16 := quoN W Y1
      have bq2 := digit_first (U := W) (u := u0) (Y1 := Y1) (Y0 := Y0) (by omega) (by omega) (by omega) (by omega)
      have eq2 : W / Y1 * Y1 + W % Y1 = W := by rw [Nat.mul_comm]; exact Nat.div_add_mod W Y1
      have br2 : W % Y1 < Y1 := Nat.mod_lt _ (by omega)
      obtain ⟨q, hq⟩ : ∃ a, a = W / Y1 := ⟨_, rfl⟩
      obtain ⟨r, hr⟩ : ∃ a, a = W % Y1 := ⟨_, rfl⟩
      rw [← hq] at w16 bq2 eq2
      rw [← hr] at eq2 br2
      obtain ⟨Q2, hQ2⟩ : ∃ a, a = (W * 4294967296 + u0) / (Y1 * 4294967296 + Y0) := ⟨_, rfl⟩
      rw [← hQ2] at bq2
      have w17 := wrapN q (by omega)
      have w18 := mulN q Y1
      have w19 := wrapN (q * Y1) (by omega)
      have w20 : IntKind.u64.wrap ((W : Int) - ((q * Y1 : Nat) : Int)) = (r : Int) := by rw [wrap_u64]; omega
      refine zs1 (an z1 <| an z2 <| an z3 <| an z4 <| z5) ?_
      refine zs1 (an Y1n <| an w16 <| w17) ?_
      refine zs1 (an w18 <| an w19 <| w20) ?_
      refine Holds.next (fun σ => ∀ a w, Rel cx w0 σ a w → Rel cx w0 { nt := 135, env := [(18, .v true (.int .u64 Q2)), (17, .v true (.int .u64 W)), (15, .v true (.int .u64 Q)), (14, .v true (.int .u64 u0)), (2, .v true (.int .u64 Y)), (8, .v true (.int .u64 s))], mem := [] } a w) ?_ ?_
      ·clear w16 w17 w18 w19 w20 z1 z2 z3 z4 z5 eT eT' hP hW bT hlo eLo elo hLo hL1 hu1 hu0 hU pw pw2 b1 bL1 bLo hY hY1 hY0 hY63 hY64 eY bU bu1 hs Y1n hy hhi hQ bq1
       refine Holds.loopB (fun i : Nat × Nat => { nt := 135, env := [(18, .v true (.int .u64 i.1)), (16, .v true (.int .u64 i.2)), (17, .v true (.int .u64 W)), (15, .v true (.int .u64 Q)), (9, .v true (.int .u64 Y1)), (10, .v true (.int .u64 Y0)), (14, .v true (.int .u64 u0)), (2, .v true (.int .u64 Y)), (8, .v true (.int .u64 s))], mem := [] }) (fun i => i.1 * Y1 + i.2 = W ∧ Q2 ≤ i.1 ∧ i.1 ≤ 4294967297 ∧ i.2 < 4294967296) (fun i => i.1) (q, r) ⟨eq2, bq2.1, bq2.2.1, by show r < _; omega⟩ (fun a w h => Rel.keep [18, 16, 17, 15, 9, 10, 14, 2, 8] [] h) ?_
       rintro ⟨q, r⟩ ⟨i1, i2, i3, i4⟩
       simp only at i1 i2 i3 i4
       by_cases hc : 4294967296 ≤ q ∨ r * 4294967296 + u0 < q * Y0
       ·obtain ⟨c1, c2⟩ := digit_less (by omega) hQ2 bq2.2.2 (by omega) i1 hc
        refine Holds.next (fun σ => ∀ a w, Rel cx w0 σ a w → Rel cx w0 { nt := 135, env := [(18, .v true (.int .u64 q)), (16, .v true (.int .u64 r)), (17, .v true (.int .u64 W)), (15, .v true (.int .u64 Q)), (9, .v true (.int .u64 Y1)), (10, .v true (.int .u64 Y0)), (14, .v true (.int .u64 u0)), (2, .v true (.int .u64 Y)), (8, .v true (.int .u64 s))], mem := [] } a w) ?_ ?_
        ·by_cases hq1 : 4294967296 ≤ q
         ·refine zs1 hq1 ?_
          exact Holds.condT rfl (Holds.skip fun a w h => Rel.keep [18, 16, 17, 15, 9, 10, 14, 2, 8] [] h)
         ·have hc' : r * 4294967296 + u0 < q * Y0 := by omega
          have m1 := mul_small (q := q) (Y0 := Y0) (by omega) (by omega)
          have x1 := mulN q Y0
          obtain ⟨m, hm⟩ : ∃ m, m = q * Y0 := ⟨_, rfl⟩
          rw [← hm] at m1 hc' x1
          have x2 := wrapN m (by omega)
          have x3 : IntKind.u64.wrap ((4294967296 : Int) * (r : Int)) = ((4294967296 * r : Nat) : Int) := by rw [wrap_u64]; omega
          have x4 : IntKind.u64.wrap (((4294967296 * r : Nat) : Int) + (u0 : Int)) = ((4294967296 * r + u0 : Nat) : Int) := by rw [wrap_u64]; omega
          have x5 : ((4294967296 * r + u0 : Nat) : Int) < (m : Int) := by omega
          have x6 : ¬ (4294967296 : Int) ≤ (q : Int) := by omega
          refine zs1 (an x1 <| an x2 <| an x3 <| an x4 <| an x5 <| x6) ?_
          exact Holds.condT rfl (Holds.skip fun a w h => Rel.keep [18, 16, 17, 15, 9, 10, 14, 2, 8] [] h)
        ·intro σ hσ
         refine Holds.from hσ ?_
         refine Holds.block ?_
         have y1 : IntKind.u64.wrap ((q : Int) - 1) = ((q - 1 : Nat) : Int) := by rw [wrap_u64]; omega
         have y2 : IntKind.u64.wrap ((r : Int) + (Y1 : Int)) = ((r + Y1 : Nat) : Int) := by rw [wrap_u64]; omega
         refine zs1 y1 ?_
         refine zs1 y2 ?_
         by_cases hb : 4294967296 ≤ r + Y1
         ·have hb' : (4294967296 : Int) ≤ ((r + Y1 : Nat) : Int) := by omega
          have m1 := mul_small (q := q - 1) (Y0 := Y0) (by omega) (by omega)
          have hd := digit_done (q := q - 1) (r := r + Y1) hQ2 (by omega) c2 (by omega) (by omega)
          refine zs1 hb' ?_
          refine Holds.condT rfl (Holds.exit (blockQ_other (by decide) ⟨rfl, fun a w h => ?_⟩))
          rw [← hd]
          exact Rel.keep [18, 17, 15, 14, 2, 8] [] h
         ·have hb' : ¬ (4294967296 : Int) ≤ ((r + Y1 : Nat) : Int) := by omega
          refine zs1 hb' ?_
          refine Holds.condF rfl (Holds.skip ?_)
          exact ⟨(q - 1, r + Y1), ⟨c2, by show Q2 ≤ q - 1; omega, by show q - 1 ≤ _; omega, by show r + Y1 < _; omega⟩, (show q - 1 < q by omega), fun a w h => Rel.keep [18, 16, 17, 15, 9, 10, 14, 2, 8] [] h⟩
       ·have hq1 : q < 4294967296 := by omega
        have hc' : q * Y0 ≤ r * 4294967296 + u0 := by omega
        have hd := digit_done hQ2 (by omega) i1 i2 hc'
        have m1 := mul_small (q := q) (Y0 := Y0) (by omega) (by omega)
        have x1 := mulN q Y0
        obtain ⟨m, hm⟩ : ∃ m, m = q * Y0 := ⟨_, rfl⟩
        rw [← hm] at m1 hc' x1
        have x2 := wrapN m (by omega)
        have x3 : IntKind.u64.wrap ((4294967296 : Int) * (r : Int)) = ((4294967296 * r : Nat) : Int) := by rw [wrap_u64]; omega
        have x4 : IntKind.u64.wrap (((4294967296 * r : Nat) : Int) + (u0 : Int)) = ((4294967296 * r + u0 : Nat) : Int) := by rw [wrap_u64]; omega
        have x5 : ¬ ((4294967296 * r + u0 : Nat) : Int) < (m : Int) := by omega
        have x6 : ¬ (4294967296 : Int) ≤ (q : Int) := by omega
        refine Holds.seq ?_
        refine zs1 (an x1 <| an x2 <| an x3 <| an x4 <| an x5 <| x6) ?_
        refine Holds.condF rfl (Holds.exit ⟨rfl, fun a w h => ?_⟩)
        rw [← hd]
        exact Rel.keep [18, 17, 15, 14, 2, 8] [] h
      ·intro σ hσ
       refine Holds.from hσ ?_
       clear w16 w17 w18 w19 w20 z1 z2 z3 z4 z5 eT hW Y1n
       have eR := Nat.div_add_mod (W * 4294967296 + u0) (Y1 * 4294967296 + Y0)
       rw [← hQ2, ← eY] at eR
       have bRm : (W * 4294967296 + u0) % Y < Y := Nat.mod_lt _ (by omega)
       obtain ⟨Rm, hR⟩ : ∃ Rm, Rm = (W * 4294967296 + u0) % Y := ⟨_, rfl⟩
       rw [← hR] at eR bRm
       have eR' : W * 4294967296 + u0 = Q2 * Y + Rm := by rw [Nat.mul_comm Q2 Y]; exact eR.symm
       have v1 := mulN Q2 Y
       obtain ⟨P2, hP2⟩ : ∃ P2, P2 = Q2 * Y := ⟨_, rfl⟩
       rw [← hP2] at v1 eR'
       have dq := div_whole (by omega) hY hU elo eLo hP eT' hP2 eR' bRm
       rw [dq.1]
       have dq2 := dq.2
       have bQ2 : Q2 < 4294967296 := bq2.2.2
       have bRm2 : Rm < 18446744073709551616 := by omega
       clear dq hU elo hLo hL1 hY1 hY0 eY bq2 eq2 br2 eR hQ2 hQ bU bLo bL1 b1 pw2 hu1 hu0 hY63 hY64
       have v2 : IntKind.u64.wrap ((Q : Int) * 4294967296) = ((Q * 4294967296 : Nat) : Int) := by rw [wrap_u64]; omega
       have v3 : IntKind.u64.wrap (((Q * 4294967296 : Nat) : Int) + (Q2 : Int)) = ((Q * 4294967296 + Q2 : Nat) : Int) := by rw [wrap_u64]; omega
       have v4 : IntKind.u64.wrap ((W : Int) * 4294967296) = ((W * 4294967296 % 18446744073709551616 : Nat) : Int) := by rw [wrap_u64]; omega
       have v5 : IntKind.u64.wrap (((W * 4294967296 % 18446744073709551616 : Nat) : Int) + (u0 : Int)) = (((P2 + Rm) % 18446744073709551616 : Nat) : Int) := by rw [wrap_u64]; omega
       have v6 := wrapM P2
       have v7 : IntKind.u64.wrap ((((P2 + Rm) % 18446744073709551616 : Nat) : Int) - ((P2 % 18446744073709551616 : Nat) : Int)) = (Rm : Int) := by rw [wrap_u64]; omega
       have v8 := shrG Rm s (by omega)
       rw [show Rm / 2 ^ s = (hi * 18446744073709551616 + lo) % y from by rw [dq2]; exact Nat.mul_div_cancel _ pw] at v8
       refine zs1 (an v1 <| an v2 <| an v3 <| an v4 <| an v5 <| an v6 <| an v7 <| v8) ?_
       exact Holds.ret (RetOk.vs rfl (by exact ⟨⟨rfl, id⟩, ⟨rfl, id⟩, trivial⟩) rfl)
theorem view_ok (l : List Int) (hl : l.length < 1000000000) : FnOk Tryz.prog 78 [.v (words l)] [.v false (words (trimL l))] := by
 refine FnOk.of Tryz.func78 rfl rfl fun cx w0 => ?_
 rw [show Tryz.f78.ntmps = 22 from rfl]
 refine zs0 ?_
 refine zs0 ?_
 refine Holds.next (fun σ => ∃ env, σ = { nt := 22, env, mem := [] } ∧ look env 3 = .v true (.int .i64 (trimW l l.length : Nat)) ∧ look env 0 = .v false (.sl 1 (l.map fun n => .int .u64 n)))
  (Holds.loopB (fun n : Nat => { nt := 22, env := [(3, .v true (.int .i64 (n : Int))), (0, .v false (.sl 1 (l.map fun n => .int .u64 n)))], mem := [] }) (fun n => n ≤ l.length ∧ trimW l n = trimW l l.length) id l.length ⟨Nat.le_refl _, rfl⟩ (fun a w h => Rel.keep [3, 0] [] h) ?_) ?_
 ·rintro n ⟨hn, ht⟩
  rcases n with _ | n
  ·refine Holds.seq ?_
   refine zs0 ?_
   refine Holds.condF rfl (Holds.exit ⟨rfl, _, rfl, ?_, rfl⟩)
   rw [← ht]; rfl
  ·have hlt : n < l.length := by omega
   have e1 : l[n]? = some (l.getD n 0) := by rw [List.getD_eq_getElem?_getD, List.getElem?_eq_getElem hlt]; rfl
   refine Holds.seq ?_
   refine zs1 e1 ?_
   by_cases h0 : l.getD n 0 = 0
   ·refine Holds.condT (nw := true) (by rw [h0]; rfl) (Holds.skip ?_)
    refine Holds.block ?_
    refine zr0 ?_
    refine ⟨n, ⟨by omega, ?_⟩, by simp, fun a w h => Rel.keep [3, 0] [] h⟩
    rw [← ht, trimW, if_pos h0]
   ·refine Holds.condF (nw := true) (by rw [decide_eq_false h0]; rfl) (Holds.exit ⟨rfl, _, rfl, ?_, rfl⟩)
    rw [← ht, trimW, if_neg h0]
    rfl
 ·rintro σ ⟨env, rfl, e3, e0⟩
  have hle := trimW_le l l.length
  refine zs1 (an e3 <| e0) ?_
  refine Holds.ret ⟨_, [], rfl, ⟨⟨?_, by simp⟩, trivial⟩, by simp [R.names, R.mems, R.blks], by simp, rfl⟩
  rw [words, trimL, List.map_take]
theorem wTrim_ok (l : List Int) (hl : l.length < 1000000) (ol : okW l) : FnOk Tryz.prog 92 [.v (words l)] [.v true (words (digs (val l)))] := by
 have h1 := view_ok l (by omega)
 have hlen := trimL_len l
 rw [← trim_digs ol]
 obtain ⟨m, hm⟩ : ∃ m, m = trimL l := ⟨_, rfl⟩
 rw [← hm] at h1 hlen ⊢
 refine FnOk.of Tryz.func92 rfl rfl fun cx w0 => ?_
 rw [show Tryz.f92.ntmps = 12 from rfl]
 refine zs0 ?_
 refine Holds.seq ?_
 refine zs2 (ρ := fun _ => [.v false (words m)]) (o := by repeat' first|exact h1|trivial|constructor) (k := ?_)
 by_cases h0 : m = []
 ·subst h0
  refine zs0 ?_
  refine Holds.condF rfl (Holds.skip ?_)
  refine zs0 ?_
  exact Holds.ret ⟨_, [], rfl, ⟨rfl, trivial⟩, by simp [R.names, R.mems, R.blks], by simp, rfl⟩
 ·have hpos : 0 < m.length := List.length_pos_iff.2 h0
  have g : (0 : Int) < m.length := by omega
  have hall := flatW m
  refine zs1 g ?_
  refine Holds.condT rfl ?_
  refine zs1 (an tby76 <| hall) ?_
  exact Holds.ret ⟨_, [], rfl, ⟨⟨rfl, by rw [List.drop_zero, List.take_of_length_le (by simp)], id, rfl⟩, trivial⟩, by simp [R.names, R.mems, R.blks], by simp, rfl⟩
theorem wWord_ok (u : Nat) (hu : u < 18446744073709551616) : FnOk Tryz.prog 138 [.v (.int .u64 u)] [.v true (words (digs u))] := by
 have h1 := wTrim_ok [(u : Int)] (by simp) (by intro n hn; simp at hn; omega)
 rw [show val [(u : Int)] = u from by simp [val]] at h1
 refine FnOk.of Tryz.func138 rfl rfl fun cx w0 => ?_
 rw [show Tryz.f138.ntmps = 6 from rfl]
 refine zs0 ?_
 refine zs2 (ρ := fun _ => [.v true (words (digs u))]) (o := by repeat' first|exact h1|trivial|constructor) (k := ?_)
 exact Holds.ret (RetOk.vs rfl (by exact ⟨⟨rfl, id⟩, trivial⟩) rfl)
theorem val_zero {l : List Int} (ol : okW l) : trimL l = [] ↔ val l = 0 := by
 rw [trim_digs ol]
 constructor
 ·intro h
  have := (digs_ok (val l)).2.2
  rw [h] at this
  simpa [val] using this.symm
 ·intro h
  rw [h]; rfl
theorem wZero_ok (l : List Int) (hl : l.length < 1000000) (ol : okW l) : FnOk Tryz.prog 36 [.v (words l)] [.v true (.bool (decide (val l = 0)))] := by
 have h1 := view_ok l (by omega)
 have hz := val_zero ol
 obtain ⟨m, hm⟩ : ∃ m, m = trimL l := ⟨_, rfl⟩
 rw [← hm] at h1 hz
 refine FnOk.of Tryz.func36 rfl rfl fun cx w0 => ?_
 rw [show Tryz.f36.ntmps = 7 from rfl]
 refine zs0 ?_
 by_cases h0 : m = []
 ·rw [decide_eq_true (hz.1 h0)]
  subst h0
  refine zs2 (ρ := fun _ => [.v false (words [])]) (o := by repeat' first|exact h1|trivial|constructor) (k := ?_)
  exact Holds.ret (RetOk.vs rfl (by exact ⟨⟨rfl, id⟩, trivial⟩) rfl)
 ·rw [decide_eq_false (fun h => h0 (hz.2 h))]
  have hpos : 0 < m.length := List.length_pos_iff.2 h0
  have g : ¬ (m.length : Int) = 0 := by omega
  refine zs3 (ρ := fun _ => [.v false (words m)]) g (o := by repeat' first|exact h1|trivial|constructor) (k := ?_)
  exact Holds.ret (RetOk.vs rfl (by exact ⟨⟨rfl, id⟩, trivial⟩) rfl)
def zeros (n : Nat) : List Int := List.replicate n 0
theorem okW_zeros (n : Nat) : okW (zeros n) := fun m hm => by rw [zeros, List.mem_replicate] at hm; omega
theorem val_zeros0 : ∀ n, val (zeros n) = 0
 | 0 => rfl
 | n + 1 => by rw [zeros, List.replicate_succ, val]; have := val_zeros0 n; rw [zeros] at this; rw [this]; rfl
theorem zeros_getD (n i : Nat) : (zeros n).getD i 0 = 0 := by
 rw [zeros, List.getD_eq_getElem?_getD, List.getElem?_replicate]
 split <;> rfl
theorem getD_far {l : List Int} {i : Nat} (h : l.length ≤ i) : l.getD i 0 = 0 := by
 rw [List.getD_eq_getElem?_getD, List.getElem?_eq_none h]; rfl
theorem val_take_all {l : List Int} {n : Nat} (h : l.length ≤ n) : l.take n = l := List.take_of_length_le h
def adI (x y : List Int) (n : Nat) : Nat → List Int × Int
 | 0 => (zeros n, 0)
 | k + 1 => ((adI x y n k).1.set k ((x.getD k 0 + y.getD k 0 + (adI x y n k).2) % 18446744073709551616), (x.getD k 0 + y.getD k 0 + (adI x y n k).2) / 18446744073709551616)
theorem adI_ok {x y : List Int} {n : Nat} (ox : okW x) (oy : okW y) : ∀ k, okW (adI x y n k).1 ∧ (0 ≤ (adI x y n k).2 ∧ (adI x y n k).2 ≤ 1) ∧ (adI x y n k).1.length = n ∧ ∀ j, k ≤ j → (adI x y n k).1.getD j 0 = 0
 | 0 => ⟨okW_zeros n, ⟨by show (0:Int) ≤ 0; omega, by show (0:Int) ≤ 1; omega⟩, by simp [adI, zeros], fun j _ => zeros_getD n j⟩
 | k + 1 => by
   obtain ⟨h1, h2, h3, h4⟩ := adI_ok (n := n) ox oy k
   have hx := okW_getD ox k
   have hy := okW_getD oy k
   rw [adI]
   refine ⟨okW_set h1 (by omega), by simp only; omega, by simp only; rw [List.length_set, h3], fun j hj => ?_⟩
   simp only
   rw [List.getD_eq_getElem?_getD, List.getElem?_set_ne (by omega), ← List.getD_eq_getElem?_getD]
   exact h4 j (by omega)
theorem adI_val {x y : List Int} {n : Nat} (ox : okW x) (oy : okW y) : ∀ k, k ≤ n → val (adI x y n k).1 + 18446744073709551616 ^ k * (adI x y n k).2.toNat = val (x.take k) + val (y.take k)
 | 0, _ => by simp [adI, val_zeros0, val]
 | k + 1, hk => by
   obtain ⟨h1, h2, h3, h4⟩ := adI_ok (n := n) ox oy k
   have ih := adI_val (n := n) ox oy k (by omega)
   have hx := okW_getD ox k
   have hy := okW_getD oy k
   rw [val_take_succ, val_take_succ, adI]
   have hs := val_set (l := (adI x y n k).1) (i := k) (n := (x.getD k 0 + y.getD k 0 + (adI x y n k).2) % 18446744073709551616) (by omega)
   rw [h4 k (Nat.le_refl _)] at hs
   simp only
   generalize (adI x y n k).1 = L at *
   generalize (adI x y n k).2 = c at *
   generalize x.getD k 0 = a at *
   generalize y.getD k 0 = b at *
   generalize val (L.set k ((a + b + c) % 18446744073709551616)) = W at *
   rw [Nat.pow_succ]
   generalize 18446744073709551616 ^ k = P at *
   have e0 : P * (0 : Int).toNat = 0 := by simp
   have e1 : P * 18446744073709551616 * ((a + b + c) / 18446744073709551616).toNat + P * ((a + b + c) % 18446744073709551616).toNat = P * a.toNat + P * b.toNat + P * c.toNat := by
    rw [Nat.mul_assoc, ← Nat.mul_add, ← Nat.mul_add, ← Nat.mul_add]
    congr 1
    omega
   omega
theorem add_shape {x y : List Int} (h : y.length ≤ x.length) (ox : okW x) (oy : okW y) : val ((adI x y (x.length + 1) x.length).1.set x.length (adI x y (x.length + 1) x.length).2) = val x + val y ∧ okW ((adI x y (x.length + 1) x.length).1.set x.length (adI x y (x.length + 1) x.length).2) := by
 obtain ⟨h1, h2, h3, h4⟩ := adI_ok (n := x.length + 1) ox oy x.length
 have hv := adI_val (n := x.length + 1) ox oy x.length (by omega)
 rw [val_take_all (Nat.le_refl _), val_take_all h] at hv
 have hs := val_set (l := (adI x y (x.length + 1) x.length).1) (i := x.length) (n := (adI x y (x.length + 1) x.length).2) (by omega)
 rw [h4 _ (Nat.le_refl _)] at hs
 refine ⟨?_, okW_set h1 (by omega)⟩
 have e0 : 18446744073709551616 ^ x.length * (0 : Int).toNat = 0 := by simp
 omega
set_option maxHeartbeats 1000000 in
theorem wAdd_ok (x y : List Int) (hx : x.length < 500000) (hy : y.length < 500000) (ox : okW x) (oy : okW y) : FnOk Tryz.prog 137 [.v (words x), .v (words y)] [.v true (words (digs (val x + val y)))] := by
 refine FnOk.of Tryz.func137 rfl rfl fun cx w0 => ?_
 rw [show Tryz.f137.ntmps = 54 from rfl]
 refine zs0 ?_
 obtain ⟨Z, hV⟩ : ∃ Z, Z = val x + val y := ⟨_, rfl⟩
 rw [← hV]
 refine Holds.next (fun σ => ∃ a b : List Int, a.length < 500000 ∧ b.length ≤ a.length ∧ okW a ∧ okW b ∧ Z = val a + val b ∧ ∀ v w, Rel cx w0 σ v w → Rel cx w0 { nt := 54, env := [(1, .v false (words b)), (0, .v false (words a))], mem := [] } v w) ?_ ?_
 ·by_cases h : x.length < y.length
  ·have g : (x.length : Int) < y.length := by omega
   refine zs1 g ?_
   refine Holds.condT rfl ?_
   refine zr0 ?_
   exact ⟨y, x, hy, by omega, oy, ox, by omega, fun a w h => Rel.keep [1, 0] [] h⟩
  ·have g : ¬ (x.length : Int) < y.length := by omega
   refine zs1 g ?_
   exact Holds.condF rfl (Holds.skip ⟨x, y, hx, by omega, ox, oy, hV, fun a w h => Rel.keep [1, 0] [] h⟩)
 clear hx hy ox oy hV
 rintro σ ⟨x, y, hx, hle, ox, oy, hV, hσ⟩
 refine Holds.from hσ ?_
 clear hσ
 obtain ⟨hfin, hfo⟩ := add_shape hle ox oy
 rw [← hV] at hfin
 obtain ⟨N, hN⟩ : ∃ N, N = x.length + 1 := ⟨_, rfl⟩
 have e1 : IntKind.i64.wrap ((x.length : Int) + 1) = (N : Int) := by rw [wrap_i64 (by omega) (by omega)]; omega
 rw [← hN] at hfin hfo
 refine zs1 (an e1 <| tby76) ?_
 refine zs0 ?_
 have hrep : List.replicate N (V.int IntKind.u64 0) = (zeros N).map fun n => V.int .u64 n := by rw [zeros, List.map_replicate]
 rw [hrep]
 have hI := adI_ok (n := N) ox oy
 refine Holds.next (fun σ => ∀ a w, Rel cx w0 σ a w → Rel cx w0 { nt := 54, env := [(6, .v true (.int .u64 (adI x y N x.length).2)), (5, .own 19 0 N), (0, .v false (words x))], mem := [(19, .buf 76 1 true ((adI x y N x.length).1.map fun n => .int .u64 n))] } a w) ?_ ?_
 ·refine zs0 ?_
  refine Holds.loopB (fun k : Nat => { nt := 54, env := [(22, .v true (.int .i64 (k : Nat))), (21, .v true (.int .i64 (x.length : Nat))), (6, .v true (.int .u64 (adI x y N k).2)), (5, .own 19 0 N), (1, .v false (words y)), (0, .v false (words x))], mem := [(19, .buf 76 1 true ((adI x y N k).1.map fun n => .int .u64 n))] })
   (fun k => k ≤ x.length) (fun k => x.length - k) 0 (Nat.zero_le _) (fun a w h => Rel.keep [22, 21, 6, 5, 1, 0] [19] h) ?_
  intro k hk
  obtain ⟨h1, h2, h3, h4⟩ := hI k
  by_cases hend : k = x.length
  ·subst hend
   refine zs0 ?_
   exact Holds.seq (Holds.condF rfl (Holds.exit ⟨rfl, fun a w h => Rel.keep [6, 5, 0] [19] h⟩))
  ·have hkl : k < x.length := by omega
   have g : (k : Int) < x.length := by omega
   have e2 : IntKind.i64.wrap ((k : Int) + 1) = ((k + 1 : Nat) : Int) := by rw [wrap_i64 (by omega) (by omega)]; omega
   have hx1 := okW_getD ox k
   have hy1 := okW_getD oy k
   refine zs1 g ?_
   refine Holds.seq (Holds.condT rfl (Holds.skip ?_))
   refine Holds.seq (Holds.block ?_)
   refine zs0 ?_
   refine zs0 ?_
   refine Holds.next (fun σ => ∀ a w, Rel cx w0 σ a w → Rel cx w0 { nt := 54, env := [(7, .v true (.int .i64 (k : Nat))), (8, .v true (.int .u64 (y.getD k 0))), (22, .v true (.int .i64 (k : Nat))), (21, .v true (.int .i64 (x.length : Nat))), (6, .v true (.int .u64 (adI x y N k).2)), (5, .own 19 0 N), (1, .v false (words y)), (0, .v false (words x))], mem := [(19, .buf 76 1 true ((adI x y N k).1.map fun n => .int .u64 n))] } a w) ?_ ?_
   ·by_cases hky : k < y.length
    ·have g1 : (k : Int) < y.length := by omega
     refine zs1 g1 ?_
     refine Holds.condT rfl ?_
     refine zr1 ((get_map hky)) ?_
     exact fun a w h => Rel.keep [7, 8, 22, 21, 6, 5, 1, 0] [19] h
    ·have g1 : ¬ (k : Int) < y.length := by omega
     refine zs1 g1 ?_
     refine Holds.condF rfl (Holds.skip fun a w h => ?_)
     rw [getD_far (l := y) (by omega)]
     exact Rel.keep [7, 8, 22, 21, 6, 5, 1, 0] [19] h
   ·intro σ hσ
    refine Holds.from hσ ?_
    have hik : k < (adI x y N k).1.length := by omega
    have e : adI x y N (k + 1) = ((adI x y N k).1.set k ((x.getD k 0 + y.getD k 0 + (adI x y N k).2) % 18446744073709551616), (x.getD k 0 + y.getD k 0 + (adI x y N k).2) / 18446744073709551616) := rfl
    have hA := add64_ok _ _ _ hx1.1 hy1.1 h2.1 h2.2
    obtain ⟨k1, hk1⟩ : ∃ k1, k1 = k + 1 := ⟨_, rfl⟩
    rw [← hk1] at e2 e
    refine zr3 (ρ := fun _ => [.v true (.int .u64 ((x.getD k 0 + y.getD k 0 + (adI x y N k).2) % 18446744073709551616)), .v true (.int .u64 ((x.getD k 0 + y.getD k 0 + (adI x y N k).2) / 18446744073709551616))]) (an (get_map hkl) <| an (get_map hik) <| hik) (o := by repeat' first|exact hA|trivial|constructor) (k := ?_)
    show Holds _ _ _ _ _ _ _
    refine zr1 e2 ?_
    refine ⟨k1, by omega, (show x.length - k1 < x.length - k by omega), fun a w h => ?_⟩
    simp only [e, List.map_set]
    exact Rel.keep [22, 21, 6, 5, 1, 0] [19] h
 ·intro σ hσ
  refine Holds.from hσ ?_
  obtain ⟨h1, h2, h3, h4⟩ := hI x.length
  have hT := wTrim_ok _ (by rw [List.length_set, h3]; omega) hfo
  rw [hfin] at hT
  have hik : x.length < (adI x y N x.length).1.length := by omega
  obtain ⟨L, hL⟩ : ∃ L, L = (adI x y N x.length).1 := ⟨_, rfl⟩
  rw [← hL] at hT hik h3 ⊢
  have g : (x.length : Int) < N := by omega
  have hxN : x.length < N := by omega
  refine zs1 (an (get_map hik) <| an g <| hxN) ?_
  have hms : (L.map fun n => V.int .u64 n).set x.length (V.int .u64 (adI x y N x.length).2) = (L.set x.length (adI x y N x.length).2).map fun n => V.int .u64 n := by rw [List.map_set]
  rw [hms]
  have htk : List.take N (List.map (fun n => V.int .u64 n) (L.set x.length (adI x y N x.length).2)) = List.map (fun n => V.int .u64 n) (L.set x.length (adI x y N x.length).2) := List.take_of_length_le (by rw [List.length_map, List.length_set]; omega)
  refine zs3 (ρ := fun _ => [.v true (words (digs Z))]) htk (o := by repeat' first|exact hT|trivial|constructor) (k := ?_)
  exact Holds.ret (RetOk.vs rfl (by exact ⟨⟨rfl, id⟩, trivial⟩) rfl)
def wmI (ai : Int) (b : List Int) (i : Nat) (s : List Int × Int) : Nat → List Int × Int
 | 0 => s
 | k + 1 => ((wmI ai b i s k).1.set (i + k) (((wmI ai b i s k).2 + (wmI ai b i s k).1.getD (i + k) 0 + ai * b.getD k 0) % 18446744073709551616), ((wmI ai b i s k).2 + (wmI ai b i s k).1.getD (i + k) 0 + ai * b.getD k 0) / 18446744073709551616)
def wmO (a b : List Int) : Nat → List Int
 | 0 => List.replicate (a.length + b.length) 0
 | i + 1 => (wmI (a.getD i 0) b i (wmO a b i, 0) b.length).1.set (i + b.length) (wmI (a.getD i 0) b i (wmO a b i, 0) b.length).2
theorem wm_bound {ai u : Int} (ha : 0 ≤ ai ∧ ai < 18446744073709551616) (hu : 0 ≤ u ∧ u < 18446744073709551616) : 0 ≤ ai * u ∧ ai * u ≤ 340282366920938463426481119284349108225 := by
 refine ⟨Int.mul_nonneg ha.1 hu.1, ?_⟩
 have : ai * u ≤ 18446744073709551615 * 18446744073709551615 := Int.mul_le_mul (by omega) (by omega) hu.1 (by omega)
 omega
theorem wmI_ok {ai : Int} {b : List Int} {i : Nat} {s : List Int × Int} (ha : 0 ≤ ai ∧ ai < 18446744073709551616) (ob : okW b) (hs : okW s.1) (hc : 0 ≤ s.2 ∧ s.2 < 18446744073709551616) : ∀ k, okW (wmI ai b i s k).1 ∧ (0 ≤ (wmI ai b i s k).2 ∧ (wmI ai b i s k).2 < 18446744073709551616) ∧ (wmI ai b i s k).1.length = s.1.length
 | 0 => ⟨hs, hc, rfl⟩
 | k + 1 => by
   obtain ⟨h1, h2, h3⟩ := wmI_ok (i := i) ha ob hs hc k
   have h4 := okW_getD h1 (i + k)
   have h5 := wm_bound ha (okW_getD ob k)
   rw [wmI]
   refine ⟨okW_set h1 (by omega), by simp only; omega, by simp only; rw [List.length_set, h3]⟩
theorem wmI_far {ai : Int} {b : List Int} {i : Nat} {s : List Int × Int} : ∀ k j, i + k ≤ j → (wmI ai b i s k).1.getD j 0 = s.1.getD j 0
 | 0, _, _ => rfl
 | k + 1, j, h => by
   rw [wmI]
   simp only
   rw [List.getD_eq_getElem?_getD, List.getElem?_set_ne (by omega), ← List.getD_eq_getElem?_getD]
   exact wmI_far k j (by omega)
theorem wmI_val {ai : Int} {b : List Int} {i : Nat} {s : List Int × Int} (ha : 0 ≤ ai ∧ ai < 18446744073709551616) (ob : okW b) (hs : okW s.1) (hc : 0 ≤ s.2 ∧ s.2 < 18446744073709551616) : ∀ k, i + k ≤ s.1.length →
 val (wmI ai b i s k).1 + 18446744073709551616 ^ (i + k) * (wmI ai b i s k).2.toNat = val s.1 + 18446744073709551616 ^ i * (ai.toNat * val (b.take k) + s.2.toNat)
 | 0, _ => by rw [wmI, List.take_zero, val]; simp
 | k + 1, hk => by
   have ih := wmI_val (i := i) ha ob hs hc k (by omega)
   obtain ⟨h1, h2, h3⟩ := wmI_ok (i := i) ha ob hs hc k
   have hi : i + k < (wmI ai b i s k).1.length := by omega
   have hz := okW_getD h1 (i + k)
   have hu := okW_getD ob k
   have hp := wm_bound ha hu
   rw [wmI, val_take_succ]
   simp only
   have hset := val_set (n := ((wmI ai b i s k).2 + (wmI ai b i s k).1.getD (i + k) 0 + ai * b.getD k 0) % 18446744073709551616) hi
   generalize (wmI ai b i s k).1.getD (i + k) 0 = z at *
   generalize b.getD k 0 = u at *
   generalize (wmI ai b i s k).2 = c at *
   have em0 : (ai * u).toNat = ai.toNat * u.toNat := by
    obtain ⟨A, rfl⟩ : ∃ n : Nat, ai = n := ⟨ai.toNat, by omega⟩
    obtain ⟨U, rfl⟩ : ∃ n : Nat, u = n := ⟨u.toNat, by omega⟩
    rw [← Int.natCast_mul, Int.toNat_natCast, Int.toNat_natCast, Int.toNat_natCast]
   have eD : 18446744073709551616 ^ (i + (k + 1)) = 18446744073709551616 ^ (i + k) * 18446744073709551616 := by rw [← Nat.add_assoc, Nat.pow_succ]
   have eA : 18446744073709551616 ^ i * (ai.toNat * (val (b.take k) + 18446744073709551616 ^ k * u.toNat) + s.2.toNat) = 18446744073709551616 ^ i * (ai.toNat * val (b.take k) + s.2.toNat) + 18446744073709551616 ^ (i + k) * (ai * u).toNat := by
    rw [em0, Nat.pow_add, Nat.mul_assoc, ← Nat.mul_add]
    congr 1
    rw [Nat.mul_add, Nat.mul_left_comm]
    omega
   generalize ai * u = m at *
   have er : ((c + z + m) % 18446744073709551616).toNat + 18446744073709551616 * ((c + z + m) / 18446744073709551616).toNat = z.toNat + m.toNat + c.toNat := by omega
   have em : 18446744073709551616 ^ (i + k) * ((c + z + m) % 18446744073709551616).toNat + 18446744073709551616 ^ (i + k) * (18446744073709551616 * ((c + z + m) / 18446744073709551616).toNat) = 18446744073709551616 ^ (i + k) * z.toNat + 18446744073709551616 ^ (i + k) * m.toNat + 18446744073709551616 ^ (i + k) * c.toNat := by
    rw [← Nat.mul_add, er, Nat.mul_add, Nat.mul_add]
   rw [eD, eA, Nat.mul_assoc]
   generalize 18446744073709551616 ^ (i + k) * ((c + z + m) % 18446744073709551616).toNat = a1 at *
   generalize 18446744073709551616 ^ (i + k) * (18446744073709551616 * ((c + z + m) / 18446744073709551616).toNat) = a2 at *
   generalize 18446744073709551616 ^ (i + k) * z.toNat = a3 at *
   generalize 18446744073709551616 ^ (i + k) * m.toNat = a4 at *
   generalize 18446744073709551616 ^ (i + k) * c.toNat = a5 at *
   generalize 18446744073709551616 ^ i * (ai.toNat * val (b.take k) + s.2.toNat) = a6 at *
   omega
theorem wmO_ok {a b : List Int} (oa : okW a) (ob : okW b) : ∀ i, i ≤ a.length → okW (wmO a b i) ∧ (wmO a b i).length = a.length + b.length ∧ val (wmO a b i) = val (a.take i) * val b ∧ ∀ j, i + b.length ≤ j → (wmO a b i).getD j 0 = 0
 | 0, _ => by
   refine ⟨fun n hn => by rw [wmO, List.mem_replicate] at hn; omega, by rw [wmO, List.length_replicate], ?_, fun j hj => ?_⟩
   ·rw [wmO, List.take_zero, val, Nat.zero_mul]
    have := val_zeros [] (a.length + b.length)
    rw [List.nil_append] at this
    exact this
   ·rw [wmO, List.getD_eq_getElem?_getD]
    cases h : (List.replicate (a.length + b.length) (0 : Int))[j]? with
    | none => rfl
    | some x => have := List.mem_of_getElem? h; rw [List.mem_replicate] at this; exact this.2
 | i + 1, hi => by
   obtain ⟨h1, h2, h3, h4⟩ := wmO_ok oa ob i (by omega)
   have ha := okW_getD oa i
   obtain ⟨k1, k2, k3⟩ := wmI_ok (i := i) (s := (wmO a b i, 0)) ha ob h1 (by simp) b.length
   have kv := wmI_val (i := i) (s := (wmO a b i, 0)) ha ob h1 (by simp) b.length (by simp only; omega)
   have kf := wmI_far (ai := a.getD i 0) (b := b) (i := i) (s := (wmO a b i, 0)) b.length
   have hlt : i + b.length < (wmI (a.getD i 0) b i (wmO a b i, 0) b.length).1.length := by rw [k3]; simp only; omega
   rw [wmO]
   refine ⟨okW_set k1 k2, by rw [List.length_set, k3]; exact h2, ?_, fun j hj => ?_⟩
   ·have hs := val_set (n := (wmI (a.getD i 0) b i (wmO a b i, 0) b.length).2) hlt
    have h0 : (wmI (a.getD i 0) b i (wmO a b i, 0) b.length).1.getD (i + b.length) 0 = 0 := by
     rw [kf _ (Nat.le_refl _)]
     exact h4 _ (Nat.le_refl _)
    rw [h0, Int.toNat_zero, Nat.mul_zero, Nat.add_zero] at hs
    rw [List.take_length] at kv
    simp only [Int.toNat_zero, Nat.add_zero] at kv
    rw [hs, kv, h3, val_take_succ, Nat.add_mul, Nat.mul_assoc]
   ·rw [List.getD_eq_getElem?_getD, List.getElem?_set_ne (by omega), ← List.getD_eq_getElem?_getD, kf _ (by omega)]
    exact h4 _ (by omega)
theorem mul_step {A U z c : Nat} (hA : A < 18446744073709551616) (hU : U < 18446744073709551616) (hz : z < 18446744073709551616) (hc : c < 18446744073709551616) :
 ((A * U % 18446744073709551616 + z) % 18446744073709551616 + c) % 18446744073709551616 = (c + z + A * U) % 18446744073709551616 ∧
 A * U / 18446744073709551616 + (A * U % 18446744073709551616 + z) / 18446744073709551616 + ((A * U % 18446744073709551616 + z) % 18446744073709551616 + c) / 18446744073709551616 = (c + z + A * U) / 18446744073709551616 ∧
 (c + z + A * U) / 18446744073709551616 < 18446744073709551616 := by
 have hp : A * U ≤ 18446744073709551615 * 18446744073709551615 := Nat.mul_le_mul (by omega) (by omega)
 generalize A * U = p at *
 omega
set_option maxHeartbeats 2000000 in
theorem wMul_ok (x y : List Int) (hx : x.length < 400000) (hy : y.length < 400000) (ox : okW x) (oy : okW y) : FnOk Tryz.prog 40 [.v (words x), .v (words y)] [.v true (words (digs (val x * val y)))] := by
 have v1 := view_ok x (by omega)
 have v2 := view_ok y (by omega)
 have t1 := trimL_len x
 have t2 := trimL_len y
 have o1 := trimL_ok ox
 have o2 := trimL_ok oy
 rw [← val_trim x, ← val_trim y]
 generalize trimL x = a at *
 generalize trimL y = b at *
 refine FnOk.of Tryz.func40 rfl rfl fun cx w0 => ?_
 rw [show Tryz.f40.ntmps = 93 from rfl]
 refine zs0 ?_
 refine zs2 (ρ := fun d => if d = 15 then [.v false (words a)] else [.v false (words b)]) (o := by repeat' first|exact v1|exact v2|trivial|constructor) (k := ?_)
 refine Holds.from (σ' := { nt := 93, env := [(1, .v false (words b)), (0, .v false (words a))], mem := [] }) (fun a w h => Rel.keep [1, 0] [] h) ?_
 by_cases ha0 : a = []
 ·subst ha0
  rw [show val ([] : List Int) * val b = 0 from by simp [val]]
  refine Holds.seq ?_
  refine zs0 ?_
  refine Holds.condT rfl ?_
  refine zs0 ?_
  rw [show words (digs 0) = .sl 1 [] from rfl]
  exact Holds.ret ⟨_, [], rfl, ⟨rfl, trivial⟩, by simp [R.names, R.mems, R.blks], by simp, rfl⟩
 by_cases hb0 : b = []
 ·subst hb0
  rw [show val a * val ([] : List Int) = 0 from by simp [val]]
  have hpos : 0 < a.length := List.length_pos_iff.2 ha0
  have g : ¬ (a.length : Int) = 0 := by omega
  refine Holds.seq ?_
  refine zs1 g ?_
  refine Holds.condT rfl ?_
  refine zs0 ?_
  rw [show words (digs 0) = .sl 1 [] from rfl]
  exact Holds.ret ⟨_, [], rfl, ⟨rfl, trivial⟩, by simp [R.names, R.mems, R.blks], by simp, rfl⟩
 have hap : 0 < a.length := List.length_pos_iff.2 ha0
 have hbp : 0 < b.length := List.length_pos_iff.2 hb0
 have ga : ¬ (a.length : Int) = 0 := by omega
 have gb : ¬ (b.length : Int) = 0 := by omega
 refine Holds.next (fun σ => ∀ x w, Rel cx w0 σ x w → Rel cx w0 { nt := 93, env := [(1, .v false (words b)), (0, .v false (words a))], mem := [] } x w) ?_ ?_
 ·refine zs1 (an ga <| gb) ?_
  exact Holds.condF rfl (Holds.skip fun x w h => Rel.keep [1, 0] [] h)
 intro σ hσ
 refine Holds.from hσ ?_
 clear hσ ga gb
 obtain ⟨N, hN⟩ : ∃ N, N = a.length + b.length := ⟨_, rfl⟩
 have eN : IntKind.i64.wrap ((a.length : Int) + (b.length : Int)) = (N : Int) := by rw [wrap_i64 (by omega) (by omega)]; omega
 refine zs1 (an eN <| tby76) ?_
 obtain ⟨f1, f2, f3, f4⟩ := wmO_ok o1 o2 a.length (Nat.le_refl _)
 rw [val_take_all (Nat.le_refl _)] at f3
 refine Holds.next (fun σ => ∀ x w, Rel cx w0 σ x w → Rel cx w0 { nt := 93, env := [(5, .own 31 0 N)], mem := [(31, .buf 76 1 true ((wmO a b a.length).map fun n => .int .u64 n))] } x w) ?_ ?_
 ·refine zs0 ?_
  refine Holds.loopB (fun i : Nat => { nt := 93, env := [(34, .v true (.int .i64 (i : Nat))), (33, .v true (.int .i64 (a.length : Nat))), (32, .v false (words a)), (5, .own 31 0 N), (1, .v false (words b))], mem := [(31, .buf 76 1 true ((wmO a b i).map fun n => .int .u64 n))] }) (fun i => i ≤ a.length) (fun i => a.length - i) 0 (Nat.zero_le _) (fun x w h => by
   have := Rel.keep [34, 33, 32, 5, 1] [31] h
   rw [wmO, List.map_replicate, ← hN]
   exact this) ?_
  intro i hi
  obtain ⟨h1, h2, h3, h4⟩ := wmO_ok o1 o2 i hi
  by_cases hend : i = a.length
  ·have g : ¬ (i : Int) < a.length := by omega
   refine zs1 g ?_
   refine Holds.seq (Holds.condF rfl (Holds.exit ⟨rfl, fun x w h => ?_⟩))
   rw [← hend]
   exact Rel.keep [5] [31] h
  have hia : i < a.length := by omega
  have g : (i : Int) < a.length := by omega
  have hA := okW_getD o1 i
  have gA := get_map hia
  obtain ⟨A, hAe⟩ : ∃ A : Nat, a.getD i 0 = A := ⟨(a.getD i 0).toNat, by omega⟩
  rw [hAe] at hA gA
  obtain ⟨s, hs⟩ : ∃ s : List Int × Int, s = (wmO a b i, 0) := ⟨_, rfl⟩
  have hs1 : s.1 = wmO a b i := by rw [hs]
  have hs2 : s.2 = 0 := by rw [hs]
  have os : okW s.1 := by rw [hs1]; exact h1
  have hsl : s.1.length = N := by rw [hs1, h2, hN]
  have hI := wmI_ok (i := i) hA o2 os (by rw [hs2]; omega)
  have ei1 : IntKind.i64.wrap ((i : Int) + 1) = ((i + 1 : Nat) : Int) := by rw [wrap_i64 (by omega) (by omega)]; omega
  refine zs1 g ?_
  refine Holds.seq (Holds.condT rfl (Holds.skip ?_))
  show Holds _ _ _ _ _ _ _
  refine Holds.next (fun σ => ∀ x w, Rel cx w0 σ x w → Rel cx w0 { nt := 93, env := [(34, .v true (.int .i64 (i : Nat))), (33, .v true (.int .i64 (a.length : Nat))), (32, .v false (words a)), (5, .own 31 0 N), (1, .v false (words b))], mem := [(31, .buf 76 1 true ((wmO a b (i + 1)).map fun n => .int .u64 n))] } x w) ?_ ?_
  ·refine Holds.blockN ?_
   refine zs1 gA ?_
   refine zs0 ?_
   refine Holds.next (fun σ => ∀ x w, Rel cx w0 σ x w → Rel cx w0 { nt := 93, env := [(6, .v true (.int .i64 (i : Nat))), (8, .v true (.int .u64 (wmI A b i s b.length).2)), (34, .v true (.int .i64 (i : Nat))), (33, .v true (.int .i64 (a.length : Nat))), (32, .v false (words a)), (5, .own 31 0 N), (1, .v false (words b))], mem := [(31, .buf 76 1 true ((wmI A b i s b.length).1.map fun n => .int .u64 n))] } x w) ?_ ?_
   ·refine zs0 ?_
    refine Holds.loopB (fun k : Nat => { nt := 93, env := [(41, .v true (.int .i64 (k : Nat))), (40, .v true (.int .i64 (b.length : Nat))), (39, .v false (words b)), (6, .v true (.int .i64 (i : Nat))), (7, .v true (.int .u64 (A : Nat))), (8, .v true (.int .u64 (wmI A b i s k).2)), (34, .v true (.int .i64 (i : Nat))), (33, .v true (.int .i64 (a.length : Nat))), (32, .v false (words a)), (5, .own 31 0 N), (1, .v false (words b))], mem := [(31, .buf 76 1 true ((wmI A b i s k).1.map fun n => .int .u64 n))] }) (fun k => k ≤ b.length) (fun k => b.length - k) 0 (Nat.zero_le _) (fun x w h => by
     have := Rel.keep [41, 40, 39, 6, 7, 8, 34, 33, 32, 5, 1] [31] h
     rw [wmI, hs]
     exact this) ?_
    intro k hk
    obtain ⟨k1, k2, k3⟩ := hI k
    by_cases hend2 : k = b.length
    ·have g2 : ¬ (k : Int) < b.length := by omega
     refine zs1 g2 ?_
     refine Holds.seq (Holds.condF rfl (Holds.exit ⟨rfl, fun x w h => ?_⟩))
     rw [← hend2]
     exact Rel.keep [6, 8, 34, 33, 32, 5, 1] [31] h
    have hkb : k < b.length := by omega
    have g2 : (k : Int) < b.length := by omega
    have gB := get_map hkb
    have hU := okW_getD o2 k
    have hik : i + k < (wmI A b i s k).1.length := by omega
    have gZ := get_map hik
    have hZ := okW_getD k1 (i + k)
    have esucc : wmI A b i s (k + 1) = ((wmI A b i s k).1.set (i + k) (((wmI A b i s k).2 + (wmI A b i s k).1.getD (i + k) 0 + A * b.getD k 0) % 18446744073709551616), ((wmI A b i s k).2 + (wmI A b i s k).1.getD (i + k) 0 + A * b.getD k 0) / 18446744073709551616) := rfl
    obtain ⟨U, hUe⟩ : ∃ U : Nat, b.getD k 0 = U := ⟨(b.getD k 0).toNat, by omega⟩
    rw [hUe] at gB hU esucc
    obtain ⟨T, hT⟩ : ∃ T, T = wmI A b i s k := ⟨_, rfl⟩
    rw [← hT] at k1 k2 k3 hik gZ hZ esucc ⊢
    obtain ⟨z, hz⟩ : ∃ z : Nat, T.1.getD (i + k) 0 = z := ⟨(T.1.getD (i + k) 0).toNat, by omega⟩
    rw [hz] at gZ hZ esucc
    obtain ⟨c, hc⟩ : ∃ c : Nat, T.2 = c := ⟨T.2.toNat, by omega⟩
    rw [hc] at k2 esucc ⊢
    have hst := mul_step (A := A) (U := U) (z := z) (c := c) (by omega) (by omega) (by omega) (by omega)
    have hM := mul64_ok A U (by omega) (by omega)
    obtain ⟨hi_, hhi⟩ : ∃ h, h = A * U / 18446744073709551616 := ⟨_, rfl⟩
    obtain ⟨lo, hlo⟩ : ∃ l, l = A * U % 18446744073709551616 := ⟨_, rfl⟩
    have hlo8 : lo < 18446744073709551616 := by rw [hlo]; exact Nat.mod_lt _ (by decide)
    rw [← hhi, ← hlo] at hM hst
    have ecast : ((c : Int) + (z : Int) + (A : Int) * (U : Int)) = ((c + z + A * U : Nat) : Int) := by rw [Int.natCast_add, Int.natCast_add, Int.natCast_mul]
    rw [ecast] at esucc
    obtain ⟨q, hq⟩ : ∃ q, q = c + z + A * U := ⟨_, rfl⟩
    rw [← hq] at esucc hst
    obtain ⟨s1, hs1'⟩ : ∃ s1, s1 = (lo + z + 0) % 18446744073709551616 := ⟨_, rfl⟩
    obtain ⟨c1, hc1'⟩ : ∃ c1, c1 = (lo + z + 0) / 18446744073709551616 := ⟨_, rfl⟩
    have hA1 := add64N lo z 0 (by omega) hs1' hc1'
    obtain ⟨s2, hs2'⟩ : ∃ s2, s2 = (s1 + c + 0) % 18446744073709551616 := ⟨_, rfl⟩
    obtain ⟨c2, hc2'⟩ : ∃ c2, c2 = (s1 + c + 0) / 18446744073709551616 := ⟨_, rfl⟩
    have hA2 := add64N s1 c 0 (by omega) hs2' hc2'
    rw [Nat.add_zero] at hs1' hc1' hs2' hc2'
    rw [← hs1', ← hc1', ← hs2', ← hc2'] at hst
    obtain ⟨st1, st2, st3⟩ := hst
    obtain ⟨h1', hh1'⟩ : ∃ h, h = hi_ + c1 := ⟨_, rfl⟩
    have w1 : IntKind.u64.wrap ((hi_ : Int) + (c1 : Int)) = (h1' : Int) := by rw [wrap_u64]; omega
    obtain ⟨h2', hh2'⟩ : ∃ h, h = h1' + c2 := ⟨_, rfl⟩
    have w2 : IntKind.u64.wrap ((h1' : Int) + (c2 : Int)) = (h2' : Int) := by rw [wrap_u64]; omega
    have eik : IntKind.i64.wrap ((i : Int) + (k : Int)) = ((i + k : Nat) : Int) := by rw [wrap_i64 (by omega) (by omega)]; omega
    obtain ⟨ik, hike⟩ : ∃ ik, ik = i + k := ⟨_, rfl⟩
    rw [← hike] at eik hik gZ esucc
    have gik : (ik : Int) < N := by omega
    have ek1 : IntKind.i64.wrap ((k : Int) + 1) = ((k + 1 : Nat) : Int) := by rw [wrap_i64 (by omega) (by omega)]; omega
    obtain ⟨k', hk'⟩ : ∃ k', k' = k + 1 := ⟨_, rfl⟩
    rw [← hk'] at ek1 esucc
    have es2 : (q : Int) % 18446744073709551616 = (s2 : Int) := by omega
    have eh2 : (q : Int) / 18446744073709551616 = (h2' : Int) := by omega
    rw [es2, eh2] at esucc
    clear hhi hlo hq hs1' hc1' hs2' hc2' st1 st2 st3 es2 eh2 ecast hT hs hs1 hs2 os hsl hI h1 h2 h3 h4 f1 f2 f3 f4 v1 v2
    refine zs1 g2 ?_
    refine Holds.seq (Holds.condT rfl (Holds.skip ?_))
    show Holds _ _ _ _ _ _ _
    refine Holds.next (fun σ => ∀ x w, Rel cx w0 σ x w → Rel cx w0 { nt := 93, env := [(41, .v true (.int .i64 (k : Nat))), (40, .v true (.int .i64 (b.length : Nat))), (39, .v false (words b)), (6, .v true (.int .i64 (i : Nat))), (7, .v true (.int .u64 (A : Nat))), (8, .v true (.int .u64 (h2' : Nat))), (34, .v true (.int .i64 (i : Nat))), (33, .v true (.int .i64 (a.length : Nat))), (32, .v false (words a)), (5, .own 31 0 N), (1, .v false (words b))], mem := [(31, .buf 76 1 true ((T.1.set ik s2).map fun n => .int .u64 n))] } x w) ?_ ?_
    ·refine Holds.blockN ?_
     refine zs1 gB ?_
     refine zs2 (ρ := fun _ => [.v true (.int .u64 (hi_ : Nat)), .v true (.int .u64 (lo : Nat))]) (o := by repeat' first|exact hM|trivial|constructor) (k := ?_)
     refine zs0 ?_
     refine zs3 (ρ := fun _ => [.v true (.int .u64 (s1 : Nat)), .v true (.int .u64 (c1 : Nat))]) (an eik <| an gZ <| an gik <| hik) (o := by repeat' first|exact hA1|trivial|constructor) (k := ?_)
     refine Holds.from (σ' := { nt := 93, env := [(9, .v true (.int .i64 (k : Nat))), (11, .v true (.int .u64 (hi_ : Nat))), (12, .v true (.int .u64 (s1 : Nat))), (13, .v true (.int .u64 (c1 : Nat))), (41, .v true (.int .i64 (k : Nat))), (40, .v true (.int .i64 (b.length : Nat))), (39, .v false (words b)), (6, .v true (.int .i64 (i : Nat))), (7, .v true (.int .u64 (A : Nat))), (8, .v true (.int .u64 (c : Nat))), (34, .v true (.int .i64 (i : Nat))), (33, .v true (.int .i64 (a.length : Nat))), (32, .v false (words a)), (5, .own 31 0 N), (1, .v false (words b))], mem := [(31, .buf 76 1 true (T.1.map fun n => .int .u64 n))] }) (fun x w h => Rel.keep [9, 11, 12, 13, 41, 40, 39, 6, 7, 8, 34, 33, 32, 5, 1] [31] h) ?_
     refine zs1 w1 ?_
     refine zs2 (ρ := fun _ => [.v true (.int .u64 (s2 : Nat)), .v true (.int .u64 (c2 : Nat))]) (o := by repeat' first|exact hA2|trivial|constructor) (k := ?_)
     refine zs1 w2 ?_
     refine zr1 (an eik <| an gZ <| an gik <| hik) ?_
     intro x w h
     rw [List.map_set]
     exact Rel.keep [41, 40, 39, 6, 7, 8, 34, 33, 32, 5, 1] [31] h
    ·intro σ hσ
     refine Holds.from hσ ?_
     refine zr1 ek1 ?_
     refine ⟨k', (by show k' ≤ b.length; omega), (show b.length - k' < b.length - k by omega), fun x w h => ?_⟩
     simp only [esucc]
     exact Rel.keep [41, 40, 39, 6, 7, 8, 34, 33, 32, 5, 1] [31] h
   ·intro σ hσ
    refine Holds.from hσ ?_
    obtain ⟨k1, k2, k3⟩ := hI b.length
    have hib : i + b.length < (wmI A b i s b.length).1.length := by omega
    have e : wmO a b (i + 1) = (wmI A b i s b.length).1.set (i + b.length) (wmI A b i s b.length).2 := by rw [wmO, hAe, hs]
    have eib : IntKind.i64.wrap ((i : Int) + (b.length : Int)) = ((i + b.length : Nat) : Int) := by rw [wrap_i64 (by omega) (by omega)]; omega
    obtain ⟨ib, hibe⟩ : ∃ ib, ib = i + b.length := ⟨_, rfl⟩
    rw [← hibe] at eib hib e
    have gZ := get_map hib
    have gib : (ib : Int) < N := by omega
    refine zr1 (an eib <| an gZ <| an gib <| hib) ?_
    intro x w h
    rw [e, List.map_set]
    exact Rel.keep [34, 33, 32, 5, 1] [31] h
  ·intro σ hσ
   refine Holds.from hσ ?_
   obtain ⟨i1, hi1⟩ : ∃ i1, i1 = i + 1 := ⟨_, rfl⟩
   rw [← hi1] at ei1 ⊢
   refine zr1 ei1 ?_
   exact ⟨i1, (by show i1 ≤ a.length; omega), (show a.length - i1 < a.length - i by omega), fun x w h => Rel.keep [34, 33, 32, 5, 1] [31] h⟩
 ·intro σ hσ
  refine Holds.from hσ ?_
  have hTr := wTrim_ok _ (by rw [f2]; omega) f1
  rw [f3] at hTr
  have htk : List.take N (List.map (fun n => V.int .u64 n) (wmO a b a.length)) = List.map (fun n => V.int .u64 n) (wmO a b a.length) := List.take_of_length_le (by rw [List.length_map, f2]; omega)
  refine zs3 (ρ := fun _ => [.v true (words (digs (val a * val b)))]) htk (o := by repeat' first|exact hTr|trivial|constructor) (k := ?_)
  exact Holds.ret (RetOk.vs rfl (by exact ⟨⟨rfl, id⟩, trivial⟩) rfl)
theorem flush_ok (n t u : Nat) (hn : (digs n).length < 40000) (hnt : (digs (n * t)).length < 40000) (ht : t < 18446744073709551616) (hu : u < 18446744073709551616) :
 ClosOk Tryz.prog 136 [(5, .box 30 (.v true (words (digs n)))), (6, .box 76 (.v true (.int .u64 t))), (7, .box 76 (.v true (.int .u64 u)))] [(5, .box 30 (.v true (words (digs (n * t + u))))), (6, .box 76 (.v true (.int .u64 1))), (7, .box 76 (.v true (.int .u64 0)))] := by
 have c1 := wWord_ok t ht
 have c2 := wWord_ok u hu
 have lt : (digs t).length < 40000 := by have := digs_len (v := t) (m := 1) (by omega); omega
 have lu : (digs u).length < 40000 := by have := digs_len (v := u) (m := 1) (by omega); omega
 have c3 := wMul_ok (digs n) (digs t) (by omega) (by omega) (digs_ok n).1 (digs_ok t).1
 rw [(digs_ok n).2.2, (digs_ok t).2.2] at c3
 have c4 := wAdd_ok (digs (n * t)) (digs u) (by omega) (by omega) (digs_ok _).1 (digs_ok _).1
 rw [(digs_ok (n * t)).2.2, (digs_ok u).2.2] at c4
 refine ClosOk.of Tryz.func136 rfl rfl fun cx w0 M Rt F => ?_
 show Holds Tryz.prog none cx w0 _ { nt := 10, env := [(0, .ptr 5 0 [] 0), (1, .ptr 6 0 [] 0), (2, .ptr 7 0 [] 0)], mem := (5, .box 30 (.v true (words (digs n)))) :: (6, .box 76 (.v true (.int .u64 t))) :: (7, .box 76 (.v true (.int .u64 u))) :: M, root := Rt, fix := F } _
 unfold words
 obtain ⟨nt, hnte⟩ : ∃ nt, nt = n * t := ⟨_, rfl⟩
 rw [← hnte] at c3 c4 ⊢
 obtain ⟨z, hz⟩ : ∃ z, z = nt + u := ⟨_, rfl⟩
 rw [← hz] at c4 ⊢
 unfold words at c1 c2 c3 c4
 refine zd2 [] (ρ := fun d => if d = 5 then [.v true (.sl 1 ((digs t).map fun n => .int .u64 n))] else if d = 6 then [.v true (.sl 1 ((digs nt).map fun n => .int .u64 n))] else if d = 8 then [.v true (.sl 1 ((digs u).map fun n => .int .u64 n))] else [.v true (.sl 1 ((digs z).map fun n => .int .u64 n))]) (o := by repeat' first|exact c1|exact c3|exact c2|exact c4|trivial|constructor) (k := ?_)
 refine zr0 ?_
 refine ⟨.inr rfl, rfl, rfl, rfl, fun q => ?_, rfl⟩
 simp only [look, List.cons_append, List.nil_append]
 (repeat' split) <;> first | rfl | omega
theorem Rel.boxNil {cx : Cx} {w0 w : World} {σ : St} {a : Act} {s z : Nat} {e : TypeId} (hat : σ.at s = .box e .nil) (h : Rel cx w0 σ a w) : Rel cx w0 (σ.upd [(s, .box e (.v true (.sl z [])))]) a w := by
 obtain ⟨hd, μ, hr⟩ := h
 have at_eq : ∀ t, (σ.upd [(s, Blk.box e (.v true (.sl z [])))]).at t = if s = t then .box e (.v true (.sl z [])) else σ.at t := fun _ => rfl
 have hm := hr.mem s
 rw [hat] at hm
 obtain ⟨b, cap, cur, val, m1, m2, m3, m4, m5⟩ := hm
 rw [repA_nil] at m3
 refine ⟨hd, μ, hr.next ⟨Nat.le_refl _, fun _ _ _ _ h => h, fun s b c h => .inl ⟨s, c, h⟩, fun _ _ h _ => h⟩ hr.below hr.sites (fun q => ?_) (fun q => ?_)⟩
 ·rw [at_eq]
  split
  ·next he =>
   subst he
   right
   exact ⟨b, cap, cur, val, m1, m2, by rw [RepA]; exact ⟨[.slice none 0 0], by rw [Rep]; exact .inl ⟨rfl, _, _, rfl⟩, m3⟩, m4, fun h => by cases h⟩
  ·exact .inl ⟨rfl, rfl, fun _ _ _ => rfl⟩
 ·rw [at_eq]
  split
  ·next he => subst he; rw [hat]; exact .inr (.inl ⟨rfl, trivial⟩)
  ·exact .inr (.inl ⟨rfl, Blk.fits_refl _⟩)
def dvN (c : Nat) : Nat := if 97 ≤ c then c - 87 else if 65 ≤ c then c - 55 else c - 48
def fbN (s : ByteArray) (base : Nat) : Nat → Nat
 | 0 => 0
 | k + 1 => fbN s base k * base + dvN (bAt s k)
def okDig (s : ByteArray) (base : Nat) : Prop := ∀ i, i < s.size → 48 ≤ bAt s i ∧ dvN (bAt s i) < base
theorem fbN_lt {s : ByteArray} {base : Nat} (hb : base ≤ 16) (hd : okDig s base) : ∀ k, k ≤ s.size → fbN s base k < 16 ^ k
 | 0, _ => by simp [fbN]
 | k + 1, hk => by
   have ih := fbN_lt hb hd k (by omega)
   have h1 := (hd k (by omega)).2
   rw [fbN, Nat.pow_succ]
   have h2 : fbN s base k * base ≤ (16 ^ k - 1) * 16 := Nat.mul_le_mul (by omega) hb
   rw [Nat.sub_mul] at h2
   omega
set_option maxHeartbeats 2000000 in
theorem fromBase_ok (s : ByteArray) (base : Nat) (hs : s.size ≤ 1000) (hb : base ≤ 16) (hb2 : 2 ≤ base) (hd : okDig s base) :
 FnOk Tryz.prog 77 [.v (.str s), .v (.int .u64 base)] [.v true (words (digs (fbN s base s.size)))] := by
 refine FnOk.of Tryz.func77 rfl rfl fun cx w0 => ?_
 rw [show Tryz.f77.ntmps = 49 from rfl]
 refine zs0 ?_
 refine zs0 ?_
 refine zs0 ?_
 refine zs0 ?_
 refine Holds.from (fun a w h => Rel.boxNil (s := 5) (z := 1) rfl h) ?_
 refine Holds.from (σ' := { nt := 49, env := [(8, .fn 136 [.ptr 5 0 [] 0, .ptr 6 0 [] 0, .ptr 7 0 [] 0]), (5, .ptr 5 0 [] 0), (6, .ptr 6 0 [] 0), (7, .ptr 7 0 [] 0), (0, .v true (.str s)), (1, .v true (.int .u64 base))], mem := [(5, .box 30 (.v true (words (digs 0)))), (6, .box 76 (.v true (.int .u64 (1 : Nat)))), (7, .box 76 (.v true (.int .u64 (0 : Nat))))] }) (fun a w h => Rel.keep [8, 5, 6, 7, 0, 1] [5, 6, 7] h) ?_
 have hlt := fbN_lt hb hd
 refine Holds.next (fun σ => ∃ n t u : Nat, n * t + u = fbN s base s.size ∧ n ≤ fbN s base s.size ∧ n * t ≤ fbN s base s.size ∧ t < 18446744073709551616 ∧ u < 18446744073709551616 ∧ ∀ a w, Rel cx w0 σ a w → Rel cx w0 { nt := 49, env := [(8, .fn 136 [.ptr 5 0 [] 0, .ptr 6 0 [] 0, .ptr 7 0 [] 0]), (5, .ptr 5 0 [] 0), (6, .ptr 6 0 [] 0), (7, .ptr 7 0 [] 0), (0, .v true (.str s)), (1, .v true (.int .u64 base))], mem := [(5, .box 30 (.v true (words (digs n)))), (6, .box 76 (.v true (.int .u64 (t : Nat)))), (7, .box 76 (.v true (.int .u64 (u : Nat))))] } a w) ?_ ?_
 ·refine zs0 ?_
  refine Holds.loopB (fun q : Nat × Nat × Nat × Nat => { nt := 49, env := [(14, .v true (.int .i64 (q.1 : Nat))), (13, .v true (.int .i64 (s.size : Nat))), (8, .fn 136 [.ptr 5 0 [] 0, .ptr 6 0 [] 0, .ptr 7 0 [] 0]), (5, .ptr 5 0 [] 0), (6, .ptr 6 0 [] 0), (7, .ptr 7 0 [] 0), (0, .v true (.str s)), (1, .v true (.int .u64 base))], mem := [(5, .box 30 (.v true (words (digs q.2.1)))), (6, .box 76 (.v true (.int .u64 (q.2.2.1 : Nat)))), (7, .box 76 (.v true (.int .u64 (q.2.2.2 : Nat))))] })
   (fun q => q.1 ≤ s.size ∧ q.2.1 * q.2.2.1 + q.2.2.2 = fbN s base q.1 ∧ q.2.2.2 < q.2.2.1 ∧ q.2.2.1 < 72057594037927936) (fun q => s.size - q.1) (0, 0, 1, 0) ⟨Nat.zero_le _, rfl, by show 0 < 1; omega, by show 1 < _; omega⟩ (fun a w h => Rel.keep [14, 13, 8, 5, 6, 7, 0, 1] [5, 6, 7] h) ?_
  rintro ⟨i, n, t, u⟩ ⟨hi, hv, hut, ht⟩
  simp only at hi hv hut ht
  by_cases hend : i = s.size
  ·have g : ¬ (i : Int) < s.size := by omega
   refine zs1 g ?_
   refine Holds.seq (Holds.condF rfl (Holds.exit ⟨rfl, n, t, u, by rw [hv, hend], ?_, ?_, by omega, by omega, fun a w h => Rel.keep [8, 5, 6, 7, 0, 1] [5, 6, 7] h⟩))
   ·rw [← hend, ← hv]
    have : n * 1 ≤ n * t := Nat.mul_le_mul_left _ (by omega)
    omega
   ·rw [← hend, ← hv]; omega
  have hil : i < s.size := by omega
  have g : (i : Int) < s.size := by omega
  obtain ⟨x, hx, ex⟩ := bAt_some hil
  obtain ⟨hd1, hd2⟩ := hd i hil
  have hv1 : fbN s base (i + 1) = fbN s base i * base + dvN (bAt s i) := rfl
  have hlt1 := hlt (i + 1) (by omega)
  rw [ex] at hd1 hd2 hv1
  have hx8 := x.toNat_lt
  obtain ⟨c, hc⟩ : ∃ c, c = x.toNat := ⟨_, rfl⟩
  rw [← hc] at hd1 hd2 hv1 hx8
  obtain ⟨d, hde⟩ : ∃ d, d = dvN c := ⟨_, rfl⟩
  have w0' : IntKind.u64.wrap (c : Int) = c := by rw [wrap_u64]; omega
  have ei1 : IntKind.i64.wrap ((i : Int) + 1) = ((i + 1 : Nat) : Int) := by rw [wrap_i64 (by omega) (by omega)]; omega
  obtain ⟨i1, hi1⟩ : ∃ i1, i1 = i + 1 := ⟨_, rfl⟩
  rw [← hi1] at ei1 hv1 hlt1
  have htb : t * base ≤ 72057594037927936 * 16 := Nat.mul_le_mul (by omega) hb
  have hub : u * base + base ≤ t * base := by
   have : (u + 1) * base ≤ t * base := Nat.mul_le_mul_right _ (by omega)
   rw [Nat.add_mul, Nat.one_mul] at this
   exact this
  have hnew : n * (t * base) + (u * base + d) = fbN s base i1 := by
   rw [hv1, ← hv, hde, Nat.add_mul, Nat.mul_assoc, Nat.add_assoc]
  have w1 : IntKind.u64.wrap ((t : Int) * (base : Int)) = ((t * base : Nat) : Int) := by rw [← Int.natCast_mul, wrap_u64]; omega
  have w2 : IntKind.u64.wrap ((u : Int) * (base : Int)) = ((u * base : Nat) : Int) := by rw [← Int.natCast_mul, wrap_u64]; omega
  rw [← hde] at hd2
  have w3 : IntKind.u64.wrap (((u * base : Nat) : Int) + (d : Int)) = ((u * base + d : Nat) : Int) := by rw [wrap_u64]; omega
  obtain ⟨tb, htbe⟩ : ∃ tb, tb = t * base := ⟨_, rfl⟩
  obtain ⟨ub, hube⟩ : ∃ ub, ub = u * base := ⟨_, rfl⟩
  rw [← htbe] at w1 htb hub hnew
  rw [← hube] at w2 w3 hub hnew
  obtain ⟨ud, hude⟩ : ∃ ud, ud = ub + d := ⟨_, rfl⟩
  rw [← hude] at w3 hnew
  have hutb : ud < tb := by omega
  refine zs1 g ?_
  refine Holds.seq (Holds.condT rfl (Holds.skip ?_))
  show Holds _ _ _ _ _ _ _
  refine Holds.next (fun σ => ∃ n t u : Nat, n * t + u = fbN s base i1 ∧ u < t ∧ t < 72057594037927936 ∧ ∀ a w, Rel cx w0 σ a w → Rel cx w0 { nt := 49, env := [(14, .v true (.int .i64 (i : Nat))), (13, .v true (.int .i64 (s.size : Nat))), (8, .fn 136 [.ptr 5 0 [] 0, .ptr 6 0 [] 0, .ptr 7 0 [] 0]), (5, .ptr 5 0 [] 0), (6, .ptr 6 0 [] 0), (7, .ptr 7 0 [] 0), (0, .v true (.str s)), (1, .v true (.int .u64 base))], mem := [(5, .box 30 (.v true (words (digs n)))), (6, .box 76 (.v true (.int .u64 (t : Nat)))), (7, .box 76 (.v true (.int .u64 (u : Nat))))] } a w) ?_ ?_
  ·refine Holds.blockN ?_
   refine zs0 ?_
   refine Holds.step (Px := px) (T := TT) (ρ := fun _ => []) TTe (by simp (maxSteps := 100000) (disch := omega) only [go_sem, V.isAgg, V.flat, ↓reduceIte, Nat.reduceAdd, Nat.reduceSub, Nat.reduceLT, Nat.reduceEqDiff, reduceCtorEq, Nat.reduceLeDiff, Nat.reduceBEq, Nat.reduceMul, Int.reduceToNat, indexA, hx, g]; rfl) (by repeat' first | exact trivial | constructor) ?_
   rw [← hc]
   refine Holds.next (fun σ => ∀ a w, Rel cx w0 σ a w → Rel cx w0 { nt := 49, env := [(10, .v true (.int .u64 (d : Nat))), (14, .v true (.int .i64 (i : Nat))), (13, .v true (.int .i64 (s.size : Nat))), (8, .fn 136 [.ptr 5 0 [] 0, .ptr 6 0 [] 0, .ptr 7 0 [] 0]), (5, .ptr 5 0 [] 0), (6, .ptr 6 0 [] 0), (7, .ptr 7 0 [] 0), (0, .v true (.str s)), (1, .v true (.int .u64 base))], mem := [(5, .box 30 (.v true (words (digs n)))), (6, .box 76 (.v true (.int .u64 (t : Nat)))), (7, .box 76 (.v true (.int .u64 (u : Nat))))] } a w) ?_ ?_
   ·refine Holds.blockN ?_
    by_cases h97 : 97 ≤ c
    ·have e : d = c - 87 := by rw [hde, dvN, if_pos h97]
     have g1 : (97 : Int) ≤ c := by omega
     have w : IntKind.u64.wrap ((c : Int) - 87) = (d : Int) := by rw [wrap_u64]; omega
     refine zs1 (an w0' <| g1) ?_
     refine Holds.condT rfl ?_
     refine zr1 (an w0' <| w) ?_
     exact fun a w h => Rel.keep [10, 14, 13, 8, 5, 6, 7, 0, 1] [5, 6, 7] h
    ·have g1 : ¬ (97 : Int) ≤ c := by omega
     by_cases h65 : 65 ≤ c
     ·have e : d = c - 55 := by rw [hde, dvN, if_neg h97, if_pos h65]
      have g2 : (65 : Int) ≤ c := by omega
      have w : IntKind.u64.wrap ((c : Int) - 55) = (d : Int) := by rw [wrap_u64]; omega
      refine zs1 (an w0' <| g1) ?_
      refine Holds.condF rfl ?_
      refine zs1 (an w0' <| g2) ?_
      refine Holds.condT rfl ?_
      refine zr1 (an w0' <| w) ?_
      exact fun a w h => Rel.keep [10, 14, 13, 8, 5, 6, 7, 0, 1] [5, 6, 7] h
     ·have e : d = c - 48 := by rw [hde, dvN, if_neg h97, if_neg h65]
      have g2 : ¬ (65 : Int) ≤ c := by omega
      have w : IntKind.u64.wrap ((c : Int) - 48) = (d : Int) := by rw [wrap_u64]; omega
      refine zs1 (an w0' <| g1) ?_
      refine Holds.condF rfl ?_
      refine zs1 (an w0' <| g2) ?_
      refine Holds.condF rfl ?_
      refine zr1 (an w0' <| w) ?_
      exact fun a w h => Rel.keep [10, 14, 13, 8, 5, 6, 7, 0, 1] [5, 6, 7] h
   intro σ hσ
   refine Holds.from hσ ?_
   clear hσ
   refine zd1 [(3, 8)] (an w1 <| an w2 <| w3) ?_
   refine Holds.from (σ' := { nt := 49, env := [(14, .v true (.int .i64 (i : Nat))), (13, .v true (.int .i64 (s.size : Nat))), (8, .fn 136 [.ptr 5 0 [] 0, .ptr 6 0 [] 0, .ptr 7 0 [] 0]), (5, .ptr 5 0 [] 0), (6, .ptr 6 0 [] 0), (7, .ptr 7 0 [] 0), (0, .v true (.str s)), (1, .v true (.int .u64 base))], mem := [(5, .box 30 (.v true (words (digs n)))), (6, .box 76 (.v true (.int .u64 (tb : Nat)))), (7, .box 76 (.v true (.int .u64 (ud : Nat))))] }) (fun a w h => Rel.keep [14, 13, 8, 5, 6, 7, 0, 1] [5, 6, 7] h) ?_
   by_cases hbig : 72057594037927936 ≤ tb
   ·have g1 : (72057594037927936 : Int) ≤ tb := by omega
    have hle : n * tb ≤ fbN s base i1 := by omega
    have hle2 : n ≤ n * tb := by
     have : n * 1 ≤ n * tb := Nat.mul_le_mul_left _ (by omega)
     omega
    have hF := flush_ok n tb ud (digs_short (i := i1) (by omega) (by omega)) (digs_short (i := i1) (by omega) (by omega)) (by omega) (by omega)
    rw [hnew] at hF
    refine zs1 g1 ?_
    refine Holds.condT rfl ?_
    refine Holds.regionF (Px := px) (T := TT) (ρ := fun _ => []) (k := 1) TTe (by simp (maxSteps := 100000) (disch := omega) only [List.take_succ_cons, List.take_zero, go_sem, V.isAgg, V.flat, ↓reduceIte, Nat.reduceAdd, Nat.reduceSub, Nat.reduceLT, Nat.reduceEqDiff, reduceCtorEq, Nat.reduceLeDiff, Nat.reduceBEq, Nat.reduceMul, Int.reduceToNat]; rfl) (by repeat' first | exact trivial | constructor) rfl (by rfl) rfl rfl (Nat.le_of_ble_eq_true rfl) (by rfl) (by rfl) (by repeat' first | exact trivial | exact rfl | constructor) (hF) ⟨_, _, by simp (maxSteps := 100000) (disch := omega) only [List.drop_succ_cons, List.drop_zero, mres, go_sem, V.isAgg, V.flat, ↓reduceIte, Nat.reduceAdd, Nat.reduceSub, Nat.reduceLT, Nat.reduceEqDiff, reduceCtorEq, Nat.reduceLeDiff, Nat.reduceBEq, Nat.reduceMul, Int.reduceToNat]; rfl, by repeat' first | exact trivial | constructor, ?_⟩
    exact ⟨fbN s base i1, 1, 0, by omega, by omega, by omega, fun a w h => Rel.keep [14, 13, 8, 5, 6, 7, 0, 1] [5, 6, 7] h⟩
   ·have g1 : ¬ (72057594037927936 : Int) ≤ tb := by omega
    refine zs1 g1 ?_
    exact Holds.condF rfl (Holds.skip ⟨n, tb, ud, hnew, hutb, by omega, fun a w h => Rel.keep [14, 13, 8, 5, 6, 7, 0, 1] [5, 6, 7] h⟩)
  ·rintro σ ⟨n, t, u, hv, hut, ht, hσ⟩
   refine Holds.from hσ ?_
   refine zr1 ei1 ?_
   exact ⟨(i1, n, t, u), ⟨by show i1 ≤ _; omega, hv, hut, ht⟩, (show s.size - i1 < s.size - i by omega), fun a w h => Rel.keep [14, 13, 8, 5, 6, 7, 0, 1] [5, 6, 7] h⟩
 ·rintro σ ⟨n, t, u, hv, hn, hnt, ht, hu, hσ⟩
  refine Holds.from hσ ?_
  clear hσ
  have hl := hlt s.size (Nat.le_refl _)
  have hF := flush_ok n t u (digs_short (i := s.size) (by omega) (by omega)) (digs_short (i := s.size) (by omega) (by omega)) ht hu
  rw [hv] at hF
  refine Holds.seq (Holds.regionF (Px := px) (T := TT) (ρ := fun _ => []) (k := 1) TTe (by simp (maxSteps := 100000) (disch := omega) only [List.take_succ_cons, List.take_zero, go_sem, V.isAgg, V.flat, ↓reduceIte, Nat.reduceAdd, Nat.reduceSub, Nat.reduceLT, Nat.reduceEqDiff, reduceCtorEq, Nat.reduceLeDiff, Nat.reduceBEq, Nat.reduceMul, Int.reduceToNat]; rfl) (by repeat' first | exact trivial | constructor) rfl (by rfl) rfl rfl (Nat.le_of_ble_eq_true rfl) (by rfl) (by rfl) (by repeat' first | exact trivial | exact rfl | constructor) (hF) ⟨_, _, by simp (maxSteps := 100000) (disch := omega) only [List.drop_succ_cons, List.drop_zero, mres, go_sem, V.isAgg, V.flat, ↓reduceIte, Nat.reduceAdd, Nat.reduceSub, Nat.reduceLT, Nat.reduceEqDiff, reduceCtorEq, Nat.reduceLeDiff, Nat.reduceBEq, Nat.reduceMul, Int.reduceToNat]; rfl, by repeat' first | exact trivial | constructor, ?_⟩); show Holds _ _ _ _ _ _ _
  unfold words
  refine zs0 ?_
  exact Holds.ret (RetOk.vs rfl (by exact ⟨⟨rfl, id⟩, trivial⟩) rfl)
instance (s : ByteArray) (base : Nat) : Decidable (okDig s base) := inferInstanceAs (Decidable (∀ i, i < s.size → _))
def extA (f : FuncId) (l : List Arg) : Option (List R) :=
 match f, l with
 | 31, [.v (.str s), .v (.bool b)] => if s.size < 1000000 then some (longR (longM s b)) else none
 | 77, [.v (.str s), .v (.int .u64 (.ofNat base))] => if s.size ≤ 1000 ∧ base ≤ 16 ∧ 2 ≤ base ∧ okDig s base then some [.v true (words (digs (fbN s base s.size)))] else none
 | 91, [.v (.int .u64 x), .v (.int .u64 y), .v (.int .u64 c)] => if 0 ≤ x ∧ 0 ≤ y ∧ 0 ≤ c ∧ c ≤ 1 then some [.v true (.int .u64 ((x + y + c) % 18446744073709551616)), .v true (.int .u64 ((x + y + c) / 18446744073709551616))] else none
 | 177, [.v (.int .u64 x), .v (.int .u64 y), .v (.int .u64 c)] => if 0 ≤ x ∧ x < 18446744073709551616 ∧ 0 ≤ y ∧ y < 18446744073709551616 ∧ 0 ≤ c ∧ c ≤ 1 then some [.v true (.int .u64 ((x - y - c) % 18446744073709551616)), .v true (.int .u64 (if x < y + c then 1 else 0))] else none
 | _, _ => none
theorem extA_ok (f : FuncId) (l : List Arg) (rs : List R) (h : extA f l = some rs) : FnOk Tryz.prog f l rs := by
 unfold extA at h
 split at h
 ·split at h
  ·next hs => cases h; exact longest_ok _ _ hs
  ·cases h
 ·split at h
  ·next hs => cases h; exact fromBase_ok _ _ hs.1 hs.2.1 hs.2.2.1 hs.2.2.2
  ·cases h
 ·split at h
  ·next hs => cases h; exact add64_ok _ _ _ hs.1 hs.2.1 hs.2.2.1 hs.2.2.2
  ·cases h
 ·split at h
  ·next hs => cases h; exact sub64_ok _ _ _ hs.1 hs.2.1 hs.2.2.1 hs.2.2.2.1 hs.2.2.2.2.1 hs.2.2.2.2.2
  ·cases h
 ·cases h
theorem awake_ok : FnOk Tryz.prog 8 [] [.v true (.bool true)] :=
 runF_ok (Px := px) (T := TT) rfl mixed extA_ok (fuel := 100000) 1000 _ _ _ (by kernel_rfl)
end Go.Proofs.YtobacemgcjnahaaGreatDoor.L
namespace Go.Proofs.YtobacemgcjnahaaGreatDoor.L
open Go Go.RowKit
theorem bAt_mk {xs : List UInt8} {i : Nat} : bAt ⟨xs.toArray⟩ i = match xs[i]? with | some b => b.toNat | none => 0 := by
 unfold bAt
 have : (⟨xs.toArray⟩ : ByteArray)[i]? = xs[i]? := by
  by_cases h : i < xs.length
  ·rw [getElem?_pos (⟨xs.toArray⟩ : ByteArray) i (by show i < xs.toArray.size; simpa using h), getElem?_pos xs i h]
   rfl
  ·rw [getElem?_neg (⟨xs.toArray⟩ : ByteArray) i (by show ¬ i < xs.toArray.size; simpa using h), getElem?_neg xs i h]
 rw [this]
 cases xs[i]? <;> rfl
def dgZ (t : ByteArray) (hex : Bool) : Nat → Nat → Bool → Nat × List UInt8 × Nat
 | 0, i, _ => (i, [], 0)
 | f + 1, i, pt => if dgN (nxB t i) hex = true then ((dgZ t hex f (i + 1) pt).1, UInt8.ofNat (nxB t i) :: (dgZ t hex f (i + 1) pt).2.1, b2n pt + (dgZ t hex f (i + 1) pt).2.2) else
   if dotN (nxB t i) pt = true then dgZ t hex f (i + 1) true else (i, [], 0)
theorem dgL_eq (t : ByteArray) (hex : Bool) : ∀ (f i : Nat) (pt : Bool) (l : List UInt8) (b : Nat), dgL t hex f i pt l b = ((dgZ t hex f i pt).1, l ++ (dgZ t hex f i pt).2.1, b + (dgZ t hex f i pt).2.2)
 | 0, i, pt, l, b => by simp [dgL, dgZ]
 | f + 1, i, pt, l, b => by
   rw [dgL, dgZ]
   split
   ·rw [dgL_eq t hex f (i + 1) pt]
    simp [Nat.add_assoc]
   ·split
    ·rw [dgL_eq t hex f (i + 1) true]
    ·simp
theorem dgR_eq (t : ByteArray) (i : Nat) (hex : Bool) : dgR t i hex = dgZ t hex (t.size + 1 - i) i false := by
 unfold dgR
 rw [dgL_eq]
 simp
def vL (base : Nat) : Nat → List UInt8 → Nat
 | n, [] => n
 | n, d :: r => vL base (n * base + dvN d.toNat) r
def bases (hex : Bool) : Nat := if hex = true then 16 else 10
theorem nx_nat (t : ByteArray) (i : Nat) : (UInt8.ofNat (nxB t i)).toNat = nxB t i := by
 rw [UInt8.toNat_ofNat']; have := nxB_lt t i; omega
theorem may_iff {s : ByteArray} {i c : Nat} (hc : c ≠ 0) : mayB s i c = true ↔ nxB s i = c := by
 unfold mayB
 rw [decide_eq_true_eq]
 exact ⟨fun h => h.1, fun h => ⟨h, hc⟩⟩
theorem sgn_iff {s : ByteArray} {i : Nat} : sgnB s i = true ↔ nxB s i = 43 ∨ nxB s i = 45 := by
 unfold sgnB
 rw [Bool.or_eq_true, may_iff (by decide), may_iff (by decide)]
 exact Or.comm
theorem nx_end {t : ByteArray} {i : Nat} (h : t.size ≤ i) : nxB t i = 0 := by rw [nxB, bAt_end h]; rfl
theorem seB_iff {x w : ByteArray} : seB x w = true ↔ x.size = w.size ∧ ∀ j, j < w.size → bAt x j = bAt w j := by
 unfold seB
 rw [beq_iff_eq, ByteArray.toList_eq, ByteArray.toList_eq]
 constructor
 ·intro h
  have h1 : x.data = w.data := by
   apply Array.toList_inj.1 h
  have h2 : x = w := by cases x; cases w; simpa using h1
  rw [h2]
  exact ⟨rfl, fun _ _ => rfl⟩
 ·rintro ⟨h1, h2⟩
  apply List.ext_getElem
  ·rw [Array.length_toList, Array.length_toList]; exact h1
  ·intro i hi1 hi2
   have e1 : i < x.size := by rw [Array.length_toList] at hi1; exact hi1
   have e2 : i < w.size := by rw [Array.length_toList] at hi2; exact hi2
   have h3 := h2 i e2
   unfold bAt at h3
   rw [getElem?_pos x i e1, getElem?_pos w i e2] at h3
   simp only at h3
   exact UInt8.toNat_inj.1 h3
theorem bAt_mid {t : ByteArray} {a b j : Nat} (hb : b ≤ t.size) (hj : a + j < b) : bAt (t.extract a b) j = bAt t (a + j) := by
 unfold bAt
 have h1 : j < (t.extract a b).size := by simp; omega
 rw [getElem?_pos (t.extract a b) j h1, getElem?_pos t (a + j) (by omega), ByteArray.getElem_extract]
theorem wdB_iff {t w : ByteArray} {a : Nat} : wdB t a w = true ↔ a + w.size ≤ t.size ∧ ∀ j, j < w.size → nxB t (a + j) = bAt w j := by
 unfold wdB
 rw [Bool.and_eq_true, decide_eq_true_eq]
 constructor
 ·rintro ⟨h1, h2⟩
  refine ⟨h1, fun j hj => ?_⟩
  have h3 := of_decide_eq_true h2 j (by simp; omega)
  rw [bAt_mid h1 (by omega)] at h3
  exact h3
 ·rintro ⟨h1, h2⟩
  refine ⟨h1, decide_eq_true fun j hj => ?_⟩
  have hj' : j < w.size := by simp at hj; omega
  rw [bAt_mid h1 (by omega)]
  exact h2 j hj'
section
variable {t l : ByteArray} {k : Nat}
def sgA (t : ByteArray) : Nat := b2n (sgnB t 0)
theorem longM_eq : longM t true = restM t (sgA t) (mayB t 0 45) (!sgnB t 0) := by
 unfold longM; rw [if_pos rfl]; rfl
end
end Go.Proofs.YtobacemgcjnahaaGreatDoor.L
namespace Go.Proofs.YtobacemgcjnahaaGreatDoor.L
open Go Go.RowKit Go.Proofs Go.ChangeShapes Go.WideShapes Go.ChangeAt
theorem laidVars_mem {P : Program} {w : World} {n : String} {d : DataW Unit} : ∀ {l : List (String × DataW Unit)} {ps : List MemPlace}, DataW.LaidVars P w l ps → (n, d) ∈ l →
 ∃ g t cs fuel p, P.globalNamed n = some g ∧ (P.globals[g]?).map (·.type) = some t ∧ w.var? P n = some cs ∧ DataW.trod (fun _ => ()) P w 0 (fun _ => true) false fuel t cs.toList = some (d, p)
 | [], _, _, hm => by cases hm
 | x :: r, ps, h, hm => by
   obtain ⟨g, t, cs, fuel, p, q, h1, h2, h3, h4, h5, _⟩ := h
   rcases List.mem_cons.1 hm with rfl | hm
   ·exact ⟨g, t, cs, fuel, p, h1, h2, h3, h4⟩
   ·exact laidVars_mem h5 hm
theorem repL_ints {w : World} {ok : Nat → Prop} {k : IntKind} : ∀ zs : List Int, RepL w ok (zs.map fun n => V.int k n) (zs.map fun n => Value.int k n)
 | [] => by rw [List.map_nil, List.map_nil, RepL]
 | z :: r => by
   rw [List.map_cons, List.map_cons, RepL]
   exact ⟨[.int k z], _, rfl, by rw [Rep], repL_ints r⟩
theorem ints_cells {P : Program} {w : World} {t e : TypeId} {n : Nat} {k : IntKind} {zs : List Int} {fuel : Nat} {cs : List Value} {p : List MemPlace} (hu : P.underlying t = some (.array n e)) (he : P.underlying e = some (.int k)) (c1 : P.cellsOf e = 1) (ct : P.cellsOf t = n) (hn : zs.length = n)
 (h : DataW.trod (fun _ => ()) P w 0 (fun _ => true) false fuel t cs = some (.agg (zs.map fun z => .lit (.int k z)), p)) : cs = zs.map fun n => Value.int k n := by
 obtain ⟨xs, m, _, ex, hl0, hl, hel⟩ := DataW.trod_array hu h
 have e3 : (xs.map (·.1)) = zs.map fun n => .lit (.int k n) := (DataW.agg.inj (Prod.mk.inj ex).1).symm
 apply List.ext_getElem
 ·rw [hl0, ct, List.length_map, hn]
 ·intro r h1 h2
  rw [List.length_map] at h2
  have hE := hel r (by omega)
  rw [c1, Nat.mul_one, List.getElem?_eq_getElem (by omega)] at hE
  obtain ⟨z, e1, e2, _⟩ := DataW.trod_int he hE
  have e4 : (xs.map (·.1))[r]? = (zs.map fun n => (DataW.lit (.int k n) : DataW Unit))[r]? := by rw [e3]
  rw [List.getElem?_map, List.getElem?_map, List.getElem?_eq_getElem (by omega : r < xs.length), List.getElem?_eq_getElem h2, e2] at e4
  have hz : z = zs[r] := by simpa using e4
  have h0 : ((cs.drop r).take 1)[0]? = some (.int k z) := by rw [e1]; rfl
  have h3 : cs[r]? = some (.int k z) := by simpa using h0
  rw [List.getElem?_eq_getElem h1] at h3
  rw [Option.some.inj h3, List.getElem_map, hz]
theorem gl_one {W : World} {nm : String} {g : Nat} {cs : Array Value} {x : V} {ok : Nat → Prop} (hg : Tryz.prog.globalNamed nm = some g) (hv : W.var? Tryz.prog nm = some cs) (hne : cs.toList ≠ []) (hr : Rep W ok x cs.toList) :
 g < W.heap.size ∧ ∃ cs, Rep W ok x cs ∧ ∀ j, j < cs.length → W.cell? ⟨g, j, none⟩ = cs[j]? := by
 refine ⟨?_, cs.toList, hr, fun j _ => by rw [World.var?_cell hg hv j, Array.getElem?_toList]⟩
 have h0 := World.var?_cell hg hv 0
 refine Nat.lt_of_not_le fun hle => ?_
 rw [show W.cell? ⟨g, 0, none⟩ = none from by simp [World.cell?, Array.getElem?_eq_none hle], ← Array.getElem?_toList] at h0
 cases h : cs.toList with
 | nil => exact hne h
 | cons a r => rw [h] at h0; cases h0
def intOf' : V → Int
 | .int _ n => n
 | _ => 0
def intsOf' : V → List Int
 | .agg fs => fs.map intOf'
 | _ => []
def foldZ : List Int := intsOf' foldV
def bruijnZ : List Int := intsOf' bruijnV
theorem foldV_eq : foldV = .agg (foldZ.map fun n => .int .u16 n) := by kernel_rfl
theorem bruijnV_eq : bruijnV = .agg (bruijnZ.map fun n => .int .u8 n) := by kernel_rfl
theorem foldD_eq : Rows.laid_unicode_asciiFold = (.agg (foldZ.map fun n => .lit (.int .u16 n)) : DataW Unit) := by kernel_rfl
theorem bruijnD_eq : Rows.laid_math_bits_deBruijn64tab = (.agg (bruijnZ.map fun n => .lit (.int .u8 n)) : DataW Unit) := by kernel_rfl
def LAID : List (String × DataW Unit) := Rows.parseIsRow.laid
theorem laid_GL {W : World} (h : laidMetH Tryz.prog LAID W) : GL W := by
 have hF := h.funcs (n := "reckoner/fin.more") (d := .agg [.iface "func" (.lit (.string [114, 101, 99, 107, 111, 110, 101, 114, 47, 102, 105, 110, 46, 109, 111, 114, 101, 36, 49])), .iface "func" (.lit (.string [114, 101, 99, 107, 111, 110, 101, 114, 47, 102, 105, 110, 46, 109, 111, 114, 101, 36, 50])), .iface "func" (.lit (.string [114, 101, 99, 107, 111, 110, 101, 114, 47, 102, 105, 110, 46, 109, 111, 114, 101, 36, 51])), .iface "func" (.lit (.string [114, 101, 99, 107, 111, 110, 101, 114, 47, 102, 105, 110, 46, 109, 111, 114, 101, 36, 52])), .iface "func" (.lit (.string [114, 101, 99, 107, 111, 110, 101, 114, 47, 102, 105, 110, 46, 109, 111, 114, 101, 36, 53]))]) (by
  show _ ∈ Rows.parseIsRow.laid
  simp only [Rows.parseIsRow, Rows.laid_reckoner_fin_more, List.mem_cons, true_or, or_true])
 have hP : laidMet Tryz.prog (LAID.filter fun x => x.2.handleName?.isNone) W := by
  unfold laidMetH at h
  have e : (LAID.filter fun x => x.2.handleName?.isSome) = [("reckoner/fin.more", Rows.laid_reckoner_fin_more)] := by rfl
  rw [e] at h
  exact h.1
 obtain ⟨ps, hL, _, _⟩ := hP
 have hm1 : ("unicode.asciiFold", (Rows.laid_unicode_asciiFold : DataW Unit)) ∈ LAID.filter fun x => x.2.handleName?.isNone := by
  rw [List.mem_filter]
  exact ⟨by show _ ∈ Rows.parseIsRow.laid; simp only [Rows.parseIsRow, List.mem_cons, true_or, or_true], rfl⟩
 have hm2 : ("math/bits.deBruijn64tab", (Rows.laid_math_bits_deBruijn64tab : DataW Unit)) ∈ LAID.filter fun x => x.2.handleName?.isNone := by
  rw [List.mem_filter]
  exact ⟨by show _ ∈ Rows.parseIsRow.laid; simp only [Rows.parseIsRow, List.mem_cons, true_or, or_true], rfl⟩
 intro q hq
 simp only [GLOB, List.mem_cons, List.not_mem_nil, or_false] at hq
 rcases hq with rfl | rfl | rfl
 ·obtain ⟨g, t, cs, fuel, p, hg, ht, hv, hd⟩ := hF
  obtain rfl := Option.some.inj ((show Tryz.prog.globalNamed "reckoner/fin.more" = some 0 by kernel_rfl).symm.trans hg)
  obtain rfl := Option.some.inj ((show (Tryz.prog.globals[0]?).map (·.type) = some 207 by kernel_rfl).symm.trans ht)
  obtain ⟨xs, m, _, ex, hl0, hl, hel⟩ := DataW.trod_array Tryz.underlying207 hd
  have c1 : Tryz.prog.cellsOf 206 = 1 := by kernel_rfl
  have ct : Tryz.prog.cellsOf 207 = 5 := by kernel_rfl
  have e3 := (DataW.agg.inj (Prod.mk.inj ex).1).symm
  have one : ∀ (i : Nat) (f : FuncId) (s : UInt8), i < 5 → (xs.map (·.1))[i]? = some (.held [114, 101, 99, 107, 111, 110, 101, 114, 47, 102, 105, 110, 46, 109, 111, 114, 101, 36, s]) →
   ((List.range Tryz.prog.funcs.size).filter fun f => (Tryz.prog.funcs[f]?).any (·.name.toUTF8.data.toList == [114, 101, 99, 107, 111, 110, 101, 114, 47, 102, 105, 110, 46, 109, 111, 114, 101, 36, s])) = [f] → cs.toList[i]? = some (.func (.func f) #[] #[]) := by
   intro i f s hi hx hone
   have hE := hel i hi
   rw [c1, Nat.mul_one] at hE
   rw [List.getElem?_map] at hx
   cases hxi : xs[i]? with
   | none => rw [hxi] at hx; cases hx
   | some y =>
     rw [hxi] at hx hE
     obtain ⟨y1, y2⟩ := y
     simp only [Option.map_some, Option.some.injEq] at hx
     subst hx
     have hlt : i < cs.toList.length := by rw [hl0, ct]; exact hi
     have h1 : ((cs.toList.drop i).take 1) = [cs.toList[i]] := by rw [List.drop_eq_getElem_cons hlt]; rfl
     rw [h1] at hE
     have := func_of_trod (f0 := f) Tryz.underlying206 hone hE
     rw [List.getElem?_eq_getElem hlt, this]
  have k0 := one 0 209 49 (by decide) (by rw [e3]; rfl) (by kernel_rfl)
  have k1 := one 1 210 50 (by decide) (by rw [e3]; rfl) (by kernel_rfl)
  have k2 := one 2 211 51 (by decide) (by rw [e3]; rfl) (by kernel_rfl)
  have k3 := one 3 212 52 (by decide) (by rw [e3]; rfl) (by kernel_rfl)
  have k4 := one 4 213 53 (by decide) (by rw [e3]; rfl) (by kernel_rfl)
  rw [ct] at hl0
  have hc : cs.toList = [.func (.func 209) #[] #[], .func (.func 210) #[] #[], .func (.func 211) #[] #[], .func (.func 212) #[] #[], .func (.func 213) #[] #[]] := by
   match hcs : cs.toList, hl0 with
   | [a, b, c, d, e], _ =>
     rw [hcs] at k0 k1 k2 k3 k4
     simp only [List.getElem?_cons_zero, List.getElem?_cons_succ, Option.some.injEq] at k0 k1 k2 k3 k4
     rw [k0, k1, k2, k3, k4]
  refine gl_one hg hv (by rw [hc]; exact List.cons_ne_nil _ _) ?_
  rw [hc]
  unfold moreV
  rw [Rep, RepL]; refine ⟨[_], _, rfl, by rw [Rep], ?_⟩
  rw [RepL]; refine ⟨[_], _, rfl, by rw [Rep], ?_⟩
  rw [RepL]; refine ⟨[_], _, rfl, by rw [Rep], ?_⟩
  rw [RepL]; refine ⟨[_], _, rfl, by rw [Rep], ?_⟩
  rw [RepL]; refine ⟨[_], _, rfl, by rw [Rep], ?_⟩
  rw [RepL]
 ·obtain ⟨g, t, cs, fuel, p, hg, ht, hv, hd⟩ := laidVars_mem hL hm1
  obtain rfl := Option.some.inj ((show Tryz.prog.globalNamed "unicode.asciiFold" = some 1 by kernel_rfl).symm.trans hg)
  obtain rfl := Option.some.inj ((show (Tryz.prog.globals[1]?).map (·.type) = some 239 by kernel_rfl).symm.trans ht)
  rw [foldD_eq] at hd
  have hc := ints_cells Tryz.underlying239 Tryz.underlying238 (by kernel_rfl) (by kernel_rfl) (by kernel_rfl) hd
  refine gl_one hg hv (by rw [hc]; exact List.cons_ne_nil _ _) ?_
  rw [foldV_eq, hc, Rep]
  exact repL_ints _
 ·obtain ⟨g, t, cs, fuel, p, hg, ht, hv, hd⟩ := laidVars_mem hL hm2
  obtain rfl := Option.some.inj ((show Tryz.prog.globalNamed "math/bits.deBruijn64tab" = some 4 by kernel_rfl).symm.trans hg)
  obtain rfl := Option.some.inj ((show (Tryz.prog.globals[4]?).map (·.type) = some 249 by kernel_rfl).symm.trans ht)
  rw [bruijnD_eq] at hd
  have hc := ints_cells Tryz.underlying249 Tryz.underlying5 (by kernel_rfl) (by kernel_rfl) (by kernel_rfl) hd
  refine gl_one hg hv (by rw [hc]; exact List.cons_ne_nil _ _) ?_
  rw [bruijnV_eq, hc, Rep]
  exact repL_ints _
def PLAIN : List (String × DataW Unit) := LAID.filter fun x => x.2.handleName?.isNone
noncomputable def witBase (os : Os) : World :=
 { World.holding Tryz.prog os ⟨#[], #[], []⟩ with heap := ⟨Lay.setRows (World.holding Tryz.prog os ⟨#[], #[], []⟩).heap.toList [(0, [.func (.func 209) #[] #[], .func (.func 210) #[] #[], .func (.func 211) #[] #[], .func (.func 212) #[] #[], .func (.func 213) #[] #[]])]⟩ }
noncomputable def wit (os : Os) : World := (witBase os).layVars Tryz.prog PLAIN
theorem wit_os (os : Os) : (wit os).os = os := (World.layVars_os _ _ _).trans rfl
theorem wit_plain (os : Os) (args : Array Value) : laidMet Tryz.prog PLAIN ((wit os).forCall (fun _ _ => 0) ⟨#[], args, []⟩).memory := by
 have e1 : (PLAIN.filter fun x => (PLAIN.map (·.1)).contains x.1) = PLAIN := List.filter_eq_self.2 fun x hx => List.contains_iff_mem.2 (List.mem_map.2 ⟨x, hx, rfl⟩)
 have e2 : (PLAIN.filter fun x => !(PLAIN.map (·.1)).contains x.1) = [] := List.filter_eq_nil_iff.2 fun x hx => by rw [List.contains_iff_mem.2 (List.mem_map.2 ⟨x, hx, rfl⟩)]; simp
 have hf : (witBase os).layFits Tryz.prog PLAIN [] = true := by kernel_rfl
 have hi : (witBase os).layIfaces Tryz.prog PLAIN (wit os) = true := by kernel_rfl
 have h : laidMet Tryz.prog PLAIN (wit os) := laidMet_layVars (w0 := witBase os) (PLAIN.map (·.1)) [] (by rw [e1]; rfl) (by rw [e1]; exact hf) (by rw [e1]; exact hi) (by rw [e2]; exact LaidIn.none)
 exact h.of_heap (by simp [World.memory, World.forCall, Input.heap])
theorem wit_met (os : Os) (args : Array Value) : laidMetH Tryz.prog LAID ((wit os).forCall (fun _ _ => 0) ⟨#[], args, []⟩).memory :=
 laidMetH_of_parts3 (fuel := 8) (wit_plain os args) (by kernel_rfl) (by kernel_rfl)
end Go.Proofs.YtobacemgcjnahaaGreatDoor.L
namespace Go.Proofs.YtobacemgcjnahaaGreatDoor.L
open Go Go.RowKit Go.Proofs
def Nm.base (n : Nm) : Nat := if n.kind = 1 then 16 else 10
def Nm.each (n : Nm) : Nat := if n.kind = 1 then 4 else 1
def Nm.num (n : Nm) : Nat := vL n.base 0 n.digits
structure NmOk (n : Nm) (N : Nat) : Prop where
 dig : okDig ⟨n.digits.toArray⟩ n.base
 len : n.digits.length ≤ N + 1
 beh : n.behind ≤ N + 1
 lo : -1099511627776 ≤ n.exp
 hi : n.exp ≤ 1099511627776
 kd : n.kind ≤ 3
theorem dgZ_ok (t : ByteArray) (hex : Bool) : ∀ (f i : Nat) (pt : Bool), (∀ c ∈ (dgZ t hex f i pt).2.1, dgN c.toNat hex = true) ∧ (dgZ t hex f i pt).2.1.length ≤ f ∧ (dgZ t hex f i pt).2.2 ≤ f
 | 0, i, pt => by simp [dgZ]
 | f + 1, i, pt => by
   rw [dgZ]
   split
   ·rename_i h
    obtain ⟨h1, h2, h3⟩ := dgZ_ok t hex f (i + 1) pt
    refine ⟨?_, ?_, ?_⟩
    ·intro c hc
     rcases List.mem_cons.1 hc with rfl | hc
     ·rw [nx_nat]; exact h
     ·exact h1 c hc
    ·simp only [List.length_cons]; omega
    ·simp only; cases pt <;> simp [b2n] <;> omega
   ·split
    ·obtain ⟨h1, h2, h3⟩ := dgZ_ok t hex f (i + 1) true
     exact ⟨h1, by omega, by omega⟩
    ·simp
theorem dg_ok {c : Nat} {hex : Bool} (h : dgN c hex = true) : 48 ≤ c ∧ dvN c < bases hex := by
 cases hex
 ·simp only [dgN, Bool.false_and, Bool.or_false, decide_eq_true_eq] at h
  rw [show bases false = 10 from rfl]
  unfold dvN
  repeat' split
  all_goals omega
 ·simp only [dgN, Bool.true_and, Bool.or_eq_true, decide_eq_true_eq] at h
  rw [show bases true = 16 from rfl]
  unfold dvN
  repeat' split
  all_goals omega
theorem okDig_of {l : List UInt8} {hex : Bool} (h : ∀ c ∈ l, dgN c.toNat hex = true) : okDig ⟨l.toArray⟩ (bases hex) := by
 intro i hi
 have hi' : i < l.length := hi
 have e : bAt ⟨l.toArray⟩ i = (l[i]'hi').toNat := by rw [bAt_mk, List.getElem?_eq_getElem hi']
 rw [e]
 exact dg_ok (h _ (List.getElem_mem _))
theorem dgR_ok (t : ByteArray) (i : Nat) (hex : Bool) : okDig ⟨(dgR t i hex).2.1.toArray⟩ (bases hex) ∧ (dgR t i hex).2.1.length ≤ t.size + 1 ∧ (dgR t i hex).2.2 ≤ t.size + 1 := by
 rw [dgR_eq]
 obtain ⟨h1, h2, h3⟩ := dgZ_ok t hex (t.size + 1 - i) i false
 exact ⟨okDig_of h1, by omega, by omega⟩
theorem expR_bd (t : ByteArray) (i c : Nat) : -1099511627776 ≤ (expR t i c).2.1 ∧ (expR t i c).2.1 ≤ 1099511627776 := by
 unfold expR
 split
 ·split
  ·have := (expL_bd t (t.size + 1 - (i + 1 + b2n (sgnB t (i + 1)))) (i + 1 + b2n (sgnB t (i + 1))) 0 (by omega)).1
   simp only
   split <;> omega
  ·simp
 ·simp
theorem nm_ok {t : ByteArray} {n : Nm} (h : longM t true = some n) : NmOk n t.size := by
 rw [longM_eq] at h
 generalize sgA t = a at h
 generalize mayB t 0 45 = neg at h
 generalize (!sgnB t 0) = sgl at h
 have nil : ∀ b, okDig ⟨([] : List UInt8).toArray⟩ b := fun b i hi => absurd hi (Nat.not_lt_zero _)
 unfold restM at h
 cases hs : spcM t a neg sgl with
 | some m =>
   rw [hs] at h
   obtain rfl := Option.some.inj h
   unfold spcM at hs
   repeat' split at hs
   all_goals first | cases hs; exact ⟨nil _, Nat.zero_le _, Nat.zero_le _, by simp, by simp, by simp⟩ | cases hs
 | none =>
   rw [hs] at h
   cases hh : hexM t a neg sgl with
   | some m =>
     rw [hh] at h
     obtain rfl := Option.some.inj h
     unfold hexM at hh
     split at hh
     ·obtain ⟨h1, h2, h3⟩ := dgR_ok t (a + 2) true
      have h4 := expR_bd t (dgR t (a + 2) true).1 112
      obtain rfl := Option.some.inj hh
      exact ⟨h1, h2, h3, h4.1, h4.2, by simp⟩
     ·cases hh
   | none =>
     rw [hh] at h
     simp only at h
     unfold decM at h
     split at h
     ·cases h
     ·obtain ⟨h1, h2, h3⟩ := dgR_ok t a false
      have h4 := expR_bd t (dgR t a false).1 101
      obtain rfl := Option.some.inj h
      split
      ·exact ⟨h1, h2, h3, h4.1, h4.2, by simp⟩
      ·exact ⟨h1, h2, h3, by simp, by simp, by simp⟩
theorem vL_snoc (base : Nat) : ∀ (l : List UInt8) (n : Nat) (c : UInt8), vL base n (l ++ [c]) = vL base n l * base + dvN c.toNat
 | [], n, c => rfl
 | d :: l, n, c => vL_snoc base l (n * base + dvN d.toNat) c
theorem fbN_vL (base : Nat) (l : List UInt8) : ∀ k, k ≤ l.length → fbN ⟨l.toArray⟩ base k = vL base 0 (l.take k)
 | 0, _ => by simp [fbN, vL]
 | k + 1, hk => by
   have hk' : k < l.length := hk
   rw [fbN, fbN_vL base l k (by omega), List.take_succ_eq_append_getElem hk', vL_snoc, bAt_mk, List.getElem?_eq_getElem hk']
theorem fbN_all (base : Nat) (l : List UInt8) : fbN ⟨l.toArray⟩ base l.length = vL base 0 l := by
 rw [fbN_vL base l _ (Nat.le_refl _), List.take_length]
theorem num_lt {n : Nm} {N : Nat} (h : NmOk n N) : n.num < 16 ^ n.digits.length := by
 unfold Nm.num
 rw [← fbN_all]
 exact fbN_lt (by unfold Nm.base; split <;> omega) h.dig n.digits.length (Nat.le_refl _)
theorem pow16 {a b : Nat} (h : a ≤ 16 * b) : 16 ^ a ≤ 18446744073709551616 ^ b := by
 rw [show 18446744073709551616 = 16 ^ 16 from rfl, ← Nat.pow_mul]
 exact Nat.pow_le_pow_right (by omega) h
theorem num_words {n : Nm} {N : Nat} (h : NmOk n N) (hN : N ≤ 301) : (digs n.num).length ≤ 20 :=
 digs_len (Nat.lt_of_lt_of_le (num_lt h) (pow16 (by have := h.len; omega)))
attribute [local go_sem] evalOps_nil evalOps_cons runW_t runW_f runE_s runP_s wantA evalOp effOp letters okDst coreA St.opv St.get St.at look constA St.put St.upd St.set decide_true List.all_nil List.all_cons Bool.and_true Bool.true_and and_self and_true true_and if_true if_false true_or Int.sub_zero List.nil_append List.cons_append List.append_nil Option.isSome_some List.getElem?_toArray List.getElem?_cons_succ List.getElem?_cons_zero Option.bind_some Option.map_some Option.map_none beq_self_eq_true Bool.false_beq Bool.true_beq Bool.not_true Bool.not_false Bool.false_eq_true cond_true cond_false binA binI List.map_cons List.map_nil boundA List.length_nil List.length_cons Nat.zero_mul Nat.one_mul Nat.mul_one Nat.zero_add Nat.add_zero Nat.zero_le Option.toList St.freshB AV.ment AV.ments Blk.ment V.sizes Nat.lt_add_one Bool.or_true Bool.true_or Bool.or_false Bool.false_or Bool.or_self if_pos if_neg decide_false decide_eq_true decide_eq_false wrap_i64 Int.toNat_natCast minA maxA Int.natCast_add Int.cast_ofNat_Int Option.isSome_none false_implies true_implies forall_const List.drop_zero Int.toNat_zero Int.add_sub_cancel lenA sliceA loadA indexAddrA partA fitsT V.atP V.offP V.size List.length_map List.getElem?_map Int.toNat_natCast_add_one Int.ofNat_eq_natCast TY calleeA capArg knotA capArgs toArgs toArg callA R.res R.mems R.blks R.av R.names R.nw invokeA storeA storeV fieldAddrA liveB V.off V.offs V.setP List.set_cons_zero List.set_cons_succ buildA buildP partsA appendA srcA copyA boxOk makeA AV.pure List.take_succ_cons List.take_zero nilA words unA entry List.zipIdx_cons List.zipIdx_nil Arg.av Arg.avs
def decV (k : Nat) (neg : Bool) (m : Nat) (e : Int) : V := .agg [.int .i64 (k : Nat), .bool neg, words (digs m), .int .i64 e]
theorem decV_eq (k : Nat) (neg : Bool) (m : Nat) (e : Int) : decV k neg m e = .agg [.int .i64 (k : Nat), .bool neg, .sl 1 ((digs m).map fun n => .int .u64 n), .int .i64 e] := rfl
theorem decV_zero (k : Nat) (neg : Bool) (e : Int) : decV k neg 0 e = .agg [.int .i64 (k : Nat), .bool neg, .sl 1 [], .int .i64 e] := rfl
theorem dec_none (t : ByteArray) (ht : t.size ≤ 301) (h : rdB t = false ∨ ∃ n, longM t true = some n ∧ n.kind = 1) :
 FnOk Tryz.prog 55 [.v (.str t)] [.v true (.agg [.int .i64 (0 : Nat), .bool false, .str ⟨#[]⟩, .int .i64 0, .int .i64 0, .int .i64 0, .bool false]), .v true (.int .i64 6)] := by
 have hL := read_ok t (by omega)
 have gs : ¬ (65536 : Int) < t.size := by omega
 refine FnOk.of Tryz.func55 rfl rfl fun cx w0 => ?_
 rw [show Tryz.f55.ntmps = 24 from rfl]
 rcases h with h | ⟨n, h, hk⟩
 ·rw [h] at hL
  obtain ⟨k, neg, d, bh, e, len, sg, hf⟩ := lgV_form (longM t true)
  rw [hf] at hL
  refine zs0 ?_
  refine Holds.seq ?_
  refine zs1 gs ?_
  refine Holds.condF rfl (Holds.skip ?_)
  refine zs2 (ρ := fun _ => [.v true (.agg [.int .i64 k, .bool neg, .str d, .int .i64 bh, .int .i64 e, .int .i64 len, .bool sg]), .v true (.bool false)]) (o := by repeat' first|exact hL|trivial|constructor) (k := ?_)
  refine Holds.seq ?_
  refine zs0 ?_
  refine Holds.condT rfl ?_
  refine zs0 ?_
  exact Holds.ret (RetOk.vs rfl (by exact ⟨⟨rfl, id⟩, ⟨rfl, id⟩, trivial⟩) rfl)
 ·obtain ⟨b, hb⟩ : ∃ b, b = rdB t := ⟨_, rfl⟩
  rw [h, ← hb] at hL
  obtain ⟨k, neg, d, bh, e, len, sg⟩ := n
  unfold lgV Nm.v numV at hL
  simp only at hL hk
  subst hk
  refine zs0 ?_
  refine Holds.seq ?_
  refine zs1 gs ?_
  refine Holds.condF rfl (Holds.skip ?_)
  refine zs2 (ρ := fun _ => [.v true (.agg [.int .i64 (1 : Nat), .bool neg, .str ⟨d.toArray⟩, .int .i64 (bh : Nat), .int .i64 e, .int .i64 (len : Nat), .bool sg]), .v true (.bool b)]) (o := by repeat' first|exact hL|trivial|constructor) (k := ?_)
  cases b with
  | false =>
    refine Holds.seq ?_
    refine zs0 ?_
    refine Holds.condT rfl ?_
    refine zs0 ?_
    exact Holds.ret (RetOk.vs rfl (by exact ⟨⟨rfl, id⟩, ⟨rfl, id⟩, trivial⟩) rfl)
  | true =>
    refine Holds.seq ?_
    refine zs0 ?_
    refine Holds.condT rfl ?_
    refine zs0 ?_
    exact Holds.ret (RetOk.vs rfl (by exact ⟨⟨rfl, id⟩, ⟨rfl, id⟩, trivial⟩) rfl)
theorem dec_some (t : ByteArray) (ht : t.size ≤ 301) {n : Nm} (h : longM t true = some n) (hr : rdB t = true) (hk : n.kind ≠ 1) :
 FnOk Tryz.prog 55 [.v (.str t)] [.v true n.v, .v true (.int .i64 0)] := by
 have hL := read_ok t (by omega)
 have gs : ¬ (65536 : Int) < t.size := by omega
 rw [h, hr] at hL
 obtain ⟨k, neg, d, bh, e, len, sg⟩ := n
 unfold lgV at hL
 unfold Nm.v numV at hL ⊢
 simp only at hL hk ⊢
 have gk : ¬ (k : Int) = 1 := by omega
 refine FnOk.of Tryz.func55 rfl rfl fun cx w0 => ?_
 rw [show Tryz.f55.ntmps = 24 from rfl]
 refine zs0 ?_
 refine Holds.seq ?_
 refine zs1 gs ?_
 refine Holds.condF rfl (Holds.skip ?_)
 refine zs2 (ρ := fun _ => [.v true (.agg [.int .i64 (k : Nat), .bool neg, .str ⟨d.toArray⟩, .int .i64 (bh : Nat), .int .i64 e, .int .i64 (len : Nat), .bool sg]), .v true (.bool true)]) (o := by repeat' first|exact hL|trivial|constructor) (k := ?_)
 refine Holds.seq ?_
 refine zs1 gk ?_
 refine Holds.condF rfl (Holds.skip ?_)
 refine zs0 ?_
 exact Holds.ret (RetOk.vs rfl (by exact ⟨⟨rfl, id⟩, ⟨rfl, id⟩, trivial⟩) rfl)
def spV (n : Nm) : V := if n.kind = 3 then decV 2 false 0 0 else if n.kind = 2 then decV 1 n.neg 0 0 else decV 0 false 0 0
theorem special_ok (n : Nm) : FnOk Tryz.prog 56 [.v n.v] [.v true (spV n), .v true (.bool (decide (n.kind = 3 ∨ n.kind = 2)))] := by
 obtain ⟨k, neg, d, bh, e, len, sg⟩ := n
 unfold spV Nm.v numV
 simp only
 refine FnOk.of Tryz.func56 rfl rfl fun cx w0 => ?_
 rw [show Tryz.f56.ntmps = 15 from rfl]
 by_cases h3 : k = 3
 ·rw [decide_eq_true (Or.inl h3), if_pos h3, decV_zero]
  subst h3
  refine zs0 ?_
  refine Holds.seq ?_
  refine zs0 ?_
  refine Holds.block ?_
  refine zs0 ?_
  refine Holds.condT rfl ?_
  refine zs0 ?_
  exact Holds.ret (RetOk.vs rfl (by exact ⟨⟨rfl, id⟩, ⟨rfl, id⟩, trivial⟩) rfl)
 ·have g3 : ¬ (k : Int) = 3 := by omega
  by_cases h2 : k = 2
  ·rw [decide_eq_true (Or.inr h2), if_neg h3, if_pos h2, decV_zero]
   subst h2
   refine zs0 ?_
   refine Holds.seq ?_
   refine zs0 ?_
   refine Holds.block ?_
   refine zs0 ?_
   refine Holds.condF rfl ?_
   refine zs0 ?_
   refine Holds.condT rfl ?_
   refine zs0 ?_
   exact Holds.ret (RetOk.vs rfl (by exact ⟨⟨rfl, id⟩, ⟨rfl, id⟩, trivial⟩) rfl)
  ·have g2 : ¬ (k : Int) = 2 := by omega
   rw [decide_eq_false (by omega), if_neg h3, if_neg h2, decV_zero]
   refine zs0 ?_
   refine Holds.seq ?_
   refine zs0 ?_
   refine Holds.block ?_
   refine zs1 g3 ?_
   refine Holds.condF rfl ?_
   refine zs1 g2 ?_
   refine Holds.condF rfl (Holds.skip ?_)
   refine zs0 ?_
   exact Holds.ret (RetOk.vs rfl (by exact ⟨⟨rfl, id⟩, ⟨rfl, id⟩, trivial⟩) rfl)
theorem size_mk (l : List UInt8) : (⟨l.toArray⟩ : ByteArray).size = l.length := rfl
theorem mag_ok {n : Nm} {N : Nat} (h : NmOk n N) (hN : N ≤ 301) : FnOk Tryz.prog 35 [.v n.v] [.v true (words (digs n.num)), .v true (.int .i64 (n.exp - (n.each * n.behind : Nat)))] := by
 have hF := fromBase_ok ⟨n.digits.toArray⟩ n.base (by rw [size_mk]; have := h.len; omega) (by unfold Nm.base; split <;> omega) (by unfold Nm.base; split <;> omega) h.dig
 rw [size_mk, fbN_all, ← show n.num = vL n.base 0 n.digits from rfl] at hF
 obtain ⟨m, hm⟩ : ∃ m, m = n.num := ⟨_, rfl⟩
 rw [← hm] at hF ⊢
 have hb := h.beh
 have hlo := h.lo
 have hhi := h.hi
 unfold Nm.each
 unfold Nm.base at hF
 clear h hm
 obtain ⟨k, neg, d, bh, e, len, sg⟩ := n
 unfold Nm.v numV
 simp only at hF hb hlo hhi ⊢
 refine FnOk.of Tryz.func35 rfl rfl fun cx w0 => ?_
 rw [show Tryz.f35.ntmps = 24 from rfl]
 by_cases hk : k = 1
 ·subst hk
  rw [if_pos rfl] at hF ⊢
  have w1 : IntKind.i64.wrap (4 * (bh : Int)) = ((4 * bh : Nat) : Int) := by rw [wrap_i64] <;> omega
  have w2 : IntKind.i64.wrap (e - ((4 * bh : Nat) : Int)) = e - ((4 * bh : Nat) : Int) := by rw [wrap_i64] <;> omega
  have hF : FnOk Tryz.prog 77 [.v (.str ⟨d.toArray⟩), .v (.int .u64 16)] [.v true (words (digs m))] := hF
  refine zs0 ?_
  refine Holds.seq ?_
  refine zs0 ?_
  refine Holds.condT rfl ?_
  refine zd3 [] (ρ := fun _ => [.v true (words (digs m))]) (an w1 <| w2) (o := by repeat' first|exact hF|trivial|constructor) (k := ?_)
  exact Holds.ret (RetOk.vs rfl (by exact ⟨⟨rfl, id⟩, ⟨rfl, id⟩, trivial⟩) rfl)
 ·have gk : ¬ (k : Int) = 1 := by omega
  rw [if_neg hk] at hF ⊢
  rw [Nat.one_mul]
  have w2 : IntKind.i64.wrap (e - (bh : Int)) = e - (bh : Int) := by rw [wrap_i64] <;> omega
  have hF : FnOk Tryz.prog 77 [.v (.str ⟨d.toArray⟩), .v (.int .u64 10)] [.v true (words (digs m))] := hF
  refine zs0 ?_
  refine Holds.seq ?_
  refine zs1 gk ?_
  refine Holds.condF rfl (Holds.skip ?_)
  refine zd3 [] (ρ := fun _ => [.v true (words (digs m))]) w2 (o := by repeat' first|exact hF|trivial|constructor) (k := ?_)
  exact Holds.ret (RetOk.vs rfl (by exact ⟨⟨rfl, id⟩, ⟨rfl, id⟩, trivial⟩) rfl)
theorem None_ok : FnOk Tryz.prog 60 [.v (decV 0 false 0 0)] [.v true (.bool true)] := by
 rw [decV_zero]
 refine FnOk.of Tryz.func60 rfl rfl fun cx w0 => ?_
 rw [show Tryz.f60.ntmps = 22 from rfl]
 refine zs0 ?_
 refine zs0 ?_
 exact Holds.ret (RetOk.vs rfl (by exact ⟨⟨rfl, id⟩, trivial⟩) rfl)
theorem Their_ok (k : Nat) (neg : Bool) (m : Nat) (e : Int) : FnOk Tryz.prog 58 [.v (decV k neg m e)] [.v false (decV k neg m e)] := by
 rw [decV_eq]
 obtain ⟨l, hl⟩ : ∃ l, l = digs m := ⟨_, rfl⟩
 rw [← hl]
 refine FnOk.of Tryz.func58 rfl rfl fun cx w0 => ?_
 rw [show Tryz.f58.ntmps = 12 from rfl]
 refine zs0 ?_
 refine zs0 ?_
 exact Holds.ret (RetOk.vs rfl (by exact ⟨⟨rfl, by simp⟩, trivial⟩) rfl)
theorem Canonical_ok (k : Nat) (neg : Bool) (m : Nat) (e : Int) (hm : (digs m).length < 100000) : FnOk Tryz.prog 116 [.v (decV k neg m e)] [.v false (decV k neg m e)] := by
 have hT := rTrim_ok (digs m) hm (digs_ok m).1
 rw [(digs_ok m).2.2] at hT
 rw [decV_eq]
 obtain ⟨l, hl⟩ : ∃ l, l = digs m := ⟨_, rfl⟩
 rw [← hl] at hT ⊢
 refine FnOk.of Tryz.func116 rfl rfl fun cx w0 => ?_
 rw [show Tryz.f116.ntmps = 8 from rfl]
 refine zs0 ?_
 refine zs2 (ρ := fun _ => [.v true (words l)]) (o := by repeat' first|exact hT|trivial|constructor) (k := ?_)
 refine zs0 ?_
 exact Holds.ret (RetOk.vs rfl (by exact ⟨⟨rfl, by simp⟩, trivial⟩) rfl)
theorem Equal_ok (k : Nat) (neg : Bool) (m : Nat) (e : Int) (hm : (digs m).length < 100000) : FnOk Tryz.prog 115 [.v (decV k neg m e), .v (decV k neg m e)] [.v true (.bool true)] := by
 rw [decV_eq]
 obtain ⟨l, hl⟩ : ∃ l, l = digs m := ⟨_, rfl⟩
 rw [← hl] at hm ⊢
 refine FnOk.of Tryz.func115 rfl rfl fun cx w0 => ?_
 rw [show Tryz.f115.ntmps = 52 from rfl]
 refine zs0 ?_
 refine Holds.next (fun σ => ∀ a w, Rel cx w0 σ a w → Rel cx w0 { nt := 52, env := [(2, .ptr 2 0 [] 0), (3, .ptr 3 0 [] 0)], mem := [(2, .box 59 (.v false (.agg [.int .i64 (k : Nat), .bool neg, .sl 1 (l.map fun n => .int .u64 n), .int .i64 e]))), (3, .box 59 (.v false (.agg [.int .i64 (k : Nat), .bool neg, .sl 1 (l.map fun n => .int .u64 n), .int .i64 e])))] } a w) ?_ ?_
 ·cases neg
  ·refine Holds.step (Px := px) (T := TT) (ρ := fun _ => []) TTe (by simp (maxSteps := 100000) (disch := omega) only [go_sem, V.isAgg, V.flat, ↓reduceIte, Nat.reduceAdd, Nat.reduceSub, Nat.reduceLT, Nat.reduceEqDiff, reduceCtorEq, Nat.reduceLeDiff, Nat.reduceBEq, Nat.reduceMul, Int.reduceToNat, eq_self]; rfl) (by repeat' first | exact trivial | constructor) ?_
   exact Holds.condF rfl (Holds.skip fun a w h => Rel.keep [2, 3] [2, 3] h)
  ·refine Holds.step (Px := px) (T := TT) (ρ := fun _ => []) TTe (by simp (maxSteps := 100000) (disch := omega) only [go_sem, V.isAgg, V.flat, ↓reduceIte, Nat.reduceAdd, Nat.reduceSub, Nat.reduceLT, Nat.reduceEqDiff, reduceCtorEq, Nat.reduceLeDiff, Nat.reduceBEq, Nat.reduceMul, Int.reduceToNat, eq_self]; rfl) (by repeat' first | exact trivial | constructor) ?_
   exact Holds.condF rfl (Holds.skip fun a w h => Rel.keep [2, 3] [2, 3] h)
 ·intro σ hσ
  refine Holds.from hσ ?_
  clear hσ
  refine Holds.next (fun σ => ∀ a w, Rel cx w0 σ a w → Rel cx w0 { nt := 52, env := [], mem := [] } a w) ?_ ?_
  ·refine zs0 ?_
   refine Holds.loopB (fun i : Nat => { nt := 52, env := [(5, .v true (.int .i64 (i : Nat))), (2, .ptr 2 0 [] 0), (3, .ptr 3 0 [] 0)], mem := [(2, .box 59 (.v false (.agg [.int .i64 (k : Nat), .bool neg, .sl 1 (l.map fun n => .int .u64 n), .int .i64 e]))), (3, .box 59 (.v false (.agg [.int .i64 (k : Nat), .bool neg, .sl 1 (l.map fun n => .int .u64 n), .int .i64 e])))] }) (fun i => i ≤ l.length) (fun i => l.length - i) 0 (Nat.zero_le _) (fun a w h => Rel.keep [5, 2, 3] [2, 3] h) ?_
   intro i hi
   by_cases hlt : i < l.length
   ·have g : (i : Int) < l.length := by omega
    have e1 : l[i]? = some (l.getD i 0) := by rw [List.getD_eq_getElem?_getD, List.getElem?_eq_getElem hlt]; rfl
    refine Holds.seq ?_
    refine zs1 g ?_
    refine Holds.condT rfl (Holds.skip ?_)
    refine Holds.next (fun σ => ∀ a w, Rel cx w0 σ a w → Rel cx w0 { nt := 52, env := [(5, .v true (.int .i64 (i : Nat))), (2, .ptr 2 0 [] 0), (3, .ptr 3 0 [] 0)], mem := [(2, .box 59 (.v false (.agg [.int .i64 (k : Nat), .bool neg, .sl 1 (l.map fun n => .int .u64 n), .int .i64 e]))), (3, .box 59 (.v false (.agg [.int .i64 (k : Nat), .bool neg, .sl 1 (l.map fun n => .int .u64 n), .int .i64 e])))] } a w) ?_ ?_
    ·refine Holds.blockN ?_
     refine Holds.dstep (Px := px) (T := TT) (ρ := fun _ => []) [] mixed (by kernel_rfl) TTe (by simp (maxSteps := 100000) (disch := omega) only [go_sem, V.isAgg, V.flat, ↓reduceIte, Nat.reduceAdd, Nat.reduceSub, Nat.reduceLT, Nat.reduceEqDiff, reduceCtorEq, Nat.reduceLeDiff, Nat.reduceBEq, Nat.reduceMul, Int.reduceToNat, g, e1, eq_self]; rfl) (by repeat' first | exact trivial | constructor) (by rfl) (by rfl) (by rfl) ?_
     exact Holds.condF rfl (Holds.skip fun a w h => Rel.keep [5, 2, 3] [2, 3] h)
    ·intro σ hσ
     refine Holds.from hσ ?_
     have w1 : IntKind.i64.wrap ((i : Int) + 1) = ((i + 1 : Nat) : Int) := by rw [wrap_i64] <;> omega
     refine zr1 w1 ?_
     exact ⟨i + 1, (by show i + 1 ≤ l.length; omega), (show l.length - (i + 1) < l.length - i by omega), fun a w h => Rel.keep [5, 2, 3] [2, 3] h⟩
   ·have g : ¬ (i : Int) < l.length := by omega
    refine Holds.seq ?_
    refine zs1 g ?_
    exact Holds.condF rfl (Holds.exit ⟨rfl, fun a w h => Rel.keep [] [] h⟩)
  ·intro σ hσ
   refine Holds.from hσ ?_
   refine zs0 ?_
   exact Holds.ret (RetOk.vs rfl (by exact ⟨⟨rfl, id⟩, trivial⟩) rfl)
theorem dIs_ok (k : Nat) (neg : Bool) (m : Nat) (e : Int) (hm : (digs m).length < 100000) : FnOk Tryz.prog 61 [.v (decV k neg m e), .v (decV k neg m e)] [.v true (.bool true)] := by
 have h1 := Canonical_ok k neg m e hm
 have h2 := Equal_ok k neg m e hm
 rw [decV_eq] at h1 h2 ⊢
 obtain ⟨l, hl⟩ : ∃ l, l = digs m := ⟨_, rfl⟩
 rw [← hl] at h1 h2 ⊢
 refine FnOk.of Tryz.func61 rfl rfl fun cx w0 => ?_
 rw [show Tryz.f61.ntmps = 9 from rfl]
 refine zs0 ?_
 refine zd2 [] (ρ := fun d => if d = 8 then [.v true (.bool true)] else [.v false (.agg [.int .i64 (k : Nat), .bool neg, .sl 1 (l.map fun n => .int .u64 n), .int .i64 e])]) (o := by repeat' first|exact h1|exact h2|trivial|constructor) (k := ?_)
 exact Holds.ret (RetOk.vs rfl (by exact ⟨⟨rfl, id⟩, trivial⟩) rfl)
theorem dFits_ok (k : Nat) (neg : Bool) (m : Nat) (e : Int) (hm : (digs m).length < 100000) (fl : Int) :
 FnOk Tryz.prog 21 [.v (decV k neg m e), .v (.int .i64 fl), .v (.int .i64 0), .v (decV k neg m e), .v (.int .i64 fl), .v (.int .i64 0)] [.v true (.bool true)] := by
 have h1 := Their_ok k neg m e
 have h2 := dIs_ok k neg m e hm
 rw [decV_eq] at h1 h2 ⊢
 obtain ⟨l, hl⟩ : ∃ l, l = digs m := ⟨_, rfl⟩
 rw [← hl] at h1 h2 ⊢
 refine FnOk.of Tryz.func21 rfl rfl fun cx w0 => ?_
 rw [show Tryz.f21.ntmps = 39 from rfl]
 refine zs0 ?_
 refine Holds.seq ?_
 refine zs0 ?_
 refine Holds.condF rfl (Holds.skip ?_)
 refine Holds.dstep (Px := px) (T := TT) (ρ := fun d => if d = 30 then [.v false (.agg [.int .i64 (k : Nat), .bool neg, .sl 1 (l.map fun n => .int .u64 n), .int .i64 e])] else [.v true (.bool true)]) [] mixed (by kernel_rfl) TTe (by simp (maxSteps := 100000) (disch := omega) only [go_sem, V.isAgg, V.flat, ↓reduceIte, Nat.reduceAdd, Nat.reduceSub, Nat.reduceLT, Nat.reduceEqDiff, reduceCtorEq, Nat.reduceLeDiff, Nat.reduceBEq, Nat.reduceMul, Int.reduceToNat, eq_self]; rfl) (by first | exact ⟨h1, h2⟩ | (repeat' first | exact trivial | exact h1 | exact h2 | constructor)) (by rfl) (by rfl) (by rfl) ?_
 exact Holds.ret (RetOk.vs rfl (by exact ⟨⟨rfl, id⟩, trivial⟩) rfl)
theorem spV_form (n : Nm) : ∃ k neg, spV n = .agg [.int .i64 (k : Nat), .bool neg, .sl 1 [], .int .i64 0] := by
 unfold spV
 split
 ·exact ⟨2, false, rfl⟩
 ·split
  ·exact ⟨1, n.neg, rfl⟩
  ·exact ⟨0, false, rfl⟩
theorem exact_num (t : ByteArray) (ht : t.size ≤ 300) {n : Nm} (h : longM t true = some n) (hr : rdB t = true) (ho : NmOk n t.size) (hk : n.kind = 0) :
 FnOk Tryz.prog 24 [.v (.str t)] (if -1000000 ≤ n.exp - (n.each * n.behind : Nat) ∧ n.exp - (n.each * n.behind : Nat) ≤ 1000000 then [.v true (decV 0 n.neg n.num (n.exp - (n.each * n.behind : Nat))), .v true (.int .i64 0)]
  else [.v true (decV 0 false 0 0), .v true (.int .i64 4)]) := by
 have hD := dec_some t (by omega) h hr (by omega)
 have hS := special_ok n
 have hM := mag_ok ho (by omega)
 have hw := num_words ho (by omega)
 rw [decide_eq_false (by omega), show spV n = decV 0 false 0 0 from by unfold spV; rw [if_neg (by omega), if_neg (by omega)], decV_zero] at hS
 rw [decV_eq, decV_zero]
 obtain ⟨m, hm⟩ : ∃ m, m = digs n.num := ⟨_, rfl⟩
 obtain ⟨x, hx⟩ : ∃ x, x = n.exp - (n.each * n.behind : Nat) := ⟨_, rfl⟩
 rw [← hm] at hw
 rw [← hm, ← hx] at hM ⊢
 obtain ⟨y, hy⟩ : ∃ y, y = n.neg := ⟨_, rfl⟩
 rw [← hy]
 clear h hk hr ho hm hx
 obtain ⟨k, neg, d, bh, e, len, sg⟩ := n
 unfold Nm.v numV at hD hS hM
 simp only at hD hS hM hy
 subst hy
 refine FnOk.of Tryz.func24 rfl rfl fun cx w0 => ?_
 rw [show Tryz.f24.ntmps = 47 from rfl]
 refine zs0 ?_
 refine zs2 (ρ := fun _ => [.v true (.agg [.int .i64 (k : Nat), .bool y, .str ⟨d.toArray⟩, .int .i64 (bh : Nat), .int .i64 e, .int .i64 (len : Nat), .bool sg]), .v true (.int .i64 0)]) (o := by repeat' first|exact hD|trivial|constructor) (k := ?_)
 refine Holds.seq ?_
 refine zs0 ?_
 refine Holds.condF rfl (Holds.skip ?_)
 refine Holds.seq ?_
 refine zs2 (ρ := fun _ => [.v true (.agg [.int .i64 (0 : Nat), .bool false, .sl 1 [], .int .i64 0]), .v true (.bool false)]) (o := by repeat' first|exact hS|trivial|constructor) (k := ?_)
 refine zs0 ?_
 refine Holds.condF rfl (Holds.skip ?_)
 refine zs2 (ρ := fun _ => [.v true (words m), .v true (.int .i64 x)]) (o := by repeat' first|exact hM|trivial|constructor) (k := ?_)
 by_cases h1 : x < -1000000
 ·rw [if_neg (by omega)]
  refine Holds.seq ?_
  refine zs1 h1 ?_
  refine Holds.condT rfl ?_
  refine zs0 ?_
  exact Holds.ret (RetOk.vs rfl (by exact ⟨⟨rfl, id⟩, ⟨rfl, id⟩, trivial⟩) rfl)
 by_cases h2 : 1000000 < x
 ·rw [if_neg (by omega)]
  refine Holds.seq ?_
  refine zs1 (an h1 <| h2) ?_
  refine Holds.condT rfl ?_
  refine zs0 ?_
  exact Holds.ret (RetOk.vs rfl (by exact ⟨⟨rfl, id⟩, ⟨rfl, id⟩, trivial⟩) rfl)
 rw [if_pos (by omega)]
 have g3 : ¬ (4096 : Int) < m.length := by omega
 refine Holds.seq ?_
 refine zs1 (an h1 <| h2) ?_
 refine Holds.condF rfl (Holds.skip ?_)
 refine Holds.seq ?_
 refine zs1 g3 ?_
 refine Holds.condF rfl (Holds.skip ?_)
 refine zs0 ?_
 exact Holds.ret (RetOk.vs rfl (by exact ⟨⟨rfl, id⟩, ⟨rfl, id⟩, trivial⟩) rfl)
def cntS (u : Nat) : Nat → Int × Int × Int
 | 0 => (64, 64, 0)
 | j + 1 => if u / 2 ^ j % 2 = 1 then (63 - (j : Int), (if (j : Int) < (cntS u j).2.1 then (j : Int) else (cntS u j).2.1), (cntS u j).2.2 + 1) else cntS u j
theorem cntS_b (u : Nat) : ∀ j, j ≤ 64 → (0 ≤ (cntS u j).1 ∧ (cntS u j).1 ≤ 64) ∧ (0 ≤ (cntS u j).2.1 ∧ (cntS u j).2.1 ≤ 64) ∧ (0 ≤ (cntS u j).2.2 ∧ (cntS u j).2.2 ≤ j)
 | 0, _ => ⟨⟨by show (0 : Int) ≤ 64; decide, by show (64 : Int) ≤ 64; decide⟩, ⟨by show (0 : Int) ≤ 64; decide, by show (64 : Int) ≤ 64; decide⟩, ⟨by show (0 : Int) ≤ 0; decide, by show (0 : Int) ≤ 0; decide⟩⟩
 | j + 1, h => by
   obtain ⟨h1, h2, h3⟩ := cntS_b u j (by omega)
   rw [cntS]
   split
   ·refine ⟨⟨by show 0 ≤ 63 - (j : Int); omega, by show 63 - (j : Int) ≤ 64; omega⟩, ?_, ⟨by show 0 ≤ (cntS u j).2.2 + 1; omega, by show (cntS u j).2.2 + 1 ≤ _; omega⟩⟩
    show (0 : Int) ≤ (if (j : Int) < (cntS u j).2.1 then (j : Int) else (cntS u j).2.1) ∧ (if (j : Int) < (cntS u j).2.1 then (j : Int) else (cntS u j).2.1) ≤ 64
    split <;> omega
   ·exact ⟨h1, h2, ⟨h3.1, by omega⟩⟩
theorem cntS_one (u : Nat) : ∀ j, j ≤ 64 → u % 2 ^ j ≠ 0 → (cntS u j).1 ≤ 63
 | 0, _, h => absurd (Nat.mod_one u) h
 | j + 1, hj, h => by
   rw [cntS]
   by_cases hb : u / 2 ^ j % 2 = 1
   ·rw [if_pos hb]
    show 63 - (j : Int) ≤ 63
    omega
   ·rw [if_neg hb]
    refine cntS_one u j (by omega) fun h0 => h ?_
    rw [Nat.pow_succ, Nat.mod_mul, h0, show u / 2 ^ j % 2 = 0 from by omega, Nat.mul_zero]
def cntV (u : Nat) : List R := [.v true (.int .i64 (cntS u 64).1), .v true (.int .i64 (cntS u 64).2.1), .v true (.int .i64 (cntS u 64).2.2)]
theorem Count_ok (x : Nat) (hx : x < 18446744073709551616) : FnOk Tryz.prog 153 [.v (.int .u64 x)] (cntV x) := by
 refine FnOk.of Tryz.func153 rfl rfl fun cx w0 => ?_
 rw [show Tryz.f153.ntmps = 28 from rfl]
 refine zs0 ?_
 refine zs0 ?_
 refine Holds.next (fun σ => ∀ a w, Rel cx w0 σ a w → Rel cx w0 { nt := 28, env := [(5, .v true (.int .i64 (cntS x 64).1)), (6, .v true (.int .i64 (cntS x 64).2.1)), (7, .v true (.int .i64 (cntS x 64).2.2))], mem := [] } a w) ?_ ?_
 ·refine zs0 ?_
  refine Holds.loopB (fun j : Nat => { nt := 28, env := [(8, .v true (.int .i64 (j : Int))), (5, .v true (.int .i64 (cntS x j).1)), (6, .v true (.int .i64 (cntS x j).2.1)), (7, .v true (.int .i64 (cntS x j).2.2)), (0, .v true (.int .u64 x))], mem := [] }) (fun j => j ≤ 64) (fun j => 64 - j) 0 (Nat.zero_le _) (fun a w h => Rel.keep [8, 5, 6, 7, 0] [] h) ?_
  intro j hj
  by_cases hend : j = 64
  ·refine Holds.seq ?_
   refine zs0 ?_
   refine Holds.condF rfl (Holds.exit ⟨rfl, fun a w h => ?_⟩)
   rw [← hend]
   exact Rel.keep [5, 6, 7] [] h
  ·refine Holds.seq ?_
   obtain ⟨h1, h2, h3⟩ := cntS_b x j hj
   refine zs0 ?_
   refine Holds.condT rfl (Holds.skip ?_)
   have es : cntS x (j + 1) = if x / 2 ^ j % 2 = 1 then (63 - (j : Int), (if (j : Int) < (cntS x j).2.1 then (j : Int) else (cntS x j).2.1), (cntS x j).2.2 + 1) else cntS x j := rfl
   refine Holds.next (fun σ => ∀ a w, Rel cx w0 σ a w → Rel cx w0 { nt := 28, env := [(8, .v true (.int .i64 (j : Int))), (5, .v true (.int .i64 (cntS x (j + 1)).1)), (6, .v true (.int .i64 (cntS x (j + 1)).2.1)), (7, .v true (.int .i64 (cntS x (j + 1)).2.2)), (0, .v true (.int .u64 x))], mem := [] } a w) ?_ ?_
   ·refine Holds.blockN ?_
    rw [es]
    obtain ⟨s, hs⟩ : ∃ s, s = cntS x j := ⟨_, rfl⟩
    rw [← hs] at h1 h2 h3 ⊢
    have hsh := shrB x j (by omega)
    have hq : x / 2 ^ j ≤ x := Nat.div_le_self _ _
    obtain ⟨q, hqe⟩ : ∃ q, q = x / 2 ^ j := ⟨_, rfl⟩
    rw [← hqe] at hsh hq ⊢
    have hmod : ((q : Int)).tmod 2 = ((q % 2 : Nat) : Int) := by rw [Int.tmod_eq_emod_of_nonneg (by omega)]; omega
    have hb2 : q % 2 < 2 := Nat.mod_lt _ (by decide)
    obtain ⟨b, hb⟩ : ∃ b, b = q % 2 := ⟨_, rfl⟩
    rw [← hb] at hmod hb2 ⊢
    have hwm : IntKind.u64.wrap (b : Int) = b := by rw [wrap_u64]; omega
    have hwq : IntKind.u64.wrap (q : Int) = q := by rw [wrap_u64]; omega
    by_cases h : b = 1
    ·have h' : (b : Int) = 1 := by omega
     rw [if_pos h]
     refine zs1 (an hsh <| an hmod <| an hwm <| an hwq <| h') ?_
     refine Holds.condT rfl ?_
     refine zs0 ?_
     refine zs0 ?_
     refine zr0 ?_
     exact fun a w h => Rel.keep [8, 5, 6, 7, 0] [] h
    ·have h' : ¬ (b : Int) = 1 := by omega
     rw [if_neg h]
     refine zs1 (an hsh <| an hmod <| an hwm <| an hwq <| h') ?_
     exact Holds.condF rfl (Holds.skip fun a w h => Rel.keep [8, 5, 6, 7, 0] [] h)
   ·intro σ hσ
    refine Holds.from hσ ?_
    refine zr0 ?_
    exact ⟨j + 1, (by show j + 1 ≤ 64; omega), (show 64 - (j + 1) < 64 - j by omega), fun a w h => Rel.keep [8, 5, 6, 7, 0] [] h⟩
 ·intro σ hσ
  refine Holds.from hσ ?_
  refine zs0 ?_
  exact Holds.ret (RetOk.vs rfl (by exact ⟨⟨rfl, id⟩, ⟨rfl, id⟩, ⟨rfl, id⟩, trivial⟩) rfl)
def lenR (x : List Int) : Int := match trimW x x.length with
 | 0 => 0
 | m + 1 => 64 * (m : Int) + 64 - (cntS (x.getD m 0).toNat 64).1
theorem lenR_zero {x : List Int} (ox : okW x) : lenR x = 0 ↔ val x = 0 := by
 rw [lenR]
 rw [← val_trim x, trimL]
 cases h : trimW x x.length with
 | zero => simp [val]
 | succ m =>
   obtain ⟨h1, h2⟩ := trimW_last x _ _ h
   have hw := okW_getD ox m
   have hc := cntS_one (x.getD m 0).toNat 64 (by omega) (by
    rw [Nat.mod_eq_of_lt (by omega)]
    omega)
   have hc2 := cntS_b (x.getD m 0).toNat 64 (by omega)
   constructor
   ·intro h
    simp only at h
    omega
   ·intro h
    exfalso
    have ht : x.take (m + 1) = x.take m ++ [x.getD m 0] := take_succ (by omega)
    rw [ht, val_append] at h
    have h3 : 18446744073709551616 ^ (x.take m).length * val [x.getD m 0] = 0 := by omega
    rcases Nat.mul_eq_zero.1 h3 with h4 | h4
    ·have := Nat.pow_pos (a := 18446744073709551616) (n := (x.take m).length) (by decide)
     omega
    ·simp only [val] at h4
     omega
theorem rLen_ok (x : List Int) (hx : x.length < 100000000) (ox : okW x) : FnOk Tryz.prog 102 [.v (words x)] [.v true (.int .i64 (lenR x))] := by
 refine FnOk.of Tryz.func102 rfl rfl fun cx w0 => ?_
 rw [show Tryz.f102.ntmps = 33 from rfl]
 refine zs0 ?_
 refine Holds.next (fun σ => lenR x = 0 ∧ ∀ a w, Rel cx w0 σ a w → Rel cx w0 { nt := 33, env := [], mem := [] } a w) ?_ ?_
 ·refine zs0 ?_
  refine Holds.loopB (fun j : Nat => { nt := 33, env := [(3, .v true (.int .i64 ((j : Int) - 1))), (0, .v false (words x))], mem := [] }) (fun j => j ≤ x.length ∧ trimW x x.length = trimW x j) id x.length ⟨Nat.le_refl _, rfl⟩ (fun a w hr => Rel.keep [3, 0] [] hr) ?_
  rintro j ⟨hj, ht⟩
  rcases j with _ | j
  ·refine Holds.seq ?_
   refine zs0 ?_
   refine Holds.condF rfl (Holds.exit ⟨rfl, ?_, fun a w hr => Rel.keep [] [] hr⟩)
   rw [lenR, ht, trimW]
  ·have hjx : j < x.length := by omega
   have hw := okW_getD ox j
   have g := get_map hjx
   have hcnt := Count_ok (x.getD j 0).toNat (by omega)
   have e1 : (((x.getD j 0).toNat : Nat) : Int) = x.getD j 0 := by omega
   rw [e1] at hcnt
   have hc2 := cntS_b (x.getD j 0).toNat 64 (by omega)
   have ej : ((j : Int) + 1 - 1) = j := by omega
   rw [show (((j + 1 : Nat) : Int) - 1) = (j : Int) from by omega]
   refine Holds.seq ?_
   refine zs0 ?_
   refine Holds.condT rfl (Holds.skip ?_)
   refine Holds.next (fun σ => x.getD j 0 = 0 ∧ ∀ a w, Rel cx w0 σ a w → Rel cx w0 { nt := 33, env := [(3, .v true (.int .i64 (j : Int))), (0, .v false (words x))], mem := [] } a w) ?_ ?_
   ·refine Holds.blockN ?_
    by_cases h0 : x.getD j 0 = 0
    ·refine zs1 (an g <| h0) ?_
     exact Holds.condF rfl (Holds.skip ⟨h0, fun a w hr => Rel.keep [3, 0] [] hr⟩)
    ·have el : lenR x = 64 * (j : Int) + 64 - (cntS (x.getD j 0).toNat 64).1 := by rw [lenR, ht, trimW, if_neg h0]
     rw [el]
     obtain ⟨u, hu⟩ : ∃ u, u = x.getD j 0 := ⟨_, rfl⟩
     rw [← hu] at g hw hcnt hc2 h0 ⊢
     refine zs1 (an g <| h0) ?_
     refine Holds.condT rfl ?_
     refine zs3 (ρ := fun _ => cntV u.toNat) g (o := by repeat' first|exact hcnt|trivial|constructor) (k := ?_)
     refine zs0 ?_
     exact Holds.ret (RetOk.vs rfl (by exact ⟨⟨rfl, id⟩, trivial⟩) rfl)
   ·rintro σ ⟨h0, hσ⟩
    refine Holds.from hσ ?_
    refine zr0 ?_
    exact ⟨j, ⟨by omega, by rw [ht, trimW, if_pos h0]⟩, (show j < j + 1 by omega), fun a w hr => Rel.keep [3, 0] [] hr⟩
 ·rintro σ ⟨h0, hσ⟩
  rw [h0]
  refine Holds.from hσ ?_
  refine zs0 ?_
  exact Holds.ret (RetOk.vs rfl (by exact ⟨⟨rfl, id⟩, trivial⟩) rfl)
theorem IsZero_ok (x : List Int) (hx : x.length < 100000000) (ox : okW x) : FnOk Tryz.prog 51 [.v (words x)] [.v true (.bool (decide (val x = 0)))] := by
 have h1 := rLen_ok x hx ox
 have hz : decide (val x = 0) = decide (lenR x = 0) := by rw [decide_eq_decide]; exact (lenR_zero ox).symm
 rw [hz]
 refine FnOk.of Tryz.func51 rfl rfl fun cx w0 => ?_
 rw [show Tryz.f51.ntmps = 6 from rfl]
 refine zs0 ?_
 by_cases h : lenR x = 0
 ·rw [h] at h1
  refine zs3 (ρ := fun _ => [.v true (.int .i64 0)]) h (o := by repeat' first|exact h1|trivial|constructor) (k := ?_)
  rw [decide_eq_true h]
  exact Holds.ret (RetOk.vs rfl (by exact ⟨⟨rfl, id⟩, trivial⟩) rfl)
 ·refine zs3 (ρ := fun _ => [.v true (.int .i64 (lenR x))]) h (o := by repeat' first|exact h1|trivial|constructor) (k := ?_)
  rw [decide_eq_false h]
  exact Holds.ret (RetOk.vs rfl (by exact ⟨⟨rfl, id⟩, trivial⟩) rfl)
theorem val_inj2 : ∀ {l m : List Int}, okW l → okW m → l.length = m.length → val l = val m → l = m
 | [], [], _, _, _, _ => rfl
 | x :: r, y :: s, ol, om, hl, hv => by
   simp only [val] at hv
   have h1 := ol x (by simp)
   have h2 := om y (by simp)
   have hx : x = y := by omega
   have hr : val r = val s := by omega
   rw [hx, val_inj2 (fun n hn => ol n (List.mem_cons_of_mem _ hn)) (fun n hn => om n (List.mem_cons_of_mem _ hn)) (by simpa using hl) hr]
theorem val_rep0 : ∀ n, val (List.replicate n 0) = 0
 | 0 => rfl
 | n + 1 => by rw [List.replicate_succ, val, val_rep0 n]; rfl
def cmpN (a b : Nat) : Int := if a < b then -1 else if b < a then 1 else 0
def cmpD (f g : Nat → Int) : Nat → Int
 | 0 => 0
 | j + 1 => if f j < g j then -1 else if g j < f j then 1 else cmpD f g j
theorem cmpD_val {B : Nat} {f g : Nat → Int} {F G : Nat → Nat} (hF0 : F 0 = 0) (hG0 : G 0 = 0) (hF : ∀ j, F (j + 1) = F j + B ^ j * (f j).toNat) (hG : ∀ j, G (j + 1) = G j + B ^ j * (g j).toNat)
 (bf : ∀ j, 0 ≤ f j ∧ f j < B) (bg : ∀ j, 0 ≤ g j ∧ g j < B) : ∀ j, F j < B ^ j ∧ G j < B ^ j ∧ cmpD f g j = cmpN (F j) (G j)
 | 0 => by rw [hF0, hG0]; exact ⟨by simp, by simp, rfl⟩
 | j + 1 => by
   obtain ⟨h1, h2, h3⟩ := cmpD_val hF0 hG0 hF hG bf bg j
   obtain ⟨f0, f1⟩ := bf j
   obtain ⟨g0, g1⟩ := bg j
   have step : ∀ {P Q : Nat} {u v : Nat}, P < B ^ j → u < v → P + B ^ j * u < Q + B ^ j * v := fun {P Q u v} hP huv => by
    have : B ^ j * (u + 1) ≤ B ^ j * v := Nat.mul_le_mul_left _ huv
    rw [Nat.mul_add, Nat.mul_one] at this
    omega
   have bnd : ∀ {P : Nat} {x : Int}, P < B ^ j → 0 ≤ x → x < B → P + B ^ j * x.toNat < B ^ (j + 1) := fun {P x} hP hx0 hx => by
    have := step (Q := 0) (v := B) hP (show x.toNat < B by omega)
    rw [Nat.zero_add] at this
    rw [Nat.pow_succ]
    exact this
   rw [hF, hG]
   refine ⟨bnd h1 f0 f1, bnd h2 g0 g1, ?_⟩
   rw [cmpD]
   rcases Int.lt_trichotomy (f j) (g j) with h | h | h
   ·have := step (Q := G j) h1 (show (f j).toNat < (g j).toNat by omega)
    rw [if_pos h, cmpN, if_pos this]
   ·rw [h, if_neg (by omega), if_neg (by omega), h3, cmpN, cmpN]
    rcases Nat.lt_trichotomy (F j) (G j) with h4 | h4 | h4
    ·rw [if_pos h4, if_pos (by omega)]
    ·rw [h4, if_neg (by omega), if_neg (by omega), if_neg (by omega), if_neg (by omega)]
    ·rw [if_neg (by omega), if_pos h4, if_neg (by omega), if_pos (by omega)]
   ·have := step (Q := F j) h2 (show (g j).toNat < (f j).toNat by omega)
    rw [if_neg (by omega), if_pos h, cmpN, if_neg (by omega), if_pos this]
theorem val_takeS {l : List Int} (j : Nat) : val (l.take (j + 1)) = val (l.take j) + 18446744073709551616 ^ j * (l.getD j 0).toNat := by
 rcases Nat.lt_or_ge j l.length with h | h
 ·rw [take_succ h, val_append, List.length_take, Nat.min_eq_left (by omega), val, val]; simp
 ·rw [List.take_of_length_le (by omega), List.take_of_length_le h, List.getD_eq_getElem?_getD, List.getElem?_eq_none h]; rfl
theorem valH_takeS {l : List Int} (j : Nat) : valH (l.take (j + 1)) = valH (l.take j) + 4294967296 ^ j * (l.getD j 0).toNat := by
 rcases Nat.lt_or_ge j l.length with h | h
 ·rw [take_succ h, valH_append, List.length_take, Nat.min_eq_left (by omega), valH, valH]; simp
 ·rw [List.take_of_length_le (by omega), List.take_of_length_le h, List.getD_eq_getElem?_getD, List.getElem?_eq_none h]; rfl
theorem cmpD_W {x y : List Int} (ox : okW x) (oy : okW y) {M : Nat} (hx : x.length ≤ M) (hy : y.length ≤ M) : cmpD (fun i => x.getD i 0) (fun i => y.getD i 0) M = cmpN (val x) (val y) := by
 have h := (cmpD_val (B := 18446744073709551616) (F := fun j => val (x.take j)) (G := fun j => val (y.take j)) (f := fun i => x.getD i 0) (g := fun i => y.getD i 0) rfl rfl (fun j => val_takeS j) (fun j => val_takeS j) (okW_getD ox) (okW_getD oy) M).2.2
 simp only [List.take_of_length_le hx, List.take_of_length_le hy] at h
 exact h
theorem cmpD_H {x y : List Int} (ox : okH x) (oy : okH y) {M : Nat} (hx : x.length ≤ M) (hy : y.length ≤ M) : cmpD (fun i => x.getD i 0) (fun i => y.getD i 0) M = cmpN (valH x) (valH y) := by
 have h := (cmpD_val (B := 4294967296) (F := fun j => valH (x.take j)) (G := fun j => valH (y.take j)) (f := fun i => x.getD i 0) (g := fun i => y.getD i 0) rfl rfl (fun j => valH_takeS j) (fun j => valH_takeS j) (okH_getD ox) (okH_getD oy) M).2.2
 simp only [List.take_of_length_le hx, List.take_of_length_le hy] at h
 exact h
theorem Compare_ok (a b : List Int) (hal : a.length < 100000) (hbl : b.length < 100000) (oa : okH a) (ob : okH b) : FnOk Tryz.prog 170 [.v (words a), .v (words b)] [.v true (.int .i64 (cmpN (valH a) (valH b)))] := by
 obtain ⟨M, hM⟩ : ∃ M, M = max a.length b.length := ⟨_, rfl⟩
 have hmax : (if (a.length : Int) < (b.length : Int) then (b.length : Int) else a.length) = M := by rw [hM]; split <;> omega
 rw [← cmpD_H oa ob (M := M) (by omega) (by omega)]
 obtain ⟨C, hC⟩ : ∃ C, C = cmpD (fun i => a.getD i 0) (fun i => b.getD i 0) := ⟨_, rfl⟩
 have hs : ∀ j, C (j + 1) = if a.getD j 0 < b.getD j 0 then -1 else if b.getD j 0 < a.getD j 0 then 1 else C j := fun j => by rw [hC, cmpD]
 have h0 : C 0 = 0 := by rw [hC, cmpD]
 rw [← hC]
 refine FnOk.of Tryz.func170 rfl rfl fun cx w0 => ?_
 rw [show Tryz.f170.ntmps = 32 from rfl]
 refine zs0 ?_
 refine Holds.next (fun σ => C M = 0 ∧ ∀ x w, Rel cx w0 σ x w → Rel cx w0 { nt := 32, env := [], mem := [] } x w) ?_ ?_
 ·refine zs1 hmax ?_
  refine Holds.loopB (fun j : Nat => { nt := 32, env := [(5, .v true (.int .i64 ((j : Int) - 1))), (0, .v false (words a)), (1, .v false (words b))], mem := [] }) (fun j => j ≤ M ∧ C M = C j) id M ⟨Nat.le_refl _, rfl⟩ (fun x w hr => Rel.keep [5, 0, 1] [] hr) ?_
  rintro j ⟨hj, hCj⟩
  rcases j with _ | j
  ·refine Holds.seq ?_
   refine zs0 ?_
   exact Holds.condF rfl (Holds.exit ⟨rfl, by rw [hCj, h0], fun x w hr => Rel.keep [] [] hr⟩)
  ·have dA := digit_ok a j (by omega)
   have dB := digit_ok b j (by omega)
   have hsj := hs j
   rw [← hCj] at hsj
   obtain ⟨p, hp⟩ : ∃ p, p = a.getD j 0 := ⟨_, rfl⟩
   obtain ⟨q, hq⟩ : ∃ q, q = b.getD j 0 := ⟨_, rfl⟩
   rw [← hp] at dA hsj
   rw [← hq] at dB hsj
   refine Holds.seq ?_
   refine zs0 ?_
   refine Holds.condT rfl (Holds.skip ?_)
   refine Holds.next (fun σ => C M = C j ∧ ∀ x w, Rel cx w0 σ x w → Rel cx w0 { nt := 32, env := [(5, .v true (.int .i64 (j : Int))), (0, .v false (words a)), (1, .v false (words b))], mem := [] } x w) ?_ ?_
   ·refine Holds.blockN ?_
    refine zs2 (ρ := fun d => if d = 20 then [.v true (.int .u64 p)] else [.v true (.int .u64 q)]) (o := by repeat' first|exact dA|exact dB|trivial|constructor) (k := ?_)
    refine Holds.blockN ?_
    rcases Int.lt_trichotomy p q with h | h | h
    ·rw [if_pos h] at hsj
     refine zs1 h ?_
     refine Holds.condT rfl ?_
     rw [hsj]
     refine zs0 ?_
     exact Holds.ret (RetOk.vs rfl (by exact ⟨⟨rfl, id⟩, trivial⟩) rfl)
    ·have n1 : ¬ p < q := by omega
     have n2 : ¬ q < p := by omega
     rw [if_neg n1, if_neg n2] at hsj
     refine zs1 (an n1 <| n2) ?_
     refine Holds.condF rfl ?_
     refine zs1 (an n1 <| n2) ?_
     exact Holds.condF rfl (Holds.skip ⟨hsj, fun x w hr => Rel.keep [5, 0, 1] [] hr⟩)
    ·have n1 : ¬ p < q := by omega
     rw [if_neg n1, if_pos h] at hsj
     refine zs1 (an n1 <| h) ?_
     refine Holds.condF rfl ?_
     refine zs1 (an n1 <| h) ?_
     refine Holds.condT rfl ?_
     rw [hsj]
     refine zs0 ?_
     exact Holds.ret (RetOk.vs rfl (by exact ⟨⟨rfl, id⟩, trivial⟩) rfl)
   ·rintro σ ⟨hC2, hσ⟩
    refine Holds.from hσ ?_
    refine zr0 ?_
    exact ⟨j, ⟨by omega, hC2⟩, (show j < j + 1 by omega), fun x w hr => Rel.keep [5, 0, 1] [] hr⟩
 ·rintro σ ⟨hC0, hσ⟩
  rw [hC0]
  refine Holds.from hσ ?_
  refine zs0 ?_
  exact Holds.ret (RetOk.vs rfl (by exact ⟨⟨rfl, id⟩, trivial⟩) rfl)
theorem rCmp_ok (x y : List Int) (hx : x.length < 40000) (hy : y.length < 40000) (ox : okW x) (oy : okW y) : FnOk Tryz.prog 124 [.v (words x), .v (words y)] [.v true (.int .i64 (cmpN (val x) (val y)))] := by
 have h1 := Digits_ok x (by omega) ox
 have h2 := Digits_ok y (by omega) oy
 have lx := digL_len x
 have ly := digL_len y
 have h3 := Compare_ok (digL x) (digL y) (by omega) (by omega) (digL_ok ox) (digL_ok oy)
 rw [val_dig ox, val_dig oy] at h3
 refine FnOk.of Tryz.func124 rfl rfl fun cx w0 => ?_
 rw [show Tryz.f124.ntmps = 10 from rfl]
 refine zs0 ?_
 refine zs2 (ρ := fun d => if d = 6 then [.v true (words (digL x))] else if d = 8 then [.v true (words (digL y))] else [.v true (.int .i64 (cmpN (val x) (val y)))]) (o := by repeat' first|exact h1|exact h2|exact h3|trivial|constructor) (k := ?_)
 exact Holds.ret (RetOk.vs rfl (by exact ⟨⟨rfl, id⟩, trivial⟩) rfl)
def mnC (f g : Nat → Int) : Nat → Int
 | 0 => 0
 | k + 1 => if f k < g k + mnC f g k then 1 else 0
def mnD (B : Int) (f g : Nat → Int) (k : Nat) : Int := (f k - g k - mnC f g k) % B
def mnW (B : Int) (f g : Nat → Int) (k : Nat) : List Int := (List.range k).map (mnD B f g)
theorem mnW_len (B : Int) (f g : Nat → Int) (k : Nat) : (mnW B f g k).length = k := by rw [mnW, List.length_map, List.length_range]
theorem mnW_succ (B : Int) (f g : Nat → Int) (k : Nat) : mnW B f g (k + 1) = mnW B f g k ++ [mnD B f g k] := by rw [mnW, List.range_succ, List.map_append]; rfl
theorem mnC_01 (f g : Nat → Int) : ∀ k, mnC f g k = 0 ∨ mnC f g k = 1
 | 0 => .inl rfl
 | k + 1 => by rw [mnC]; split <;> simp
theorem mn_val {B : Nat} (hB : 0 < B) {f g : Nat → Int} {F G W : Nat → Nat} (hF0 : F 0 = 0) (hG0 : G 0 = 0) (hW0 : W 0 = 0) (hF : ∀ j, F (j + 1) = F j + B ^ j * (f j).toNat) (hG : ∀ j, G (j + 1) = G j + B ^ j * (g j).toNat)
 (hW : ∀ j, W (j + 1) = W j + B ^ j * (mnD B f g j).toNat) (bf : ∀ j, 0 ≤ f j ∧ f j < B) (bg : ∀ j, 0 ≤ g j ∧ g j < B) : ∀ k, W k < B ^ k ∧ F k + B ^ k * (mnC f g k).toNat = G k + W k
 | 0 => by rw [hF0, hG0, hW0]; exact ⟨by simp, rfl⟩
 | k + 1 => by
   obtain ⟨h1, h2⟩ := mn_val hB hF0 hG0 hW0 hF hG hW bf bg k
   obtain ⟨f0, f1⟩ := bf k
   obtain ⟨g0, g1⟩ := bg k
   have hc := mnC_01 f g k
   have d0 : 0 ≤ mnD B f g k := Int.emod_nonneg _ (by omega)
   have d1 : mnD B f g k < B := Int.emod_lt_of_pos _ (by omega)
   have e : (f k).toNat + B * (mnC f g (k + 1)).toNat = (g k).toNat + (mnD B f g k).toNat + (mnC f g k).toNat := by
    rw [mnC]
    by_cases h : f k < g k + mnC f g k
    ·have hd : mnD B f g k = f k - g k - mnC f g k + B := by
      rw [mnD, ← Int.add_emod_right, Int.emod_eq_of_lt (by omega) (by omega)]
     rw [if_pos h]
     show _ + B * 1 = _
     omega
    ·have hd : mnD B f g k = f k - g k - mnC f g k := by
      rw [mnD, Int.emod_eq_of_lt (by omega) (by omega)]
     rw [if_neg h]
     show _ + B * 0 = _
     omega
   have e2 : B ^ k * ((f k).toNat + B * (mnC f g (k + 1)).toNat) = B ^ k * ((g k).toNat + (mnD B f g k).toNat + (mnC f g k).toNat) := by rw [e]
   have hp : B ^ (k + 1) = B ^ k * B := Nat.pow_succ ..
   rw [Nat.mul_add, Nat.mul_add, Nat.mul_add, ← Nat.mul_assoc, ← hp] at e2
   refine ⟨?_, by rw [hF, hG, hW]; omega⟩
   have h3 : B ^ k * ((mnD B f g k).toNat + 1) ≤ B ^ k * B := Nat.mul_le_mul_left _ (by omega)
   rw [Nat.mul_add, Nat.mul_one, ← hp] at h3
   rw [hW]
   omega
theorem mnW_32 {x y : List Int} (ox : okH x) (oy : okH y) (hl : y.length ≤ x.length) (h : valH y ≤ valH x) : okH (mnW 4294967296 (fun i => x.getD i 0) (fun i => y.getD i 0) x.length) ∧ valH (mnW 4294967296 (fun i => x.getD i 0) (fun i => y.getD i 0) x.length) = valH x - valH y := by
 have key := mn_val (B := 4294967296) (by decide) (F := fun j => valH (x.take j)) (G := fun j => valH (y.take j)) (W := fun j => valH (mnW 4294967296 (fun i => x.getD i 0) (fun i => y.getD i 0) j)) (f := fun i => x.getD i 0) (g := fun i => y.getD i 0) rfl rfl rfl (fun j => valH_takeS j) (fun j => valH_takeS j)
  (fun j => by simp only [mnW_succ]; rw [valH_append, mnW_len]; simp [valH]) (okH_getD ox) (okH_getD oy) x.length
 simp only [List.take_length, List.take_of_length_le hl] at key
 obtain ⟨k1, k2⟩ := key
 refine ⟨fun n hn => ?_, ?_⟩
 ·rw [mnW] at hn
  obtain ⟨j, _, rfl⟩ := List.mem_map.1 hn
  exact ⟨Int.emod_nonneg _ (by decide), Int.emod_lt_of_pos _ (by decide)⟩
 ·rcases mnC_01 (fun i => x.getD i 0) (fun i => y.getD i 0) x.length with hc | hc
  ·rw [hc, show (0 : Int).toNat = 0 from rfl, Nat.mul_zero, Nat.add_zero] at k2
   omega
  ·rw [hc, show (1 : Int).toNat = 1 from rfl, Nat.mul_one] at k2
   omega
def mnA (k : Nat) : AV := if k = 0 then .nil else .own 300 0 k
def mnB (W : Nat → List Int) (k : Nat) : List (Nat × Blk) := if k = 0 then [] else [(300, .buf 76 1 true ((W k).map fun n => .int .u64 n))]
theorem mnA_s (k : Nat) : mnA (k + 1) = .own 300 0 (k + 1) := if_neg (by omega)
theorem mnB_s (W : Nat → List Int) (k : Nat) : mnB W (k + 1) = [(300, .buf 76 1 true ((W (k + 1)).map fun n => .int .u64 n))] := if_neg (by omega)
theorem Minus_ok (a b : List Int) (hal : a.length < 100000) (hbl : b.length < 100000) (oa : okH a) (ob : okH b) :
 FnOk Tryz.prog 172 [.v (words a), .v (words b)] [.v true (words (mnW 4294967296 (fun i => a.getD i 0) (fun i => b.getD i 0) a.length)), .v true (.bool (decide (mnC (fun i => a.getD i 0) (fun i => b.getD i 0) a.length = 1)))] := by
 obtain ⟨W, hW⟩ : ∃ W, W = mnW 4294967296 (fun i => a.getD i 0) (fun i => b.getD i 0) := ⟨_, rfl⟩
 obtain ⟨C, hC⟩ : ∃ C, C = mnC (fun i => a.getD i 0) (fun i => b.getD i 0) := ⟨_, rfl⟩
 have C01 : ∀ k, C k = 0 ∨ C k = 1 := fun k => by rw [hC]; exact mnC_01 _ _ k
 have C0 : C 0 = 0 := by rw [hC, mnC]
 have Cs : ∀ k, C (k + 1) = if a.getD k 0 < b.getD k 0 + C k then 1 else 0 := fun k => by rw [hC, mnC]
 have Ws : ∀ k, W (k + 1) = W k ++ [(a.getD k 0 - b.getD k 0 - C k) % 4294967296] := fun k => by rw [hW, mnW_succ, hC]; rfl
 have Wl : ∀ k, (W k).length = k := fun k => by rw [hW, mnW_len]
 have W0 : W 0 = [] := List.eq_nil_of_length_eq_zero (Wl 0)
 rw [← hW, ← hC]
 refine FnOk.of Tryz.func172 rfl rfl fun cx w0 => ?_
 rw [show Tryz.f172.ntmps = 38 from rfl]
 refine Holds.step (Px := px) (T := TT) (ρ := fun _ => []) TTe (by simp (maxSteps := 100000) (disch := omega) only [go_sem, V.isAgg, V.flat, ↓reduceIte, Nat.reduceAdd, Nat.reduceSub, Nat.reduceLT, Nat.reduceEqDiff, reduceCtorEq, Nat.reduceLeDiff, Nat.reduceBEq, Nat.reduceMul, Int.reduceToNat, List.length_cons, List.length_nil]; rfl) (by repeat' first | exact trivial | constructor) ?_
 refine Holds.step (Px := px) (T := TT) (ρ := fun _ => []) TTe (by simp (maxSteps := 100000) (disch := omega) only [go_sem, V.isAgg, V.flat, ↓reduceIte, Nat.reduceAdd, Nat.reduceSub, Nat.reduceLT, Nat.reduceEqDiff, reduceCtorEq, Nat.reduceLeDiff, Nat.reduceBEq, Nat.reduceMul, Int.reduceToNat]; rfl) (by repeat' first | exact trivial | constructor) ?_
 refine Holds.step (Px := px) (T := TT) (ρ := fun _ => []) TTe (by simp (maxSteps := 100000) (disch := omega) only [go_sem, V.isAgg, V.flat, ↓reduceIte, Nat.reduceAdd, Nat.reduceSub, Nat.reduceLT, Nat.reduceEqDiff, reduceCtorEq, Nat.reduceLeDiff, Nat.reduceBEq, Nat.reduceMul, Int.reduceToNat]; rfl) (by repeat' first | exact trivial | constructor) ?_
 refine Holds.next (fun σ => ∀ x w, Rel cx w0 σ x w → Rel cx w0 { nt := 38, env := [(7, .v true (.int .u64 (C a.length))), (6, mnA a.length)], mem := mnB W a.length } x w) ?_ ?_
 ·refine Holds.step (Px := px) (T := TT) (ρ := fun _ => []) TTe (by simp (maxSteps := 100000) (disch := omega) only [go_sem, V.isAgg, V.flat, ↓reduceIte, Nat.reduceAdd, Nat.reduceSub, Nat.reduceLT, Nat.reduceEqDiff, reduceCtorEq, Nat.reduceLeDiff, Nat.reduceBEq, Nat.reduceMul, Int.reduceToNat]; rfl) (by repeat' first | exact trivial | constructor) ?_
  refine Holds.loopB (fun k : Nat => { nt := 38, env := [(8, .v true (.int .i64 k)), (7, .v true (.int .u64 (C k))), (6, mnA k), (0, .v false (words a)), (1, .v false (words b))], mem := mnB W k }) (fun k => k ≤ a.length) (fun k => a.length - k) 0 (Nat.zero_le _) (fun x w hr => by
   rw [C0]
   exact Rel.keep [8, 7, 6, 0, 1] [] hr) ?_
  intro k hk
  by_cases hend : k = a.length
  ·refine Holds.seq ?_
   refine Holds.step (Px := px) (T := TT) (ρ := fun _ => []) TTe (by simp (maxSteps := 100000) (disch := omega) only [go_sem, V.isAgg, V.flat, ↓reduceIte, Nat.reduceAdd, Nat.reduceSub, Nat.reduceLT, Nat.reduceEqDiff, reduceCtorEq, Nat.reduceLeDiff, Nat.reduceBEq, Nat.reduceMul, Int.reduceToNat]; rfl) (by repeat' first | exact trivial | constructor) ?_
   refine Holds.condF rfl (Holds.exit ⟨rfl, fun x w hr => ?_⟩)
   rw [← hend]
   exact Rel.less [7, 6] (fun _ => rfl) hr
  ·have hka : k < a.length := by omega
   have ga := get_map hka
   have ha := okH_getD oa k
   have hb := okH_getD ob k
   have hc := C01 k
   have dB := digit_ok b k (by omega)
   have hCs := Cs k
   have hWs := Ws k
   have hWl := Wl k
   obtain ⟨p, hp⟩ : ∃ p, p = a.getD k 0 := ⟨_, rfl⟩
   obtain ⟨q, hq⟩ : ∃ q, q = b.getD k 0 := ⟨_, rfl⟩
   obtain ⟨c, hcc⟩ : ∃ c, c = C k := ⟨_, rfl⟩
   rw [← hp] at ga ha hCs hWs
   rw [← hq] at hb dB hCs hWs
   rw [← hcc] at hc hCs hWs ⊢
   have e1 : IntKind.u64.wrap (p + 4294967296) = p + 4294967296 := by rw [wrap_u64]; omega
   have e2 : IntKind.u64.wrap (p + 4294967296 - q) = p + 4294967296 - q := by rw [wrap_u64]; omega
   obtain ⟨X, hX⟩ : ∃ X, X = p + 4294967296 - q - c := ⟨_, rfl⟩
   have e3 : IntKind.u64.wrap (p + 4294967296 - q - c) = X := by rw [wrap_u64, hX]; omega
   have e4 : X.tmod 4294967296 = (p - q - c) % 4294967296 := by rw [Int.tmod_eq_emod_of_nonneg (by omega)]; omega
   have e4' : IntKind.u64.wrap ((p - q - c) % 4294967296) = (p - q - c) % 4294967296 := by rw [wrap_u64]; omega
   have e5 : X.tdiv 4294967296 = X / 4294967296 := Int.tdiv_eq_ediv_of_nonneg (by omega)
   have e5' : IntKind.u64.wrap (X / 4294967296) = X / 4294967296 := by rw [wrap_u64]; omega
   have e6 : IntKind.u64.wrap (1 - X / 4294967296) = C (k + 1) := by
    rw [wrap_u64, hCs]
    split <;> omega
   refine Holds.seq ?_
   refine Holds.step (Px := px) (T := TT) (ρ := fun _ => []) TTe (by simp (maxSteps := 100000) (disch := omega) only [go_sem, V.isAgg, V.flat, ↓reduceIte, Nat.reduceAdd, Nat.reduceSub, Nat.reduceLT, Nat.reduceEqDiff, reduceCtorEq, Nat.reduceLeDiff, Nat.reduceBEq, Nat.reduceMul, Int.reduceToNat]; rfl) (by repeat' first | exact trivial | constructor) ?_
   refine Holds.condT rfl (Holds.skip ?_)
   refine Holds.next (fun σ => ∀ x w, Rel cx w0 σ x w → Rel cx w0 { nt := 38, env := [(8, .v true (.int .i64 k)), (7, .v true (.int .u64 (C (k + 1)))), (6, mnA (k + 1)), (0, .v false (words a)), (1, .v false (words b))], mem := mnB W (k + 1) } x w) ?_ ?_
   ·refine Holds.blockN ?_
    refine Holds.dstep (Px := px) (T := TT) (ρ := fun _ => [.v true (.int .u64 q)]) [] mixed (by kernel_rfl) TTe (by simp (maxSteps := 100000) (disch := omega) only [go_sem, V.isAgg, V.flat, ↓reduceIte, Nat.reduceAdd, Nat.reduceSub, Nat.reduceLT, Nat.reduceEqDiff, reduceCtorEq, Nat.reduceLeDiff, Nat.reduceBEq, Nat.reduceMul, Int.reduceToNat, ga, e1, e2, e3]; rfl) (by first | exact dB | (repeat' first | exact trivial | exact dB | constructor)) (by rfl) (by rfl) (by rfl) ?_
    rcases k with _ | k
    ·refine Holds.step (Px := px) (T := TT) (ρ := fun _ => []) TTe (by simp (maxSteps := 100000) (disch := omega) only [go_sem, V.isAgg, V.flat, ↓reduceIte, Nat.reduceAdd, Nat.reduceSub, Nat.reduceLT, Nat.reduceEqDiff, reduceCtorEq, Nat.reduceLeDiff, Nat.reduceBEq, Nat.reduceMul, Int.reduceToNat, e4, e4', mnA, mnB]; rfl) (by repeat' first | exact trivial | constructor) ?_
     refine Holds.region (Px := px) (T := TT) (ρ := fun _ => []) TTe (by simp (maxSteps := 100000) (disch := omega) only [go_sem, V.isAgg, V.flat, ↓reduceIte, Nat.reduceAdd, Nat.reduceSub, Nat.reduceLT, Nat.reduceEqDiff, reduceCtorEq, Nat.reduceLeDiff, Nat.reduceBEq, Nat.reduceMul, Int.reduceToNat, e5, e5', e6]; rfl) (by repeat' first | exact trivial | constructor) ?_
     intro x w h
     have := Rel.ren (s := 31) (s' := 300) (Rel.keep [8, 7, 6, 0, 1] [31] h) (by decide) rfl rfl
     rw [mnB, if_neg (by omega), hWs, W0, mnA, if_neg (by omega)]
     exact this
    ·rw [mnA_s, mnB_s]
     refine Holds.step (Px := px) (T := TT) (ρ := fun _ => []) TTe (by simp (maxSteps := 100000) (disch := omega) only [go_sem, V.isAgg, V.flat, ↓reduceIte, Nat.reduceAdd, Nat.reduceSub, Nat.reduceLT, Nat.reduceEqDiff, reduceCtorEq, Nat.reduceLeDiff, Nat.reduceBEq, Nat.reduceMul, Int.reduceToNat, e4, e4', hWl]; rfl) (by repeat' first | exact trivial | constructor) ?_
     refine Holds.region (Px := px) (T := TT) (ρ := fun _ => []) TTe (by simp (maxSteps := 100000) (disch := omega) only [go_sem, V.isAgg, V.flat, ↓reduceIte, Nat.reduceAdd, Nat.reduceSub, Nat.reduceLT, Nat.reduceEqDiff, reduceCtorEq, Nat.reduceLeDiff, Nat.reduceBEq, Nat.reduceMul, Int.reduceToNat, e5, e5', e6]; rfl) (by repeat' first | exact trivial | constructor) ?_
     intro x w h
     have := Rel.ren (s := 31) (s' := 300) (Rel.keep [8, 7, 6, 0, 1] [31] h) (by decide) rfl rfl
     rw [mnB, if_neg (by omega), hWs, mnA, if_neg (by omega), List.map_append]
     exact this
   ·intro σ hσ
    refine Holds.from hσ ?_
    refine Holds.region (Px := px) (T := TT) (ρ := fun _ => []) TTe (by simp (maxSteps := 100000) (disch := omega) only [go_sem, V.isAgg, V.flat, ↓reduceIte, Nat.reduceAdd, Nat.reduceSub, Nat.reduceLT, Nat.reduceEqDiff, reduceCtorEq, Nat.reduceLeDiff, Nat.reduceBEq, Nat.reduceMul, Int.reduceToNat]; rfl) (by repeat' first | exact trivial | constructor) ?_
    exact ⟨k + 1, (by show k + 1 ≤ a.length; omega), (show a.length - (k + 1) < a.length - k by omega), fun x w hr => Rel.less [8, 7, 6, 0, 1] (fun _ => rfl) hr⟩
 ·intro σ hσ
  refine Holds.from hσ ?_
  have hWl := Wl a.length
  obtain ⟨b1, hb1⟩ : ∃ b1, b1 = decide (C a.length = 1) := ⟨_, rfl⟩
  rw [mnA, mnB, ← hb1]
  by_cases h0 : a.length = 0
  ·rw [if_pos h0, if_pos h0, h0, W0]
   have hbf : b1 = false := by rw [hb1, h0, C0]; rfl
   rw [hbf, C0]
   refine Holds.step (Px := px) (T := TT) (ρ := fun _ => []) TTe (by simp (maxSteps := 100000) (disch := omega) only [go_sem, V.isAgg, V.flat, ↓reduceIte, Nat.reduceAdd, Nat.reduceSub, Nat.reduceLT, Nat.reduceEqDiff, reduceCtorEq, Nat.reduceLeDiff, Nat.reduceBEq, Nat.reduceMul, Int.reduceToNat]; rfl) (by repeat' first | exact trivial | constructor) ?_
   exact Holds.ret ⟨_, [], rfl, ⟨rfl, ⟨rfl, id⟩, trivial⟩, by simp [R.names, R.mems, R.blks], by simp, rfl⟩
  ·rw [if_neg h0, if_neg h0]
   refine Holds.step (Px := px) (T := TT) (ρ := fun _ => []) TTe (by simp (maxSteps := 100000) (disch := omega) only [go_sem, V.isAgg, V.flat, ↓reduceIte, Nat.reduceAdd, Nat.reduceSub, Nat.reduceLT, Nat.reduceEqDiff, reduceCtorEq, Nat.reduceLeDiff, Nat.reduceBEq, Nat.reduceMul, Int.reduceToNat, ← hb1]; rfl) (by repeat' first | exact trivial | constructor) ?_
   exact Holds.ret ⟨_, [], rfl, ⟨⟨rfl, by rw [List.drop_zero, List.take_of_length_le (by rw [List.length_map, hWl]; exact Nat.le_refl _)], id, rfl⟩, ⟨rfl, id⟩, trivial⟩, by simp [R.names, R.mems, R.blks], by simp, rfl⟩
def dvH (k : Nat) : List Int → List Int × Nat
 | [] => ([], 0)
 | a :: r => ((((dvH k r).2 * 4294967296 + a.toNat) / k : Nat) :: (dvH k r).1, ((dvH k r).2 * 4294967296 + a.toNat) % k)
theorem dvH_ok {k : Nat} (hk : 0 < k) : ∀ {x : List Int}, okH x → (dvH k x).2 < k ∧ okH (dvH k x).1 ∧ (dvH k x).1.length = x.length ∧ valH (dvH k x).1 * k + (dvH k x).2 = valH x
 | [], _ => ⟨hk, (fun n hn => by cases hn), rfl, by simp [dvH, valH]⟩
 | a :: r, o => by
   obtain ⟨h1, h2, h3, h4⟩ := dvH_ok hk (x := r) fun n hn => o n (by simp [hn])
   have ha := o a (by simp)
   obtain ⟨s, hs⟩ : ∃ s, s = (dvH k r).2 := ⟨_, rfl⟩
   obtain ⟨W, hW⟩ : ∃ W, W = (dvH k r).1 := ⟨_, rfl⟩
   have e : dvH k (a :: r) = ((((s * 4294967296 + a.toNat) / k : Nat) : Int) :: W, (s * 4294967296 + a.toNat) % k) := by rw [dvH, hs, hW]
   rw [← hs] at h1 h4
   rw [← hW] at h2 h3 h4
   rw [e]
   have hq : (s * 4294967296 + a.toNat) / k < 4294967296 := by
    refine (Nat.div_lt_iff_lt_mul hk).2 ?_
    have : (s + 1) * 4294967296 ≤ k * 4294967296 := Nat.mul_le_mul_right _ h1
    omega
   refine ⟨Nat.mod_lt _ hk, fun n hn => ?_, by simp [h3], ?_⟩
   ·rcases List.mem_cons.1 hn with rfl | hn
    ·obtain ⟨q, hq'⟩ : ∃ q, q = (s * 4294967296 + a.toNat) / k := ⟨_, rfl⟩
     rw [← hq'] at hq ⊢
     omega
    ·exact h2 n hn
   ·have hd := Nat.div_add_mod (s * 4294967296 + a.toNat) k
    simp only [valH, Int.toNat_natCast]
    rw [← h4, Nat.add_mul, Nat.mul_comm _ k, Nat.mul_add, Nat.mul_assoc]
    omega
theorem dvH_drop {k j : Nat} {x : List Int} (h : j < x.length) : dvH k (x.drop j) = (((((dvH k (x.drop (j + 1))).2 * 4294967296 + (x.getD j 0).toNat) / k : Nat) : Int) :: (dvH k (x.drop (j + 1))).1, ((dvH k (x.drop (j + 1))).2 * 4294967296 + (x.getD j 0).toNat) % k) := by
 rw [List.drop_eq_getElem_cons h, dvH, List.getD_eq_getElem?_getD, List.getElem?_eq_getElem h]; rfl
theorem dvH_val {k : Nat} (hk : 0 < k) {x : List Int} (o : okH x) : valH (dvH k x).1 = valH x / k ∧ (dvH k x).2 = valH x % k := by
 obtain ⟨h1, _, _, h4⟩ := dvH_ok hk o
 obtain ⟨v, hv⟩ : ∃ v, v = valH (dvH k x).1 := ⟨_, rfl⟩
 obtain ⟨s, hs⟩ : ∃ s, s = (dvH k x).2 := ⟨_, rfl⟩
 rw [← hv, ← hs] at h4
 rw [← hs] at h1
 rw [← hv, ← hs, ← h4, Nat.mul_comm v k]
 exact ⟨by rw [Nat.mul_add_div hk, Nat.div_eq_of_lt h1, Nat.add_zero], by rw [Nat.mul_add_mod, Nat.mod_eq_of_lt h1]⟩
theorem one_ok (x : List Int) (k : Nat) (hx : x.length < 1000000) (ox : okH x) (hk : 0 < k) (hk2 : k < 4294967296) : FnOk Tryz.prog 171 [.v (words x), .v (.int .u64 k)] [.v true (words (dvH k x).1), .v true (words [((dvH k x).2 : Int)])] := by
 obtain ⟨_, ow, lw, _⟩ := dvH_ok hk ox
 have hk0 : ¬ (k : Int) = 0 := by omega
 refine FnOk.of Tryz.func171 rfl rfl fun cx w0 => ?_
 rw [show Tryz.f171.ntmps = 38 from rfl]
 refine zs0 ?_
 refine zs0 ?_
 refine zs0 ?_
 refine Holds.next (fun σ => ∀ a w, Rel cx w0 σ a w → Rel cx w0 { nt := 38, env := [(7, .v true (.int .u64 (dvH k x).2)), (6, .own 11 0 x.length)], mem := [(11, .buf 76 1 true ((dvH k x).1.map fun n => .int .u64 n))] } a w) ?_ ?_
 ·refine zs0 ?_
  refine Holds.loopB (fun j : Nat => { nt := 38, env := [(8, .v true (.int .i64 ((j : Int) - 1))), (7, .v true (.int .u64 (dvH k (x.drop j)).2)), (6, .own 11 0 x.length), (0, .v false (words x)), (1, .v true (.int .u64 k))], mem := [(11, .buf 76 1 true ((List.replicate j 0 ++ (dvH k (x.drop j)).1).map fun n => .int .u64 n))] }) (fun j => j ≤ x.length) id x.length (Nat.le_refl _) (fun a w h => by
   have := Rel.keep [8, 7, 6, 0, 1] [11] h
   rw [List.drop_length]
   show Rel _ _ { nt := 38, env := _, mem := [(11, .buf 76 1 true ((List.replicate x.length (0 : Int) ++ []).map fun n => .int .u64 n))] } _ _
   rw [List.append_nil, List.map_replicate]
   exact this) ?_
  intro j hj
  rcases j with _ | j
  ·refine Holds.seq ?_
   refine zs0 ?_
   refine Holds.condF rfl (Holds.exit ⟨rfl, fun a w h => ?_⟩)
   exact Rel.keep [7, 6] [11] h
  ·have hjx : j < x.length := by omega
   have gx := get_map hjx
   have hx0 := okH_getD ox j
   have ho : okH (x.drop (j + 1)) := fun n hn => ox n (List.mem_of_mem_drop hn)
   obtain ⟨r1, r2, r3, _⟩ := dvH_ok hk ho
   have hd := dvH_drop (k := k) hjx
   obtain ⟨s, hs⟩ : ∃ s, s = (dvH k (x.drop (j + 1))).2 := ⟨_, rfl⟩
   obtain ⟨W, hW⟩ : ∃ W, W = (dvH k (x.drop (j + 1))).1 := ⟨_, rfl⟩
   rw [← hs] at r1 hd
   rw [← hW] at r3 hd
   rw [← hs, ← hW]
   obtain ⟨d, hdd⟩ : ∃ d : Nat, d = (x.getD j 0).toNat := ⟨_, rfl⟩
   rw [← hdd] at hd
   rw [show x.getD j 0 = (d : Int) from by omega] at gx
   obtain ⟨t, ht⟩ : ∃ t, t = s * 4294967296 + d := ⟨_, rfl⟩
   rw [← ht] at hd
   have ht64 : t < 18446744073709551616 := by omega
   have w1 : IntKind.u64.wrap ((s : Int) * 4294967296) = ((s * 4294967296 : Nat) : Int) := by rw [wrap_u64]; omega
   have w2 : IntKind.u64.wrap (((s * 4294967296 : Nat) : Int) + (d : Int)) = (t : Int) := by rw [wrap_u64]; omega
   have w3 := quoN t k
   have w4 : IntKind.u64.wrap ((t / k : Nat) : Int) = ((t / k : Nat) : Int) := wrapN _ (Nat.lt_of_le_of_lt (Nat.div_le_self _ _) ht64)
   have w5 := remN t k
   obtain ⟨q, hq⟩ : ∃ q, q = t / k := ⟨_, rfl⟩
   obtain ⟨r, hr⟩ : ∃ r, r = t % k := ⟨_, rfl⟩
   rw [← hq, ← hr] at hd
   rw [← hq] at w3 w4
   rw [← hr] at w5
   rw [List.length_drop] at r3
   have hLl : (List.replicate (j + 1) (0 : Int) ++ W).length = x.length := by rw [List.length_append, List.length_replicate, r3]; omega
   have eset : (List.replicate (j + 1) (0 : Int) ++ W).set j (q : Int) = List.replicate j 0 ++ (q : Int) :: W := by
    rw [show List.replicate (j + 1) (0 : Int) = List.replicate j 0 ++ [0] from by rw [List.replicate_succ'], List.append_assoc, List.set_append_right _ _ (by rw [List.length_replicate]; exact Nat.le_refl _), List.length_replicate, Nat.sub_self]
    rfl
   obtain ⟨Lw, hL⟩ : ∃ Lw, Lw = List.replicate (j + 1) (0 : Int) ++ W := ⟨_, rfl⟩
   rw [← hL] at hLl eset ⊢
   have gL := get_map (l := Lw) (i := j) (by omega)
   refine Holds.seq ?_
   refine zs0 ?_
   refine Holds.condT rfl (Holds.skip ?_)
   refine Holds.next (fun σ => ∀ a w, Rel cx w0 σ a w → Rel cx w0 { nt := 38, env := [(8, .v true (.int .i64 (j : Int))), (7, .v true (.int .u64 r)), (6, .own 11 0 x.length), (0, .v false (words x)), (1, .v true (.int .u64 k))], mem := [(11, .buf 76 1 true ((Lw.set j (q : Int)).map fun n => .int .u64 n))] } a w) ?_ ?_
   ·refine Holds.blockN ?_
    refine zs1 (an gx <| an w1 <| w2) ?_
    refine zs1 (an hk0 <| an w3 <| an w4 <| an gL <| hLl) ?_
    refine zr1 (an hk0 <| w5) ?_
    intro a w h
    have := Rel.keep [8, 7, 6, 0, 1] [11] h
    rw [List.map_set]
    exact this
   ·intro σ hσ
    refine Holds.from hσ ?_
    refine zr0 ?_
    refine ⟨j, (by show j ≤ x.length; omega), (show j < j + 1 by omega), fun a w h => ?_⟩
    have := Rel.keep [8, 7, 6, 0, 1] [11] h
    rw [eset] at this
    simp only [hd]
    exact this
 ·intro σ hσ
  refine Holds.from hσ ?_
  have htk : List.take x.length (List.map (fun n => V.int .u64 n) (dvH k x).1) = List.map (fun n => V.int .u64 n) (dvH k x).1 := List.take_of_length_le (by rw [List.length_map]; omega)
  refine zs0 ?_
  exact Holds.ret ⟨_, [], rfl, ⟨⟨rfl, by rw [List.drop_zero, htk], id, rfl⟩, ⟨rfl, rfl, id, rfl⟩, trivial⟩, by simp [R.names, R.mems, R.blks], by simp, rfl⟩
theorem Divide1_ok (x y : List Int) (k : Nat) (hx : x.length < 1000000) (ox : okH x) (hk : 0 < k) (hk2 : k < 4294967296) (hy : y.length < 10000) (ht : trimL y = [(k : Int)]) :
 FnOk Tryz.prog 125 [.v (words x), .v (words y)] [.v true (words (dvH k x).1), .v true (words [((dvH k x).2 : Int)])] := by
 have h1 := Short_ok y (by omega)
 rw [ht] at h1
 have h2 := one_ok x k hx ox hk hk2
 rw [show words [(k : Int)] = .sl 1 [.int .u64 k] from rfl] at h1
 obtain ⟨Q, hQ⟩ : ∃ Q, Q = (dvH k x).1 := ⟨_, rfl⟩
 obtain ⟨r, hr⟩ : ∃ r, r = [((dvH k x).2 : Int)] := ⟨_, rfl⟩
 rw [← hQ, ← hr] at h2 ⊢
 refine FnOk.of Tryz.func125 rfl rfl fun cx w0 => ?_
 rw [show Tryz.f125.ntmps = 163 from rfl]
 refine zs0 ?_
 refine zs2 (ρ := fun _ => [.v false (.sl 1 [.int .u64 k])]) (o := by repeat' first|exact h1|trivial|constructor) (k := ?_)
 refine Holds.seq ?_
 refine zs0 ?_
 refine Holds.condT rfl ?_
 refine zs2 (ρ := fun _ => [.v true (words Q), .v true (words r)]) (o := by repeat' first|exact h2|trivial|constructor) (k := ?_)
 exact Holds.ret (RetOk.vs rfl (by exact ⟨⟨rfl, id⟩, ⟨rfl, id⟩, trivial⟩) rfl)
theorem TimesO_ok (a b : List Int) (hal : a.length < 100000) (hbl : b.length < 100000) (oa : okH a) (ob : okH b) (nm : Nat) : FnOk Tryz.prog 123 [.v (words a), .v (words b)] [.own nm 76 1 true ((timesL a b).map fun n => .int .u64 n)] := by
 refine FnOk.of Tryz.func123 rfl rfl fun cx w0 => ?_
 rw [show Tryz.f123.ntmps = 62 from rfl]
 refine zs0 ?_
 refine zs0 ?_
 obtain ⟨N, hN⟩ : ∃ N, N = a.length + b.length := ⟨_, rfl⟩
 refine Holds.next (fun σ => ∀ x w, Rel cx w0 σ x w → Rel cx w0 { nt := 62, env := [(5, .own 300 0 N)], mem := [(300, .buf 76 1 true ((timesL a b).map fun n => .int .u64 n))] } x w) ?_ ?_
 ·refine zs0 ?_
  refine Holds.loopB (fun i : Nat => { nt := 62, env := [(6, .v true (.int .i64 i)), (5, .own 300 0 N), (0, .v false (words a)), (1, .v false (words b))], mem := [(300, .buf 76 1 true ((tmO a b i).map fun n => .int .u64 n))] }) (fun i => i ≤ a.length) (fun i => a.length - i) 0 (Nat.zero_le _) (fun x w h => by
   have := Rel.ren (s := 14) (s' := 300) (Rel.keep [6, 5, 0, 1] [14] h) (by decide) rfl rfl
   rw [tmO, List.map_replicate, hN]
   exact this) ?_
  intro i hi
  obtain ⟨h1, h2, h3, h4⟩ := tmO_ok oa ob i hi
  by_cases hend : i = a.length
  ·refine Holds.seq ?_
   refine zs0 ?_
   refine Holds.condF rfl (Holds.exit ⟨rfl, fun x w h => ?_⟩)
   rw [timesL, ← hend]
   exact Rel.keep [5] [300] h
  ·have hia : i < a.length := by omega
   have hA := okH_getD oa i
   obtain ⟨A, hAe⟩ : ∃ A, A = a.getD i 0 := ⟨_, rfl⟩
   obtain ⟨s, hs⟩ : ∃ s : List Int × Int, s = (tmO a b i, 0) := ⟨_, rfl⟩
   have gA := get_map hia
   rw [← hAe] at hA gA
   have hs1 : s.1 = tmO a b i := by rw [hs]
   have hs2 : s.2 = 0 := by rw [hs]
   have os : okH s.1 := by rw [hs1]; exact h1
   have hsl : s.1.length = N := by rw [hs1, h2, hN]
   have hI := tmI_ok (i := i) hA ob os (by rw [hs2]; omega)
   refine Holds.seq ?_
   refine zs0 ?_
   refine Holds.condT rfl (Holds.skip ?_)
   refine Holds.next (fun σ => ∀ x w, Rel cx w0 σ x w → Rel cx w0 { nt := 62, env := [(6, .v true (.int .i64 i)), (5, .own 300 0 N), (0, .v false (words a)), (1, .v false (words b))], mem := [(300, .buf 76 1 true ((tmO a b (i + 1)).map fun n => .int .u64 n))] } x w) ?_ ?_
   ·refine Holds.blockN ?_
    refine zs0 ?_
    refine Holds.next (fun σ => ∀ x w, Rel cx w0 σ x w → Rel cx w0 { nt := 62, env := [(7, .v true (.int .u64 (tmI A b i s b.length).2)), (6, .v true (.int .i64 i)), (5, .own 300 0 N), (0, .v false (words a)), (1, .v false (words b))], mem := [(300, .buf 76 1 true ((tmI A b i s b.length).1.map fun n => .int .u64 n))] } x w) ?_ ?_
    ·refine zs0 ?_
     refine Holds.loopB (fun k : Nat => { nt := 62, env := [(8, .v true (.int .i64 k)), (7, .v true (.int .u64 (tmI A b i s k).2)), (6, .v true (.int .i64 i)), (5, .own 300 0 N), (0, .v false (words a)), (1, .v false (words b))], mem := [(300, .buf 76 1 true ((tmI A b i s k).1.map fun n => .int .u64 n))] }) (fun k => k ≤ b.length) (fun k => b.length - k) 0 (Nat.zero_le _) (fun x w h => by
      have := Rel.keep [8, 7, 6, 5, 0, 1] [300] h
      rw [tmI, hs]
      exact this) ?_
     intro k hk
     obtain ⟨k1, k2, k3⟩ := hI k
     by_cases hend2 : k = b.length
     ·refine Holds.seq ?_
      refine zs0 ?_
      refine Holds.condF rfl (Holds.exit ⟨rfl, fun x w h => ?_⟩)
      rw [← hend2]
      have := Rel.keep [7, 6, 5, 0, 1] [300] h
      exact this
     ·have hkb : k < b.length := by omega
      have gB := get_map hkb
      have hU := okH_getD ob k
      have hik : i + k < (tmI A b i s k).1.length := by omega
      have gZ := get_map hik
      have hZ := okH_getD k1 (i + k)
      have esucc : tmI A b i s (k + 1) = ((tmI A b i s k).1.set (i + k) (((tmI A b i s k).2 + (tmI A b i s k).1.getD (i + k) 0 + A * b.getD k 0) % 4294967296), ((tmI A b i s k).2 + (tmI A b i s k).1.getD (i + k) 0 + A * b.getD k 0) / 4294967296) := rfl
      obtain ⟨U, hUe⟩ : ∃ U, U = b.getD k 0 := ⟨_, rfl⟩
      rw [← hUe] at gB hU esucc
      obtain ⟨T, hT⟩ : ∃ T, T = tmI A b i s k := ⟨_, rfl⟩
      rw [← hT] at k1 k2 k3 hik gZ hZ esucc ⊢
      obtain ⟨z, hz⟩ : ∃ z, z = T.1.getD (i + k) 0 := ⟨_, rfl⟩
      rw [← hz] at gZ hZ esucc
      have hp := tm_bound hA hU
      obtain ⟨p, hpe⟩ : ∃ p, p = A * U := ⟨_, rfl⟩
      have e2 : IntKind.u64.wrap (A * U) = p := by rw [wrap_u64, ← hpe]; rw [← hpe] at hp; omega
      rw [← hpe] at hp esucc
      have e1 : IntKind.u64.wrap (T.2 + z) = T.2 + z := by rw [wrap_u64]; omega
      obtain ⟨q, hq⟩ : ∃ q, q = T.2 + z + p := ⟨_, rfl⟩
      have e3 : IntKind.u64.wrap (T.2 + z + p) = q := by rw [wrap_u64, hq]; omega
      rw [← hq] at esucc
      have hq0 : 0 ≤ q ∧ q < 18446744073709551616 := by omega
      have e4 : q.tmod 4294967296 = q % 4294967296 := Int.tmod_eq_emod_of_nonneg hq0.1
      have e5 : q.tdiv 4294967296 = q / 4294967296 := Int.tdiv_eq_ediv_of_nonneg hq0.1
      have e6 : IntKind.u64.wrap (q / 4294967296) = q / 4294967296 := by rw [wrap_u64]; omega
      have hadd : ((i : Int) + k).toNat = i + k := by omega
      refine Holds.seq ?_
      refine zs0 ?_
      refine Holds.condT rfl (Holds.skip ?_)
      refine Holds.next (fun σ => ∀ x w, Rel cx w0 σ x w → Rel cx w0 { nt := 62, env := [(8, .v true (.int .i64 k)), (7, .v true (.int .u64 (q / 4294967296))), (6, .v true (.int .i64 i)), (5, .own 300 0 N), (0, .v false (words a)), (1, .v false (words b))], mem := [(300, .buf 76 1 true ((T.1.set (i + k) (q % 4294967296)).map fun n => .int .u64 n))] } x w) ?_ ?_
      ·refine Holds.blockN ?_
       refine zd1 [] (an gA <| an gB <| an gZ <| an hadd <| an e1 <| an e2 <| e3) ?_
       refine zs1 (an hadd <| an e4 <| gZ) ?_
       refine zr1 (an e5 <| e6) ?_
       intro x w h
       have := Rel.keep [8, 7, 6, 5, 0, 1] [300] h
       rw [List.map_set]
       exact this
      ·intro σ hσ
       refine Holds.from hσ ?_
       refine zr0 ?_
       refine ⟨k + 1, (by show k + 1 ≤ b.length; omega), (show b.length - (k + 1) < b.length - k by omega), fun x w h => ?_⟩
       simp only [esucc]
       exact Rel.keep [8, 7, 6, 5, 0, 1] [300] h
    ·intro σ hσ
     refine Holds.from hσ ?_
     obtain ⟨k1, k2, k3⟩ := hI b.length
     have hib : i + b.length < (tmI A b i s b.length).1.length := by omega
     have gZ := get_map hib
     have hadd : ((i : Int) + b.length).toNat = i + b.length := by omega
     have e : tmO a b (i + 1) = (tmI A b i s b.length).1.set (i + b.length) (tmI A b i s b.length).2 := by rw [tmO, hAe, hs]
     refine zr1 (an gZ <| hadd) ?_
     intro x w h
     rw [e, List.map_set]
     exact Rel.keep [6, 5, 0, 1] [300] h
   ·intro σ hσ
    refine Holds.from hσ ?_
    refine zr0 ?_
    exact ⟨i + 1, (by show i + 1 ≤ a.length; omega), (show a.length - (i + 1) < a.length - i by omega), fun x w h => Rel.keep [6, 5, 0, 1] [300] h⟩
 ·intro σ hσ
  refine Holds.from hσ ?_
  have hl := (timesL_ok oa ob).2.1
  refine zs0 ?_
  exact Holds.ret ⟨_, [(nm, 300)], rfl, ⟨⟨by simp [srcOf], rfl, by rw [List.length_map, hl, hN], by simp [St.at, look]⟩, trivial⟩, by simp [R.names, R.mems, R.blks], by simp, by simp [R.names, R.mems, R.blks]⟩
theorem valH_lt : ∀ {l : List Int}, okH l → valH l < 4294967296 ^ l.length
 | [], _ => by simp [valH]
 | a :: r, o => by
   have ha := o a (by simp)
   have hr := valH_lt (l := r) fun n hn => o n (by simp [hn])
   rw [valH, List.length_cons, Nat.pow_succ]
   omega
theorem okH_drop {l : List Int} (h : okH l) (k : Nat) : okH (l.drop k) := fun n hn => h n (List.mem_of_mem_drop hn)
theorem okH_take {l : List Int} (h : okH l) (k : Nat) : okH (l.take k) := fun n hn => h n (List.mem_of_mem_take hn)
theorem getD_drop (l : List Int) (j k : Nat) : (l.drop j).getD k 0 = l.getD (j + k) 0 := by
 rw [List.getD_eq_getElem?_getD, List.getElem?_drop, ← List.getD_eq_getElem?_getD]
theorem valH_cut (l : List Int) (k : Nat) (hk : k ≤ l.length) : valH l = valH (l.take k) + 4294967296 ^ k * valH (l.drop k) := by
 have := valH_append (l.take k) (l.drop k)
 rw [List.take_append_drop, List.length_take, Nat.min_eq_left hk] at this
 exact this
theorem digit_le {w P top bt vb g : Nat} (h1 : w < P * (top + 1)) (h2 : P * bt ≤ vb) (hb : 0 < bt) (hP : 0 < P) (hg : g * vb ≤ w) : g ≤ top / bt := by
 refine (Nat.le_div_iff_mul_le hb).2 ?_
 have h3 : g * (P * bt) ≤ g * vb := Nat.mul_le_mul_left _ h2
 have h4 : P * (g * bt) < P * (top + 1) := by
  rw [Nat.mul_left_comm]; omega
 have := Nat.lt_of_mul_lt_mul_left h4
 omega
structure Win (A b : List Int) (j : Nat) (W : List Int) (w : Nat) : Prop where
 len : W.length = b.length + 1
 ok : okH W
 val : valH W = w
 lt : w < valH b * 4294967296
 all : valH A = valH (A.take j) + 4294967296 ^ j * w
 up : valH (A.drop (j + b.length + 1)) = 0
 top : w / valH b ≤ ((A.getD (j + b.length) 0).toNat * 4294967296 + (A.getD (j + b.length - 1) 0).toNat) / (b.getD (b.length - 1) 0).toNat
theorem win_ok {A b : List Int} {j : Nat} (oA : okH A) (ob : okH b) (hj : j + b.length + 1 ≤ A.length) (hn : 1 ≤ b.length) (hb : 0 < (b.getD (b.length - 1) 0).toNat) (hu : valH (A.drop (j + 1)) < valH b) :
 Win A b j ((A.drop j).take (b.length + 1)) (valH ((A.drop j).take (b.length + 1))) := by
 obtain ⟨D, hD⟩ : ∃ D, D = A.drop j := ⟨_, rfl⟩
 have oD : okH D := by rw [hD]; exact okH_drop oA j
 have lD : b.length + 1 ≤ D.length := by rw [hD, List.length_drop]; omega
 have hDt : A.drop (j + 1) = D.drop 1 := by rw [hD, List.drop_drop]
 have hDu : A.drop (j + b.length + 1) = (D.drop 1).drop b.length := by rw [hD, List.drop_drop, List.drop_drop]; congr 1; omega
 have hD0 : D = D.getD 0 0 :: D.drop 1 := by
  cases D with
  | nil => simp at lD
  | cons x r => rfl
 have d0 := okH_getD oD 0
 have gj : ∀ k, A.getD (j + k) 0 = D.getD k 0 := fun k => by rw [hD, getD_drop]
 rw [← hD]
 rw [hDt] at hu
 obtain ⟨n, hn'⟩ : ∃ n, b.length = n + 1 := ⟨b.length - 1, by omega⟩
 have hbl := valH_lt ob
 have hup : valH ((D.drop 1).drop b.length) = 0 := by
  have h1 := valH_cut (D.drop 1) b.length (by rw [List.length_drop]; omega)
  rcases Nat.eq_zero_or_pos (valH ((D.drop 1).drop b.length)) with h0 | h0
  ·exact h0
  ·have := Nat.mul_le_mul_left (4294967296 ^ b.length) h0
   omega
 have hDv : valH D = valH (D.take (b.length + 1)) := by
  have h1 := valH_cut D (b.length + 1) lD
  rw [show D.drop (b.length + 1) = (D.drop 1).drop b.length from by rw [List.drop_drop]; congr 1; omega, hup, Nat.mul_zero, Nat.add_zero] at h1
  exact h1
 have hlt : valH D < valH b * 4294967296 := by
  rw [hD0, valH]
  omega
 have ht : valH (D.take (b.length + 1)) = valH (D.take n) + 4294967296 ^ n * ((D.getD (n + 1) 0).toNat * 4294967296 + (D.getD n 0).toNat) := by
  rw [hn', valH_takeS, valH_takeS, Nat.pow_succ, Nat.mul_add, Nat.mul_assoc, Nat.mul_comm 4294967296 (D.getD (n + 1) 0).toNat]
  omega
 have htn := valH_lt (okH_take oD n)
 rw [List.length_take, Nat.min_eq_left (by omega)] at htn
 have hvb : 4294967296 ^ n * (b.getD n 0).toNat ≤ valH b := by
  have h1 := valH_takeS (l := b) n
  rw [← hn', List.take_length] at h1
  omega
 refine ⟨by rw [List.length_take]; omega, okH_take oD _, rfl, by omega, ?_, by rw [hDu]; exact hup, ?_⟩
 ·rw [← hDv, hD]
  exact valH_cut A j (by omega)
 ·rw [show j + b.length = j + (n + 1) from by omega, show j + (n + 1) - 1 = j + n from by omega, gj, gj, show b.length - 1 = n from by omega]
  rw [show b.length - 1 = n from by omega] at hb
  obtain ⟨T, hT⟩ : ∃ T, T = (D.getD (n + 1) 0).toNat * 4294967296 + (D.getD n 0).toNat := ⟨_, rfl⟩
  rw [← hT] at ht ⊢
  refine digit_le (P := 4294967296 ^ n) ?_ hvb hb (Nat.pow_pos (by decide)) (Nat.div_mul_le_self _ _)
  rw [ht, Nat.mul_add, Nat.mul_one]
  omega
theorem win_next {A b : List Int} {j : Nat} {W : List Int} {w g : Nat} (h : Win A b j W w) (hg : g = w / valH b) (oA : okH A) (hj : j + b.length + 1 ≤ A.length) {R : List Int} (oR : okH R) (lR : R.length = b.length + 1) (vR : valH R = w - g * valH b) (hb : 0 < valH b) :
 okH (A.take j ++ (R ++ A.drop (j + b.length + 1))) ∧ (A.take j ++ (R ++ A.drop (j + b.length + 1))).length = A.length ∧ valH ((A.take j ++ (R ++ A.drop (j + b.length + 1))).drop j) < valH b ∧
 valH (A.take j ++ (R ++ A.drop (j + b.length + 1))) + valH b * (4294967296 ^ j * g) = valH A := by
 have lt : (A.take j).length = j := by rw [List.length_take]; omega
 have hm : w - g * valH b < valH b ∧ g * valH b ≤ w := by
  have h1 := Nat.div_add_mod w (valH b)
  have h2 := Nat.mod_lt w hb
  rw [← hg, Nat.mul_comm] at h1
  omega
 refine ⟨?_, ?_, ?_, ?_⟩
 ·intro n hn
  rcases List.mem_append.1 hn with hn | hn
  ·exact okH_take oA j n hn
  ·rcases List.mem_append.1 hn with hn | hn
   ·exact oR n hn
   ·exact okH_drop oA _ n hn
 ·rw [List.length_append, List.length_append, lt, lR, List.length_drop]; omega
 ·rw [List.drop_left' lt, valH_append, h.up, Nat.mul_zero, Nat.add_zero, vR]
  exact hm.1
 ·rw [valH_append, valH_append, h.up, Nat.mul_zero, Nat.add_zero, vR, lt, h.all]
  obtain ⟨P, hP⟩ : ∃ P, P = 4294967296 ^ j := ⟨_, rfl⟩
  rw [← hP, Nat.mul_sub]
  have h3 : P * (g * valH b) ≤ P * w := Nat.mul_le_mul_left _ hm.2
  have e : valH b * (P * g) = P * (g * valH b) := by rw [Nat.mul_left_comm, Nat.mul_comm (valH b)]
  rw [e]
  omega
theorem borrow_iff {x y : List Int} (ox : okH x) (oy : okH y) (hl : y.length ≤ x.length) : mnC (fun i => x.getD i 0) (fun i => y.getD i 0) x.length = 1 ↔ valH x < valH y := by
 have key := mn_val (B := 4294967296) (by decide) (F := fun j => valH (x.take j)) (G := fun j => valH (y.take j)) (W := fun j => valH (mnW 4294967296 (fun i => x.getD i 0) (fun i => y.getD i 0) j)) (f := fun i => x.getD i 0) (g := fun i => y.getD i 0) rfl rfl rfl (fun j => valH_takeS j) (fun j => valH_takeS j)
  (fun j => by simp only [mnW_succ]; rw [valH_append, mnW_len]; simp [valH]) (okH_getD ox) (okH_getD oy) x.length
 simp only [List.take_length, List.take_of_length_le hl] at key
 obtain ⟨k1, k2⟩ := key
 rcases mnC_01 (fun i => x.getD i 0) (fun i => y.getD i 0) x.length with hc | hc
 ·rw [hc] at k2 ⊢
  rw [show (0 : Int).toNat = 0 from rfl, Nat.mul_zero, Nat.add_zero] at k2
  constructor
  ·intro h; cases h
  ·intro h; omega
 ·rw [hc] at k2 ⊢
  rw [show (1 : Int).toNat = 1 from rfl, Nat.mul_one] at k2
  constructor
  ·intro h; omega
  ·intro h; rfl
end Go.Proofs.YtobacemgcjnahaaGreatDoor.L
