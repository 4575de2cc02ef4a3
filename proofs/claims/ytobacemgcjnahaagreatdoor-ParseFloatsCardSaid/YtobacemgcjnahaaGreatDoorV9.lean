/-
  Ii Ij Ik Il Ip Ja Jb Jc Jd Je Jf Jg Jh Ji Jj Jk
-/
import Derived.Test.YtobacemgcjnahaaGreatDoorV4
import Derived.Test.YtobacemgcjnahaaGreatDoorV8
import Derived.Test.YtobacemgcjnahaaGreatDoorV7
import Derived.Test.YtobacemgcjnahaaGreatDoorV3
set_option linter.unusedSimpArgs false
set_option linter.unusedVariables false
set_option maxRecDepth 100000
namespace Go.Proofs.YtobacemgcjnahaaGreatDoor.L
open Go Go.RowKit Go.Proofs
attribute [local go_sem] evalOps_nil evalOps_cons runW_t runW_f runE_s runP_s wantA evalOp effOp letters okDst coreA St.opv St.get St.at look constA St.put St.upd St.set decide_true List.all_nil List.all_cons Bool.and_true Bool.true_and and_self and_true true_and if_true if_false true_or Int.sub_zero List.nil_append List.cons_append List.append_nil Option.isSome_some List.getElem?_toArray List.getElem?_cons_succ List.getElem?_cons_zero Option.bind_some Option.map_some Option.map_none beq_self_eq_true Bool.false_beq Bool.true_beq Bool.not_true Bool.not_false Bool.false_eq_true cond_true cond_false binA binI List.map_cons List.map_nil boundA List.length_nil List.length_cons Nat.zero_mul Nat.one_mul Nat.mul_one Nat.zero_add Nat.add_zero Nat.zero_le Option.toList St.freshB AV.ment AV.ments Blk.ment V.sizes Nat.lt_add_one Bool.or_true Bool.true_or Bool.or_false Bool.false_or Bool.or_self if_pos if_neg decide_false decide_eq_true decide_eq_false wrap_i64 Int.toNat_natCast minA maxA Int.natCast_add Int.cast_ofNat_Int Option.isSome_none false_implies true_implies forall_const List.drop_zero Int.toNat_zero Int.add_sub_cancel lenA sliceA loadA indexAddrA partA fitsT V.atP V.offP V.size List.length_map List.getElem?_map Int.toNat_natCast_add_one Int.ofNat_eq_natCast TY calleeA capArg knotA capArgs toArgs toArg callA R.res R.mems R.blks R.av R.names R.nw invokeA storeA storeV fieldAddrA liveB V.off V.offs V.setP List.set_cons_zero List.set_cons_succ buildA buildP partsA appendA srcA copyA boxOk makeA AV.pure List.take_succ_cons List.take_zero nilA words unA entry List.zipIdx_cons List.zipIdx_nil Arg.av Arg.avs
def rfN (s : Nat) (h : Nat) : Nat := if s = 0 then 0 else h * 2 ^ (64 - s) % 18446744073709551616
theorem shr_rf (s a h : Nat) : shr1 s a h = a / 2 ^ s + rfN s h := by
 unfold shr1 rfN
 by_cases h0 : s = 0
 ·rw [if_pos h0, h0, Nat.sub_zero, show (2 : Nat) ^ 64 = 18446744073709551616 from rfl, Nat.mul_mod_left]
 ·rw [if_neg h0]
set_option maxHeartbeats 2000000 in
theorem WRight_ok (x : List Int) (s : Nat) (hs : s < 64) (hx : x.length < 100000) (ox : okW x) : FnOk Tryz.prog 182 [.v (words x), .v (.int .i64 s)] [.v true (words (shrL s x)), .v true (.int .u64 (rfN s (x.getD 0 0).toNat : Nat))] := by
 obtain ⟨oR, lR, _⟩ := shrL_ok hs ox
 have hget := fun i h => shrL_get (r := s) x i h
 obtain ⟨S, hS⟩ : ∃ S, S = shrL s x := ⟨_, rfl⟩
 rw [← hS] at oR lR hget ⊢
 obtain ⟨F, hF⟩ : ∃ F, F = rfN s (x.getD 0 0).toNat := ⟨_, rfl⟩
 rw [← hF]
 clear hS
 refine FnOk.of Tryz.func182 rfl rfl fun cx w0 => ?_
 rw [show Tryz.f182.ntmps = 41 from rfl]
 refine zs0 ?_
 refine zs1 tby76 ?_
 refine zs0 ?_
 refine Holds.next (fun σ => ∀ a w, Rel cx w0 σ a w → Rel cx w0 { nt := 41, env := [(6, .own 11 0 x.length), (7, .v true (.int .u64 F))], mem := [(11, .buf 76 1 true (S.map fun n => .int .u64 n))] } a w) ?_ ?_
 ·refine zs0 ?_
  refine Holds.loopB (fun q : Nat × List Int => { nt := 41, env := [(8, .v true (.int .i64 ((q.1 : Int) - 1))), (7, .v true (.int .u64 (rfN s (x.getD q.1 0).toNat : Nat))), (6, .own 11 0 x.length), (0, .v false (words x)), (1, .v true (.int .i64 s))], mem := [(11, .buf 76 1 true (q.2.map fun n => .int .u64 n))] })
   (fun q => q.1 ≤ x.length ∧ q.2.length = x.length ∧ ∀ k, q.1 ≤ k → q.2.getD k 0 = S.getD k 0) (fun q => q.1) (x.length, List.replicate x.length 0) ⟨Nat.le_refl _, List.length_replicate, fun k hk => by rw [getD_far (by rw [List.length_replicate]; exact hk), getD_far (by rw [lR]; exact hk)]⟩ (fun a w h => by
     have := Rel.keep [8, 7, 6, 0, 1] [11] h
     have e0 : rfN s (0 : Int).toNat = 0 := by unfold rfN; rw [Int.toNat_zero, Nat.zero_mul, Nat.zero_mod]; split <;> rfl
     have e1 : (List.replicate x.length (0 : Int)).map (fun n => V.int .u64 n) = List.replicate x.length (V.int .u64 0) := List.map_replicate
     show Rel cx w0 { nt := 41, env := [(8, .v true (.int .i64 ((x.length : Int) - 1))), (7, .v true (.int .u64 (rfN s (x.getD x.length 0).toNat : Nat))), (6, .own 11 0 x.length), (0, .v false (words x)), (1, .v true (.int .i64 s))], mem := [(11, .buf 76 1 true ((List.replicate x.length (0 : Int)).map fun n => .int .u64 n))] } a w
     rw [getD_far (Nat.le_refl _), e0, e1]
     exact this) ?_
  rintro ⟨j, L⟩ ⟨hj, hL, hk⟩
  simp only at hj hL hk ⊢
  rcases j with _ | i
  ·refine Holds.seq ?_
   refine zs0 ?_
   refine Holds.condF rfl (Holds.exit ⟨rfl, fun a w h => ?_⟩)
   have hLS : L = S := List.ext_getElem (by rw [hL, lR]) fun k h1 h2 => by
    have := hk k (Nat.zero_le _)
    rw [List.getD_eq_getElem?_getD, List.getD_eq_getElem?_getD, List.getElem?_eq_getElem h1, List.getElem?_eq_getElem h2] at this
    exact this
   have := Rel.keep [6, 7] [11] h
   rw [hLS] at this
   rw [hF]
   exact this
  ·obtain ⟨u, hu, hu64⟩ := natW (okW_getD ox i)
   obtain ⟨v, hv, hv64⟩ := natW (okW_getD ox (i + 1))
   have gX : x[i]? = some (u : Int) := by rw [get_map (by omega), hu]
   have gL := get_map (l := L) (i := i) (by omega)
   have gS := hget i (by omega)
   rw [hu, hv, Int.toNat_natCast, Int.toNat_natCast, shr_rf] at gS
   have hlt := (shr1_ok (r := s) (h := v) hs hu64).1
   rw [shr_rf] at hlt
   rw [hv, Int.toNat_natCast]
   have ws := shrG u s (by omega)
   have whi : u / 2 ^ s ≤ u := Nat.div_le_self _ _
   have ws2 : IntKind.u64.wrap ((u / 2 ^ s : Nat) : Int) = ((u / 2 ^ s : Nat) : Int) := wrapN _ (by omega)
   have w0' : rfN s u = if s = 0 then 0 else u * 2 ^ (64 - s) % 18446744073709551616 := rfl
   obtain ⟨f, hf⟩ : ∃ f, f = rfN s v := ⟨_, rfl⟩
   obtain ⟨a, ha⟩ : ∃ a, a = u / 2 ^ s := ⟨_, rfl⟩
   rw [← hf, ← ha] at gS hlt
   rw [← ha] at ws ws2
   rw [← hf]
   have wa : IntKind.u64.wrap ((f : Int) + (a : Int)) = ((a + f : Nat) : Int) := by rw [wrap_u64]; omega
   have e1 : (((i + 1 : Nat) : Int) - 1) = (i : Int) := by omega
   rw [e1]
   have wk : IntKind.i64.wrap ((i : Int) - 1) = (i : Int) - 1 := by rw [wrap_i64] <;> omega
   have gi : (i : Int) < x.length := by omega
   have g0 : (0 : Int) ≤ (i : Int) := by omega
   obtain ⟨y, hy⟩ : ∃ y, y = a + f := ⟨_, rfl⟩
   rw [← hy] at wa gS
   refine Holds.seq ?_
   refine zs0 ?_
   refine Holds.condT rfl (Holds.skip ?_)
   refine Holds.next (fun σ => ∀ a w, Rel cx w0 σ a w → Rel cx w0 { nt := 41, env := [(8, .v true (.int .i64 (i : Int))), (7, .v true (.int .u64 (rfN s u : Nat))), (6, .own 11 0 x.length), (0, .v false (words x)), (1, .v true (.int .i64 s))], mem := [(11, .buf 76 1 true ((L.set i (y : Int)).map fun n => .int .u64 n))] } a w) ?_ ?_
   ·refine Holds.blockN ?_
    refine zs1 (an gX <| an gi <| an g0 <| an ws <| an ws2 <| an wa <| an hL <| gL) ?_
    refine zs0 ?_
    by_cases h0 : s = 0
    ·have g1 : ¬ (0 : Int) < (s : Int) := by omega
     rw [if_pos h0] at w0'
     refine zs1 g1 ?_
     exact Holds.condF rfl (Holds.skip fun a w h => by
      have := Rel.keep [8, 7, 6, 0, 1] [11] h
      rw [List.map_set, w0']
      exact this)
    ·have g1 : (0 : Int) < (s : Int) := by omega
     rw [if_neg h0] at w0'
     have w64 : (64 : Int) - (s : Int) = ((64 - s : Nat) : Int) := by omega
     have wl := shlN u (64 - s) (by omega)
     obtain ⟨z, hz⟩ : ∃ z, z = u * 2 ^ (64 - s) % 18446744073709551616 := ⟨_, rfl⟩
     rw [← hz] at wl w0'
     refine zs1 g1 ?_
     refine Holds.condT rfl ?_
     refine zr1 (an gX <| an gi <| an g0 <| an w64 <| wl) ?_
     intro a w h
     have := Rel.keep [8, 7, 6, 0, 1] [11] h
     rw [List.map_set, w0']
     exact this
   ·intro σ hσ
    refine Holds.from hσ ?_
    refine zr1 wk ?_
    refine ⟨(i, L.set i (y : Int)), ⟨by show i ≤ x.length; omega, by show (L.set i (y : Int)).length = x.length; rw [List.length_set, hL], fun k hk' => ?_⟩, (show i < i + 1 by omega), fun a w h => ?_⟩
    ·show (L.set i (y : Int)).getD k 0 = S.getD k 0
     rw [getD_set (by omega)]
     by_cases hki : i = k
     ·rw [if_pos hki, ← hki, gS]
     ·rw [if_neg hki]
      exact hk k (by omega)
    ·have := Rel.keep [8, 7, 6, 0, 1] [11] h
     simp only
     rw [hu, Int.toNat_natCast]
     exact this
 ·intro σ hσ
  refine Holds.from hσ ?_
  have htk : List.take x.length (List.map (fun n => V.int .u64 n) S) = List.map (fun n => V.int .u64 n) S := List.take_of_length_le (by rw [List.length_map, lR]; exact Nat.le_refl _)
  refine zs1 htk ?_
  exact Holds.ret (RetOk.vs rfl (by exact ⟨⟨rfl, by rw [List.drop_zero, htk], id, rfl⟩, ⟨rfl, id⟩, trivial⟩) rfl)
theorem rRight1_ok (x : List Int) (s : Nat) (hx : x.length < 40000) (hs : s < 1000000) (ox : okW x) : FnOk Tryz.prog 159 [.v (words x), .v (.int .i64 s)] [.v true (words (digs (val x / 2 ^ s)))] := by
 obtain ⟨m, hm⟩ : ∃ m, m = s / 64 := ⟨_, rfl⟩
 obtain ⟨r, hr⟩ : ∃ r, r = s % 64 := ⟨_, rfl⟩
 have hqm : (s : Int).tdiv 64 = m := by rw [hm]; exact quoN s 64
 have hrm : (s : Int).tmod 64 = r := by rw [hr]; exact remN s 64
 have hpow : (2 : Nat) ^ s = 18446744073709551616 ^ m * 2 ^ r := by
  have hs' : s = 64 * m + r := by omega
  rw [hs', Nat.pow_add, Nat.pow_mul, show (2 : Nat) ^ 64 = 18446744073709551616 from rfl]
 have hrl : r < 64 := by omega
 have hml : m < 20000 := by omega
 rw [hpow]
 clear hpow hm hr
 refine FnOk.of Tryz.func159 rfl rfl fun cx w0 => ?_
 rw [show Tryz.f159.ntmps = 24 from rfl]
 refine zs0 ?_
 refine Holds.seq ?_
 by_cases hmX : x.length ≤ m
 ·have : val x / (18446744073709551616 ^ m * 2 ^ r) = 0 := by
   refine Nat.div_eq_of_lt ?_
   have h2 := val_lt ox
   have h3 : 18446744073709551616 ^ x.length ≤ 18446744073709551616 ^ m := Nat.pow_le_pow_right (by decide) hmX
   have h4 : 18446744073709551616 ^ m * 1 ≤ 18446744073709551616 ^ m * 2 ^ r := Nat.mul_le_mul_left _ (Nat.pow_pos (by decide))
   omega
  rw [this]
  have g : (x.length : Int) ≤ m := by omega
  refine zs1 (an hqm <| g) ?_
  refine Holds.condT rfl ?_
  refine zs0 ?_
  exact Holds.ret ⟨_, [], rfl, ⟨rfl, trivial⟩, by simp [R.names, R.mems, R.blks], by simp, rfl⟩
 have g : ¬ (x.length : Int) ≤ m := by omega
 have hcut : val x / (18446744073709551616 ^ m * 2 ^ r) = val (shrL r (x.drop m)) := by
  rw [shrL_val hrl (okW_dropN ox m), ← Nat.div_div_eq_div_mul]
  congr 1
  have e : val x = val (x.take m) + 18446744073709551616 ^ m * val (x.drop m) := by
   have := val_append (x.take m) (x.drop m)
   rw [List.take_append_drop, List.length_take, Nat.min_eq_left (by omega)] at this
   exact this
  have h2 := val_lt (okW_take ox m)
  rw [List.length_take, Nat.min_eq_left (by omega)] at h2
  rw [e, Nat.add_comm, Nat.mul_add_div (Nat.pow_pos (by decide)), Nat.div_eq_of_lt h2, Nat.add_zero]
 rw [hcut]
 have oY := okW_dropN ox m
 have lY : (x.drop m).length = x.length - m := List.length_drop
 have hW := WRight_ok (x.drop m) r hrl (by omega) oY
 obtain ⟨oR, lR, _⟩ := shrL_ok hrl oY
 have hT := rTrim_ok (shrL r (x.drop m)) (by omega) oR
 have hdr : List.drop m (List.map (fun n => V.int .u64 n) x) = List.map (fun n => V.int .u64 n) (x.drop m) := List.map_drop.symm
 have htk0 : List.take x.length (List.map (fun n => V.int .u64 n) x) = List.map (fun n => V.int .u64 n) x := List.take_of_length_le (by rw [List.length_map]; exact Nat.le_refl _)
 have gm : (0 : Int) ≤ m := by omega
 have gm2 : (m : Int) ≤ x.length := by omega
 obtain ⟨Y, hY⟩ : ∃ Y, Y = x.drop m := ⟨_, rfl⟩
 rw [← hY] at hW hdr hT ⊢
 obtain ⟨S, hS⟩ : ∃ S, S = shrL r Y := ⟨_, rfl⟩
 rw [← hS] at hW hT ⊢
 obtain ⟨D, hD⟩ : ∃ D, D = digs (val S) := ⟨_, rfl⟩
 rw [← hD] at hT ⊢
 obtain ⟨F, hF⟩ : ∃ F, F = rfN r (Y.getD 0 0).toNat := ⟨_, rfl⟩
 rw [← hF] at hW
 clear hcut oY lY lR oR hF hY hS hD
 refine zs1 (an hqm <| g) ?_
 refine Holds.condF rfl (Holds.skip ?_)
 refine zs3 (ρ := fun _ => [.v true (words S), .v true (.int .u64 F)]) (an hqm <| an hrm <| an gm <| an gm2 <| an hdr <| htk0) (o := by repeat' first|exact hW|trivial|constructor) (k := ?_)
 refine zs2 (ρ := fun _ => [.v true (words D)]) (o := by repeat' first|exact hT|trivial|constructor) (k := ?_)
 exact Holds.ret (RetOk.vs rfl (by exact ⟨⟨rfl, id⟩, trivial⟩) rfl)
theorem cntS_top (u : Nat) : ∀ j, u % 2 ^ j ≠ 0 → (cntS u j).1 = 64 - (blN (u % 2 ^ j) : Int)
 | 0, h => absurd (Nat.mod_one u) h
 | j + 1, h => by
   have hm : u % 2 ^ (j + 1) = u % 2 ^ j + 2 ^ j * (u / 2 ^ j % 2) := by rw [Nat.pow_succ, Nat.mod_mul]
   rw [cntS]
   by_cases hb : u / 2 ^ j % 2 = 1
   ·rw [if_pos hb]
    have hlt := Nat.mod_lt u (Nat.pow_pos (a := 2) (n := j) (by decide))
    have : blN (u % 2 ^ (j + 1)) = j + 1 := by
     refine bl_of ?_ (Nat.mod_lt _ (Nat.pow_pos (by decide)))
     rw [hm, hb]; omega
    rw [this]
    show 63 - (j : Int) = _
    omega
   ·rw [if_neg hb]
    have e : u % 2 ^ (j + 1) = u % 2 ^ j := by rw [hm, show u / 2 ^ j % 2 = 0 from by omega, Nat.mul_zero, Nat.add_zero]
    rw [e] at h ⊢
    exact cntS_top u j h
theorem lenR_eq {x : List Int} (ox : okW x) : lenR x = (blN (val x) : Nat) := by
 rw [lenR]
 cases h : trimW x x.length with
 | zero =>
   have : val x = 0 := by rw [← val_trim x, trimL, h]; simp [val]
   rw [this]
   rfl
 | succ m =>
   obtain ⟨h1, h2⟩ := trimW_last x _ _ h
   obtain ⟨u, hu, hu64⟩ := natW (okW_getD ox m)
   have hu0 : 0 < u := by rw [hu] at h1; omega
   have hc := cntS_top u 64 (by rw [Nat.mod_eq_of_lt (show u < 2 ^ 64 from hu64)]; omega)
   rw [Nat.mod_eq_of_lt (show u < 2 ^ 64 from hu64)] at hc
   obtain ⟨b1, b2⟩ := bl_le hu0
   have hb := bl_words (Y := x.take (m + 1)) (n := m) (top := u) (l := blN u) (okW_take ox _) (by rw [List.length_take]; omega) (by
    rw [← hu, List.getD_eq_getElem?_getD, List.getD_eq_getElem?_getD, List.getElem?_take, if_pos (by omega)]) b2 b1 (by
    unfold blN; rw [if_neg (by omega)]; exact Nat.lt_log2_self)
   have hv : val (x.take (m + 1)) = val x := by rw [← val_trim x, trimL, h]
   rw [hv] at hb
   show 64 * (m : Int) + 64 - (cntS (x.getD m 0).toNat 64).1 = _
   rw [hu, Int.toNat_natCast, hc, hb]
   omega
set_option maxHeartbeats 2000000 in
theorem rDigits_ok (x : List Int) (D : Nat) (hx : x.length < 10000) (ox : okW x) (hD : HasD (val x) D) (hb : blN (val x) ≤ 2200) (hDl : D < 3000) : FnOk Tryz.prog 68 [.v (words x)] [.v true (.int .i64 D)] := by
 have hpos : 0 < val x := by
  have := Nat.pow_pos (a := 10) (n := D - 1) (by decide)
  have := hD.2.1
  omega
 have hL := rLen_ok x (by omega) ox
 rw [lenR_eq ox] at hL
 obtain ⟨b1, b2⟩ := bl_le hpos
 obtain ⟨B, hB⟩ : ∃ B, B = blN (val x) := ⟨_, rfl⟩
 rw [← hB] at hL b1 b2 hb
 have hs := dig_start (m := B - 1) (by omega)
 have hn0 : (B - 1) * 30103 / 100000 < D := hasD_lt hD (Nat.le_trans hs b1)
 have hcmp : ∀ n : Nat, n ≤ D → FnOk Tryz.prog 124 [.v (words x), .v (words (digs (10 ^ n)))] [.v true (.int .i64 (cmpN (val x) (10 ^ n)))] := fun n hn => by
  have hTl := ten_len (k := n)
  have hC := rCmp_ok x (digs (10 ^ n)) (by omega) (by omega) ox (digs_ok _).1
  rw [(digs_ok (10 ^ n)).2.2] at hC
  exact hC
 refine FnOk.of Tryz.func68 rfl rfl fun cx w0 => ?_
 rw [show Tryz.f68.ntmps = 30 from rfl]
 obtain ⟨n0, hn0'⟩ : ∃ n0, n0 = (B - 1) * 30103 / 100000 := ⟨_, rfl⟩
 rw [← hn0'] at hn0
 have w1 : (B : Int) - 1 = ((B - 1 : Nat) : Int) := by omega
 have w2 : IntKind.i64.wrap (((B - 1 : Nat) : Int) * 30103) = (((B - 1) * 30103 : Nat) : Int) := by rw [wrap_i64] <;> omega
 have w3 : (((B - 1) * 30103 : Nat) : Int).tdiv 100000 = (n0 : Int) := by rw [hn0']; exact quoN _ 100000
 have w4 : IntKind.i64.wrap (n0 : Int) = (n0 : Int) := by rw [wrap_i64] <;> omega
 have w5 : IntKind.i64.wrap ((n0 : Int) + 1) = ((n0 + 1 : Nat) : Int) := by rw [wrap_i64] <;> omega
 obtain ⟨B1, hB1⟩ : ∃ B1, B1 = B - 1 := ⟨_, rfl⟩
 rw [← hB1] at w1 w2 w3
 obtain ⟨p, hp⟩ : ∃ p, p = B1 * 30103 := ⟨_, rfl⟩
 rw [← hp] at w2 w3
 clear hs b1 hn0' hp hB1 hB
 refine zs0 ?_
 refine zs3 (ρ := fun _ => [.v true (.int .i64 (B : Nat))]) (an w1 <| an w2 <| an w3 <| an w4 <| w5) (o := by repeat' first|exact hL|trivial|constructor) (k := ?_)
 refine Holds.next (fun σ => ∀ a w, Rel cx w0 σ a w → Rel cx w0 { nt := 30, env := [(3, .v true (.int .i64 D)), (0, .v false (words x))], mem := [] } a w) ?_ ?_
 ·refine Holds.loopB (fun n : Nat => { nt := 30, env := [(3, .v true (.int .i64 (n : Nat))), (0, .v false (words x))], mem := [] }) (fun n => n ≤ D) (fun n => D - n) (n0 + 1) hn0 (fun a w h => Rel.keep [3, 0] [] h) ?_
  intro n hn
  have hT := rTen_ok n (by omega)
  have hC := hcmp n hn
  obtain ⟨T, hT'⟩ : ∃ T, T = digs (10 ^ n) := ⟨_, rfl⟩
  obtain ⟨c, hc⟩ : ∃ c, c = cmpN (val x) (10 ^ n) := ⟨_, rfl⟩
  rw [← hT'] at hT hC
  rw [← hc] at hC
  refine Holds.seq ?_
  rcases Nat.lt_or_ge (val x) (10 ^ n) with h | h
  ·have hDn : n = D := Nat.le_antisymm hn (hasD_le hD h)
   have g : ¬ 0 ≤ c := by rw [hc, cmpN, if_pos h]; omega
   refine zs3 (ρ := fun d => if d = 12 then [.v true (words T)] else [.v true (.int .i64 c)]) g (o := by repeat' first|exact hT|exact hC|trivial|constructor) (k := ?_)
   refine Holds.condF rfl (Holds.exit ⟨rfl, fun a w h => ?_⟩)
   have := Rel.keep [3, 0] [] h
   rw [hDn] at this
   exact this
  ·have hlt := hasD_lt hD h
   have g : 0 ≤ c := by rw [hc, cmpN, if_neg (by omega)]; split <;> omega
   have wk : IntKind.i64.wrap ((n : Int) + 1) = ((n + 1 : Nat) : Int) := by rw [wrap_i64] <;> omega
   refine zs3 (ρ := fun d => if d = 12 then [.v true (words T)] else [.v true (.int .i64 c)]) g (o := by repeat' first|exact hT|exact hC|trivial|constructor) (k := ?_)
   refine Holds.condT rfl (Holds.skip ?_)
   refine Holds.block ?_
   refine zr1 wk ?_
   exact ⟨n + 1, (by show n + 1 ≤ D; omega), (show D - (n + 1) < D - n by omega), fun a w h => Rel.keep [3, 0] [] h⟩
 ·intro σ hσ
  refine Holds.from hσ ?_
  refine Holds.next (fun σ => ∀ a w, Rel cx w0 σ a w → Rel cx w0 { nt := 30, env := [(3, .v true (.int .i64 D))], mem := [] } a w) ?_ ?_
  ·refine Holds.loopB (fun _ : Nat => { nt := 30, env := [(3, .v true (.int .i64 (D : Nat))), (0, .v false (words x))], mem := [] }) (fun _ => True) (fun n => n) 0 trivial (fun a w h => Rel.keep [3, 0] [] h) ?_
   intro n _
   refine Holds.seq ?_
   by_cases h1 : 1 < D
   ·have g1 : (1 : Int) < (D : Int) := by omega
    have hT := rTen_ok (D - 1) (by omega)
    have hC := hcmp (D - 1) (by omega)
    have w6 : (D : Int) - 1 = ((D - 1 : Nat) : Int) := by omega
    have g2 : ¬ cmpN (val x) (10 ^ (D - 1)) < 0 := by
     rw [cmpN, if_neg (by have := hD.2.1; omega)]; split <;> omega
    obtain ⟨T, hT'⟩ : ∃ T, T = digs (10 ^ (D - 1)) := ⟨_, rfl⟩
    obtain ⟨c, hc⟩ : ∃ c, c = cmpN (val x) (10 ^ (D - 1)) := ⟨_, rfl⟩
    rw [← hT'] at hT hC
    rw [← hc] at hC g2
    refine zs3 (ρ := fun d => if d = 23 then [.v true (words T)] else [.v true (.int .i64 c)]) (an g1 <| an g2 <| w6) (o := by repeat' first|exact hT|exact hC|trivial|constructor) (k := ?_)
    exact Holds.condF rfl (Holds.exit ⟨rfl, fun a w h => Rel.keep [3] [] h⟩)
   ·have g1 : ¬ (1 : Int) < (D : Int) := by omega
    refine zs1 g1 ?_
    exact Holds.condF rfl (Holds.exit ⟨rfl, fun a w h => Rel.keep [3] [] h⟩)
  ·intro σ hσ
   refine Holds.from hσ ?_
   refine zs0 ?_
   exact Holds.ret (RetOk.vs rfl (by exact ⟨⟨rfl, id⟩, trivial⟩) rfl)
def partV (N : Nat) (h s : Bool) : V := .agg [words (digs N), .bool h, .bool s]
theorem digs_lenD {m D : Nat} (h : m < 10 ^ D) : (digs m).length ≤ D / 16 + 1 := Nat.le_trans (digs_mono (Nat.le_of_lt h)) ten_len
set_option maxHeartbeats 4000000 in
theorem rRounded_ok (r : Nat) (hr : r ≤ 4) (neg : Bool) (N : Nat) (h s : Bool) (hN : (digs N).length < 30000) : FnOk Tryz.prog 107 [.v (.int .i64 r), .v (.bool neg), .v (partV N h s)] [.v false (words (digs (rrN r neg N h s))), .v true (.bool (decide (h = false ∧ s = false)))] := by
 have hB := rBit_ok (digs N) 0 (by omega) (by omega) (digs_ok _).1
 rw [(digs_ok _).2.2] at hB
 have hB : FnOk Tryz.prog 157 [.v (words (digs N)), .v (.int .i64 0)] [.v true (.bool (bitN N 0))] := hB
 have o1 : okW [(1 : Int)] := by intro n hn; simp at hn; omega
 have h1w : FnOk Tryz.prog 30 [.v (.int .u64 1)] [.v true (words [1])] := by
  have := FromWord_ok 1 (by decide)
  rw [show digs 1 = [1] from by decide] at this
  exact this
 have hA := rAdd_ok (digs N) [1] (by omega) (by simp) (digs_ok _).1 o1
 rw [(digs_ok _).2.2, show val [(1 : Int)] = 1 from by decide] at hA
 have hu : rrN r neg N h s = if h = false ∧ s = false then N else if rrU r neg N h s = true then N + 1 else N := rfl
 have hu2 : r = 0 → rrU r neg N h s = (h && (s || bitN N 0)) := fun e => by rw [e]; rfl
 have hu3 : r = 1 → rrU r neg N h s = h := fun e => by rw [e]; rfl
 have hu4 : r = 2 → rrU r neg N h s = false := fun e => by rw [e]; rfl
 have hu5 : r = 3 → rrU r neg N h s = !neg := fun e => by rw [e]; rfl
 have hu6 : r = 4 → rrU r neg N h s = neg := fun e => by rw [e]; rfl
 rw [hu]
 obtain ⟨u, hu'⟩ : ∃ u, u = rrU r neg N h s := ⟨_, rfl⟩
 rw [← hu'] at hu2 hu3 hu4 hu5 hu6 ⊢
 obtain ⟨O, hO⟩ : ∃ O, O = [(1 : Int)] := ⟨_, rfl⟩
 rw [← hO] at h1w hA
 obtain ⟨L, hL⟩ : ∃ L, L = digs N := ⟨_, rfl⟩
 obtain ⟨L1, hL1⟩ : ∃ L, L = digs (N + 1) := ⟨_, rfl⟩
 obtain ⟨b, hb⟩ : ∃ b, b = bitN N 0 := ⟨_, rfl⟩
 rw [← hb] at hu2
 rw [← hL, ← hb] at hB
 rw [← hL, ← hL1] at hA
 clear hu hu' hb hO o1 hN
 unfold partV
 rw [← hL]
 refine FnOk.of Tryz.func107 rfl rfl fun cx w0 => ?_
 rw [show Tryz.f107.ntmps = 51 from rfl]
 refine zs0 ?_
 refine zs0 ?_
 refine Holds.next (fun σ => ∀ a w, Rel cx w0 σ a w → Rel cx w0 { nt := 51, env := [(8, .v true (.bool u)), (5, .ptr 5 0 [] 0)], mem := [(5, .box 174 (.v false (.agg [words L, .bool h, .bool s])))] } a w) ?_ ?_
 ·refine zs0 ?_
  refine Holds.blockN ?_
  match r, hr with
  | 0, _ =>
    have hu2 := hu2 rfl
    refine zs0 ?_
    refine Holds.condT rfl ?_
    cases h with
    | false =>
      rw [Bool.false_and] at hu2
      subst hu2
      refine zr0 ?_
      exact fun a w h => Rel.keep [8, 5] [5] h
    | true =>
      cases s with
      | true =>
        rw [Bool.true_and, Bool.true_or] at hu2
        subst hu2
        refine zr0 ?_
        exact fun a w h => Rel.keep [8, 5] [5] h
      | false =>
        rw [Bool.true_and, Bool.false_or] at hu2
        subst hu2
        refine zr2 (ρ := fun _ => [.v true (.bool u)]) (o := by repeat' first|exact hB|trivial|constructor) (k := ?_)
        exact fun a w h => Rel.keep [8, 5] [5] h
  | 1, _ =>
    have hu3 := hu3 rfl
    subst hu3
    refine zs0 ?_
    refine Holds.condF rfl ?_
    refine zs0 ?_
    refine Holds.condT rfl ?_
    refine zr0 ?_
    exact fun a w h => Rel.keep [8, 5] [5] h
  | 2, _ =>
    have hu4 := hu4 rfl
    subst hu4
    refine zs0 ?_
    refine Holds.condF rfl ?_
    refine zs0 ?_
    refine Holds.condF rfl ?_
    refine zs0 ?_
    refine Holds.condF rfl ?_
    refine zs0 ?_
    exact Holds.condF rfl (Holds.skip fun a w h => Rel.keep [8, 5] [5] h)
  | 3, _ =>
    have hu5 := hu5 rfl
    subst hu5
    refine zs0 ?_
    refine Holds.condF rfl ?_
    refine zs0 ?_
    refine Holds.condF rfl ?_
    refine zs0 ?_
    refine Holds.condT rfl ?_
    refine zr0 ?_
    exact fun a w h => Rel.keep [8, 5] [5] h
  | 4, _ =>
    have hu6 := hu6 rfl
    subst hu6
    refine zs0 ?_
    refine Holds.condF rfl ?_
    refine zs0 ?_
    refine Holds.condF rfl ?_
    refine zs0 ?_
    refine Holds.condF rfl ?_
    refine zs0 ?_
    refine Holds.condT rfl ?_
    refine zr0 ?_
    exact fun a w h => Rel.keep [8, 5] [5] h
 ·intro σ hσ
  refine Holds.from hσ ?_
  have tail : (h = true ∨ s = true) → Holds Tryz.prog none cx w0 (codeAt Tryz.f107 [1, 1, 1]) { nt := 51, env := [(8, .v true (.bool u)), (5, .ptr 5 0 [] 0)], mem := [(5, .box 174 (.v false (.agg [words L, .bool h, .bool s])))] } (fnQ Tryz.prog Tryz.f107 [.v false (words (digs (if u = true then N + 1 else N))), .v true (.bool false)]) := fun hhs => by
   cases h with
   | true =>
     refine Holds.seq ?_
     refine zs0 ?_
     refine Holds.condF rfl (Holds.skip ?_)
     cases u with
     | true =>
       rw [if_pos rfl, ← hL1]
       refine Holds.seq ?_
       refine zs0 ?_
       refine Holds.condT rfl ?_
       refine zd2 [] (ρ := fun d => if d = 47 then [.v true (words O)] else [.v true (words L1)]) (o := by repeat' first|exact h1w|exact hA|trivial|constructor) (k := ?_)
       exact Holds.ret (RetOk.vs rfl (by exact ⟨⟨rfl, by simp⟩, ⟨rfl, id⟩, trivial⟩) rfl)
     | false =>
       rw [if_neg (by simp), ← hL]
       refine Holds.seq ?_
       refine zs0 ?_
       refine Holds.condF rfl (Holds.skip ?_)
       refine zs0 ?_
       exact Holds.ret (RetOk.vs rfl (by exact ⟨⟨rfl, by simp⟩, ⟨rfl, id⟩, trivial⟩) rfl)
   | false =>
     have hs : s = true := by rcases hhs with h | h; · cases h
                              ·exact h
     subst hs
     refine Holds.seq ?_
     refine zs0 ?_
     refine Holds.condF rfl (Holds.skip ?_)
     cases u with
     | true =>
       rw [if_pos rfl, ← hL1]
       refine Holds.seq ?_
       refine zs0 ?_
       refine Holds.condT rfl ?_
       refine zd2 [] (ρ := fun d => if d = 47 then [.v true (words O)] else [.v true (words L1)]) (o := by repeat' first|exact h1w|exact hA|trivial|constructor) (k := ?_)
       exact Holds.ret (RetOk.vs rfl (by exact ⟨⟨rfl, by simp⟩, ⟨rfl, id⟩, trivial⟩) rfl)
     | false =>
       rw [if_neg (by simp), ← hL]
       refine Holds.seq ?_
       refine zs0 ?_
       refine Holds.condF rfl (Holds.skip ?_)
       refine zs0 ?_
       exact Holds.ret (RetOk.vs rfl (by exact ⟨⟨rfl, by simp⟩, ⟨rfl, id⟩, trivial⟩) rfl)
  by_cases hhs : h = false ∧ s = false
  ·obtain ⟨e1, e2⟩ := hhs
   subst e1; subst e2
   rw [if_pos ⟨rfl, rfl⟩, decide_eq_true ⟨rfl, rfl⟩, ← hL]
   refine Holds.seq ?_
   refine zs0 ?_
   refine Holds.condT rfl ?_
   refine zs0 ?_
   exact Holds.ret (RetOk.vs rfl (by exact ⟨⟨rfl, by simp⟩, ⟨rfl, id⟩, trivial⟩) rfl)
  ·rw [if_neg hhs, decide_eq_false hhs]
   refine tail ?_
   cases h
   ·cases s
    ·exact absurd ⟨rfl, rfl⟩ hhs
    ·exact .inr rfl
   ·exact .inl rfl
theorem num_digs {n : Nm} {N D : Nat} (h : NmOk n N) (hN : N ≤ 301) (hD : HasD n.num D) : D < 500 := by
 have h1 := num_lt h
 obtain ⟨K, hK⟩ : ∃ K, K = 61 := ⟨_, rfl⟩
 have h2 : 16 ^ n.digits.length ≤ 16 ^ (5 * K) := Nat.pow_le_pow_right (by decide) (by have := h.len; omega)
 have h3 : 16 ^ (5 * K) ≤ 10 ^ (7 * K) := by
  rw [Nat.pow_mul, Nat.pow_mul]
  exact Nat.pow_le_pow_left (by decide) K
 have := hasD_le hD (n := 7 * K) (by omega)
 omega
def cutN (num den : Nat) (d : Int) : Nat := num * 2 ^ d.toNat / (den * 2 ^ (-d).toNat)
def cutX (num den : Nat) (d : Int) : Int := rstN (num * 2 ^ d.toNat % (den * 2 ^ (-d).toNat)) (den * 2 ^ (-d).toNat)
theorem cmpN_mul {a b c : Nat} (hc : 0 < c) : cmpN (a * c) (b * c) = cmpN a b := by
 unfold cmpN
 simp only [Nat.mul_lt_mul_right hc]
theorem rstN_mul {x d c : Nat} (hc : 0 < c) : rstN (x * c) (d * c) = rstN x d := by
 unfold rstN
 have e : x * c = 0 ↔ x = 0 := ⟨fun h => by rcases Nat.mul_eq_zero.1 h with h | h <;> omega, fun h => by rw [h, Nat.zero_mul]⟩
 rw [show x * c * 2 = x * 2 * c from by rw [Nat.mul_right_comm], cmpN_mul hc]
 by_cases h : x = 0
 ·rw [if_pos h, if_pos (e.2 h)]
 ·rw [if_neg h, if_neg (fun h' => h (e.1 h'))]
theorem cut_eq {num den i j : Nat} {d : Int} (h : (i : Int) - j = d) : num * 2 ^ i / (den * 2 ^ j) = cutN num den d ∧ rstN (num * 2 ^ i % (den * 2 ^ j)) (den * 2 ^ j) = cutX num den d := by
 obtain ⟨c, hi, hj⟩ : ∃ c, i = d.toNat + c ∧ j = (-d).toNat + c := ⟨i - d.toNat, by omega, by omega⟩
 have hp : 0 < 2 ^ c := Nat.pow_pos (by decide)
 unfold cutN cutX
 rw [hi, hj, Nat.pow_add, Nat.pow_add, ← Nat.mul_assoc, ← Nat.mul_assoc]
 exact ⟨Nat.mul_div_mul_right _ _ hp, by rw [Nat.mul_mod_mul_right, rstN_mul hp]⟩
def IsE (num den : Nat) (e : Int) : Prop := ∀ i j : Nat, (i : Int) - j = e → den * 2 ^ i ≤ num * 2 ^ j ∧ num * 2 ^ j < den * 2 ^ (i + 1)
theorem isE_of {num den i j : Nat} {e : Int} (he : (i : Int) - j = e) (h1 : den * 2 ^ i ≤ num * 2 ^ j) (h2 : num * 2 ^ j < den * 2 ^ (i + 1)) : IsE num den e := by
 intro i' j' h'
 obtain ⟨c, d, hi, hj⟩ : ∃ c d, i' + d = i + c ∧ j' + d = j + c := ⟨i', i, by omega, by omega⟩
 have hc : 0 < 2 ^ c := Nat.pow_pos (by decide)
 have hd : 0 < 2 ^ d := Nat.pow_pos (by decide)
 constructor
 ·refine Nat.le_of_mul_le_mul_right ?_ hd
  rw [Nat.mul_assoc, Nat.mul_assoc, ← Nat.pow_add, ← Nat.pow_add, hi, hj, Nat.pow_add, Nat.pow_add, ← Nat.mul_assoc, ← Nat.mul_assoc]
  exact Nat.mul_le_mul_right _ h1
 ·refine Nat.lt_of_mul_lt_mul_right (a := 2 ^ d) ?_
  rw [Nat.mul_assoc, Nat.mul_assoc, ← Nat.pow_add, ← Nat.pow_add, show i' + 1 + d = i + 1 + c from by omega, hj, Nat.pow_add, Nat.pow_add, ← Nat.mul_assoc, ← Nat.mul_assoc]
  exact (Nat.mul_lt_mul_right hc).2 h2
abbrev FRes := Nat × Bool × Int × Nat × Int
def fOver (P g : Int) (r : Nat) (neg : Bool) : FRes := if grB r neg = true then (1, neg, g - P + 1, 2 ^ P.toNat - 1, 5) else (2, neg, 0, 0, 5)
def ctN (v : Nat) (s : Int) : Nat := if s ≤ 0 then v * 2 ^ (-s).toNat else v / 2 ^ s.toNat
def ctL (v k : Nat) (st : Bool) : Bool := st || decide (v % 2 ^ (k - 1) ≠ 0)
def ctK (v k : Nat) (st : Bool) : Int := if bitN v (k - 1) = true ∧ ctL v k st = true then 3 else if bitN v (k - 1) = true then 2 else if ctL v k st = true then 1 else 0
def ctX (v : Nat) (s : Int) (st : Bool) : Int := if s ≤ 0 then (if st = true then 1 else 0) else ctK v s.toNat st
theorem ct_exact {v D r X k : Nat} (hX : X = v * D + r) (hr : r < D) (hk : 0 < k) : X / (D * 2 ^ k) = v / 2 ^ k ∧ rstN (X % (D * 2 ^ k)) (D * 2 ^ k) = ctK v k (decide (r ≠ 0)) := by
 have hD : 0 < D := by omega
 have h1 : X / D = v := by rw [hX, Nat.mul_comm, Nat.mul_add_div hD, Nat.div_eq_of_lt hr, Nat.add_zero]
 have h2 : X % D = r := by rw [hX, Nat.mul_comm, Nat.mul_add_mod, Nat.mod_eq_of_lt hr]
 refine ⟨by rw [← Nat.div_div_eq_div_mul, h1], ?_⟩
 rw [Nat.mod_mul, h1, h2]
 obtain ⟨q, rfl⟩ : ∃ q, k = q + 1 := ⟨k - 1, by omega⟩
 unfold ctK ctL bitN
 rw [Nat.add_sub_cancel, Nat.pow_succ, Nat.mod_mul]
 obtain ⟨F, hF⟩ : ∃ F, F = 2 ^ q := ⟨_, rfl⟩
 have hF0 : 0 < F := by rw [hF]; exact Nat.pow_pos (by decide)
 rw [← hF]
 have hw := Nat.mod_lt v hF0
 obtain ⟨w, hw'⟩ : ∃ w, w = v % F := ⟨_, rfl⟩
 obtain ⟨b, hb⟩ : ∃ b, b = v / F % 2 := ⟨_, rfl⟩
 rw [← hw'] at hw ⊢
 rw [← hb]
 have hm : D * w + D ≤ D * F := by rw [← Nat.mul_succ]; exact Nat.mul_le_mul_left D hw
 have hw0 : D * w = 0 ↔ w = 0 := ⟨fun h => by rcases Nat.mul_eq_zero.1 h with h | h <;> omega, fun h => by rw [h, Nat.mul_zero]⟩
 have e2 : D * (F * 2) = D * F * 2 := by rw [Nat.mul_assoc]
 rcases Nat.mod_two_eq_zero_or_one (v / F) with h | h
 ·rw [← hb] at h
  rw [h, Nat.mul_zero, Nat.add_zero, e2, if_neg (by simp), if_neg (by simp)]
  unfold rstN cmpN
  by_cases hz : r = 0 ∧ w = 0
  ·rw [hz.1, hz.2, Nat.mul_zero]; simp
  ·rw [if_neg (by omega), if_pos (by omega), if_pos]
   ·rfl
   ·rw [Bool.or_eq_true, decide_eq_true_eq, decide_eq_true_eq]; omega
 ·rw [← hb] at h
  rw [h, Nat.mul_one, Nat.mul_add, e2]
  unfold rstN cmpN
  rw [if_neg (by have := Nat.mul_pos hD hF0; omega), if_neg (by omega)]
  by_cases hz : r = 0 ∧ w = 0
  ·rw [hz.1, hz.2, Nat.mul_zero]
   rw [if_neg (by omega), if_neg (by simp), if_pos (by simp)]
   rfl
  ·rw [if_pos (by omega), if_pos]
   ·rfl
   ·refine ⟨by simp, ?_⟩
    rw [Bool.or_eq_true, decide_eq_true_eq, decide_eq_true_eq]; omega
theorem isE_uniq {num den : Nat} {e e' : Int} (h : IsE num den e) (h' : IsE num den e') : e = e' := by
 have key : ∀ {a b : Int}, IsE num den a → IsE num den b → ¬ a < b := fun {a b} ha hb hlt => by
  obtain ⟨j, i, hij, i', hij'⟩ : ∃ j i : Nat, (i : Int) - j = a ∧ ∃ i' : Nat, (i' : Int) - j = b := ⟨(-a).toNat, (a + (-a).toNat).toNat, by omega, (b + (-a).toNat).toNat, by omega⟩
  have h1 := (ha i j hij).2
  have h2 := (hb i' j hij').1
  have h3 : den * 2 ^ (i + 1) ≤ den * 2 ^ i' := Nat.mul_le_mul_left _ (Nat.pow_le_pow_right (by decide) (by omega))
  omega
 rcases Int.lt_trichotomy e e' with h1 | h1 | h1
 ·exact absurd h1 (key h h')
 ·exact h1
 ·exact absurd h1 (key h' h)
theorem isE_bl {X D v r : Nat} (hX : X = v * D + r) (hr : r < D) (hv : 0 < v) : IsE X D (blN v - 1) := by
 obtain ⟨b1, b2⟩ := bl_le hv
 have b3 : v < 2 ^ blN v := by unfold blN; rw [if_neg (by omega)]; exact Nat.lt_log2_self
 refine isE_of (i := blN v - 1) (j := 0) (by omega) ?_ ?_
 ·rw [Nat.pow_zero, Nat.mul_one, hX, Nat.mul_comm v D]
  have := Nat.mul_le_mul_left D b1
  omega
 ·rw [Nat.pow_zero, Nat.mul_one, show blN v - 1 + 1 = blN v from by omega, hX]
  have h1 : v * D + D ≤ 2 ^ blN v * D := by rw [← Nat.succ_mul]; exact Nat.mul_le_mul_right D b3
  rw [Nat.mul_comm D]
  omega
theorem isE_ge {num den k : Nat} {e : Int} (h : IsE num den e) (hk : den * 2 ^ k ≤ num) : (k : Int) ≤ e := by
 rcases Int.lt_or_le e k with hlt | hge
 ·exfalso
  obtain ⟨j, i, hij⟩ : ∃ j i : Nat, (i : Int) - j = e := ⟨(-e).toNat, (e + (-e).toNat).toNat, by omega⟩
  have h1 := (h i j hij).2
  have h2 := Nat.mul_le_mul_right (2 ^ j) hk
  rw [Nat.mul_assoc, ← Nat.pow_add] at h2
  have h3 : den * 2 ^ (i + 1) ≤ den * 2 ^ (k + j) := Nat.mul_le_mul_left _ (Nat.pow_le_pow_right (by decide) (by omega))
  omega
 ·exact hge
theorem isE_lt {num den k : Nat} {e : Int} (h : IsE num den e) (hk : num * 2 ^ k < den) : e < -(k : Int) := by
 rcases Int.lt_or_le e (-(k : Int)) with hlt | hge
 ·exact hlt
 ·exfalso
  obtain ⟨j, i, hij⟩ : ∃ j i : Nat, (i : Int) - j = e := ⟨(-e).toNat, (e + (-e).toNat).toNat, by omega⟩
  have h1 := (h i j hij).1
  have h2 := (Nat.mul_lt_mul_right (Nat.pow_pos (a := 2) (n := i) (by decide))).2 hk
  rw [Nat.mul_assoc, ← Nat.pow_add] at h2
  have h3 : num * 2 ^ j ≤ num * 2 ^ (k + i) := Nat.mul_le_mul_left _ (Nat.pow_le_pow_right (by decide) (by omega))
  omega
theorem isE_ex {num den : Nat} (hn : 0 < num) (hd : 0 < den) : ∃ e, IsE num den e := by
 have hq : 0 < num * 2 ^ den / den := Nat.div_pos (Nat.le_trans (Nat.le_of_lt Nat.lt_two_pow_self) (Nat.le_mul_of_pos_left _ hn)) hd
 have h1 := isE_bl (X := num * 2 ^ den) (D := den) (v := num * 2 ^ den / den) (r := num * 2 ^ den % den) (by have h2 := Nat.div_add_mod (num * 2 ^ den) den; rw [Nat.mul_comm den] at h2; exact h2.symm) (Nat.mod_lt _ hd) hq
 obtain ⟨L, hL⟩ : ∃ L : Int, L = (blN (num * 2 ^ den / den) : Int) - 1 := ⟨_, rfl⟩
 rw [← hL] at h1
 refine ⟨L - den, fun i j hij => ?_⟩
 obtain ⟨i', j', e1, e2, e3⟩ : ∃ i' j' : Nat, (i' : Int) - j' = L ∧ i' = i + den ∧ j' = j := ⟨i + den, j, by omega, rfl, rfl⟩
 obtain ⟨a, b⟩ := h1 i' j' e1
 have hp : 0 < 2 ^ den := Nat.pow_pos (by decide)
 rw [e2, e3] at a b
 rw [Nat.mul_right_comm] at a b
 rw [show i + den + 1 = i + 1 + den from by omega, Nat.pow_add, ← Nat.mul_assoc] at b
 rw [Nat.pow_add, ← Nat.mul_assoc] at a
 exact ⟨Nat.le_of_mul_le_mul_right a hp, Nat.lt_of_mul_lt_mul_right b⟩
theorem cutN_shift {num den i : Nat} {d : Int} : cutN (num * 2 ^ i) den d = cutN num den (d + i) ∧ cutX (num * 2 ^ i) den d = cutX num den (d + i) := by
 have := cut_eq (num := num) (den := den) (i := i + d.toNat) (j := (-d).toNat) (d := d + i) (by omega)
 rw [Nat.pow_add, ← Nat.mul_assoc] at this
 exact this
def fU (P g e : Int) : Int := max e (1 - g) - P + 1
def fN (r : Nat) (neg : Bool) (num den : Nat) (d : Int) : Nat := upN r neg (cutN num den d) (cutX num den d)
def fRnd (P g : Int) (r : Nat) (neg : Bool) (num den : Nat) (d e : Int) : FRes :=
 if g < e ∨ 2 ^ (g + 1 - fU P g e).toNat ≤ fN r neg num den (d - fU P g e) then fOver P g r neg
 else if fN r neg num den (d - fU P g e) = 0 then (0, neg, 0, 0, 3)
 else (1, neg, fU P g e + trN (fN r neg num den (d - fU P g e)), fN r neg num den (d - fU P g e) / 2 ^ trN (fN r neg num den (d - fU P g e)), if cutX num den (d - fU P g e) = 0 then 0 else if e < 1 - g then 3 else 1)
theorem fRnd_shift {P g : Int} {r : Nat} {neg : Bool} {num den i : Nat} {d d' e : Int} (h : d' = d - i) : fRnd P g r neg (num * 2 ^ i) den d' e = fRnd P g r neg num den d e := by
 obtain ⟨h1, h2⟩ := cutN_shift (num := num) (den := den) (i := i) (d := d' - fU P g e)
 rw [show d' - fU P g e + i = d - fU P g e from by omega] at h1 h2
 unfold fRnd fN
 rw [h1, h2]
theorem cut_low {num den : Nat} {d e u : Int} (h0 : 0 < num) (h : IsE num den (e - d)) (hu : e + 2 ≤ u) : cutN num den (d - u) = 0 ∧ cutX num den (d - u) = 1 := by
 obtain ⟨a, ha⟩ : ∃ a, a = (d - u).toNat := ⟨_, rfl⟩
 obtain ⟨b, hb⟩ : ∃ b, b = (-(d - u)).toNat := ⟨_, rfl⟩
 unfold cutN cutX
 rw [← ha, ← hb]
 obtain ⟨c, i, hc⟩ : ∃ c i : Nat, (i : Int) - (a + c : Nat) = e - d := ⟨(d - e).toNat, (e - d + a + (d - e).toNat).toNat, by omega⟩
 have h1 := (h i (a + c) hc).2
 have h2 : den * 2 ^ (i + 1) * 2 ≤ den * 2 ^ (b + c) := by
  rw [Nat.mul_assoc, ← Nat.pow_succ]
  exact Nat.mul_le_mul_left _ (Nat.pow_le_pow_right (by decide) (by omega))
 have h3 : num * 2 ^ a * 2 < den * 2 ^ b := by
  refine Nat.lt_of_mul_lt_mul_right (a := 2 ^ c) ?_
  rw [Nat.mul_right_comm, Nat.mul_assoc num, ← Nat.pow_add, Nat.mul_assoc den, ← Nat.pow_add]
  omega
 have h4 : 0 < num * 2 ^ a := Nat.mul_pos h0 (Nat.pow_pos (by decide))
 refine ⟨Nat.div_eq_of_lt (by omega), ?_⟩
 rw [Nat.mod_eq_of_lt (by omega), rstN, if_neg (by omega), cmpN, if_pos h3]
 rfl
theorem fRnd_high {P g : Int} {r : Nat} {neg : Bool} {num den : Nat} {d e : Int} (h : g < e) : fRnd P g r neg num den d e = fOver P g r neg := by
 unfold fRnd
 rw [if_pos (.inl h)]
def fLow (P g : Int) (r : Nat) (neg : Bool) : FRes := if upN r neg 0 1 = 0 then (0, neg, 0, 0, 3) else (1, neg, 2 - g - P, 1, 3)
theorem fRnd_low {P g : Int} {r : Nat} {neg : Bool} {num den : Nat} {d e : Int} (hP : 2 ≤ P) (hg : 1 ≤ g) (h0 : 0 < num) (hE : IsE num den (e - d)) (h : e + P + g < 1) : fRnd P g r neg num den d e = fLow P g r neg := by
 have hu : fU P g e = 2 - g - P := by unfold fU; omega
 obtain ⟨c1, c2⟩ := cut_low (d := d) (e := e) (u := fU P g e) h0 hE (by omega)
 unfold fRnd fN fLow
 rw [c1, c2, hu]
 have hle := (upN_le r neg 0 1).2
 obtain ⟨n, hn⟩ : ∃ n, n = upN r neg 0 1 := ⟨_, rfl⟩
 rw [← hn] at hle ⊢
 rw [if_neg]
 ·by_cases h1 : n = 0
  ·rw [if_pos h1, if_pos h1]
  ·have : n = 1 := by omega
   subst this
   rw [if_neg h1, if_neg h1, if_neg (by decide), if_pos (by omega)]
   rw [show trN 1 = 0 from by decide]
   simp
 ·rintro (h2 | h2)
  ·omega
  ·have : (2 : Nat) ^ 1 ≤ 2 ^ (g + 1 - (2 - g - P)).toNat := Nat.pow_le_pow_right (by decide) (by omega)
   omega
def fmtV (k P : Int) : V := .agg [.int .i64 k, .int .i64 P]
def fltV (k : Nat) (neg : Bool) (e : Int) (m : Nat) : V := .agg [.int .i64 (k : Nat), .bool neg, .int .i64 e, words (digs m)]
theorem fltV_eq (k : Nat) (neg : Bool) (e : Int) (m : Nat) : fltV k neg e m = .agg [.int .i64 (k : Nat), .bool neg, .int .i64 e, .sl 1 ((digs m).map fun n => .int .u64 n)] := rfl
theorem fltV_zero (k : Nat) (neg : Bool) (e : Int) : fltV k neg e 0 = .agg [.int .i64 (k : Nat), .bool neg, .int .i64 e, .sl 1 []] := rfl
def FmtOk (k P : Int) : Prop := (2 ≤ k ∧ k ≤ 15) ∧ 2 ≤ P ∧ P ≤ 256
def gK (K : Nat) : Int := ((2 ^ K : Nat) : Int) - 1
theorem gK_bd {K : Nat} (h : 1 ≤ K ∧ K ≤ 14) : 1 ≤ gK K ∧ gK K ≤ 16383 := by
 unfold gK
 have h1 := Nat.pow_le_pow_right (n := 2) (by decide) h.1
 have h2 := Nat.pow_le_pow_right (n := 2) (by decide) h.2
 omega
theorem wrap_pow {K : Nat} (h : K ≤ 14) : IntKind.i64.wrap (1 * 2 ^ min K 64) = ((2 ^ K : Nat) : Int) := by
 have h2 : 2 ^ K ≤ 16384 := Nat.pow_le_pow_right (n := 2) (by decide) h
 have e : (1 : Int) * 2 ^ min K 64 = ((2 ^ K : Nat) : Int) := by rw [Nat.min_eq_left (by omega), Int.one_mul]; exact (Int.natCast_pow 2 K).symm
 rw [e]
 obtain ⟨B, hB⟩ : ∃ B, B = 2 ^ K := ⟨_, rfl⟩
 rw [← hB] at h2 ⊢
 exact wrap_i64 (by omega) (by omega)
theorem fCheck_ok (k P : Int) : FnOk Tryz.prog 34 [.v (fmtV k P)] [.v true (.int .i64 (if (2 ≤ k ∧ k ≤ 15) ∧ 2 ≤ P ∧ P ≤ 256 then 0 else 150))] := by
 unfold fmtV
 refine FnOk.of Tryz.func34 rfl rfl fun cx w0 => ?_
 rw [show Tryz.f34.ntmps = 21 from rfl]
 refine zs0 ?_
 refine Holds.seq ?_
 by_cases h1 : k < 2
 ·rw [if_neg (by omega)]
  refine zs1 h1 ?_
  refine Holds.condT rfl ?_
  refine zs0 ?_
  exact Holds.ret (RetOk.vs rfl (by exact ⟨⟨rfl, id⟩, trivial⟩) rfl)
 by_cases h2 : 15 < k
 ·rw [if_neg (by omega)]
  refine zs1 (an h1 <| h2) ?_
  refine Holds.condT rfl ?_
  refine zs0 ?_
  exact Holds.ret (RetOk.vs rfl (by exact ⟨⟨rfl, id⟩, trivial⟩) rfl)
 by_cases h3 : P < 2
 ·rw [if_neg (by omega)]
  refine zs1 (an h1 <| an h2 <| h3) ?_
  refine Holds.condT rfl ?_
  refine zs0 ?_
  exact Holds.ret (RetOk.vs rfl (by exact ⟨⟨rfl, id⟩, trivial⟩) rfl)
 by_cases h4 : 256 < P
 ·rw [if_neg (by omega)]
  refine zs1 (an h1 <| an h2 <| an h3 <| h4) ?_
  refine Holds.condT rfl ?_
  refine zs0 ?_
  exact Holds.ret (RetOk.vs rfl (by exact ⟨⟨rfl, id⟩, trivial⟩) rfl)
 rw [if_pos (by omega)]
 refine zs1 (an h1 <| an h2 <| an h3 <| h4) ?_
 refine Holds.condF rfl (Holds.skip ?_)
 refine zs0 ?_
 exact Holds.ret (RetOk.vs rfl (by exact ⟨⟨rfl, id⟩, trivial⟩) rfl)
theorem fRange_ok (K : Nat) (P : Int) (hK : 1 ≤ K ∧ K ≤ 14) (hP : 2 ≤ P ∧ P ≤ 256) : FnOk Tryz.prog 79 [.v (fmtV ((K + 1 : Nat) : Int) P)] [.v true (.int .i64 (1 - gK K)), .v true (.int .i64 (gK K)), .v true (.int .i64 (1 - gK K - (P - 1))), .v true (.int .i64 0)] := by
 have hC := fCheck_ok ((K + 1 : Nat) : Int) P
 rw [if_pos (by omega)] at hC
 have hG := gK_bd hK
 have hw := wrap_pow hK.2
 have hg : ((2 ^ K : Nat) : Int) - 1 = gK K := rfl
 have wg : IntKind.i64.wrap (gK K) = gK K := by rw [wrap_i64] <;> omega
 obtain ⟨G, hG'⟩ : ∃ G, G = gK K := ⟨_, rfl⟩
 obtain ⟨B, hB⟩ : ∃ B : Int, B = ((2 ^ K : Nat) : Int) := ⟨_, rfl⟩
 rw [← hB] at hw hg
 rw [← hG'] at hG hg wg ⊢
 have wB : IntKind.i64.wrap (B - 1) = G := by rw [hg]; exact wg
 have w1 : IntKind.i64.wrap (1 - G) = 1 - G := by rw [wrap_i64] <;> omega
 have w2 : IntKind.i64.wrap (P - 1) = P - 1 := by rw [wrap_i64] <;> omega
 have w3 : IntKind.i64.wrap (1 - G - (P - 1)) = 1 - G - (P - 1) := by rw [wrap_i64] <;> omega
 have g0 : (0 : Int) ≤ (K : Int) := by omega
 have wk : IntKind.i64.wrap (((K : Nat) : Int) + 1 - 1) = (K : Int) := by rw [wrap_i64] <;> omega
 clear hG' hB hg
 unfold fmtV at hC ⊢
 refine FnOk.of Tryz.func79 rfl rfl fun cx w0 => ?_
 rw [show Tryz.f79.ntmps = 25 from rfl]
 refine zs0 ?_
 refine Holds.seq ?_
 refine zs2 (ρ := fun _ => [.v true (.int .i64 0)]) (o := by repeat' first|exact hC|trivial|constructor) (k := ?_)
 refine zs0 ?_
 refine Holds.condF rfl (Holds.skip ?_)
 refine zs1 (an wk <| an g0 <| an hw <| wB) ?_
 refine zs1 w1 ?_
 refine zd1 [] (an w2 <| w3) ?_
 exact Holds.ret (RetOk.vs rfl (by exact ⟨⟨rfl, id⟩, ⟨rfl, id⟩, ⟨rfl, id⟩, ⟨rfl, id⟩, trivial⟩) rfl)
theorem fStep_ok (K : Nat) (P e : Int) (hK : 1 ≤ K ∧ K ≤ 14) (hP : 2 ≤ P ∧ P ≤ 256) (he : -4611686018427387000 < e ∧ e < 4611686018427387000) : FnOk Tryz.prog 81 [.v (fmtV ((K + 1 : Nat) : Int) P), .v (.int .i64 e)] [.v true (.int .i64 (fU P (gK K) e))] := by
 have hR := fRange_ok K P hK hP
 have hG := gK_bd hK
 obtain ⟨u, hu⟩ : ∃ u, u = fU P (gK K) e := ⟨_, rfl⟩
 rw [← hu]
 unfold fU at hu
 obtain ⟨G, hG'⟩ : ∃ G, G = gK K := ⟨_, rfl⟩
 rw [← hG'] at hR hG hu
 obtain ⟨k, hk⟩ : ∃ k : Int, k = ((K + 1 : Nat) : Int) := ⟨_, rfl⟩
 rw [← hk] at hR ⊢
 clear hG' hk
 unfold fmtV at hR ⊢
 refine FnOk.of Tryz.func81 rfl rfl fun cx w0 => ?_
 rw [show Tryz.f81.ntmps = 25 from rfl]
 refine zs0 ?_
 refine zs2 (ρ := fun _ => [.v true (.int .i64 (1 - G)), .v true (.int .i64 G), .v true (.int .i64 (1 - G - (P - 1))), .v true (.int .i64 0)]) (o := by repeat' first|exact hR|trivial|constructor) (k := ?_)
 refine Holds.seq ?_
 by_cases h : e < 1 - G
 ·have : u = 1 - G - (P - 1) := by omega
  rw [this]
  refine zs1 h ?_
  refine Holds.condT rfl ?_
  refine zs0 ?_
  exact Holds.ret (RetOk.vs rfl (by exact ⟨⟨rfl, id⟩, trivial⟩) rfl)
 ·have hue : u = e - P + 1 := by omega
  rw [hue]
  have w1 : IntKind.i64.wrap (e - P) = e - P := by rw [wrap_i64] <;> omega
  have w2 : IntKind.i64.wrap (e - P + 1) = e - P + 1 := by rw [wrap_i64] <;> omega
  refine zs1 h ?_
  refine Holds.condF rfl (Holds.skip ?_)
  refine zs1 (an w1 <| w2) ?_
  exact Holds.ret (RetOk.vs rfl (by exact ⟨⟨rfl, id⟩, trivial⟩) rfl)
theorem val_bl {x : List Int} (ox : okW x) : val x < 2 ^ (64 * x.length) := by
 rw [Nat.pow_mul]; exact val_lt ox
theorem wBit_far (x : List Int) (i : Nat) (hx : x.length < 100000) (hi : 64 * x.length ≤ i) (hi2 : i < 4611686018427387904) : FnOk Tryz.prog 140 [.v (words x), .v (.int .i64 i)] [.v true (.bool false)] := by
 have hq : (i : Int).tdiv 64 = ((i / 64 : Nat) : Int) := quoN i 64
 have g0 : (0 : Int) ≤ (i : Int) := by omega
 have g1 : ¬ ((i / 64 : Nat) : Int) < x.length := by omega
 have wq : IntKind.i64.wrap ((i / 64 : Nat) : Int) = ((i / 64 : Nat) : Int) := by rw [wrap_i64] <;> omega
 obtain ⟨m, hm⟩ : ∃ m, m = i / 64 := ⟨_, rfl⟩
 rw [← hm] at hq g1 wq
 refine FnOk.of Tryz.func140 rfl rfl fun cx w0 => ?_
 rw [show Tryz.f140.ntmps = 26 from rfl]
 refine zs0 ?_
 refine zs1 (an g0 <| an hq <| an g1 <| wq) ?_
 exact Holds.ret (RetOk.vs rfl (by exact ⟨⟨rfl, id⟩, trivial⟩) rfl)
theorem wBitG_ok (x : List Int) (i : Nat) (hx : x.length < 100000) (ox : okW x) (hi2 : i < 4611686018427387904) : FnOk Tryz.prog 140 [.v (words x), .v (.int .i64 i)] [.v true (.bool (bitN (val x) i))] := by
 by_cases h : 64 * x.length ≤ i
 ·have : bitN (val x) i = false := by
   unfold bitN
   have h1 := val_bl ox
   have h2 : 2 ^ (64 * x.length) ≤ 2 ^ i := Nat.pow_le_pow_right (by decide) h
   rw [Nat.div_eq_of_lt (by omega)]
   rfl
  rw [this]
  exact wBit_far x i hx h hi2
 ·exact wBit_ok x i hx (by omega) ox
theorem wShr_far (x : List Int) (s : Nat) (hx : x.length < 10000) (ox : okW x) (hs : 64 * x.length ≤ s) (hs2 : s < 4611686018427387904) : FnOk Tryz.prog 142 [.v (words x), .v (.int .i64 s)] [.v true (words (digs 0))] := by
 have h1 := view_ok x (by omega)
 have lx := trimL_len x
 have hq : (s : Int).tdiv 64 = ((s / 64 : Nat) : Int) := quoN s 64
 obtain ⟨X, hX⟩ : ∃ X, X = trimL x := ⟨_, rfl⟩
 rw [← hX] at h1 lx
 have g : (X.length : Int) ≤ ((s / 64 : Nat) : Int) := by omega
 have wq : IntKind.i64.wrap ((s / 64 : Nat) : Int) = ((s / 64 : Nat) : Int) := by rw [wrap_i64] <;> omega
 obtain ⟨m, hm⟩ : ∃ m, m = s / 64 := ⟨_, rfl⟩
 rw [← hm] at hq g wq
 refine FnOk.of Tryz.func142 rfl rfl fun cx w0 => ?_
 rw [show Tryz.f142.ntmps = 64 from rfl]
 refine zs0 ?_
 refine zs2 (ρ := fun _ => [.v false (words X)]) (o := by repeat' first|exact h1|trivial|constructor) (k := ?_)
 refine Holds.seq ?_
 refine zs1 (an hq <| an g <| wq) ?_
 refine Holds.condT rfl ?_
 refine zs0 ?_
 exact Holds.ret ⟨_, [], rfl, ⟨rfl, trivial⟩, by simp [R.names, R.mems, R.blks], by simp, rfl⟩
theorem wShrG_ok (x : List Int) (s : Nat) (hx : x.length < 10000) (ox : okW x) (hs2 : s < 4611686018427387904) : FnOk Tryz.prog 142 [.v (words x), .v (.int .i64 s)] [.v true (words (digs (val x / 2 ^ s)))] := by
 by_cases h : 64 * x.length ≤ s
 ·have h1 := val_bl ox
  have h2 : 2 ^ (64 * x.length) ≤ 2 ^ s := Nat.pow_le_pow_right (by decide) h
  rw [Nat.div_eq_of_lt (by omega)]
  exact wShr_far x s hx ox h hs2
 ·exact wShr_ok x s hx (by omega) ox
set_option maxHeartbeats 2000000 in
theorem cut_ok (x : List Int) (s : Int) (st : Bool) (hx : x.length < 9000) (ox : okW x) (hs : -100000 < s ∧ s < 4611686018427387000) : FnOk Tryz.prog 82 [.v (words x), .v (.int .i64 s), .v (.bool st)] [.v true (words (digs (ctN (val x) s))), .v true (.int .i64 (ctX (val x) s st))] := by
 unfold ctN ctX
 by_cases h : s ≤ 0
 ·rw [if_pos h, if_pos h]
  obtain ⟨k, hk⟩ : ∃ k : Nat, -s = k := ⟨(-s).toNat, by omega⟩
  have hS := wShl_ok x k (by omega) (by omega) ox
  rw [hk, Int.toNat_natCast]
  obtain ⟨D, hD⟩ : ∃ D, D = digs (val x * 2 ^ k) := ⟨_, rfl⟩
  rw [← hD] at hS ⊢
  have wn : IntKind.i64.wrap (0 - s) = (k : Int) := by rw [wrap_i64] <;> omega
  refine FnOk.of Tryz.func82 rfl rfl fun cx w0 => ?_
  rw [show Tryz.f82.ntmps = 46 from rfl]
  cases st with
  | true =>
    rw [if_pos rfl]
    refine zs0 ?_
    refine Holds.seq ?_
    refine zs1 h ?_
    refine Holds.condT rfl ?_
    refine Holds.seq ?_
    refine zs0 ?_
    refine Holds.condT rfl ?_
    refine zs3 (ρ := fun _ => [.v true (words D)]) wn (o := by repeat' first|exact hS|trivial|constructor) (k := ?_)
    exact Holds.ret (RetOk.vs rfl (by exact ⟨⟨rfl, id⟩, ⟨rfl, id⟩, trivial⟩) rfl)
  | false =>
    rw [if_neg (by simp)]
    refine zs0 ?_
    refine Holds.seq ?_
    refine zs1 h ?_
    refine Holds.condT rfl ?_
    refine Holds.seq ?_
    refine zs0 ?_
    refine Holds.condF rfl (Holds.skip ?_)
    refine zs3 (ρ := fun _ => [.v true (words D)]) wn (o := by repeat' first|exact hS|trivial|constructor) (k := ?_)
    exact Holds.ret (RetOk.vs rfl (by exact ⟨⟨rfl, id⟩, ⟨rfl, id⟩, trivial⟩) rfl)
 rw [if_neg h, if_neg h]
 obtain ⟨k, hk⟩ : ∃ k : Nat, s = ((k + 1 : Nat) : Int) := ⟨(s - 1).toNat, by omega⟩
 have hB := wBitG_ok x k (by omega) ox (by omega)
 have hBl := wBelow_ok x k (by omega) ox
 have hSh := wShrG_ok x (k + 1) (by omega) ox (by omega)
 have hlow : decide ((0 : Int) < (k : Int) ∧ val x ≠ 0 ∧ (trN (val x) : Int) < (k : Int)) = decide (val x % 2 ^ k ≠ 0) := by
  refine decide_eq_decide.2 ?_
  rcases Nat.eq_zero_or_pos (val x) with h0 | h0
  ·rw [h0, Nat.zero_mod]; simp
  ·have := trN_dvd (v := val x) (k := k) h0
   rcases Nat.eq_zero_or_pos k with h1 | h1
   ·rw [h1, Nat.pow_zero, Nat.mod_one]; simp
   ·omega
 rw [hlow] at hBl
 rw [hk, Int.toNat_natCast]
 unfold ctK ctL
 rw [Nat.add_sub_cancel]
 obtain ⟨D, hD⟩ : ∃ D, D = digs (val x / 2 ^ (k + 1)) := ⟨_, rfl⟩
 obtain ⟨b, hb⟩ : ∃ b, b = bitN (val x) k := ⟨_, rfl⟩
 obtain ⟨l, hl⟩ : ∃ l, l = decide (val x % 2 ^ k ≠ 0) := ⟨_, rfl⟩
 rw [← hD] at hSh ⊢
 rw [← hb] at hB ⊢
 rw [← hl] at hBl ⊢
 have g : ¬ ((k : Int) + 1 ≤ 0) := by omega
 have wk : IntKind.i64.wrap ((k : Int) + 1 - 1) = (k : Int) := by rw [wrap_i64] <;> omega
 have hSh : FnOk Tryz.prog 142 [.v (words x), .v (.int .i64 ((k : Int) + 1))] [.v true (words D)] := hSh
 have hkb : k < 4611686018427387904 := by omega
 clear hD hb hl hlow hk h
 refine FnOk.of Tryz.func82 rfl rfl fun cx w0 => ?_
 rw [show Tryz.f82.ntmps = 46 from rfl]
 refine zs0 ?_
 refine Holds.seq ?_
 refine zs1 g ?_
 refine Holds.condF rfl (Holds.skip ?_)
 refine zs0 ?_
 have tail : ∀ (lw : Bool), lw = (st || l) → Holds Tryz.prog none cx w0 (codeAt Tryz.f82 [1, 1, 1, 0, 1]) { nt := 46, env := [(0, .v false (words x)), (1, .v true (.int .i64 ((k : Int) + 1))), (8, .v true (.int .i64 0)), (9, .v true (.bool b)), (10, .v true (.bool lw))], mem := [] } (NR (fun σ => ∀ a w, Rel cx w0 σ a w → Rel cx w0 { nt := 46, env := [(0, .v false (words x)), (1, .v true (.int .i64 ((k : Int) + 1))), (8, .v true (.int .i64 (if b = true ∧ (st || l) = true then 3 else if b = true then 2 else if (st || l) = true then 1 else 0)))], mem := [] } a w) fun _ => False) := fun lw hlw => by
  rw [← hlw]
  clear hlw
  refine Holds.blockN ?_
  cases b with
  | true =>
    cases lw with
    | true =>
      rw [if_pos ⟨rfl, rfl⟩]
      refine zs0 ?_
      refine Holds.condT rfl ?_
      refine zr0 ?_
      exact fun a w h => Rel.keep [0, 1, 8] [] h
    | false =>
      rw [if_neg (by simp), if_pos rfl]
      refine zs0 ?_
      refine Holds.condF rfl ?_
      refine zs0 ?_
      refine Holds.condT rfl ?_
      refine zr0 ?_
      exact fun a w h => Rel.keep [0, 1, 8] [] h
  | false =>
    cases lw with
    | true =>
      rw [if_neg (by simp), if_neg (by simp), if_pos rfl]
      refine zs0 ?_
      refine Holds.condF rfl ?_
      refine zs0 ?_
      refine Holds.condF rfl ?_
      refine zs0 ?_
      refine Holds.condT rfl ?_
      refine zr0 ?_
      exact fun a w h => Rel.keep [0, 1, 8] [] h
    | false =>
      rw [if_neg (by simp), if_neg (by simp), if_neg (by simp)]
      refine zs0 ?_
      refine Holds.condF rfl ?_
      refine zs0 ?_
      refine Holds.condF rfl ?_
      refine zs0 ?_
      exact Holds.condF rfl (Holds.skip fun a w h => Rel.keep [0, 1, 8] [] h)
 refine Holds.next (fun σ => ∀ a w, Rel cx w0 σ a w → Rel cx w0 { nt := 46, env := [(0, .v false (words x)), (1, .v true (.int .i64 ((k : Int) + 1))), (8, .v true (.int .i64 (if b = true ∧ (st || l) = true then 3 else if b = true then 2 else if (st || l) = true then 1 else 0)))], mem := [] } a w) ?_ ?_
 ·cases st with
  | true =>
    refine zs3 (ρ := fun _ => [.v true (.bool b)]) wk (o := by repeat' first|exact hB|trivial|constructor) (k := ?_)
    exact (Holds.from (fun a w h => Rel.keep [0, 1, 8, 9, 10] [] h) (tail true rfl)).mono fun e σ hq => by
     cases e <;> first | exact hq | exact hq.elim
  | false =>
    refine zs3 (ρ := fun d => if d = 25 then [.v true (.bool b)] else [.v true (.bool l)]) wk (o := by repeat' first|exact hB|exact hBl|trivial|constructor) (k := ?_)
    exact (Holds.from (fun a w h => Rel.keep [0, 1, 8, 9, 10] [] h) (tail l (by rw [Bool.false_or]))).mono fun e σ hq => by
     cases e <;> first | exact hq | exact hq.elim
 ·intro σ hσ
  refine Holds.from hσ ?_
  obtain ⟨z, hz⟩ : ∃ z : Int, z = (if b = true ∧ (st || l) = true then 3 else if b = true then 2 else if (st || l) = true then 1 else 0) := ⟨_, rfl⟩
  rw [← hz]
  refine zs2 (ρ := fun _ => [.v true (words D)]) (o := by repeat' first|exact hSh|trivial|constructor) (k := ?_)
  exact Holds.ret (RetOk.vs rfl (by exact ⟨⟨rfl, id⟩, ⟨rfl, id⟩, trivial⟩) rfl)
theorem Make_ok (neg : Bool) (x : List Int) (e : Int) (hx : x.length < 9000) (ox : okW x) (he : -4611686018427380000 < e ∧ e < 4611686018427380000) : FnOk Tryz.prog 86 [.v (.bool neg), .v (words x), .v (.int .i64 e)] [.v true (if val x = 0 then fltV 0 neg 0 0 else fltV 1 neg (e + trN (val x)) (val x / 2 ^ trN (val x)))] := by
 have hZ := wZero_ok x (by omega) ox
 rcases Nat.eq_zero_or_pos (val x) with h0 | h0
 ·rw [decide_eq_true h0] at hZ
  rw [if_pos h0, fltV_zero]
  refine FnOk.of Tryz.func86 rfl rfl fun cx w0 => ?_
  rw [show Tryz.f86.ntmps = 22 from rfl]
  refine zs0 ?_
  refine Holds.seq ?_
  refine zs2 (ρ := fun _ => [.v true (.bool true)]) (o := by repeat' first|exact hZ|trivial|constructor) (k := ?_)
  refine Holds.condT rfl ?_
  refine zs0 ?_
  exact Holds.ret (RetOk.vs rfl (by exact ⟨⟨rfl, id⟩, trivial⟩) rfl)
 ·rw [decide_eq_false (by omega)] at hZ
  rw [if_neg (by omega)]
  have hT := wTrailing_ok x (by omega) ox
  have htl : trN (val x) < 64 * x.length := trN_le h0 (val_bl ox)
  have hS := wShr_ok x (trN (val x)) (by omega) (by omega) ox
  unfold fltV
  obtain ⟨t, ht⟩ : ∃ t, t = trN (val x) := ⟨_, rfl⟩
  rw [← ht] at hT hS htl ⊢
  obtain ⟨D, hD⟩ : ∃ D, D = digs (val x / 2 ^ t) := ⟨_, rfl⟩
  rw [← hD] at hS ⊢
  have w1 : IntKind.i64.wrap (e + (t : Int)) = e + t := by rw [wrap_i64] <;> omega
  refine FnOk.of Tryz.func86 rfl rfl fun cx w0 => ?_
  rw [show Tryz.f86.ntmps = 22 from rfl]
  refine zs0 ?_
  refine Holds.seq ?_
  refine zs2 (ρ := fun _ => [.v true (.bool false)]) (o := by repeat' first|exact hZ|trivial|constructor) (k := ?_)
  refine Holds.condF rfl (Holds.skip ?_)
  refine zs2 (ρ := fun _ => [.v true (.int .i64 t)]) (o := by repeat' first|exact hT|trivial|constructor) (k := ?_)
  refine zs3 (ρ := fun _ => [.v true (words D)]) w1 (o := by repeat' first|exact hS|trivial|constructor) (k := ?_)
  exact Holds.ret (RetOk.vs rfl (by exact ⟨⟨rfl, id⟩, trivial⟩) rfl)
theorem power_ok (e : Int) : FnOk Tryz.prog 143 [.v (.int .i64 e)] [.v true (fltV 1 false e 1)] := by
 rw [fltV_eq, show ((digs 1).map fun n => V.int .u64 n) = [V.int .u64 1] from rfl]
 refine FnOk.of Tryz.func143 rfl rfl fun cx w0 => ?_
 rw [show Tryz.f143.ntmps = 6 from rfl]
 refine zs0 ?_
 refine Holds.seq (Holds.regionZ (Px := px) (T := TT) (ρ := fun _ => []) (k := 2) (σ2 := { nt := 6, env := [(3, .v true (.int .i64 e)), (4, .v true (.sl 1 [.int .u64 1])), (2, .ptr 2 0 [] 0)], mem := [(2, .box 32 (.v true (.agg [.int .i64 0, .bool false, .int .i64 0, .sl 1 []])))] }) TTe (by simp (maxSteps := 100000) (disch := omega) only [List.take_succ_cons, List.take_zero, go_sem, V.isAgg, V.flat, ↓reduceIte, Nat.reduceAdd, Nat.reduceSub, Nat.reduceLT, Nat.reduceEqDiff, reduceCtorEq, Nat.reduceLeDiff, Nat.reduceBEq, Nat.reduceMul, Int.reduceToNat]; rfl) (by repeat' first | exact trivial | constructor) (Nat.le_of_ble_eq_true rfl) (by exact fun a w h => Rel.keep [3, 4, 2] [2] (Rel.freeze (s := 4) h rfl)) ⟨_, _, by simp (maxSteps := 100000) (disch := omega) only [List.drop_succ_cons, List.drop_zero, go_sem, V.isAgg, V.flat, ↓reduceIte, Nat.reduceAdd, Nat.reduceSub, Nat.reduceLT, Nat.reduceEqDiff, reduceCtorEq, Nat.reduceLeDiff, Nat.reduceBEq, Nat.reduceMul, Int.reduceToNat]; rfl, by repeat' first | exact trivial | constructor, ?_⟩); show Holds _ _ _ _ _ _ _
 exact Holds.ret (RetOk.vs rfl (by exact ⟨⟨rfl, id⟩, trivial⟩) rfl)
theorem Limits_ok (K p : Nat) (hK : 1 ≤ K ∧ K ≤ 14) (hP : 2 ≤ p ∧ p ≤ 256) : FnOk Tryz.prog 85 [.v (fmtV ((K + 1 : Nat) : Int) p)] [.v true (fltV 1 false (gK K - p + 1) (2 ^ p - 1)), .v true (fltV 1 false (1 - gK K) 1), .v true (fltV 1 false (1 - gK K - (p - 1)) 1), .v true (.int .i64 0)] := by
 have hR := fRange_ok K p hK (by omega)
 have hG := gK_bd hK
 have o1 : okW [(1 : Int)] := by intro n hn; simp at hn; omega
 have hS := wShl_ok [1] p (by simp) (by omega) o1
 rw [show val [(1 : Int)] = 1 from by decide, Nat.one_mul] at hS
 obtain ⟨q5, hq5⟩ : ∃ q, q = 5 := ⟨_, rfl⟩
 have h2l : (digs (2 ^ p)).length ≤ q5 := digs_len (by
  rw [show (18446744073709551616 : Nat) = 2 ^ 64 from rfl, ← Nat.pow_mul]
  exact Nat.pow_lt_pow_right (by decide) (by omega))
 have hU := wSub_ok (digs (2 ^ p)) [1] (by omega) (by simp) (digs_ok _).1 o1 (by rw [(digs_ok _).2.2, show val [(1 : Int)] = 1 from by decide]; exact Nat.pow_pos (by decide))
 rw [(digs_ok _).2.2, show val [(1 : Int)] = 1 from by decide] at hU
 have hS : FnOk Tryz.prog 88 [.v (.sl 1 [.int .u64 1]), .v (.int .i64 (p : Int))] [.v true (words (digs (2 ^ p)))] := hS
 have hU : FnOk Tryz.prog 144 [.v (words (digs (2 ^ p))), .v (.sl 1 [.int .u64 1])] [.v true (words (digs (2 ^ p - 1)))] := hU
 obtain ⟨G, hG'⟩ : ∃ G, G = gK K := ⟨_, rfl⟩
 rw [← hG'] at hR hG ⊢
 have hp1 := power_ok (1 - G)
 have hp2 := power_ok (1 - G - ((p : Int) - 1))
 rw [fltV_eq, show ((digs 1).map fun n => V.int .u64 n) = [V.int .u64 1] from rfl] at hp1 hp2
 rw [fltV_eq, fltV_eq, fltV_eq, show ((digs 1).map fun n => V.int .u64 n) = [V.int .u64 1] from rfl]
 obtain ⟨S, hS'⟩ : ∃ S, S = digs (2 ^ p) := ⟨_, rfl⟩
 obtain ⟨U, hU'⟩ : ∃ U, U = digs (2 ^ p - 1) := ⟨_, rfl⟩
 rw [← hS'] at hS hU
 rw [← hU'] at hU ⊢
 obtain ⟨k, hk⟩ : ∃ k : Int, k = ((K + 1 : Nat) : Int) := ⟨_, rfl⟩
 rw [← hk] at hR ⊢
 have w1 : IntKind.i64.wrap (G - (p : Int)) = G - p := by rw [wrap_i64] <;> omega
 have w2 : IntKind.i64.wrap (G - (p : Int) + 1) = G - p + 1 := by rw [wrap_i64] <;> omega
 clear hG' hk hS' hU' h2l
 unfold fmtV at hR ⊢
 refine FnOk.of Tryz.func85 rfl rfl fun cx w0 => ?_
 rw [show Tryz.f85.ntmps = 43 from rfl]
 refine zs0 ?_
 refine zs2 (ρ := fun _ => [.v true (.int .i64 (1 - G)), .v true (.int .i64 G), .v true (.int .i64 (1 - G - ((p : Int) - 1))), .v true (.int .i64 0)]) (o := by repeat' first|exact hR|trivial|constructor) (k := ?_)
 refine Holds.seq ?_
 refine zs0 ?_
 refine Holds.condF rfl (Holds.skip ?_)
 refine zs0 ?_
 refine zs2 (ρ := fun d => if d = 27 then [.v true (words S)] else [.v true (words U)]) (o := by repeat' first|exact hS|exact hU|trivial|constructor) (k := ?_)
 refine zd3 [(9, 13), (12, 14)] (ρ := fun d => if d = 39 then [.v true (.agg [.int .i64 (1 : Nat), .bool false, .int .i64 (1 - G), .sl 1 [.int .u64 1]])] else [.v true (.agg [.int .i64 (1 : Nat), .bool false, .int .i64 (1 - G - ((p : Int) - 1)), .sl 1 [.int .u64 1]])]) (an w1 <| w2) (o := by repeat' first|exact hp1|exact hp2|trivial|constructor) (k := ?_)
 exact Holds.ret (RetOk.vs rfl (by exact ⟨⟨rfl, id⟩, ⟨rfl, id⟩, ⟨rfl, id⟩, ⟨rfl, id⟩, trivial⟩) rfl)
def fresV (f : FRes) : List R := [.v true (fltV f.1 f.2.1 f.2.2.1 f.2.2.2.1), .v true (.int .i64 f.2.2.2.2)]
def flS (k P G r : Int) (neg : Bool) (e u : Int) (n : Nat) (x : Int) : St := { nt := 90, env := [(1, .v true (.int .i64 r)), (2, .v true (.bool neg)), (6, .ptr 6 0 [] 0), (12, .ptr 12 0 [] 0), (14, .v true (.int .i64 (1 - G))), (15, .v true (.int .i64 G)), (18, .v true (.int .i64 e)), (19, .v true (.int .i64 u)), (20, .v true (words (digs n))), (21, .v true (.int .i64 x))], mem := [(6, .box 26 (.v false (.agg [.int .i64 k, .int .i64 P]))), (12, .box 32 (.v true (.agg [.int .i64 0, .bool false, .int .i64 0, .sl 1 []])))] }
set_option maxHeartbeats 4000000 in
theorem fl_tail {cx : Cx} {w0 : World} (K p : Nat) (r : Nat) (neg : Bool) (e u : Int) (n : Nat) (x : Int) (hK : 1 ≤ K ∧ K ≤ 14) (hP : 2 ≤ p ∧ p ≤ 256) (hr : r ≤ 4) (hn : (digs n).length < 1000) (hb : blN n < 100000) (hu : -100000 < u ∧ u < 4611686018427300000)
 (hC : gK K < u + (blN n : Nat) - 1 ↔ (gK K < e ∨ 2 ^ (gK K + 1 - u).toNat ≤ n)) (hx : n = 0 → x ≠ 0 ∧ e < 1 - gK K) :
 Holds Tryz.prog none cx w0 (codeAt Tryz.f37 [1, 1, 1, 1, 1, 1]) (flS ((K + 1 : Nat) : Int) p (gK K) r neg e u n x) (fnQ Tryz.prog Tryz.f37 (fresV (if gK K < e ∨ 2 ^ (gK K + 1 - u).toNat ≤ n then fOver p (gK K) r neg
  else if n = 0 then (0, neg, 0, 0, 3) else (1, neg, u + trN n, n / 2 ^ trN n, if x = 0 then 0 else if e < 1 - gK K then 3 else 1)))) := by
 have hL := wLen_ok (digs n) (by omega) (digs_ok _).1
 rw [(digs_ok n).2.2] at hL
 have hG := gK_bd hK
 have hgr := greatest_ok r hr neg
 have hLi := Limits_ok K p hK hP
 have hMk := Make_ok neg (digs n) u (by omega) (digs_ok _).1 (by omega)
 rw [(digs_ok n).2.2] at hMk
 obtain ⟨G, hG'⟩ : ∃ G, G = gK K := ⟨_, rfl⟩
 rw [← hG'] at hC hx hG hLi ⊢
 obtain ⟨bl, hbl⟩ : ∃ bl, bl = blN n := ⟨_, rfl⟩
 rw [← hbl] at hC hL hb
 have w1 : IntKind.i64.wrap (u + (bl : Int)) = u + bl := by rw [wrap_i64] <;> omega
 have w2 : IntKind.i64.wrap (u + (bl : Int) - 1) = u + bl - 1 := by rw [wrap_i64] <;> omega
 obtain ⟨N, hN⟩ : ∃ N, N = digs n := ⟨_, rfl⟩
 obtain ⟨k, hk⟩ : ∃ k : Int, k = ((K + 1 : Nat) : Int) := ⟨_, rfl⟩
 rw [← hk] at hLi ⊢
 rw [← hN] at hL hMk
 have ho : bitI .or .i64 1 2 = 3 := by decide
 by_cases hc : G < u + (bl : Int) - 1
 ·rw [if_pos (hC.1 hc)]
  unfold flS
  rw [← hN]
  refine Holds.seq ?_
  refine zs3 (ρ := fun _ => [.v true (.int .i64 bl)]) (an w1 <| an w2 <| hc) (o := by repeat' first|exact hL|trivial|constructor) (k := ?_)
  refine Holds.condT rfl ?_
  refine Holds.seq ?_
  unfold fOver
  cases hg : grB r neg with
  | true =>
    rw [hg] at hgr
    rw [if_pos rfl]
    unfold fresV
    simp only
    rw [Int.toNat_natCast]
    rw [fltV_eq, fltV_eq, fltV_eq] at hLi
    rw [fltV_eq]
    obtain ⟨U, hU⟩ : ∃ U, U = (digs (2 ^ p - 1)).map fun n => V.int .u64 n := ⟨_, rfl⟩
    obtain ⟨O, hO⟩ : ∃ O, O = (digs 1).map fun n => V.int .u64 n := ⟨_, rfl⟩
    rw [← hU, ← hO] at hLi
    rw [← hU]
    unfold fmtV at hLi
    refine zs2 (ρ := fun _ => [.v true (.bool true)]) (o := by repeat' first|exact hgr|trivial|constructor) (k := ?_)
    refine Holds.condT rfl ?_
    refine zs2 (ρ := fun _ => [.v true (.agg [.int .i64 (1 : Nat), .bool false, .int .i64 (G - (p : Int) + 1), .sl 1 U]), .v true (.agg [.int .i64 (1 : Nat), .bool false, .int .i64 (1 - G), .sl 1 O]), .v true (.agg [.int .i64 (1 : Nat), .bool false, .int .i64 (1 - G - ((p : Int) - 1)), .sl 1 O]), .v true (.int .i64 0)]) (o := by repeat' first|exact hLi|trivial|constructor) (k := ?_)
    refine zs0 ?_
    refine zs0 ?_
    exact Holds.ret (RetOk.vs rfl (by exact ⟨⟨rfl, id⟩, ⟨rfl, id⟩, trivial⟩) rfl)
  | false =>
    rw [hg] at hgr
    rw [if_neg (by simp)]
    unfold fresV
    simp only
    rw [fltV_zero]
    refine zs2 (ρ := fun _ => [.v true (.bool false)]) (o := by repeat' first|exact hgr|trivial|constructor) (k := ?_)
    refine Holds.condF rfl (Holds.skip ?_)
    refine zs0 ?_
    exact Holds.ret (RetOk.vs rfl (by exact ⟨⟨rfl, id⟩, ⟨rfl, id⟩, trivial⟩) rfl)
 ·rw [if_neg (fun h => hc (hC.2 h))]
  obtain ⟨fl, hfl⟩ : ∃ fl : Int, fl = if x = 0 then 0 else if e < 1 - G then 3 else 1 := ⟨_, rfl⟩
  rw [← hfl]
  unfold flS
  rw [← hN]
  refine Holds.seq ?_
  refine zs3 (ρ := fun _ => [.v true (.int .i64 bl)]) (an w1 <| an w2 <| hc) (o := by repeat' first|exact hL|trivial|constructor) (k := ?_)
  refine Holds.condF rfl (Holds.skip ?_)
  refine zs0 ?_
  refine Holds.next (fun σ => ∀ a w, Rel cx w0 σ a w → Rel cx w0 { nt := 90, env := [(2, .v true (.bool neg)), (12, .ptr 12 0 [] 0), (19, .v true (.int .i64 u)), (20, .v true (words N)), (26, .v true (.int .i64 fl))], mem := [(12, .box 32 (.v true (.agg [.int .i64 0, .bool false, .int .i64 0, .sl 1 []])))] } a w) ?_ ?_
  ·by_cases hx0 : x = 0
   ·rw [if_pos hx0] at hfl
    subst hfl
    refine zs1 hx0 ?_
    exact Holds.condF rfl (Holds.skip fun a w h => Rel.keep [2, 12, 19, 20, 26] [12] h)
   ·rw [if_neg hx0] at hfl
    by_cases he : e < 1 - G
    ·rw [if_pos he] at hfl
     subst hfl
     refine zs1 hx0 ?_
     refine Holds.condT rfl ?_
     refine zs0 ?_
     refine zs1 he ?_
     refine Holds.condT rfl ?_
     refine zr1 ho ?_
     exact fun a w h => Rel.keep [2, 12, 19, 20, 26] [12] h
    ·rw [if_neg he] at hfl
     subst hfl
     refine zs1 hx0 ?_
     refine Holds.condT rfl ?_
     refine zs0 ?_
     refine zs1 he ?_
     exact Holds.condF rfl (Holds.skip fun a w h => Rel.keep [2, 12, 19, 20, 26] [12] h)
  ·intro σ hσ
   refine Holds.from hσ ?_
   by_cases h0 : n = 0
   ·obtain ⟨hx1, hx2⟩ := hx h0
    rw [if_neg hx1, if_pos hx2] at hfl
    subst hfl
    rw [if_pos h0] at hMk ⊢
    unfold fresV
    simp only
    rw [fltV_zero] at hMk ⊢
    refine zs2 (ρ := fun _ => [.v true (.agg [.int .i64 (0 : Nat), .bool neg, .int .i64 0, .sl 1 []])]) (o := by repeat' first|exact hMk|trivial|constructor) (k := ?_)
    exact Holds.ret (RetOk.vs rfl (by exact ⟨⟨rfl, id⟩, ⟨rfl, id⟩, trivial⟩) rfl)
   ·rw [if_neg h0] at hMk ⊢
    unfold fresV
    simp only
    rw [fltV_eq] at hMk ⊢
    obtain ⟨U, hU⟩ : ∃ U, U = (digs (n / 2 ^ trN n)).map fun n => V.int .u64 n := ⟨_, rfl⟩
    obtain ⟨ez, hez⟩ : ∃ ez, ez = u + (trN n : Int) := ⟨_, rfl⟩
    rw [← hU, ← hez] at hMk ⊢
    refine zs2 (ρ := fun _ => [.v true (.agg [.int .i64 (1 : Nat), .bool neg, .int .i64 ez, .sl 1 U])]) (o := by repeat' first|exact hMk|trivial|constructor) (k := ?_)
    exact Holds.ret (RetOk.vs rfl (by exact ⟨⟨rfl, id⟩, ⟨rfl, id⟩, trivial⟩) rfl)
theorem bl_pow {n k : Nat} : k < blN n ↔ 2 ^ k ≤ n := by
 constructor
 ·intro h
  rcases Nat.lt_or_ge n (2 ^ k) with h1 | h1
  ·have := bl_lt h1; omega
  ·exact h1
 ·intro h
  rcases Nat.lt_or_ge k (blN n) with h1 | h1
  ·exact h1
  ·exfalso
   have hp : 0 < 2 ^ k := Nat.pow_pos (by decide)
   have hn : 0 < n := by omega
   have h2 : n < 2 ^ blN n := by unfold blN; rw [if_neg (by omega)]; exact Nat.lt_log2_self
   have h3 := Nat.pow_le_pow_right (n := 2) (by decide) h1
   omega
set_option maxHeartbeats 4000000 in
theorem fFloat_ok (K p : Nat) (r : Nat) (neg : Bool) (x : List Int) (X D q : Nat) (e : Int) (hK : 1 ≤ K ∧ K ≤ 14) (hP : 2 ≤ p ∧ p ≤ 256) (hr : r ≤ 4) (hx : x.length < 900) (ox : okW x) (hv : 0 < val x) (hX : X = val x * D + q) (hq : q < D)
 (hst : q ≠ 0 → p + 2 ≤ blN (val x)) (hD : q = 0 → D = 1 ∨ p ≤ blN (val x)) (he : -2199023255552 < e ∧ e < 2199023255552) :
 FnOk Tryz.prog 37 [.v (fmtV ((K + 1 : Nat) : Int) p), .v (.int .i64 r), .v (.bool neg), .v (words x), .v (.int .i64 e), .v (.bool (decide (q ≠ 0)))] (fresV (fRnd p (gK K) r neg X D e (e + (blN (val x) : Nat) - 1))) := by
 have hG := gK_bd hK
 have hbl : blN (val x) ≤ 64 * x.length := bl_lt (val_bl ox)
 have hb1 := (bl_le hv).2
 have hR := fRange_ok K p hK (by omega)
 have hL := wLen_ok x (by omega) ox
 obtain ⟨b, hb⟩ : ∃ b, b = blN (val x) := ⟨_, rfl⟩
 rw [← hb] at hbl hb1 hL hst hD ⊢
 obtain ⟨E, hE⟩ : ∃ E : Int, E = e + b - 1 := ⟨_, rfl⟩
 rw [← hE]
 have hS := fStep_ok K p E hK (by omega) (by omega)
 have hu : fU p (gK K) E = max E (1 - gK K) - p + 1 := rfl
 obtain ⟨G, hG'⟩ : ∃ G, G = gK K := ⟨_, rfl⟩
 obtain ⟨u, hu'⟩ : ∃ u, u = fU p G E := ⟨_, rfl⟩
 rw [← hG'] at hG hR hS hu
 rw [← hu'] at hS hu
 have hc := cut_ok x (u - e) (decide (q ≠ 0)) (by omega) ox (by omega)
 have hD0 : 0 < D := by omega
 have hcut : ctN (val x) (u - e) = cutN X D (e - u) ∧ ctX (val x) (u - e) (decide (q ≠ 0)) = cutX X D (e - u) := by
  unfold ctN ctX
  by_cases h : u - e ≤ 0
  ·rw [if_pos h, if_pos h]
   have hq0 : q = 0 := by
    rcases Nat.eq_zero_or_pos q with h0 | h0
    ·exact h0
    ·have := hst (by omega); omega
   obtain ⟨k, hk⟩ : ∃ k : Nat, e - u = k := ⟨(e - u).toNat, by omega⟩
   rw [show -(u - e) = e - u from by omega, hk, Int.toNat_natCast, decide_eq_false (by omega), if_neg (by simp)]
   have h1 := cut_eq (num := X) (den := D) (i := k) (j := 0) (d := k) (by omega)
   rw [Nat.pow_zero, Nat.mul_one, hX, hq0, Nat.add_zero, Nat.mul_right_comm, Nat.mul_div_cancel _ hD0, Nat.mul_mod_left] at h1
   rw [hX, hq0, Nat.add_zero]
   exact ⟨h1.1, by rw [← h1.2]; rfl⟩
  ·rw [if_neg h, if_neg h]
   obtain ⟨k, hk⟩ : ∃ k : Nat, u - e = k := ⟨(u - e).toNat, by omega⟩
   rw [hk, Int.toNat_natCast]
   obtain ⟨c1, c2⟩ := ct_exact (v := val x) (D := D) (r := q) (k := k) hX hq (by omega)
   have h1 := cut_eq (num := X) (den := D) (i := 0) (j := k) (d := e - u) (by omega)
   rw [Nat.pow_zero, Nat.mul_one] at h1
   rw [← c1, ← c2]
   exact h1
 rw [hcut.1, hcut.2] at hc
 obtain ⟨c3, hc3⟩ : ∃ c, c = 300 := ⟨_, rfl⟩
 have hnl : cutN X D (e - u) < 2 ^ (64 * x.length + c3) := by
  rw [← hcut.1]
  have h1 := val_bl ox
  unfold ctN
  split
  ·rw [Nat.pow_add]
   have h2 : 2 ^ (-(u - e)).toNat ≤ 2 ^ c3 := Nat.pow_le_pow_right (by decide) (by omega)
   exact Nat.lt_of_le_of_lt (Nat.mul_le_mul_left _ h2) ((Nat.mul_lt_mul_right (Nat.pow_pos (by decide))).2 h1)
  ·have h2 := Nat.div_le_self (val x) (2 ^ (u - e).toNat)
   have h3 : 2 ^ (64 * x.length) ≤ 2 ^ (64 * x.length + c3) := Nat.pow_le_pow_right (by decide) (by omega)
   omega
 have hdl : ∀ {m : Nat}, m ≤ 2 ^ (64 * x.length + c3) → (digs m).length < 1000 := fun {m} hm => by
  have := digs_len (v := m) (m := x.length + 5) (by
   rw [show (18446744073709551616 : Nat) = 2 ^ 64 from rfl, ← Nat.pow_mul]
   exact Nat.lt_of_le_of_lt hm (Nat.pow_lt_pow_right (by decide) (by omega)))
  omega
 have hcl := hdl (Nat.le_of_lt hnl)
 have hUp := up_ok r hr neg (digs (cutN X D (e - u))) (cutX X D (e - u)) (by omega) (digs_ok _).1
 rw [(digs_ok _).2.2] at hUp
 have hfn : upN r neg (cutN X D (e - u)) (cutX X D (e - u)) = fN r neg X D (e - u) := rfl
 rw [hfn] at hUp
 have hle := upN_le r neg (cutN X D (e - u)) (cutX X D (e - u))
 rw [hfn] at hle
 have hIE := isE_bl hX hq hv
 have hmain : fRnd p G r neg X D e E = (if G < E ∨ 2 ^ (G + 1 - u).toNat ≤ fN r neg X D (e - u) then fOver p G r neg
  else if fN r neg X D (e - u) = 0 then (0, neg, 0, 0, 3) else (1, neg, u + trN (fN r neg X D (e - u)), fN r neg X D (e - u) / 2 ^ trN (fN r neg X D (e - u)), if cutX X D (e - u) = 0 then 0 else if E < 1 - G then 3 else 1)) := by
  rw [hu']; rfl
 have hvl := (bl_pow (n := val x) (k := b - 1)).1 (by omega)
 have hvu : val x < 2 ^ b := by rw [hb]; unfold blN; rw [if_neg (by omega)]; exact Nat.lt_log2_self
 have hC : G < u + (blN (fN r neg X D (e - u)) : Nat) - 1 ↔ (G < E ∨ 2 ^ (G + 1 - u).toNat ≤ fN r neg X D (e - u)) := by
  by_cases hGE : G < E
  ·have hge : 2 ^ (p - 1) ≤ fN r neg X D (e - u) := by
    refine Nat.le_trans ?_ hle.1
    rw [← hcut.1]
    unfold ctN
    split
    ·next h =>
     refine Nat.le_trans ?_ (Nat.mul_le_mul_right _ hvl)
     rw [← Nat.pow_add]
     exact Nat.pow_le_pow_right (by decide) (by omega)
    ·next h =>
     rw [Nat.le_div_iff_mul_le (Nat.pow_pos (by decide)), ← Nat.pow_add]
     exact Nat.le_trans (Nat.pow_le_pow_right (by decide) (by omega)) hvl
   have := bl_pow.2 hge
   exact ⟨fun _ => .inl hGE, fun _ => by omega⟩
  ·obtain ⟨k, hk⟩ : ∃ k : Nat, G + 1 - u = k := ⟨(G + 1 - u).toNat, by omega⟩
   rw [hk, Int.toNat_natCast, ← bl_pow]
   omega
 have hx0 : fN r neg X D (e - u) = 0 → cutX X D (e - u) ≠ 0 ∧ E < 1 - G := fun h0 => by
  have h1 : cutN X D (e - u) = 0 := by omega
  rw [← hcut.1] at h1
  unfold ctN at h1
  split at h1
  ·exfalso
   rcases Nat.mul_eq_zero.1 h1 with h | h
   ·omega
   ·have := Nat.pow_pos (a := 2) (n := (-(u - e)).toNat) (by decide); omega
  ·next h =>
   obtain ⟨k, hk⟩ : ∃ k : Nat, u - e = k := ⟨(u - e).toNat, by omega⟩
   rw [hk, Int.toNat_natCast] at h1
   have hvk : val x < 2 ^ k := by
    rcases Nat.lt_or_ge (val x) (2 ^ k) with h2 | h2
    ·exact h2
    ·have := Nat.div_pos h2 (Nat.pow_pos (by decide)); omega
   have hkb : b ≤ k := by
    rcases Nat.lt_or_ge k b with h2 | h2
    ·have := bl_pow.1 (show k < blN (val x) by omega); omega
    ·exact h2
   refine ⟨fun h2 => ?_, by omega⟩
   have h3 := cut_eq (num := X) (den := D) (i := 0) (j := k) (d := e - u) (by omega)
   rw [Nat.pow_zero, Nat.mul_one] at h3
   rw [← h3.2] at h2
   unfold rstN at h2
   have hXl : X < D * 2 ^ k := by
    rw [hX]
    have h4 : val x * D + D ≤ 2 ^ k * D := by rw [← Nat.succ_mul]; exact Nat.mul_le_mul_right D hvk
    rw [Nat.mul_comm D]; omega
   rw [Nat.mod_eq_of_lt hXl] at h2
   have hX0 : 0 < X := by rw [hX]; have := Nat.mul_pos hv hD0; omega
   rw [if_neg (by omega)] at h2
   unfold cmpN at h2
   split at h2 <;> first | omega | (split at h2 <;> omega)
 have hT := fun {cx w0} => fl_tail (cx := cx) (w0 := w0) K p r neg E u (fN r neg X D (e - u)) (cutX X D (e - u)) hK hP hr (hdl (by omega)) (by
  have : fN r neg X D (e - u) < 2 ^ (64 * x.length + c3 + 1) := by rw [Nat.pow_succ]; omega
  have := bl_lt this
  omega) (by omega) (by rw [← hG']; exact hC) (by rw [← hG']; exact hx0)
 rw [← hG', ← hmain] at hT
 obtain ⟨res, hres⟩ : ∃ res, res = fresV (fRnd p G r neg X D e E) := ⟨_, rfl⟩
 rw [← hG', ← hres]
 rw [← hres] at hT
 obtain ⟨n0, hn0⟩ : ∃ n, n = digs (cutN X D (e - u)) := ⟨_, rfl⟩
 obtain ⟨x0, hx0'⟩ : ∃ z, z = cutX X D (e - u) := ⟨_, rfl⟩
 obtain ⟨N, hN⟩ : ∃ N, N = digs (fN r neg X D (e - u)) := ⟨_, rfl⟩
 rw [← hn0, ← hx0'] at hc
 rw [← hn0, ← hx0', ← hN] at hUp
 rw [← hx0'] at hT
 obtain ⟨st, hst'⟩ : ∃ st, st = decide (q ≠ 0) := ⟨_, rfl⟩
 rw [← hst'] at hc ⊢
 have w1 : IntKind.i64.wrap (e + (b : Int)) = e + b := by rw [wrap_i64] <;> omega
 have w2 : IntKind.i64.wrap (e + (b : Int) - 1) = E := by rw [hE, wrap_i64] <;> omega
 have w3 : IntKind.i64.wrap (u - e) = u - e := by rw [wrap_i64] <;> omega
 obtain ⟨k, hk⟩ : ∃ k : Int, k = ((K + 1 : Nat) : Int) := ⟨_, rfl⟩
 rw [← hk] at hR hS hT ⊢
 clear hmain hC hx0 hle hfn hcut hnl hdl hcl hIE hvl hvu hX hq hst hD hres hn0 hx0' hst' hu hu' hG' hk hb hbl
 unfold fmtV at hR hS ⊢
 refine FnOk.of Tryz.func37 rfl rfl fun cx w0 => ?_
 rw [show Tryz.f37.ntmps = 90 from rfl]
 refine zs0 ?_
 refine zs2 (ρ := fun _ => [.v true (.int .i64 (1 - G)), .v true (.int .i64 G), .v true (.int .i64 (1 - G - ((p : Int) - 1))), .v true (.int .i64 0)]) (o := by repeat' first|exact hR|trivial|constructor) (k := ?_)
 refine zs3 (ρ := fun _ => [.v true (.int .i64 b)]) (an w1 <| w2) (o := by repeat' first|exact hL|trivial|constructor) (k := ?_)
 refine zs2 (ρ := fun _ => [.v true (.int .i64 u)]) (o := by repeat' first|exact hS|trivial|constructor) (k := ?_)
 refine zs3 (ρ := fun _ => [.v true (words n0), .v true (.int .i64 x0)]) w3 (o := by repeat' first|exact hc|trivial|constructor) (k := ?_)
 refine zs2 (ρ := fun _ => [.v true (words N)]) (o := by repeat' first|exact hUp|trivial|constructor) (k := ?_)
 exact Holds.from (σ' := flS k p G r neg E u (fN r neg X D (e - u)) x0) (fun a w h => by
  have := Rel.keep [1, 2, 6, 12, 14, 15, 18, 19, 20, 21] [6, 12] h
  unfold flS
  rw [← hN]
  exact this) hT
theorem isE_shift {num den s : Nat} {e : Int} (h : IsE (num * 2 ^ s) den e) : IsE num den (e - s) := fun i j hij => by
 obtain ⟨a, b⟩ := h (i + s) j (by omega)
 have hp : 0 < 2 ^ s := Nat.pow_pos (by decide)
 rw [Nat.mul_right_comm] at a b
 rw [Nat.pow_add, ← Nat.mul_assoc] at a
 rw [show i + s + 1 = i + 1 + s from by omega, Nat.pow_add, ← Nat.mul_assoc] at b
 exact ⟨Nat.le_of_mul_le_mul_right a hp, Nat.lt_of_mul_lt_mul_right b⟩
theorem fres_form (f : FRes) : ∃ k neg e m fl, fresV f = [.v true (.agg [.int .i64 (k : Nat), .bool neg, .int .i64 e, .sl 1 ((digs m).map fun n => .int .u64 n)]), .v true (.int .i64 fl)] := ⟨f.1, f.2.1, f.2.2.1, f.2.2.2.1, f.2.2.2.2, rfl⟩
set_option maxHeartbeats 4000000 in
theorem fRatio_ok (K p : Nat) (r : Nat) (neg : Bool) (x y : List Int) (e : Int) (hK : 1 ≤ K ∧ K ≤ 14) (hP : 2 ≤ p ∧ p ≤ 256) (hr : r ≤ 4) (hx : x.length ≤ 800) (hy : y.length ≤ 800) (ox : okW x) (oy : okW y) (hx0 : 0 < val x) (hy0 : 0 < val y) (hE : IsE (val x) (val y) e) :
 FnOk Tryz.prog 39 [.v (fmtV ((K + 1 : Nat) : Int) p), .v (.int .i64 r), .v (.bool neg), .v (words x), .v (words y), .v (.int .i64 0)] (fresV (fRnd p (gK K) r neg (val x) (val y) 0 e)) := by
 have hbx : blN (val x) ≤ 64 * x.length := bl_lt (val_bl ox)
 have hby : blN (val y) ≤ 64 * y.length := bl_lt (val_bl oy)
 have hLx := wLen_ok x (by omega) ox
 have hLy := wLen_ok y (by omega) oy
 obtain ⟨bx1, bx2⟩ := bl_le hx0
 have bx3 : val x < 2 ^ blN (val x) := by unfold blN; rw [if_neg (by omega)]; exact Nat.lt_log2_self
 have by3 : val y < 2 ^ blN (val y) := by unfold blN; rw [if_neg (by omega)]; exact Nat.lt_log2_self
 obtain ⟨a, ha⟩ : ∃ a, a = blN (val x) := ⟨_, rfl⟩
 obtain ⟨b, hb⟩ : ∃ b, b = blN (val y) := ⟨_, rfl⟩
 rw [← ha] at hbx hLx bx1 bx2 bx3
 rw [← hb] at hby hLy by3
 obtain ⟨s, hs⟩ : ∃ s : Nat, s = ((p : Int) + 3 - a + b).toNat := ⟨_, rfl⟩
 obtain ⟨X, hX⟩ : ∃ X, X = val x * 2 ^ s := ⟨_, rfl⟩
 have hXb : X < 2 ^ (a + s) := by rw [hX, Nat.pow_add]; exact (Nat.mul_lt_mul_right (Nat.pow_pos (by decide))).2 bx3
 have hXl : (digs X).length < 850 := by
  have := digs_len (v := X) (m := (a + s) / 64 + 1) (by
   rw [show (18446744073709551616 : Nat) = 2 ^ 64 from rfl, ← Nat.pow_mul]
   exact Nat.lt_of_lt_of_le hXb (Nat.pow_le_pow_right (by decide) (by omega)))
  omega
 have hXg : val y * 2 ^ (p + 2) ≤ X := by
  have h1 : 2 ^ (a - 1) * 2 ^ s ≤ X := by rw [hX]; exact Nat.mul_le_mul_right _ bx1
  rw [← Nat.pow_add] at h1
  have h2 : val y * 2 ^ (p + 2) ≤ 2 ^ b * 2 ^ (p + 2) := Nat.mul_le_mul_right _ (Nat.le_of_lt by3)
  rw [← Nat.pow_add] at h2
  have h3 : (2 : Nat) ^ (b + (p + 2)) ≤ 2 ^ (a - 1 + s) := Nat.pow_le_pow_right (by decide) (by omega)
  omega
 have hv : 2 ^ (p + 2) ≤ X / val y := by rw [Nat.le_div_iff_mul_le hy0, Nat.mul_comm]; exact hXg
 have hvb := bl_pow.2 hv
 have hDM := wDivMod_ok (digs X) y (by omega) (by omega) (digs_ok _).1 oy hy0
 rw [(digs_ok X).2.2] at hDM
 have hql := digs_mono (Nat.div_le_self X (val y))
 have hrl := digs_mono (Nat.mod_le X (val y))
 have hZ := wZero_ok (digs (X % val y)) (by omega) (digs_ok _).1
 rw [(digs_ok _).2.2] at hZ
 have hdm : X = X / val y * val y + X % val y := by have h2 := Nat.div_add_mod X (val y); rw [Nat.mul_comm (val y)] at h2; exact h2.symm
 have hml := Nat.mod_lt X hy0
 have hvp : 0 < X / val y := Nat.lt_of_lt_of_le (Nat.pow_pos (by decide)) hv
 have hF := fFloat_ok K p r neg (digs (X / val y)) X (val y) (X % val y) (-(s : Int)) hK hP hr (by omega) (digs_ok _).1 (by rw [(digs_ok _).2.2]; exact hvp) (by rw [(digs_ok _).2.2]; exact hdm) hml (fun _ => by rw [(digs_ok _).2.2]; omega) (fun _ => .inr (by rw [(digs_ok _).2.2]; omega)) (by omega)
 rw [(digs_ok (X / val y)).2.2] at hF
 have hIE := isE_bl hdm hml hvp
 rw [hX] at hIE
 have hee := isE_uniq (isE_shift hIE) hE
 rw [← hX] at hee
 have hE2 : -(s : Int) + (blN (X / val y) : Nat) - 1 = e := by omega
 rw [hE2, hX, fRnd_shift (d := 0) (by omega), ← hX] at hF
 obtain ⟨kf, nf, ef, mf, ff, hff⟩ := fres_form (fRnd p (gK K) r neg (val x) (val y) 0 e)
 rw [hff] at hF ⊢
 obtain ⟨MF, hMF⟩ : ∃ M, M = (digs mf).map fun n => V.int .u64 n := ⟨_, rfl⟩
 rw [← hMF] at hF ⊢
 have hnz : (!decide (X % val y = 0)) = decide (X % val y ≠ 0) := by by_cases h : X % val y = 0 <;> simp [h]
 rw [← hnz] at hF
 obtain ⟨z, hz⟩ : ∃ z, z = decide (X % val y = 0) := ⟨_, rfl⟩
 rw [← hz] at hF hZ
 obtain ⟨Q, hQ⟩ : ∃ Q, Q = digs (X / val y) := ⟨_, rfl⟩
 obtain ⟨R, hR⟩ : ∃ R, R = digs (X % val y) := ⟨_, rfl⟩
 rw [← hQ, ← hR] at hDM
 rw [← hQ] at hF
 rw [← hR] at hZ
 have hSh := wShl_ok x s (by omega) (by omega) ox
 rw [← hX] at hSh
 have hXx : s = 0 → digs X = digs (val x) := fun h => by rw [hX, h, Nat.pow_zero, Nat.mul_one]
 have hDM0 : s = 0 → FnOk Tryz.prog 89 [.v (words x), .v (words y)] [.v true (words Q), .v true (words R)] := fun h => by
  have := wDivMod_ok x y (by omega) (by omega) ox oy hy0
  rw [show val x = X from by rw [hX, h, Nat.pow_zero, Nat.mul_one], ← hQ, ← hR] at this
  exact this
 obtain ⟨XL, hXL⟩ : ∃ L, L = digs X := ⟨_, rfl⟩
 rw [← hXL] at hDM hSh
 obtain ⟨k, hk⟩ : ∃ k : Int, k = ((K + 1 : Nat) : Int) := ⟨_, rfl⟩
 rw [← hk] at hF ⊢
 have w0' : IntKind.i64.wrap ((p : Int) + 3) = (p : Int) + 3 := by rw [wrap_i64] <;> omega
 have w1 : IntKind.i64.wrap ((p : Int) + 3 - (a : Int)) = (p : Int) + 3 - a := by rw [wrap_i64] <;> omega
 have w2 : IntKind.i64.wrap ((p : Int) + 3 - (a : Int) + (b : Int)) = (p : Int) + 3 - a + b := by rw [wrap_i64] <;> omega
 clear hff hMF hnz hz hQ hR hX hXb hXl hXg hv hvb hql hrl hdm hml hvp hIE hee hE2 hXx hXL hk bx1 bx2 bx3 by3 ha hb hE ox oy hx0 hy0
 unfold fmtV at hF ⊢
 refine FnOk.of Tryz.func39 rfl rfl fun cx w0 => ?_
 rw [show Tryz.f39.ntmps = 50 from rfl]
 refine zs0 ?_
 refine zd3 [] (ρ := fun d => if d = 21 then [.v true (.int .i64 a)] else [.v true (.int .i64 b)]) (an w0' <| an w1 <| w2) (o := by repeat' first|exact hLx|exact hLy|trivial|constructor) (k := ?_)
 refine Holds.next (fun σ => ∃ XX, FnOk Tryz.prog 89 [.v (words XX), .v (words y)] [.v true (words Q), .v true (words R)] ∧ ∃ nb, ∀ a w, Rel cx w0 σ a w → Rel cx w0 { nt := 50, env := [(1, .v true (.int .i64 r)), (2, .v true (.bool neg)), (3, .v nb (words XX)), (4, .v false (words y)), (5, .v true (.int .i64 0)), (6, .ptr 6 0 [] 0), (12, .ptr 12 0 [] 0), (14, .v true (.int .i64 s))], mem := [(6, .box 26 (.v false (.agg [.int .i64 k, .int .i64 p]))), (12, .box 32 (.v true (.agg [.int .i64 0, .bool false, .int .i64 0, .sl 1 []])))] } a w) ?_ ?_
 ·by_cases hpos : 0 < (p : Int) + 3 - (a : Int) + (b : Int)
  ·have es : (p : Int) + 3 - (a : Int) + (b : Int) = (s : Int) := by omega
   have gs : (0 : Int) < (s : Int) := by omega
   rw [es]
   refine zs1 gs ?_
   refine Holds.condT rfl ?_
   refine zr2 (ρ := fun _ => [.v true (words XL)]) (o := by repeat' first|exact hSh|trivial|constructor) (k := ?_)
   exact ⟨XL, hDM, true, fun a w h => Rel.keep [1, 2, 3, 4, 5, 6, 12, 14] [6, 12] h⟩
  ·have es : s = 0 := by omega
   refine zs1 hpos ?_
   refine Holds.condF rfl ?_
   refine zr0 ?_
   refine ⟨x, hDM0 es, false, fun a w h => ?_⟩
   rw [es]
   exact Rel.keep [1, 2, 3, 4, 5, 6, 12, 14] [6, 12] h
 ·rintro σ ⟨XX, hDX, nb, hσ⟩
  refine Holds.from hσ ?_
  have w3 : IntKind.i64.wrap (0 - (s : Int)) = -(s : Int) := by rw [wrap_i64] <;> omega
  refine zs2 (ρ := fun _ => [.v true (words Q), .v true (words R)]) (o := by repeat' first|exact hDX|trivial|constructor) (k := ?_)
  refine zd3 [] (ρ := fun d => if d = 45 then [.v true (.bool z)] else [.v true (.agg [.int .i64 (kf : Nat), .bool nf, .int .i64 ef, .sl 1 MF]), .v true (.int .i64 ff)]) w3 (o := by repeat' first|exact hZ|exact hF|trivial|constructor) (k := ?_)
  exact Holds.ret (RetOk.vs rfl (by exact ⟨⟨rfl, id⟩, ⟨rfl, id⟩, trivial⟩) rfl)
theorem pFloat_arg (k P r : Int) (t : ByteArray) (ht : t.size ≤ 300) (hr : ¬ (0 ≤ r ∧ r ≤ 4)) : FnOk Tryz.prog 13 [.v (fmtV k P), .v (.int .i64 r), .v (.str t)] [.v true (fltV 0 false 0 0), .v true (.int .i64 0), .v true (.int .i64 1)] := by
 have hR := Right_ok r
 rw [decide_eq_false hr] at hR
 rw [fltV_zero]
 unfold fmtV
 have g0 : ¬ (65536 : Int) < t.size := by omega
 refine FnOk.of Tryz.func13 rfl rfl fun cx w0 => ?_
 rw [show Tryz.f13.ntmps = 115 from rfl]
 refine zs0 ?_
 refine Holds.seq ?_
 refine Holds.block ?_
 refine zs1 g0 ?_
 refine Holds.condF rfl ?_
 refine zs2 (ρ := fun _ => [.v true (.bool false)]) (o := by repeat' first|exact hR|trivial|constructor) (k := ?_)
 refine Holds.condT rfl ?_
 refine zs0 ?_
 exact Holds.ret (RetOk.vs rfl (by exact ⟨⟨rfl, id⟩, ⟨rfl, id⟩, ⟨rfl, id⟩, trivial⟩) rfl)
theorem pFloat_fmt (k P r : Int) (t : ByteArray) (ht : t.size ≤ 300) (hr : 0 ≤ r ∧ r ≤ 4) (hf : ¬ FmtOk k P) : FnOk Tryz.prog 13 [.v (fmtV k P), .v (.int .i64 r), .v (.str t)] [.v true (fltV 0 false 0 0), .v true (.int .i64 0), .v true (.int .i64 150)] := by
 have hR := Right_ok r
 rw [decide_eq_true hr] at hR
 have hC := fCheck_ok k P
 unfold FmtOk at hf
 rw [if_neg hf] at hC
 rw [fltV_zero]
 unfold fmtV at hC ⊢
 have g0 : ¬ (65536 : Int) < t.size := by omega
 refine FnOk.of Tryz.func13 rfl rfl fun cx w0 => ?_
 rw [show Tryz.f13.ntmps = 115 from rfl]
 refine zs0 ?_
 refine Holds.seq ?_
 refine Holds.block ?_
 refine zs1 g0 ?_
 refine Holds.condF rfl ?_
 refine zs2 (ρ := fun _ => [.v true (.bool true)]) (o := by repeat' first|exact hR|trivial|constructor) (k := ?_)
 refine Holds.condF rfl ?_
 refine zs2 (ρ := fun _ => [.v true (.int .i64 150)]) (o := by repeat' first|exact hC|trivial|constructor) (k := ?_)
 refine Holds.condT rfl ?_
 refine zs0 ?_
 exact Holds.ret (RetOk.vs rfl (by exact ⟨⟨rfl, id⟩, ⟨rfl, id⟩, ⟨rfl, id⟩, trivial⟩) rfl)
def pflS (k P r : Int) (t : ByteArray) : St := { nt := 115, env := [(1, .v true (.int .i64 r)), (2, .v true (.str t)), (3, .ptr 3 0 [] 0), (6, .ptr 6 0 [] 0)], mem := [(3, .box 26 (.v false (.agg [.int .i64 k, .int .i64 P]))), (6, .box 32 (.v true (.agg [.int .i64 0, .bool false, .int .i64 0, .sl 1 []])))] }
theorem pFloat_of (k P r : Int) (t : ByteArray) (ht : t.size ≤ 300) (hr : 0 ≤ r ∧ r ≤ 4) (hf : FmtOk k P) {res : List R} (h : ∀ cx w0, Holds Tryz.prog none cx w0 (codeAt Tryz.f13 [1, 1]) (pflS k P r t) (fnQ Tryz.prog Tryz.f13 res)) : FnOk Tryz.prog 13 [.v (fmtV k P), .v (.int .i64 r), .v (.str t)] res := by
 have hR := Right_ok r
 rw [decide_eq_true hr] at hR
 have hC := fCheck_ok k P
 unfold FmtOk at hf
 rw [if_pos hf] at hC
 unfold fmtV at hC ⊢
 have g0 : ¬ (65536 : Int) < t.size := by omega
 refine FnOk.of Tryz.func13 rfl rfl fun cx w0 => ?_
 rw [show Tryz.f13.ntmps = 115 from rfl]
 refine zs0 ?_
 refine Holds.seq ?_
 refine Holds.block ?_
 refine zs1 g0 ?_
 refine Holds.condF rfl ?_
 refine zs2 (ρ := fun _ => [.v true (.bool true)]) (o := by repeat' first|exact hR|trivial|constructor) (k := ?_)
 refine Holds.condF rfl ?_
 refine zs2 (ρ := fun _ => [.v true (.int .i64 0)]) (o := by repeat' first|exact hC|trivial|constructor) (k := ?_)
 refine Holds.condF rfl (Holds.skip ?_)
 exact Holds.from (σ' := pflS k P r t) (fun a w h => Rel.keep [1, 2, 3, 6] [3, 6] h) (h cx w0)
theorem pFloat_none (k P r : Int) (t : ByteArray) (ht : t.size ≤ 300) (hr : 0 ≤ r ∧ r ≤ 4) (hf : FmtOk k P) (h : rdB t = false) : FnOk Tryz.prog 13 [.v (fmtV k P), .v (.int .i64 r), .v (.str t)] [.v true (fltV 0 false 0 0), .v true (.int .i64 0), .v true (.int .i64 6)] := by
 have hL := read_ok t (by omega)
 rw [h] at hL
 obtain ⟨kk, neg, d, bh, e, len, sg, hfm⟩ := lgV_form (longM t true)
 rw [hfm] at hL
 rw [fltV_zero]
 refine pFloat_of k P r t ht hr hf fun cx w0 => ?_
 unfold pflS
 refine zs2 (ρ := fun _ => [.v true (.agg [.int .i64 kk, .bool neg, .str d, .int .i64 bh, .int .i64 e, .int .i64 len, .bool sg]), .v true (.bool false)]) (o := by repeat' first|exact hL|trivial|constructor) (k := ?_)
 refine Holds.seq ?_
 refine Holds.block ?_
 refine zs0 ?_
 refine Holds.condT rfl ?_
 refine zs0 ?_
 exact Holds.ret (RetOk.vs rfl (by exact ⟨⟨rfl, id⟩, ⟨rfl, id⟩, ⟨rfl, id⟩, trivial⟩) rfl)
theorem pFloat_spec (k P r : Int) (t : ByteArray) (ht : t.size ≤ 300) (hr : 0 ≤ r ∧ r ≤ 4) (hf : FmtOk k P) {n : Nm} (h : longM t true = some n) (hrd : rdB t = true) (hk : n.kind = 3 ∨ n.kind = 2) : FnOk Tryz.prog 13 [.v (fmtV k P), .v (.int .i64 r), .v (.str t)] [.v true (if n.kind = 3 then fltV 3 false 0 0 else fltV 2 n.neg 0 0), .v true (.int .i64 0), .v true (.int .i64 0)] := by
 have hL := read_ok t (by omega)
 rw [h, hrd] at hL
 clear h hrd
 obtain ⟨kd, neg, d, bh, e, len, sg⟩ := n
 unfold lgV Nm.v numV at hL
 simp only at hL hk ⊢
 refine pFloat_of k P r t ht hr hf fun cx w0 => ?_
 unfold pflS
 rcases hk with rfl | rfl
 ·rw [if_pos rfl, fltV_zero]
  refine zs2 (ρ := fun _ => [.v true (.agg [.int .i64 (3 : Nat), .bool neg, .str ⟨d.toArray⟩, .int .i64 (bh : Nat), .int .i64 e, .int .i64 (len : Nat), .bool sg]), .v true (.bool true)]) (o := by repeat' first|exact hL|trivial|constructor) (k := ?_)
  refine Holds.seq ?_
  refine Holds.block ?_
  refine zs0 ?_
  refine Holds.condF rfl ?_
  refine zs0 ?_
  refine Holds.condT rfl ?_
  refine zs0 ?_
  exact Holds.ret (RetOk.vs rfl (by exact ⟨⟨rfl, id⟩, ⟨rfl, id⟩, ⟨rfl, id⟩, trivial⟩) rfl)
 ·rw [if_neg (by decide), fltV_zero]
  refine zs2 (ρ := fun _ => [.v true (.agg [.int .i64 (2 : Nat), .bool neg, .str ⟨d.toArray⟩, .int .i64 (bh : Nat), .int .i64 e, .int .i64 (len : Nat), .bool sg]), .v true (.bool true)]) (o := by repeat' first|exact hL|trivial|constructor) (k := ?_)
  refine Holds.seq ?_
  refine Holds.block ?_
  refine zs0 ?_
  refine Holds.condF rfl ?_
  refine zs0 ?_
  refine Holds.condF rfl ?_
  refine zs0 ?_
  refine Holds.condT rfl ?_
  refine zs0 ?_
  exact Holds.ret (RetOk.vs rfl (by exact ⟨⟨rfl, id⟩, ⟨rfl, id⟩, ⟨rfl, id⟩, trivial⟩) rfl)
def pflN (k P r : Int) (kd : Nat) (neg : Bool) (d : List UInt8) (bh : Nat) (e : Int) (len : Nat) (sg : Bool) (m : List Int) (x : Int) : St := { nt := 115, env := [(1, .v true (.int .i64 r)), (3, .ptr 3 0 [] 0), (6, .ptr 6 0 [] 0), (9, .ptr 9 0 [] 0), (11, .v true (words m)), (12, .v true (.int .i64 x))], mem := [(3, .box 26 (.v false (.agg [.int .i64 k, .int .i64 P]))), (6, .box 32 (.v true (.agg [.int .i64 0, .bool false, .int .i64 0, .sl 1 []]))), (9, .box 80 (.v true (.agg [.int .i64 (kd : Nat), .bool neg, .str ⟨d.toArray⟩, .int .i64 (bh : Nat), .int .i64 e, .int .i64 (len : Nat), .bool sg])))] }
set_option maxHeartbeats 2000000 in
theorem pFloat_num (k P r : Int) (t : ByteArray) (ht : t.size ≤ 300) (hr : 0 ≤ r ∧ r ≤ 4) (hf : FmtOk k P) {n : Nm} (h : longM t true = some n) (hrd : rdB t = true) (ho : NmOk n t.size) (hk : n.kind ≤ 1) {res : List R}
 (hh : ∀ cx w0, Holds Tryz.prog none cx w0 (codeAt Tryz.f13 [1, 1, 1, 1, 1]) (pflN k P r n.kind n.neg n.digits n.behind n.exp n.len n.sgl (digs n.num) (n.exp - (n.each * n.behind : Nat))) (fnQ Tryz.prog Tryz.f13 res)) : FnOk Tryz.prog 13 [.v (fmtV k P), .v (.int .i64 r), .v (.str t)] res := by
 have hL := read_ok t (by omega)
 have hM := mag_ok ho (by omega)
 rw [h, hrd] at hL
 obtain ⟨m, hm⟩ : ∃ m, m = digs n.num := ⟨_, rfl⟩
 obtain ⟨x, hx⟩ : ∃ x, x = n.exp - (n.each * n.behind : Nat) := ⟨_, rfl⟩
 rw [← hm, ← hx] at hM hh
 clear h hrd ho hm hx
 obtain ⟨kd, neg, d, bh, e, len, sg⟩ := n
 unfold lgV at hL
 unfold Nm.v numV at hL hM
 simp only at hL hM hk hh
 have g3 : ¬ (kd : Int) = 3 := by omega
 have g2 : ¬ (kd : Int) = 2 := by omega
 refine pFloat_of k P r t ht hr hf fun cx w0 => ?_
 unfold pflS
 refine zs2 (ρ := fun _ => [.v true (.agg [.int .i64 (kd : Nat), .bool neg, .str ⟨d.toArray⟩, .int .i64 (bh : Nat), .int .i64 e, .int .i64 (len : Nat), .bool sg]), .v true (.bool true)]) (o := by repeat' first|exact hL|trivial|constructor) (k := ?_)
 refine Holds.seq ?_
 refine Holds.block ?_
 refine zs0 ?_
 refine Holds.condF rfl ?_
 refine zs1 g3 ?_
 refine Holds.condF rfl ?_
 refine zs1 g2 ?_
 refine Holds.condF rfl (Holds.skip ?_)
 refine zs2 (ρ := fun _ => [.v true (words m), .v true (.int .i64 x)]) (o := by repeat' first|exact hM|trivial|constructor) (k := ?_)
 exact Holds.from (σ' := pflN k P r kd neg d bh e len sg m x) (fun a w h => Rel.keep [1, 3, 6, 9, 11, 12] [3, 6, 9] h) (hh cx w0)
theorem pflN_zero {cx : Cx} {w0 : World} (k P r : Int) (kd : Nat) (neg : Bool) (d : List UInt8) (bh : Nat) (e : Int) (len : Nat) (sg : Bool) (x : Int) :
 Holds Tryz.prog none cx w0 (codeAt Tryz.f13 [1, 1, 1, 1, 1]) (pflN k P r kd neg d bh e len sg (digs 0) x) (fnQ Tryz.prog Tryz.f13 [.v true (fltV 0 neg 0 0), .v true (.int .i64 0), .v true (.int .i64 0)]) := by
 have hZ := wZero_ok (digs 0) (by decide) (digs_ok _).1
 rw [show decide (val (digs 0) = 0) = true from rfl] at hZ
 rw [fltV_zero]
 unfold pflN
 obtain ⟨L, hL⟩ : ∃ L, L = digs 0 := ⟨_, rfl⟩
 rw [← hL] at hZ ⊢
 refine Holds.seq ?_
 refine zs2 (ρ := fun _ => [.v true (.bool true)]) (o := by repeat' first|exact hZ|trivial|constructor) (k := ?_)
 refine Holds.condT rfl ?_
 refine zs0 ?_
 exact Holds.ret (RetOk.vs rfl (by exact ⟨⟨rfl, id⟩, ⟨rfl, id⟩, ⟨rfl, id⟩, trivial⟩) rfl)
theorem pflN_hex {cx : Cx} {w0 : World} (k P r : Int) (neg : Bool) (d : List UInt8) (bh : Nat) (e : Int) (len : Nat) (sg : Bool) (v : Nat) (hv : 0 < v) (hl : (digs v).length < 1000) (x : Int) (res : FRes)
 (hF : FnOk Tryz.prog 37 [.v (fmtV k P), .v (.int .i64 r), .v (.bool neg), .v (words (digs v)), .v (.int .i64 (min (max x (-1099511627776)) 1099511627776)), .v (.bool false)] (fresV res)) :
 Holds Tryz.prog none cx w0 (codeAt Tryz.f13 [1, 1, 1, 1, 1]) (pflN k P r 1 neg d bh e len sg (digs v) x) (fnQ Tryz.prog Tryz.f13 (fresV res ++ [.v true (.int .i64 0)])) := by
 have hZ := wZero_ok (digs v) (by omega) (digs_ok _).1
 rw [(digs_ok _).2.2, decide_eq_false (by omega)] at hZ
 obtain ⟨kf, nf, ef, mf, ff, hff⟩ := fres_form res
 rw [hff] at hF ⊢
 obtain ⟨MF, hMF⟩ : ∃ M, M = (digs mf).map fun n => V.int .u64 n := ⟨_, rfl⟩
 rw [← hMF] at hF ⊢
 obtain ⟨z, hz⟩ : ∃ z, z = min (max x (-1099511627776)) 1099511627776 := ⟨_, rfl⟩
 rw [← hz] at hF
 unfold pflN
 obtain ⟨L, hL⟩ : ∃ L, L = digs v := ⟨_, rfl⟩
 rw [← hL] at hZ hF ⊢
 unfold fmtV at hF
 refine Holds.seq ?_
 refine zs2 (ρ := fun _ => [.v true (.bool false)]) (o := by repeat' first|exact hZ|trivial|constructor) (k := ?_)
 refine Holds.condF rfl (Holds.skip ?_)
 refine Holds.seq ?_
 refine zs0 ?_
 refine Holds.condT rfl ?_
 refine zs3 (ρ := fun _ => [.v true (.agg [.int .i64 (kf : Nat), .bool nf, .int .i64 ef, .sl 1 MF]), .v true (.int .i64 ff)]) (an max2_eq <| an min2_eq <| hz.symm) (o := by repeat' first|exact hF|trivial|constructor) (k := ?_)
 refine zs0 ?_
 exact Holds.ret (RetOk.vs rfl (by exact ⟨⟨rfl, id⟩, ⟨rfl, id⟩, ⟨rfl, id⟩, trivial⟩) rfl)
def nearM (v : Nat) (a : Int) : Nat := if 12000 < a ∨ a < -12000 then 1 else v
def nearE (x a : Int) : Int := if 12000 < a then 12000 else if a < -12000 then -12000 else x
set_option maxHeartbeats 2000000 in
theorem pflN_dec {cx : Cx} {w0 : World} (k P r : Int) (neg : Bool) (d : List UInt8) (bh : Nat) (e : Int) (len : Nat) (sg : Bool) (v D : Nat) (hv : 0 < v) (hl : (digs v).length < 1000) (hD : HasD v D) (hDl : D < 500) (x : Int) (hx : -4611686018427380000 < x ∧ x < 4611686018427380000) (A B : Nat) (hA : A = (max (nearE x (x + D)) 0).toNat) (hB : B = (max (-nearE x (x + D)) 0).toNat) (res : FRes)
 (hF : FnOk Tryz.prog 39 [.v (fmtV k P), .v (.int .i64 r), .v (.bool neg), .v (words (digs (nearM v (x + D) * 10 ^ A))), .v (words (digs (10 ^ B))), .v (.int .i64 0)] (fresV res)) :
 Holds Tryz.prog none cx w0 (codeAt Tryz.f13 [1, 1, 1, 1, 1]) (pflN k P r 0 neg d bh e len sg (digs v) x) (fnQ Tryz.prog Tryz.f13 (fresV res ++ [.v true (.int .i64 0)])) := by
 have hZ := wZero_ok (digs v) (by omega) (digs_ok _).1
 rw [(digs_ok _).2.2, decide_eq_false (by omega)] at hZ
 have hDg := wDigits_ok (digs v) D (by omega) (digs_ok _).1 (by rw [(digs_ok _).2.2]; exact hD) (by rw [(digs_ok _).2.2]; exact hasD_bl hD.2.2 (by omega)) (by omega)
 have hAl : A ≤ 12501 := by rw [hA]; unfold nearE; split <;> first | omega | (split <;> omega)
 have hBl : B ≤ 12501 := by rw [hB]; unfold nearE; split <;> first | omega | (split <;> omega)
 have hTA := wTen_ok A (by omega)
 have hTB := wTen_ok B (by omega)
 have hTAl := ten_len (k := A)
 have hml : (digs (nearM v (x + D))).length < 1000 := by
  unfold nearM
  split
  ·decide
  ·exact hl
 have hM := wMul_ok (digs (nearM v (x + D))) (digs (10 ^ A)) (by omega) (by omega) (digs_ok _).1 (digs_ok _).1
 rw [(digs_ok _).2.2, (digs_ok (10 ^ A)).2.2] at hM
 obtain ⟨kf, nf, ef, mf, ff, hff⟩ := fres_form res
 rw [hff] at hF ⊢
 obtain ⟨MF, hMF⟩ : ∃ M, M = (digs mf).map fun n => V.int .u64 n := ⟨_, rfl⟩
 rw [← hMF] at hF ⊢
 obtain ⟨TA, hTA'⟩ : ∃ T, T = digs (10 ^ A) := ⟨_, rfl⟩
 obtain ⟨TB, hTB'⟩ : ∃ T, T = digs (10 ^ B) := ⟨_, rfl⟩
 obtain ⟨PR, hPR⟩ : ∃ T, T = digs (nearM v (x + D) * 10 ^ A) := ⟨_, rfl⟩
 obtain ⟨ML, hML⟩ : ∃ T, T = digs (nearM v (x + D)) := ⟨_, rfl⟩
 rw [← hTA'] at hTA hM
 rw [← hPR, ← hML] at hM
 rw [← hTB'] at hTB hF
 rw [← hPR] at hF
 obtain ⟨E, hE⟩ : ∃ E, E = nearE x (x + D) := ⟨_, rfl⟩
 rw [← hE] at hA hB
 have hE1 : max E 0 = (A : Int) := by omega
 have hE2 : max (-E) 0 = (B : Int) := by omega
 have wE : IntKind.i64.wrap (0 - E) = -E := by
  have : E = nearE x (x + D) := hE
  unfold nearE at this
  rw [wrap_i64] <;> (split at this <;> first | omega | (split at this <;> omega))
 have wa : IntKind.i64.wrap (x + (D : Int)) = x + D := by rw [wrap_i64] <;> omega
 unfold fmtV at hF
 have key : Holds Tryz.prog none cx w0 (codeAt Tryz.f13 [1, 1, 1, 1, 1, 1, 1, 1, 1]) { nt := 115, env := [(1, .v true (.int .i64 r)), (3, .ptr 3 0 [] 0), (6, .ptr 6 0 [] 0), (9, .ptr 9 0 [] 0), (11, .v true (words ML)), (12, .v true (.int .i64 E))], mem := [(3, .box 26 (.v false (.agg [.int .i64 k, .int .i64 P]))), (6, .box 32 (.v true (.agg [.int .i64 0, .bool false, .int .i64 0, .sl 1 []]))), (9, .box 80 (.v true (.agg [.int .i64 (0 : Nat), .bool neg, .str ⟨d.toArray⟩, .int .i64 (bh : Nat), .int .i64 e, .int .i64 (len : Nat), .bool sg])))] } (fnQ Tryz.prog Tryz.f13 ([.v true (.agg [.int .i64 (kf : Nat), .bool nf, .int .i64 ef, .sl 1 MF]), .v true (.int .i64 ff)] ++ [.v true (.int .i64 0)])) := by
  refine zd3 [] (ρ := fun q => if q = 104 then [.v true (words TA)] else if q = 105 then [.v true (words PR)] else if q = 109 then [.v true (words TB)] else [.v true (.agg [.int .i64 (kf : Nat), .bool nf, .int .i64 ef, .sl 1 MF]), .v true (.int .i64 ff)]) (an max2_eq <| an hE1 <| an wE <| hE2) (o := by repeat' first|exact hTA|exact hM|exact hTB|exact hF|trivial|constructor) (k := ?_)
  refine zs0 ?_
  exact Holds.ret (RetOk.vs rfl (by exact ⟨⟨rfl, id⟩, ⟨rfl, id⟩, ⟨rfl, id⟩, trivial⟩) rfl)
 clear hF hM hTA hTB hPR hTA' hTB' hA hB hE1 hE2 wE hAl hBl hTAl hml hff hMF
 unfold pflN
 obtain ⟨L, hL⟩ : ∃ L, L = digs v := ⟨_, rfl⟩
 rw [← hL] at hZ hDg ⊢
 refine Holds.seq ?_
 refine zs2 (ρ := fun _ => [.v true (.bool false)]) (o := by repeat' first|exact hZ|trivial|constructor) (k := ?_)
 refine Holds.condF rfl (Holds.skip ?_)
 refine Holds.seq ?_
 refine zs0 ?_
 refine Holds.condF rfl (Holds.skip ?_)
 refine zs2 (ρ := fun _ => [.v true (.int .i64 D)]) (o := by repeat' first|exact hDg|trivial|constructor) (k := ?_)
 obtain ⟨a, ha⟩ : ∃ a, a = x + (D : Int) := ⟨_, rfl⟩
 rw [← ha] at wa hE hML
 refine Holds.next (fun σ => ∀ a w, Rel cx w0 σ a w → Rel cx w0 { nt := 115, env := [(1, .v true (.int .i64 r)), (3, .ptr 3 0 [] 0), (6, .ptr 6 0 [] 0), (9, .ptr 9 0 [] 0), (11, .v true (words ML)), (12, .v true (.int .i64 E))], mem := [(3, .box 26 (.v false (.agg [.int .i64 k, .int .i64 P]))), (6, .box 32 (.v true (.agg [.int .i64 0, .bool false, .int .i64 0, .sl 1 []]))), (9, .box 80 (.v true (.agg [.int .i64 (0 : Nat), .bool neg, .str ⟨d.toArray⟩, .int .i64 (bh : Nat), .int .i64 e, .int .i64 (len : Nat), .bool sg])))] } a w) ?_ ?_
 ·refine zs1 wa ?_
  by_cases h1 : 12000 < a
  ·unfold nearE at hE
   unfold nearM at hML
   rw [if_pos h1] at hE
   rw [if_pos (.inl h1), show digs 1 = [1] from by decide] at hML
   subst hE; subst hML
   have g0 : ¬ a < 0 := by omega
   refine zs1 h1 ?_
   refine Holds.condT rfl ?_
   refine zs0 ?_
   refine zs1 g0 ?_
   exact Holds.condF rfl (Holds.skip fun a w h => Rel.keep [1, 3, 6, 9, 11, 12] [3, 6, 9] (Rel.freeze (s := 93) h rfl))
  ·by_cases h2 : a < -12000
   ·unfold nearE at hE
    unfold nearM at hML
    rw [if_neg h1, if_pos h2] at hE
    rw [if_pos (.inr h2), show digs 1 = [1] from by decide] at hML
    subst hE; subst hML
    have g0 : a < 0 := by omega
    refine zs1 (an h1 <| h2) ?_
    refine Holds.condT rfl ?_
    refine zs0 ?_
    refine zs1 g0 ?_
    refine Holds.condT rfl ?_
    refine zr0 ?_
    exact fun a w h => Rel.keep [1, 3, 6, 9, 11, 12] [3, 6, 9] (Rel.freeze (s := 93) h rfl)
   ·unfold nearE at hE
    unfold nearM at hML
    rw [if_neg h1, if_neg h2] at hE
    rw [if_neg (fun h => by rcases h with h | h; exact h1 h; exact h2 h), ← hL] at hML
    subst hE; subst hML
    refine zs1 (an h1 <| h2) ?_
    exact Holds.condF rfl (Holds.skip fun a w h => Rel.keep [1, 3, 6, 9, 11, 12] [3, 6, 9] h)
 ·intro σ hσ
  exact Holds.from hσ key
theorem Greatest_ok (K : Nat) (P : Int) (hK : 1 ≤ K ∧ K ≤ 14) : FnOk Tryz.prog 104 [.v (fmtV ((K + 1 : Nat) : Int) P)] [.v true (.int .i64 (gK K))] := by
 have hG := gK_bd hK
 have hw := wrap_pow hK.2
 have hg : ((2 ^ K : Nat) : Int) - 1 = gK K := rfl
 have wg : IntKind.i64.wrap (gK K) = gK K := by rw [wrap_i64] <;> omega
 obtain ⟨G, hG'⟩ : ∃ G, G = gK K := ⟨_, rfl⟩
 obtain ⟨B, hB⟩ : ∃ B : Int, B = ((2 ^ K : Nat) : Int) := ⟨_, rfl⟩
 rw [← hB] at hw hg
 rw [← hG'] at hG hg wg ⊢
 have wB : IntKind.i64.wrap (B - 1) = G := by rw [hg]; exact wg
 have g0 : (0 : Int) ≤ (K : Int) := by omega
 have wk : IntKind.i64.wrap (((K : Nat) : Int) + 1 - 1) = (K : Int) := by rw [wrap_i64] <;> omega
 clear hG' hB hg
 unfold fmtV
 refine FnOk.of Tryz.func104 rfl rfl fun cx w0 => ?_
 rw [show Tryz.f104.ntmps = 8 from rfl]
 refine zs0 ?_
 refine zs1 (an wk <| an g0 <| an hw <| wB) ?_
 exact Holds.ret (RetOk.vs rfl (by exact ⟨⟨rfl, id⟩, trivial⟩) rfl)
theorem fLeast_ok (K : Nat) (P : Int) (hK : 1 ≤ K ∧ K ≤ 14) : FnOk Tryz.prog 106 [.v (fmtV ((K + 1 : Nat) : Int) P)] [.v true (.int .i64 (1 - gK K))] := by
 have hG := gK_bd hK
 have h1 := Greatest_ok K P hK
 obtain ⟨G, hG'⟩ : ∃ G, G = gK K := ⟨_, rfl⟩
 obtain ⟨k, hk⟩ : ∃ k : Int, k = ((K + 1 : Nat) : Int) := ⟨_, rfl⟩
 rw [← hG'] at hG h1 ⊢
 rw [← hk] at h1 ⊢
 have w1 : IntKind.i64.wrap (1 - G) = 1 - G := by rw [wrap_i64] <;> omega
 unfold fmtV at h1 ⊢
 refine FnOk.of Tryz.func106 rfl rfl fun cx w0 => ?_
 rw [show Tryz.f106.ntmps = 6 from rfl]
 refine zs0 ?_
 refine zs3 (ρ := fun _ => [.v true (.int .i64 G)]) w1 (o := by repeat' first|exact h1|trivial|constructor) (k := ?_)
 exact Holds.ret (RetOk.vs rfl (by exact ⟨⟨rfl, id⟩, trivial⟩) rfl)
theorem fRight_ok (k P : Int) : FnOk Tryz.prog 95 [.v (fmtV k P)] [.v true (.bool (decide ((2 ≤ k ∧ k ≤ 15) ∧ 2 ≤ P ∧ P ≤ 256)))] := by
 unfold fmtV
 refine FnOk.of Tryz.func95 rfl rfl fun cx w0 => ?_
 rw [show Tryz.f95.ntmps = 21 from rfl]
 refine zs0 ?_
 by_cases h1 : 2 ≤ k
 ·by_cases h2 : k ≤ 15
  ·by_cases h3 : 2 ≤ P
   ·by_cases h4 : P ≤ 256
    ·rw [decide_eq_true ⟨⟨h1, h2⟩, h3, h4⟩]
     refine zs1 (an h1 <| an h2 <| an h3 <| h4) ?_
     exact Holds.ret (RetOk.vs rfl (by exact ⟨⟨rfl, id⟩, trivial⟩) rfl)
    ·rw [decide_eq_false (fun h => h4 h.2.2)]
     refine zs1 (an h1 <| an h2 <| an h3 <| h4) ?_
     exact Holds.ret (RetOk.vs rfl (by exact ⟨⟨rfl, id⟩, trivial⟩) rfl)
   ·rw [decide_eq_false (fun h => h3 h.2.1)]
    refine zs1 (an h1 <| an h2 <| h3) ?_
    exact Holds.ret (RetOk.vs rfl (by exact ⟨⟨rfl, id⟩, trivial⟩) rfl)
  ·rw [decide_eq_false (fun h => h2 h.1.2)]
   refine zs1 (an h1 <| h2) ?_
   exact Holds.ret (RetOk.vs rfl (by exact ⟨⟨rfl, id⟩, trivial⟩) rfl)
 ·rw [decide_eq_false (fun h => h1 h.1.1)]
  refine zs1 h1 ?_
  exact Holds.ret (RetOk.vs rfl (by exact ⟨⟨rfl, id⟩, trivial⟩) rfl)
theorem Fmt_ok (k P : Int) : FnOk Tryz.prog 18 [.v (fmtV k P)] [.v true (fmtV k P)] := by
 unfold fmtV
 refine FnOk.of Tryz.func18 rfl rfl fun cx w0 => ?_
 rw [show Tryz.f18.ntmps = 8 from rfl]
 refine zs0 ?_
 refine zs0 ?_
 exact Holds.ret (RetOk.vs rfl (by exact ⟨⟨rfl, id⟩, trivial⟩) rfl)
theorem Theirs0_ok : FnOk Tryz.prog 45 [.v (.sl 4 [])] [.v true (.sl 4 [])] := by
 refine FnOk.of Tryz.func45 rfl rfl fun cx w0 => ?_
 rw [show Tryz.f45.ntmps = 20 from rfl]
 refine zs0 ?_
 refine zs0 ?_
 refine Holds.next (fun σ => ∀ a w, Rel cx w0 σ a w → Rel cx w0 { nt := 20, env := [(3, .nil)], mem := [] } a w) ?_ ?_
 ·refine zs0 ?_
  refine Holds.loopB (fun _ : Nat => { nt := 20, env := [(4, .v true (.int .i64 0)), (0, .v false (.sl 4 [])), (3, .nil)], mem := [] }) (fun _ => True) (fun n => n) 0 trivial (fun a w h => Rel.keep [4, 0, 3] [] h) ?_
  intro n _
  refine Holds.seq ?_
  refine zs0 ?_
  exact Holds.condF rfl (Holds.exit ⟨rfl, fun a w h => Rel.keep [3] [] h⟩)
 ·intro σ hσ
  refine Holds.from hσ ?_
  refine zs0 ?_
  exact Holds.ret ⟨_, [], rfl, ⟨rfl, trivial⟩, by simp [R.names, R.mems, R.blks], by simp, rfl⟩
theorem fCheck0_ok (k P : Int) : FnOk Tryz.prog 44 [.v (fmtV k P), .v (.sl 4 [])] [.v true (.int .i64 (if (2 ≤ k ∧ k ≤ 15) ∧ 2 ≤ P ∧ P ≤ 256 then 0 else 150))] := by
 have hR := fRight_ok k P
 unfold fmtV at hR ⊢
 refine FnOk.of Tryz.func44 rfl rfl fun cx w0 => ?_
 rw [show Tryz.f44.ntmps = 42 from rfl]
 refine zs0 ?_
 refine Holds.next (fun σ => ∀ a w, Rel cx w0 σ a w → Rel cx w0 { nt := 42, env := [(1, .v false (.sl 4 [])), (2, .ptr 2 0 [] 0)], mem := [(2, .box 46 (.v false (.agg [.int .i64 k, .int .i64 P])))] } a w) ?_ ?_
 ·refine zs0 ?_
  refine Holds.loopB (fun _ : Nat => { nt := 42, env := [(5, .v true (.int .i64 0)), (1, .v false (.sl 4 [])), (2, .ptr 2 0 [] 0)], mem := [(2, .box 46 (.v false (.agg [.int .i64 k, .int .i64 P])))] }) (fun _ => True) (fun n => n) 0 trivial (fun a w h => Rel.keep [5, 1, 2] [2] h) ?_
  intro n _
  refine Holds.seq ?_
  refine zs0 ?_
  exact Holds.condF rfl (Holds.exit ⟨rfl, fun a w h => Rel.keep [1, 2] [2] h⟩)
 ·intro σ hσ
  refine Holds.from hσ ?_
  refine Holds.seq ?_
  by_cases h : (2 ≤ k ∧ k ≤ 15) ∧ 2 ≤ P ∧ P ≤ 256
  ·rw [decide_eq_true h] at hR
   rw [if_pos h]
   refine zs2 (ρ := fun _ => [.v true (.bool true)]) (o := by repeat' first|exact hR|trivial|constructor) (k := ?_)
   refine Holds.condF rfl (Holds.skip ?_)
   refine Holds.next (fun σ => ∀ a w, Rel cx w0 σ a w → Rel cx w0 { nt := 42, env := [], mem := [] } a w) ?_ ?_
   ·refine zs0 ?_
    refine Holds.loopB (fun _ : Nat => { nt := 42, env := [(6, .v true (.int .i64 0)), (1, .v false (.sl 4 []))], mem := [] }) (fun _ => True) (fun n => n) 0 trivial (fun a w h => Rel.keep [6, 1] [] h) ?_
    intro n _
    refine Holds.seq ?_
    refine zs0 ?_
    exact Holds.condF rfl (Holds.exit ⟨rfl, fun a w h => Rel.keep [] [] h⟩)
   ·intro σ hσ
    refine Holds.from hσ ?_
    refine zs0 ?_
    exact Holds.ret (RetOk.vs rfl (by exact ⟨⟨rfl, id⟩, trivial⟩) rfl)
  ·rw [decide_eq_false h] at hR
   rw [if_neg h]
   refine zs2 (ρ := fun _ => [.v true (.bool false)]) (o := by repeat' first|exact hR|trivial|constructor) (k := ?_)
   refine Holds.condT rfl ?_
   refine zs0 ?_
   exact Holds.ret (RetOk.vs rfl (by exact ⟨⟨rfl, id⟩, trivial⟩) rfl)
def fArgE (k P r : Int) : Int := if 0 ≤ r ∧ r ≤ 4 then (if (2 ≤ k ∧ k ≤ 15) ∧ 2 ≤ P ∧ P ≤ 256 then 0 else 150) else 1
theorem fArgs0_ok (k P r : Int) : FnOk Tryz.prog 14 [.v (fmtV k P), .v (.int .i64 r), .v (.sl 4 [])] [.v true (.int .i64 (fArgE k P r))] := by
 have hK := Known_ok r
 have hF := Fmt_ok k P
 have hC := fCheck0_ok k P
 unfold fArgE
 obtain ⟨w, hw⟩ : ∃ w : Int, w = (if (2 ≤ k ∧ k ≤ 15) ∧ 2 ≤ P ∧ P ≤ 256 then 0 else 150) := ⟨_, rfl⟩
 rw [← hw] at hC ⊢
 unfold fmtV at hF hC ⊢
 refine FnOk.of Tryz.func14 rfl rfl fun cx w0 => ?_
 rw [show Tryz.f14.ntmps = 28 from rfl]
 refine zs0 ?_
 refine Holds.next (fun σ => ∀ a w, Rel cx w0 σ a w → Rel cx w0 { nt := 28, env := [(1, .v true (.int .i64 r)), (2, .v false (.sl 4 [])), (3, .ptr 3 0 [] 0)], mem := [(3, .box 26 (.v false (.agg [.int .i64 k, .int .i64 P])))] } a w) ?_ ?_
 ·refine zs0 ?_
  refine Holds.loopB (fun _ : Nat => { nt := 28, env := [(7, .v true (.int .i64 0)), (1, .v true (.int .i64 r)), (2, .v false (.sl 4 [])), (3, .ptr 3 0 [] 0)], mem := [(3, .box 26 (.v false (.agg [.int .i64 k, .int .i64 P])))] }) (fun _ => True) (fun n => n) 0 trivial (fun a w h => Rel.keep [7, 1, 2, 3] [3] h) ?_
  intro n _
  refine Holds.seq ?_
  refine zs0 ?_
  exact Holds.condF rfl (Holds.exit ⟨rfl, fun a w h => Rel.keep [1, 2, 3] [3] h⟩)
 ·intro σ hσ
  refine Holds.from hσ ?_
  refine Holds.seq ?_
  by_cases h : 0 ≤ r ∧ r ≤ 4
  ·rw [decide_eq_true h] at hK
   rw [if_pos h]
   refine zs2 (ρ := fun _ => [.v true (.bool true)]) (o := by repeat' first|exact hK|trivial|constructor) (k := ?_)
   refine Holds.condF rfl (Holds.skip ?_)
   refine zs2 (ρ := fun d => if d = 24 then [.v true (.agg [.int .i64 k, .int .i64 P])] else if d = 26 then [.v true (.sl 4 [])] else [.v true (.int .i64 w)]) (o := by repeat' first|exact hF|exact Theirs0_ok|exact hC|trivial|constructor) (k := ?_)
   exact Holds.ret (RetOk.vs rfl (by exact ⟨⟨rfl, id⟩, trivial⟩) rfl)
  ·rw [decide_eq_false h] at hK
   rw [if_neg h]
   refine zs2 (ρ := fun _ => [.v true (.bool false)]) (o := by repeat' first|exact hK|trivial|constructor) (k := ?_)
   refine Holds.condT rfl ?_
   refine zs0 ?_
   exact Holds.ret (RetOk.vs rfl (by exact ⟨⟨rfl, id⟩, trivial⟩) rfl)
theorem fNone_ok : FnOk Tryz.prog 49 [.v (fltV 0 false 0 0)] [.v true (.bool true)] := by
 rw [fltV_zero]
 refine FnOk.of Tryz.func49 rfl rfl fun cx w0 => ?_
 rw [show Tryz.f49.ntmps = 22 from rfl]
 refine zs0 ?_
 refine zs0 ?_
 exact Holds.ret (RetOk.vs rfl (by exact ⟨⟨rfl, id⟩, trivial⟩) rfl)
theorem fTheir_ok (k : Nat) (neg : Bool) (e : Int) (m : Nat) : FnOk Tryz.prog 98 [.v (fltV k neg e m)] [.v false (fltV k neg e m)] := by
 unfold fltV
 obtain ⟨L, hL⟩ : ∃ L, L = digs m := ⟨_, rfl⟩
 rw [← hL]
 refine FnOk.of Tryz.func98 rfl rfl fun cx w0 => ?_
 rw [show Tryz.f98.ntmps = 12 from rfl]
 refine zs0 ?_
 refine zs0 ?_
 exact Holds.ret (RetOk.vs rfl (by exact ⟨⟨rfl, by simp⟩, trivial⟩) rfl)
set_option maxHeartbeats 2000000 in
theorem fEqual_ok (k : Nat) (neg : Bool) (e : Int) (m : Nat) (hm : (digs m).length < 100000) : FnOk Tryz.prog 152 [.v (fltV k neg e m), .v (fltV k neg e m)] [.v true (.bool true)] := by
 unfold fltV
 obtain ⟨L, hL⟩ : ∃ L, L = digs m := ⟨_, rfl⟩
 rw [← hL] at hm ⊢
 refine FnOk.of Tryz.func152 rfl rfl fun cx w0 => ?_
 rw [show Tryz.f152.ntmps = 52 from rfl]
 refine zs0 ?_
 refine Holds.seq ?_
 refine Holds.step (Px := px) (T := TT) (ρ := fun _ => []) TTe (by simp (maxSteps := 100000) (disch := omega) only [go_sem, V.isAgg, V.flat, ↓reduceIte, Nat.reduceAdd, Nat.reduceSub, Nat.reduceLT, Nat.reduceEqDiff, reduceCtorEq, Nat.reduceLeDiff, Nat.reduceBEq, Nat.reduceMul, Int.reduceToNat, eq_self]; rfl) (by repeat' first | exact trivial | constructor) ?_
 refine Holds.condF rfl (Holds.skip ?_)
 refine Holds.next (fun σ => ∀ a w, Rel cx w0 σ a w → Rel cx w0 { nt := 52, env := [], mem := [] } a w) ?_ ?_
 ·refine zs0 ?_
  refine Holds.loopB (fun i : Nat => { nt := 52, env := [(5, .v true (.int .i64 (i : Nat))), (2, .ptr 2 0 [] 0), (3, .ptr 3 0 [] 0)], mem := [(2, .box 43 (.v false (.agg [.int .i64 (k : Nat), .bool neg, .int .i64 e, words L]))), (3, .box 43 (.v false (.agg [.int .i64 (k : Nat), .bool neg, .int .i64 e, words L])))] }) (fun i => i ≤ L.length) (fun i => L.length - i) 0 (Nat.zero_le _) (fun a w h => Rel.keep [5, 2, 3] [2, 3] h) ?_
  intro i hi
  refine Holds.seq ?_
  by_cases hend : i = L.length
  ·have g : ¬ (i : Int) < L.length := by omega
   refine zs1 g ?_
   exact Holds.condF rfl (Holds.exit ⟨rfl, fun a w h => Rel.keep [] [] h⟩)
  ·have g : (i : Int) < L.length := by omega
   have gL := get_map (l := L) (i := i) (by omega)
   obtain ⟨z, hz⟩ : ∃ z, z = L.getD i 0 := ⟨_, rfl⟩
   rw [← hz] at gL
   have wk : IntKind.i64.wrap ((i : Int) + 1) = ((i + 1 : Nat) : Int) := by rw [wrap_i64] <;> omega
   refine zs1 g ?_
   refine Holds.condT rfl (Holds.skip ?_)
   refine Holds.next (fun σ => ∀ a w, Rel cx w0 σ a w → Rel cx w0 { nt := 52, env := [(5, .v true (.int .i64 (i : Nat))), (2, .ptr 2 0 [] 0), (3, .ptr 3 0 [] 0)], mem := [(2, .box 43 (.v false (.agg [.int .i64 (k : Nat), .bool neg, .int .i64 e, words L]))), (3, .box 43 (.v false (.agg [.int .i64 (k : Nat), .bool neg, .int .i64 e, words L])))] } a w) ?_ ?_
   ·refine Holds.blockN ?_
    refine Holds.dstep (Px := px) (T := TT) (ρ := fun _ => []) [] mixed (by kernel_rfl) TTe (by simp (maxSteps := 100000) (disch := omega) only [go_sem, V.isAgg, V.flat, ↓reduceIte, Nat.reduceAdd, Nat.reduceSub, Nat.reduceLT, Nat.reduceEqDiff, reduceCtorEq, Nat.reduceLeDiff, Nat.reduceBEq, Nat.reduceMul, Int.reduceToNat, gL, eq_self]; rfl) (by repeat' first | exact trivial | constructor) (by rfl) (by rfl) (by rfl) ?_
    exact Holds.condF rfl (Holds.skip fun a w h => Rel.keep [5, 2, 3] [2, 3] h)
   ·intro σ hσ
    refine Holds.from hσ ?_
    refine zr1 wk ?_
    exact ⟨i + 1, (by show i + 1 ≤ L.length; omega), (show L.length - (i + 1) < L.length - i by omega), fun a w h => Rel.keep [5, 2, 3] [2, 3] h⟩
 ·intro σ hσ
  refine Holds.from hσ ?_
  refine zs0 ?_
  exact Holds.ret (RetOk.vs rfl (by exact ⟨⟨rfl, id⟩, trivial⟩) rfl)
theorem tr_down {v i : Nat} (h : v / 2 ^ i % 2 = 1) : trN (v / 2 ^ i) = 0 := trN_of (c := v / 2 ^ i / 2) (by rw [Nat.pow_zero]; omega)
theorem tr_up {v i : Nat} (h : v / 2 ^ i % 2 = 0) (h0 : v / 2 ^ (i + 1) ≠ 0) : trN (v / 2 ^ i) = trN (v / 2 ^ (i + 1)) + 1 := by
 rw [Nat.pow_succ, ← Nat.div_div_eq_div_mul] at h0 ⊢
 obtain ⟨w, hw⟩ : ∃ w, w = v / 2 ^ i := ⟨_, rfl⟩
 rw [← hw] at h h0 ⊢
 obtain ⟨c, hc⟩ := trN_ok (v := w / 2) (by omega)
 exact trN_of (c := c) (by rw [Nat.pow_succ, ← Nat.mul_assoc, ← hc]; omega)
set_option maxHeartbeats 2000000 in
theorem Bits_ok (x : List Int) (hx : x.length < 10000) (ox : okW x) : ∃ o : Int, FnOk Tryz.prog 180 [.v (words x)] [.v true (.int .i64 (trN (val x))), .v true (.int .i64 o)] := by
 have hL := rLen_ok x (by omega) ox
 rw [lenR_eq ox] at hL
 have hbl : blN (val x) ≤ 64 * x.length := bl_lt (val_bl ox)
 have hvb : val x < 2 ^ blN (val x) := by
  unfold blN
  split
  ·next h => rw [h]; decide
  ·exact Nat.lt_log2_self
 have hB := fun i (hi : i < 10000000) => rBit_ok x i (by omega) hi ox
 obtain ⟨v, hv⟩ : ∃ v, v = val x := ⟨_, rfl⟩
 rw [← hv] at hL hbl hvb ⊢
 have hB : ∀ i, i < 10000000 → FnOk Tryz.prog 157 [.v (words x), .v (.int .i64 (i : Nat))] [.v true (.bool (bitN v i))] := fun i hi => by rw [hv]; exact hB i hi
 obtain ⟨b, hb⟩ : ∃ b, b = blN v := ⟨_, rfl⟩
 rw [← hb] at hL hbl hvb
 obtain ⟨cnt, hcnt⟩ : ∃ cnt : Nat → Nat, (∀ i, cnt i = (if bitN v i = true then 1 else 0) + cnt (i + 1) ∨ b ≤ i) ∧ cnt b = 0 := by
  refine ⟨fun i => ((List.range b).filter fun j => decide (i ≤ j) && bitN v j).length, ?_, ?_⟩
  ·intro i
   by_cases h : b ≤ i
   ·exact .inr h
   ·left
    have key : ∀ n, i < n → ((List.range n).filter fun j => decide (i ≤ j) && bitN v j).length = (if bitN v i = true then 1 else 0) + ((List.range n).filter fun j => decide (i + 1 ≤ j) && bitN v j).length := fun n => by
     induction n with
     | zero => intro h; omega
     | succ n ih =>
       intro hn
       rw [List.range_succ, List.filter_append, List.filter_append, List.length_append, List.length_append]
       by_cases hin : i = n
       ·subst hin
        have z1 : ∀ k, ((List.range i).filter fun j => decide (i + k ≤ j) && bitN v j) = [] := fun k => List.filter_eq_nil_iff.2 fun j hj => by
         have := List.mem_range.1 hj
         simp; omega
        have z0 := z1 0
        rw [Nat.add_zero] at z0
        rw [z0, z1 1]
        by_cases hbt : bitN v i = true
        ·simp [hbt]
        ·simp [hbt]
       ·rw [ih (by omega)]
        have e1 : decide (i ≤ n) = true := decide_eq_true (by omega)
        have e2 : decide (i + 1 ≤ n) = true := decide_eq_true (by omega)
        simp [List.filter_cons, e1, e2]
        omega
    exact key b (by omega)
  ·simp only
   rw [List.length_eq_zero_iff]
   exact List.filter_eq_nil_iff.2 fun j hj => by
    have := List.mem_range.1 hj
    simp; omega
 refine ⟨(cnt 0 : Nat), ?_⟩
 have hcb : ∀ i, i ≤ b → cnt i ≤ b - i := fun i => by
  have key : ∀ n, n ≤ b → cnt (b - n) ≤ n := fun n => by
   induction n with
   | zero => intro _; rw [Nat.sub_zero, hcnt.2]; exact Nat.le_refl _
   | succ n ih =>
     intro hn
     have h1 := ih (by omega)
     rcases hcnt.1 (b - (n + 1)) with h2 | h2
     ·rw [h2, show b - (n + 1) + 1 = b - n from by omega]
      split <;> omega
     ·omega
  intro hi
  have := key (b - i) (by omega)
  rw [show b - (b - i) = i from by omega] at this
  exact this
 refine FnOk.of Tryz.func180 rfl rfl fun cx w0 => ?_
 rw [show Tryz.f180.ntmps = 22 from rfl]
 refine zs0 ?_
 refine zs0 ?_
 refine Holds.next (fun σ => ∀ a w, Rel cx w0 σ a w → Rel cx w0 { nt := 22, env := [(4, .v true (.int .i64 (trN v : Nat))), (5, .v true (.int .i64 (cnt 0 : Nat)))], mem := [] } a w) ?_ ?_
 ·have w1 : IntKind.i64.wrap ((b : Int) - 1) = (b : Int) - 1 := by rw [wrap_i64] <;> omega
  refine zs3 (ρ := fun _ => [.v true (.int .i64 b)]) w1 (o := by repeat' first|exact hL|trivial|constructor) (k := ?_)
  refine Holds.loopB (fun i : Nat => { nt := 22, env := [(0, .v false (words x)), (6, .v true (.int .i64 ((i : Int) - 1))), (4, .v true (.int .i64 ((if v / 2 ^ i = 0 then 0 else i + trN (v / 2 ^ i) : Nat) : Int))), (5, .v true (.int .i64 (cnt i : Nat)))], mem := [] }) (fun i => i ≤ b) (fun i => i) b (Nat.le_refl _) (fun a w h => by
   have := Rel.keep [0, 6, 4, 5] [] h
   rw [Nat.div_eq_of_lt hvb, if_pos rfl, hcnt.2]
   exact this) ?_
  intro i hi
  refine Holds.seq ?_
  rcases i with _ | i
  ·rw [Nat.pow_zero, Nat.div_one, Nat.zero_add]
   refine zs0 ?_
   refine Holds.condF rfl (Holds.exit ⟨rfl, fun a w h => ?_⟩)
   have := Rel.keep [4, 5] [] h
   have e : (if v = 0 then 0 else trN v) = trN v := by
    split
    ·next h => rw [h]; rfl
    ·rfl
   rw [← e]
   exact this
  ·have e1 : (((i + 1 : Nat) : Int) - 1) = (i : Int) := by omega
   rw [e1]
   have hBi := hB i (by omega)
   have hci := hcb (i + 1) (by omega)
   have hc1 : cnt i = (if bitN v i = true then 1 else 0) + cnt (i + 1) := by rcases hcnt.1 i with h | h; exact h; omega
   have wk : IntKind.i64.wrap ((i : Int) - 1) = (i : Int) - 1 := by rw [wrap_i64] <;> omega
   have wc : IntKind.i64.wrap ((cnt (i + 1) : Int) + 1) = ((cnt (i + 1) + 1 : Nat) : Int) := by rw [wrap_i64] <;> omega
   refine zs0 ?_
   refine Holds.condT rfl (Holds.skip ?_)
   refine Holds.next (fun σ => ∀ a w, Rel cx w0 σ a w → Rel cx w0 { nt := 22, env := [(0, .v false (words x)), (6, .v true (.int .i64 (i : Int))), (4, .v true (.int .i64 ((if v / 2 ^ i = 0 then 0 else i + trN (v / 2 ^ i) : Nat) : Int))), (5, .v true (.int .i64 (cnt i : Nat)))], mem := [] } a w) ?_ ?_
   ·refine Holds.blockN ?_
    cases hbt : bitN v i with
    | true =>
      rw [hbt] at hBi
      rw [hbt, if_pos rfl] at hc1
      have hbit : v / 2 ^ i % 2 = 1 := of_decide_eq_true hbt
      have e2 : (if v / 2 ^ i = 0 then 0 else i + trN (v / 2 ^ i)) = i := by rw [if_neg (by omega), tr_down hbit, Nat.add_zero]
      rw [e2, hc1, Nat.add_comm 1]
      refine zs2 (ρ := fun _ => [.v true (.bool true)]) (o := by repeat' first|exact hBi|trivial|constructor) (k := ?_)
      refine Holds.condT rfl ?_
      refine zs0 ?_
      refine zr1 wc ?_
      exact fun a w h => Rel.keep [0, 6, 4, 5] [] h
    | false =>
      rw [hbt] at hBi
      rw [hbt, if_neg (by simp), Nat.zero_add] at hc1
      have hbit : v / 2 ^ i % 2 = 0 := by have := of_decide_eq_false hbt; omega
      have e2 : (if v / 2 ^ i = 0 then 0 else i + trN (v / 2 ^ i)) = (if v / 2 ^ (i + 1) = 0 then 0 else i + 1 + trN (v / 2 ^ (i + 1))) := by
       have hs : v / 2 ^ (i + 1) = v / 2 ^ i / 2 := by rw [Nat.pow_succ, Nat.div_div_eq_div_mul]
       by_cases h0 : v / 2 ^ (i + 1) = 0
       ·rw [if_pos h0, if_pos (by omega)]
       ·rw [if_neg h0, if_neg (by omega), tr_up hbit h0]; omega
      rw [e2, hc1]
      refine zs2 (ρ := fun _ => [.v true (.bool false)]) (o := by repeat' first|exact hBi|trivial|constructor) (k := ?_)
      exact Holds.condF rfl (Holds.skip fun a w h => Rel.keep [0, 6, 4, 5] [] h)
   ·intro σ hσ
    refine Holds.from hσ ?_
    refine zr1 wk ?_
    exact ⟨i, (by show i ≤ b; omega), (show i < i + 1 by omega), fun a w h => Rel.keep [0, 6, 4, 5] [] h⟩
 ·intro σ hσ
  refine Holds.from hσ ?_
  refine zs0 ?_
  exact Holds.ret (RetOk.vs rfl (by exact ⟨⟨rfl, id⟩, ⟨rfl, id⟩, trivial⟩) rfl)
theorem odd_ok (neg : Bool) (e : Int) (m : Nat) (hm : (digs m).length < 9000) (he : -4611686018427380000 < e ∧ e < 4611686018427380000) : FnOk Tryz.prog 150 [.v (fltV 1 neg e m)] [.v true (words (digs (m / 2 ^ trN m))), .v true (.int .i64 (e + trN m))] := by
 obtain ⟨o, hB⟩ := Bits_ok (digs m) (by omega) (digs_ok _).1
 rw [(digs_ok _).2.2] at hB
 have htl : trN m ≤ 64 * (digs m).length := by
  rcases Nat.eq_zero_or_pos m with h0 | h0
  ·rw [h0]; exact Nat.zero_le _
  ·have := trN_le (v := m) (k := 64 * (digs m).length) h0 (by have := val_bl (digs_ok m).1; rw [(digs_ok m).2.2] at this; exact this)
   omega
 have hR := rRight1_ok (digs m) (trN m) (by omega) (by omega) (digs_ok _).1
 rw [(digs_ok _).2.2] at hR
 unfold fltV
 obtain ⟨t, ht⟩ : ∃ t, t = trN m := ⟨_, rfl⟩
 obtain ⟨L, hL⟩ : ∃ L, L = digs m := ⟨_, rfl⟩
 rw [← ht] at hB hR htl ⊢
 obtain ⟨Q, hQ⟩ : ∃ Q, Q = digs (m / 2 ^ t) := ⟨_, rfl⟩
 rw [← hL] at hB hR hm htl ⊢
 rw [← hQ] at hR ⊢
 have w1 : IntKind.i64.wrap (e + (t : Int)) = e + t := by rw [wrap_i64] <;> omega
 refine FnOk.of Tryz.func150 rfl rfl fun cx w0 => ?_
 rw [show Tryz.f150.ntmps = 20 from rfl]
 refine zs0 ?_
 refine zs2 (ρ := fun _ => [.v true (.int .i64 t), .v true (.int .i64 o)]) (o := by repeat' first|exact hB|trivial|constructor) (k := ?_)
 refine zd3 [] (ρ := fun _ => [.v true (words Q)]) w1 (o := by repeat' first|exact hR|trivial|constructor) (k := ?_)
 exact Holds.ret (RetOk.vs rfl (by exact ⟨⟨rfl, id⟩, ⟨rfl, id⟩, trivial⟩) rfl)
theorem fCanon1_ok (neg : Bool) (e : Int) (m : Nat) (hm : (digs m).length < 9000) (he : -4611686018427380000 < e ∧ e < 4611686018427380000) : FnOk Tryz.prog 109 [.v (fltV 1 neg e m)] [.v true (fltV 1 neg (e + trN m) (m / 2 ^ trN m))] := by
 have hO := odd_ok neg e m hm he
 unfold fltV at hO ⊢
 obtain ⟨t, ht⟩ : ∃ t, t = e + (trN m : Int) := ⟨_, rfl⟩
 obtain ⟨L, hL⟩ : ∃ L, L = digs m := ⟨_, rfl⟩
 obtain ⟨Q, hQ⟩ : ∃ Q, Q = digs (m / 2 ^ trN m) := ⟨_, rfl⟩
 rw [← ht, ← hL, ← hQ] at hO
 rw [← ht, ← hL, ← hQ]
 refine FnOk.of Tryz.func109 rfl rfl fun cx w0 => ?_
 rw [show Tryz.f109.ntmps = 23 from rfl]
 refine zs0 ?_
 refine Holds.seq ?_
 refine zs0 ?_
 refine Holds.condF rfl (Holds.skip ?_)
 refine zs2 (ρ := fun _ => [.v true (words Q), .v true (.int .i64 t)]) (o := by repeat' first|exact hO|trivial|constructor) (k := ?_)
 refine zs0 ?_
 exact Holds.ret (RetOk.vs rfl (by exact ⟨⟨rfl, id⟩, trivial⟩) rfl)
theorem fCanon0_ok (k : Nat) (neg : Bool) (hk : k ≠ 1) : FnOk Tryz.prog 109 [.v (fltV k neg 0 0)] [.v true (fltV k neg 0 0)] := by
 rw [fltV_zero]
 have g : ¬ (k : Int) = 1 := by omega
 refine FnOk.of Tryz.func109 rfl rfl fun cx w0 => ?_
 rw [show Tryz.f109.ntmps = 23 from rfl]
 refine zs0 ?_
 refine Holds.seq ?_
 refine zs1 g ?_
 refine Holds.condT rfl ?_
 refine zs0 ?_
 exact Holds.ret (RetOk.vs rfl (by exact ⟨⟨rfl, id⟩, trivial⟩) rfl)
def FltC (k : Nat) (e : Int) (m : Nat) : Prop := (k = 1 ∧ trN m = 0 ∧ 0 < m ∧ (digs m).length < 9000 ∧ -4611686018427380000 < e ∧ e < 4611686018427380000) ∨ (k ≠ 1 ∧ e = 0 ∧ m = 0)
theorem FltC.canon {k : Nat} {neg : Bool} {e : Int} {m : Nat} (h : FltC k e m) : FnOk Tryz.prog 109 [.v (fltV k neg e m)] [.v true (fltV k neg e m)] := by
 rcases h with ⟨rfl, h1, h2, h3, h4⟩ | ⟨h1, rfl, rfl⟩
 ·have := fCanon1_ok neg e m h3 h4
  rw [h1, Nat.pow_zero, Nat.div_one] at this
  rw [show e + ((0 : Nat) : Int) = e from by omega] at this
  exact this
 ·exact fCanon0_ok k neg h1
theorem FltC.len {k : Nat} {e : Int} {m : Nat} (h : FltC k e m) : (digs m).length < 100000 := by
 rcases h with ⟨_, _, _, h, _⟩ | ⟨_, _, rfl⟩
 ·omega
 ·decide
theorem fIs_ok (k : Nat) (neg : Bool) (e : Int) (m : Nat) (h : FltC k e m) : FnOk Tryz.prog 101 [.v (fltV k neg e m), .v (fltV k neg e m)] [.v true (.bool true)] := by
 have hC := h.canon (neg := neg)
 have hE := fEqual_ok k neg e m h.len
 unfold fltV at hC hE ⊢
 obtain ⟨L, hL⟩ : ∃ L, L = digs m := ⟨_, rfl⟩
 rw [← hL] at hC hE ⊢
 refine FnOk.of Tryz.func101 rfl rfl fun cx w0 => ?_
 rw [show Tryz.f101.ntmps = 9 from rfl]
 refine zs0 ?_
 refine zd2 [] (ρ := fun d => if d = 7 then [.v true (.agg [.int .i64 (k : Nat), .bool neg, .int .i64 e, words L])] else [.v true (.bool true)]) (o := by repeat' first|exact hC|exact hE|trivial|constructor) (k := ?_)
 exact Holds.ret (RetOk.vs rfl (by exact ⟨⟨rfl, id⟩, trivial⟩) rfl)
theorem lIs_ok (k : Nat) (neg : Bool) (e : Int) (m : Nat) (h : FltC k e m) : FnOk Tryz.prog 50 [.v (fltV k neg e m), .v (fltV k neg e m)] [.v true (.bool true)] := by
 have hT := fTheir_ok k neg e m
 have hI := fIs_ok k neg e m h
 unfold fltV at hT hI ⊢
 obtain ⟨L, hL⟩ : ∃ L, L = digs m := ⟨_, rfl⟩
 rw [← hL] at hT hI ⊢
 refine FnOk.of Tryz.func50 rfl rfl fun cx w0 => ?_
 rw [show Tryz.f50.ntmps = 9 from rfl]
 refine zs0 ?_
 refine zd2 [] (ρ := fun d => if d = 6 then [.v false (.agg [.int .i64 (k : Nat), .bool neg, .int .i64 e, words L])] else [.v true (.bool true)]) (o := by repeat' first|exact hT|exact hI|trivial|constructor) (k := ?_)
 exact Holds.ret (RetOk.vs rfl (by exact ⟨⟨rfl, id⟩, trivial⟩) rfl)
theorem fFits_err (w : Int) (hw : w ≠ 0) : FnOk Tryz.prog 16 [.v (fltV 0 false 0 0), .v (.int .i64 0), .v (.int .i64 w), .v (fltV 0 false 0 0), .v (.int .i64 0), .v (.int .i64 w)] [.v true (.bool true)] := by
 have h1 := fNone_ok
 rw [fltV_zero] at h1 ⊢
 refine FnOk.of Tryz.func16 rfl rfl fun cx w0 => ?_
 rw [show Tryz.f16.ntmps = 38 from rfl]
 refine zs0 ?_
 refine Holds.seq ?_
 refine zs1 hw ?_
 refine Holds.condT rfl ?_
 refine Holds.step (Px := px) (T := TT) (ρ := fun _ => [.v true (.bool true)]) TTe (by simp (maxSteps := 100000) (disch := omega) only [go_sem, V.isAgg, V.flat, ↓reduceIte, Nat.reduceAdd, Nat.reduceSub, Nat.reduceLT, Nat.reduceEqDiff, reduceCtorEq, Nat.reduceLeDiff, Nat.reduceBEq, Nat.reduceMul, Int.reduceToNat, eq_self]; rfl) (by first | exact h1 | (repeat' first | exact trivial | exact h1 | constructor)) ?_
 exact Holds.ret (RetOk.vs rfl (by exact ⟨⟨rfl, id⟩, trivial⟩) rfl)
theorem fFits_ok (k : Nat) (neg : Bool) (e : Int) (m : Nat) (h : FltC k e m) (fl : Int) : FnOk Tryz.prog 16 [.v (fltV k neg e m), .v (.int .i64 fl), .v (.int .i64 0), .v (fltV k neg e m), .v (.int .i64 fl), .v (.int .i64 0)] [.v true (.bool true)] := by
 have h1 := lIs_ok k neg e m h
 unfold fltV at h1 ⊢
 obtain ⟨L, hL⟩ : ∃ L, L = digs m := ⟨_, rfl⟩
 rw [← hL] at h1 ⊢
 refine FnOk.of Tryz.func16 rfl rfl fun cx w0 => ?_
 rw [show Tryz.f16.ntmps = 38 from rfl]
 refine zs0 ?_
 refine Holds.seq ?_
 refine zs0 ?_
 refine Holds.condF rfl (Holds.skip ?_)
 refine Holds.step (Px := px) (T := TT) (ρ := fun _ => [.v true (.bool true)]) TTe (by simp (maxSteps := 100000) (disch := omega) only [go_sem, V.isAgg, V.flat, ↓reduceIte, Nat.reduceAdd, Nat.reduceSub, Nat.reduceLT, Nat.reduceEqDiff, reduceCtorEq, Nat.reduceLeDiff, Nat.reduceBEq, Nat.reduceMul, Int.reduceToNat, eq_self]; rfl) (by first | exact h1 | (repeat' first | exact trivial | exact h1 | constructor)) ?_
 exact Holds.ret (RetOk.vs rfl (by exact ⟨⟨rfl, id⟩, trivial⟩) rfl)
def lwD (x : List Int) (s j : Nat) : Int := if s < 64 * j + 64 then (((x.getD j 0).toNat % 2 ^ (s - 64 * j) : Nat) : Int) else x.getD j 0
def lwW (x : List Int) (s k : Nat) : List Int := (List.range k).map (lwD x s)
theorem lwW_succ (x : List Int) (s k : Nat) : lwW x s (k + 1) = lwW x s k ++ [lwD x s k] := by rw [lwW, List.range_succ, List.map_append]; rfl
theorem lwW_len (x : List Int) (s k : Nat) : (lwW x s k).length = k := by rw [lwW, List.length_map, List.length_range]
theorem lwD_ok {x : List Int} (ox : okW x) (s j : Nat) : 0 ≤ lwD x s j ∧ lwD x s j < 18446744073709551616 := by
 have h := okW_getD ox j
 unfold lwD
 split
 ·have := Nat.mod_le (x.getD j 0).toNat (2 ^ (s - 64 * j))
  omega
 ·exact h
theorem lwW_ok {x : List Int} (ox : okW x) (s k : Nat) : okW (lwW x s k) := fun n hn => by
 obtain ⟨j, _, rfl⟩ := List.mem_map.1 hn
 exact lwD_ok ox s j
theorem B_pow (k : Nat) : (18446744073709551616 : Nat) ^ k = 2 ^ (64 * k) := by rw [Nat.pow_mul]
theorem lwW_val {x : List Int} (ox : okW x) (s : Nat) : ∀ k, k ≤ x.length → 64 * k < s + 64 → val (lwW x s k) = val (x.take k) % 2 ^ s
 | 0, _, _ => by simp [lwW, val]
 | k + 1, hk, hs => by
   have ih := lwW_val ox s k (by omega) (by omega)
   have hlt := val_lt (okW_take ox k)
   rw [List.length_take, Nat.min_eq_left (by omega), B_pow] at hlt
   have hks : 2 ^ (64 * k) ≤ 2 ^ s := Nat.pow_le_pow_right (by decide) (by omega)
   rw [Nat.mod_eq_of_lt (by omega)] at ih
   rw [lwW_succ, val_append, ih, lwW_len, val_takeN, B_pow]
   obtain ⟨u, hu, hu64⟩ := natW (okW_getD ox k)
   have hs2 : (2 : Nat) ^ s = 2 ^ (64 * k) * 2 ^ (s - 64 * k) := by rw [← Nat.pow_add, show 64 * k + (s - 64 * k) = s from by omega]
   have hP : 0 < 2 ^ (64 * k) := Nat.pow_pos (by decide)
   have e1 : val [lwD x s k] = u % 2 ^ (s - 64 * k) := by
    unfold lwD
    rw [hu, Int.toNat_natCast]
    split
    ·rw [val, val, Int.toNat_natCast, Nat.mul_zero, Nat.add_zero]
    ·have : u < 2 ^ (s - 64 * k) := Nat.lt_of_lt_of_le hu64 (by
      have h6 : (2 : Nat) ^ 64 ≤ 2 ^ (s - 64 * k) := Nat.pow_le_pow_right (by decide) (by omega)
      exact h6)
     rw [Nat.mod_eq_of_lt this]
     simp [val]
   rw [e1, hu, Int.toNat_natCast, hs2, Nat.mod_mul, Nat.add_mul_mod_self_left, Nat.mod_eq_of_lt hlt, Nat.add_mul_div_left _ _ hP, Nat.div_eq_of_lt hlt, Nat.zero_add]
set_option maxHeartbeats 4000000 in
theorem rLow_ok (x : List Int) (s : Nat) (hx : x.length < 40000) (hs : s < 1000000) (ox : okW x) : FnOk Tryz.prog 160 [.v (words x), .v (.int .i64 s)] [.v true (words (digs (val x % 2 ^ s)))] := by
 obtain ⟨W, hW⟩ : ∃ W, W = lwW x s := ⟨_, rfl⟩
 have Ws : ∀ k, W (k + 1) = W k ++ [lwD x s k] := fun k => by rw [hW, lwW_succ]
 have Wl : ∀ k, (W k).length = k := fun k => by rw [hW, lwW_len]
 have W0 : W 0 = [] := List.eq_nil_of_length_eq_zero (Wl 0)
 have Wo : ∀ k, okW (W k) := fun k => by rw [hW]; exact lwW_ok ox s k
 have Wv : ∀ k, k ≤ x.length → 64 * k < s + 64 → val (W k) = val (x.take k) % 2 ^ s := fun k h1 h2 => by rw [hW]; exact lwW_val ox s k h1 h2
 have Dd : ∀ k, lwD x s k = if s < 64 * k + 64 then (((x.getD k 0).toNat % 2 ^ (s - 64 * k) : Nat) : Int) else x.getD k 0 := fun k => rfl
 obtain ⟨Dk, hDk⟩ : ∃ D, D = lwD x s := ⟨_, rfl⟩
 have Ws : ∀ k, W (k + 1) = W k ++ [Dk k] := fun k => by rw [Ws, hDk]
 have Dd : ∀ k, Dk k = if s < 64 * k + 64 then (((x.getD k 0).toNat % 2 ^ (s - 64 * k) : Nat) : Int) else x.getD k 0 := fun k => by rw [hDk]; exact Dd k
 clear hW hDk
 refine FnOk.of Tryz.func160 rfl rfl fun cx w0 => ?_
 rw [show Tryz.f160.ntmps = 42 from rfl]
 refine zs0 ?_
 refine zs0 ?_
 refine Holds.next (fun σ => ∃ k, k ≤ x.length ∧ val (W k) = val x % 2 ^ s ∧ ∀ a w, Rel cx w0 σ a w → Rel cx w0 { nt := 42, env := [(5, mnA k)], mem := mnB W k } a w) ?_ ?_
 ·refine zs0 ?_
  refine Holds.loopB (fun k : Nat => { nt := 42, env := [(6, .v true (.int .i64 k)), (5, mnA k), (0, .v false (words x)), (1, .v true (.int .i64 s))], mem := mnB W k }) (fun k => k ≤ x.length ∧ 64 * k < s + 64) (fun k => x.length - k) 0 ⟨Nat.zero_le _, by omega⟩ (fun a w h => Rel.keep [6, 5, 0, 1] [] h) ?_
  rintro k ⟨hk, hks⟩
  have w64 : IntKind.i64.wrap (64 * (k : Int)) = 64 * (k : Int) := by rw [wrap_i64] <;> omega
  refine Holds.seq ?_
  by_cases hend : k = x.length
  ·have g : ¬ (k : Int) < x.length := by omega
   refine zs1 g ?_
   refine Holds.condF rfl (Holds.exit ⟨rfl, k, hk, ?_, fun a w h => Rel.less [5] (fun _ => rfl) h⟩)
   rw [Wv k hk hks, hend, List.take_length]
  have g : (k : Int) < x.length := by omega
  by_cases hstop : s ≤ 64 * k
  ·have g2 : ¬ (64 * (k : Int) < (s : Int)) := by omega
   refine zs1 (an g <| an g2 <| w64) ?_
   refine Holds.condF rfl (Holds.exit ⟨rfl, k, hk, ?_, fun a w h => Rel.less [5] (fun _ => rfl) h⟩)
   rw [Wv k hk hks]
   have hc := val_cut x k hk
   have : (18446744073709551616 : Nat) ^ k = 2 ^ s * 2 ^ (64 * k - s) := by rw [B_pow, ← Nat.pow_add, show s + (64 * k - s) = 64 * k from by omega]
   rw [hc, this, Nat.mul_assoc, Nat.add_mul_mod_self_left]
  have g2 : 64 * (k : Int) < (s : Int) := by omega
  obtain ⟨u, hu, hu64⟩ := natW (okW_getD ox k)
  have gX : x[k]? = some (u : Int) := by rw [get_map (by omega), hu]
  have hWs := Ws k
  have hWl := Wl k
  have hDd := Dd k
  rw [hu, Int.toNat_natCast] at hDd
  obtain ⟨d, hd⟩ : ∃ d, d = Dk k := ⟨_, rfl⟩
  rw [← hd] at hWs hDd
  have wk : IntKind.i64.wrap ((k : Int) + 1) = ((k + 1 : Nat) : Int) := by rw [wrap_i64] <;> omega
  have wr : IntKind.i64.wrap ((s : Int) - 64 * (k : Int)) = ((s - 64 * k : Nat) : Int) := by rw [wrap_i64] <;> omega
  refine zs1 (an g <| an g2 <| w64) ?_
  refine Holds.condT rfl (Holds.skip ?_)
  refine Holds.next (fun σ => ∀ a w, Rel cx w0 σ a w → Rel cx w0 { nt := 42, env := [(6, .v true (.int .i64 k)), (5, mnA (k + 1)), (0, .v false (words x)), (1, .v true (.int .i64 s))], mem := mnB W (k + 1) } a w) ?_ ?_
  ·refine Holds.blockN ?_
   refine zs1 gX ?_
   refine Holds.next (fun σ => ∀ a w, Rel cx w0 σ a w → Rel cx w0 { nt := 42, env := [(7, .v true (.int .u64 d)), (6, .v true (.int .i64 k)), (5, mnA k), (0, .v false (words x)), (1, .v true (.int .i64 s))], mem := mnB W k } a w) ?_ ?_
   ·by_cases h64 : s < 64 * k + 64
    ·rw [if_pos h64] at hDd
     have g3 : ((s - 64 * k : Nat) : Int) < 64 := by omega
     obtain ⟨r, hr⟩ : ∃ r, r = s - 64 * k := ⟨_, rfl⟩
     rw [← hr] at g3 wr hDd
     have hsh := shlN 1 r (by omega)
     have hP : 1 * 2 ^ r % 18446744073709551616 = 2 ^ r := by rw [Nat.one_mul]; exact Nat.mod_eq_of_lt (Nat.lt_of_lt_of_le (Nat.pow_lt_pow_right (a := 2) (by decide) (show r < 64 by omega)) (by decide))
     rw [hP] at hsh
     have hsh : IntKind.u64.wrap (1 * 2 ^ min r 64) = ((2 ^ r : Nat) : Int) := hsh
     have hm := remN u (2 ^ r)
     have hp0 : ¬ ((2 ^ r : Nat) : Int) = 0 := by have := Nat.pow_pos (a := 2) (n := r) (by decide); omega
     rw [← hDd] at hm
     obtain ⟨PP, hPP⟩ : ∃ P : Int, P = ((2 ^ r : Nat) : Int) := ⟨_, rfl⟩
     rw [← hPP] at hsh hm hp0
     have wd : IntKind.u64.wrap d = d := by
      have := Nat.mod_le u (2 ^ r)
      rw [wrap_u64]; omega
     refine zs1 (an w64 <| an wr <| g3) ?_
     refine Holds.condT rfl ?_
     refine zr1 (an w64 <| an wr <| an hsh <| an hm <| an hp0 <| wd) ?_
     exact fun a w h => Rel.less [7, 6, 5, 0, 1] (fun _ => rfl) h
    ·rw [if_neg h64] at hDd
     have g3 : ¬ ((s - 64 * k : Nat) : Int) < 64 := by omega
     rw [hDd]
     refine zs1 (an w64 <| an wr <| g3) ?_
     exact Holds.condF rfl (Holds.skip fun a w h => Rel.less [7, 6, 5, 0, 1] (fun _ => rfl) h)
   ·intro σ hσ
    refine Holds.from hσ ?_
    rcases k with _ | k
    ·refine Holds.region (Px := px) (T := TT) (ρ := fun _ => []) TTe (by simp (maxSteps := 100000) (disch := omega) only [go_sem, V.isAgg, V.flat, ↓reduceIte, Nat.reduceAdd, Nat.reduceSub, Nat.reduceLT, Nat.reduceEqDiff, reduceCtorEq, Nat.reduceLeDiff, Nat.reduceBEq, Nat.reduceMul, Int.reduceToNat, mnA, mnB]; rfl) (by repeat' first | exact trivial | constructor) ?_
     intro a w h
     have := Rel.ren (s := 39) (s' := 300) (Rel.keep [6, 5, 0, 1] [39] h) (by decide) rfl rfl
     rw [mnB, if_neg (by omega), hWs, W0, mnA, if_neg (by omega)]
     exact this
    ·rw [mnA_s, mnB_s]
     refine zr1 hWl ?_
     intro a w h
     have := Rel.ren (s := 39) (s' := 300) (Rel.keep [6, 5, 0, 1] [39] h) (by decide) rfl rfl
     rw [mnB, if_neg (by omega), hWs, mnA, if_neg (by omega), List.map_append]
     exact this
  ·intro σ hσ
   refine Holds.from hσ ?_
   refine zr1 wk ?_
   exact ⟨k + 1, ⟨(by show k + 1 ≤ x.length; omega), (by show 64 * (k + 1) < s + 64; omega)⟩, (show x.length - (k + 1) < x.length - k by omega), fun a w h => Rel.less [6, 5, 0, 1] (fun _ => rfl) h⟩
 ·rintro σ ⟨k, hk, hv, hσ⟩
  refine Holds.from hσ ?_
  have hT := rTrim_ok (W k) (by rw [Wl]; omega) (Wo k)
  rw [hv] at hT
  obtain ⟨D, hD⟩ : ∃ D, D = digs (val x % 2 ^ s) := ⟨_, rfl⟩
  rw [← hD] at hT ⊢
  have hWl := Wl k
  rcases k with _ | k
  ·rw [W0] at hT
   have hT : FnOk Tryz.prog 166 [.v (.sl 1 [])] [.v true (words D)] := hT
   refine Holds.step (Px := px) (T := TT) (ρ := fun _ => [.v true (words D)]) TTe (by simp (maxSteps := 100000) (disch := omega) only [go_sem, V.isAgg, V.flat, ↓reduceIte, Nat.reduceAdd, Nat.reduceSub, Nat.reduceLT, Nat.reduceEqDiff, reduceCtorEq, Nat.reduceLeDiff, Nat.reduceBEq, Nat.reduceMul, Int.reduceToNat, mnA, mnB]; rfl) (by first | exact hT | (repeat' first | exact trivial | exact hT | constructor)) ?_
   exact Holds.ret (RetOk.vs rfl (by exact ⟨⟨rfl, id⟩, trivial⟩) rfl)
  ·rw [mnA_s, mnB_s]
   have htk : List.take (k + 1) (List.map (fun n => V.int .u64 n) (W (k + 1))) = List.map (fun n => V.int .u64 n) (W (k + 1)) := List.take_of_length_le (by rw [List.length_map, hWl]; exact Nat.le_refl _)
   refine zs3 (ρ := fun _ => [.v true (words D)]) htk (o := by repeat' first|exact hT|trivial|constructor) (k := ?_)
   exact Holds.ret (RetOk.vs rfl (by exact ⟨⟨rfl, id⟩, trivial⟩) rfl)
def realF (neg : Bool) (num den : Nat) (e : Int) : V := .agg [.bool neg, words (digs num), words (digs den), .int .i64 e, .int .i64 1]
theorem bl_ub {v : Nat} (h : 0 < v) : v < 2 ^ blN v := by unfold blN; rw [if_neg (by omega)]; exact Nat.lt_log2_self
set_option maxHeartbeats 2000000 in
theorem rLog2_ok (num den : Nat) (e x : Int) (hn : 0 < num) (hd : 0 < den) (hnl : (digs num).length < 5000) (hdl : (digs den).length < 5000) (hE : IsE num den e) (hx : -4611686018400000000 < x ∧ x < 4611686018400000000) :
 FnOk Tryz.prog 155 [.v (words (digs num)), .v (words (digs den)), .v (.int .i64 x)] [.v true (.int .i64 (e + x))] := by
 have hLn := rLen_ok (digs num) (by omega) (digs_ok _).1
 have hLd := rLen_ok (digs den) (by omega) (digs_ok _).1
 rw [lenR_eq (digs_ok _).1, (digs_ok _).2.2] at hLn hLd
 have vb : ∀ v, v < 2 ^ (64 * (digs v).length) := fun v => by have := val_bl (digs_ok v).1; rw [(digs_ok v).2.2] at this; exact this
 have hbn : blN num ≤ 64 * (digs num).length := bl_lt (vb num)
 have hbd : blN den ≤ 64 * (digs den).length := bl_lt (vb den)
 obtain ⟨n1, n2⟩ := bl_le hn
 obtain ⟨d1, d2⟩ := bl_le hd
 have n3 := bl_ub hn
 have d3 := bl_ub hd
 obtain ⟨a, ha⟩ : ∃ a, a = blN num := ⟨_, rfl⟩
 obtain ⟨b, hb⟩ : ∃ b, b = blN den := ⟨_, rfl⟩
 rw [← ha] at hLn hbn n1 n2 n3
 rw [← hb] at hLd hbd d1 d2 d3
 have w1 : IntKind.i64.wrap ((a : Int) - (b : Int)) = (a : Int) - b := by rw [wrap_i64] <;> omega
 obtain ⟨I, J, hIJ, hI, hJ⟩ : ∃ I J : Nat, (I : Int) - J = (a : Int) - b ∧ I = ((a : Int) - b).toNat ∧ J = (-((a : Int) - b)).toNat := ⟨_, _, by omega, rfl, rfl⟩
 have hup : num * 2 ^ J < den * 2 ^ (I + 1) := by
  have h1 : num * 2 ^ J < 2 ^ a * 2 ^ J := (Nat.mul_lt_mul_right (Nat.pow_pos (by decide))).2 n3
  have h2 : 2 ^ (b - 1) * 2 ^ (I + 1) ≤ den * 2 ^ (I + 1) := Nat.mul_le_mul_right _ d1
  rw [← Nat.pow_add] at h1 h2
  have h3 : (2 : Nat) ^ (a + J) ≤ 2 ^ (b - 1 + (I + 1)) := Nat.pow_le_pow_right (by decide) (by omega)
  omega
 have hlo : den * 2 ^ I ≤ num * 2 ^ (J + 1) := by
  have h1 : den * 2 ^ I ≤ 2 ^ b * 2 ^ I := Nat.mul_le_mul_right _ (Nat.le_of_lt d3)
  have h2 : 2 ^ (a - 1) * 2 ^ (J + 1) ≤ num * 2 ^ (J + 1) := Nat.mul_le_mul_right _ n1
  rw [← Nat.pow_add] at h1 h2
  have h3 : (2 : Nat) ^ (b + I) ≤ 2 ^ (a - 1 + (J + 1)) := Nat.pow_le_pow_right (by decide) (by omega)
  omega
 have hcase : (num * 2 ^ J < den * 2 ^ I ∧ e = (a : Int) - b - 1) ∨ (¬ num * 2 ^ J < den * 2 ^ I ∧ e = (a : Int) - b) := by
  by_cases h : num * 2 ^ J < den * 2 ^ I
  ·refine .inl ⟨h, isE_uniq hE (isE_of (i := I) (j := J + 1) (by omega) hlo ?_)⟩
   rw [Nat.pow_succ, Nat.pow_succ, ← Nat.mul_assoc, ← Nat.mul_assoc]
   omega
  ·exact .inr ⟨h, isE_uniq hE (isE_of (i := I) (j := J) (by omega) (by omega) hup)⟩
 have wx : IntKind.i64.wrap (e + x) = e + x := by rw [wrap_i64] <;> omega
 have lb : ∀ (v k : Nat), v < 2 ^ k → k ≤ 700000 → (digs v).length < 30000 := fun v k hv hk => by
  have := digs_len (v := v) (m := k / 64 + 1) (by
   rw [show (18446744073709551616 : Nat) = 2 ^ 64 from rfl, ← Nat.pow_mul]
   exact Nat.lt_of_lt_of_le hv (Nat.pow_le_pow_right (by decide) (by omega)))
  omega
 refine FnOk.of Tryz.func155 rfl rfl fun cx w0 => ?_
 rw [show Tryz.f155.ntmps = 35 from rfl]
 refine zs0 ?_
 refine zs3 (ρ := fun d => if d = 11 then [.v true (.int .i64 a)] else [.v true (.int .i64 b)]) w1 (o := by repeat' first|exact hLn|exact hLd|trivial|constructor) (k := ?_)
 refine zs0 ?_
 have tail : ∀ (A B : List Int) (na nb : Bool), FnOk Tryz.prog 124 [.v (words A), .v (words B)] [.v true (.int .i64 (cmpN (num * 2 ^ J) (den * 2 ^ I)))] → Holds Tryz.prog none cx w0 (codeAt Tryz.f155 [1, 1, 1, 1]) { nt := 35, env := [(2, .v true (.int .i64 x)), (7, .v true (.int .i64 ((a : Int) - b))), (8, .v na (words A)), (9, .v nb (words B))], mem := [] } (fnQ Tryz.prog Tryz.f155 [.v true (.int .i64 (e + x))]) := fun A B na nb hC => by
  refine Holds.seq ?_
  rcases hcase with ⟨h1, h2⟩ | ⟨h1, h2⟩
  ·have hc : cmpN (num * 2 ^ J) (den * 2 ^ I) = -1 := by rw [cmpN, if_pos h1]
   rw [hc] at hC
   have w2 : IntKind.i64.wrap ((a : Int) - (b : Int) - 1) = e := by rw [h2, wrap_i64] <;> omega
   refine zs2 (ρ := fun _ => [.v true (.int .i64 (-1))]) (o := by repeat' first|exact hC|trivial|constructor) (k := ?_)
   refine Holds.condT rfl ?_
   refine zr1 w2 ?_
   refine zs1 wx ?_
   exact Holds.ret (RetOk.vs rfl (by exact ⟨⟨rfl, id⟩, trivial⟩) rfl)
  ·have hc : ¬ cmpN (num * 2 ^ J) (den * 2 ^ I) < 0 := by rw [cmpN, if_neg h1]; split <;> omega
   obtain ⟨c, hcc⟩ : ∃ c, c = cmpN (num * 2 ^ J) (den * 2 ^ I) := ⟨_, rfl⟩
   rw [← hcc] at hC hc
   rw [← h2]
   refine zs3 (ρ := fun _ => [.v true (.int .i64 c)]) hc (o := by repeat' first|exact hC|trivial|constructor) (k := ?_)
   refine Holds.condF rfl (Holds.skip ?_)
   refine zs1 wx ?_
   exact Holds.ret (RetOk.vs rfl (by exact ⟨⟨rfl, id⟩, trivial⟩) rfl)
 by_cases hpos : 0 < (a : Int) - (b : Int)
 ·have hJ0 : J = 0 := by omega
  have hS := Left_ok (digs den) I (by omega) (by omega) (digs_ok _).1
  rw [(digs_ok _).2.2] at hS
  have hl2 := lb (den * 2 ^ I) (b + I) (by rw [Nat.pow_add]; exact (Nat.mul_lt_mul_right (Nat.pow_pos (by decide))).2 d3) (by omega)
  have hC := rCmp_ok (digs num) (digs (den * 2 ^ I)) (by omega) (by omega) (digs_ok _).1 (digs_ok _).1
  rw [(digs_ok _).2.2, (digs_ok (den * 2 ^ I)).2.2] at hC
  have hnJ : num * 2 ^ J = num := by rw [hJ0, Nat.pow_zero, Nat.mul_one]
  have hT := tail (digs num) (digs (den * 2 ^ I)) false true (by rw [hnJ]; exact hC)
  obtain ⟨B, hB⟩ : ∃ B, B = digs (den * 2 ^ I) := ⟨_, rfl⟩
  rw [← hB] at hS hT
  have eI : (a : Int) - (b : Int) = (I : Int) := by omega
  rw [eI] at hpos hT
  rw [eI]
  clear tail hC hB hE hup hlo hcase
  refine Holds.next (fun σ => ∀ aa w, Rel cx w0 σ aa w → Rel cx w0 { nt := 35, env := [(2, .v true (.int .i64 x)), (7, .v true (.int .i64 (I : Int))), (8, .v false (words (digs num))), (9, .v true (words B))], mem := [] } aa w) ?_ fun σ hσ => Holds.from hσ hT
  refine zs1 hpos ?_
  refine Holds.condT rfl ?_
  refine zr2 (ρ := fun _ => [.v true (words B)]) (o := by repeat' first|exact hS|trivial|constructor) (k := ?_)
  exact fun a w h => Rel.keep [2, 7, 8, 9] [] h
 ·have hI0 : I = 0 := by omega
  have hS := Left_ok (digs num) J (by omega) (by omega) (digs_ok _).1
  rw [(digs_ok _).2.2] at hS
  have hl2 := lb (num * 2 ^ J) (a + J) (by rw [Nat.pow_add]; exact (Nat.mul_lt_mul_right (Nat.pow_pos (by decide))).2 n3) (by omega)
  have hC := rCmp_ok (digs (num * 2 ^ J)) (digs den) (by omega) (by omega) (digs_ok _).1 (digs_ok _).1
  rw [(digs_ok _).2.2, (digs_ok den).2.2] at hC
  have hdI : den * 2 ^ I = den := by rw [hI0, Nat.pow_zero, Nat.mul_one]
  have hT := tail (digs (num * 2 ^ J)) (digs den) true false (by rw [hdI]; exact hC)
  obtain ⟨B, hB⟩ : ∃ B, B = digs (num * 2 ^ J) := ⟨_, rfl⟩
  rw [← hB] at hS hT
  have eJ : (a : Int) - (b : Int) = -(J : Int) := by omega
  rw [eJ] at hpos hT
  rw [eJ]
  have wn : IntKind.i64.wrap (0 - -(J : Int)) = (J : Int) := by rw [wrap_i64] <;> omega
  clear tail hC hB hE hup hlo hcase
  refine Holds.next (fun σ => ∀ aa w, Rel cx w0 σ aa w → Rel cx w0 { nt := 35, env := [(2, .v true (.int .i64 x)), (7, .v true (.int .i64 (-(J : Int)))), (8, .v true (words B)), (9, .v false (words (digs den)))], mem := [] } aa w) ?_ fun σ hσ => Holds.from hσ hT
  refine zs1 hpos ?_
  refine Holds.condF rfl ?_
  refine zr3 (ρ := fun _ => [.v true (words B)]) wn (o := by repeat' first|exact hS|trivial|constructor) (k := ?_)
  exact fun a w h => Rel.keep [2, 7, 8, 9] [] h
theorem floor2_ok (a : Int) (ha : -4611686018427387904 < a ∧ a < 4611686018427387904) : FnOk Tryz.prog 154 [.v (.int .i64 a), .v (.int .i64 1)] [.v true (.int .i64 a)] := by
 have h1 : a.tdiv 1 = a := Int.tdiv_one a
 have h2 : a.tmod 1 = 0 := Int.tmod_one a
 have w1 : IntKind.i64.wrap a = a := by rw [wrap_i64] <;> omega
 refine FnOk.of Tryz.func154 rfl rfl fun cx w0 => ?_
 rw [show Tryz.f154.ntmps = 16 from rfl]
 refine zs0 ?_
 refine zs1 (an h1 <| w1) ?_
 refine Holds.seq ?_
 refine zs1 h2 ?_
 refine Holds.condF rfl (Holds.skip ?_)
 refine zs0 ?_
 exact Holds.ret (RetOk.vs rfl (by exact ⟨⟨rfl, id⟩, trivial⟩) rfl)
theorem Exponent_ok (neg : Bool) (num den : Nat) (e x : Int) (hn : 0 < num) (hd : 0 < den) (hnl : (digs num).length < 5000) (hdl : (digs den).length < 5000) (hE : IsE num den e) (hx : -4611686018400000000 < x ∧ x < 4611686018400000000) (he : -1000000 < e ∧ e < 1000000) :
 FnOk Tryz.prog 103 [.v (realF neg num den x)] [.v true (.int .i64 (e + x))] := by
 have h1 := rLog2_ok num den e x hn hd hnl hdl hE hx
 have h2 := floor2_ok (e + x) (by omega)
 obtain ⟨y, hy⟩ : ∃ y, y = e + x := ⟨_, rfl⟩
 rw [← hy] at h1 h2 ⊢
 unfold realF
 obtain ⟨N, hN⟩ : ∃ N, N = digs num := ⟨_, rfl⟩
 obtain ⟨D, hD⟩ : ∃ D, D = digs den := ⟨_, rfl⟩
 rw [← hN, ← hD] at h1 ⊢
 refine FnOk.of Tryz.func103 rfl rfl fun cx w0 => ?_
 rw [show Tryz.f103.ntmps = 13 from rfl]
 refine zs0 ?_
 refine zd2 [] (ρ := fun d => if d = 9 then [.v true (.int .i64 y)] else [.v true (.int .i64 y)]) (o := by repeat' first|exact h1|exact h2|trivial|constructor) (k := ?_)
 exact Holds.ret (RetOk.vs rfl (by exact ⟨⟨rfl, id⟩, trivial⟩) rfl)
def StepsOk (num den : Nat) (d : Int) (N : Nat) (h b : Bool) : Prop :=
 (∀ r neg, rrN r neg N h b = fN r neg num den d) ∧ (h = false ∧ b = false ↔ cutX num den d = 0) ∧ N = cutN num den d
theorem stepsOk_of {num den M DD : Nat} {d : Int} (hD : 0 < DD) (h1 : M / DD = cutN num den d) (h2 : rstN (M % DD) DD = cutX num den d) : StepsOk num den d (2 * M / DD / 2) (decide (2 * M / DD % 2 = 1)) (decide (2 * M % DD ≠ 0)) := by
 refine ⟨fun r neg => ?_, ?_, ?_⟩
 ·rw [(rr_eq (r := r) (neg := neg) (m := M) hD).1, h1, h2]; rfl
 ·rw [(rr_eq (r := 0) (neg := false) (m := M) hD).2, ← h2]
  unfold rstN
  constructor
  ·intro h; rw [if_pos h]
  ·intro h
   split at h
   ·assumption
   ·unfold cmpN at h
    split at h <;> first | omega | (split at h <;> omega)
 ·rw [(half_split M DD hD).1, h1]
theorem len_shift {v k : Nat} (h : (digs v).length ≤ 600) (hk : k ≤ 20001) : (digs (v * 2 ^ k)).length ≤ 1000 := by
 have h1 := val_lt (digs_ok v).1
 rw [(digs_ok v).2.2] at h1
 have h2 : v * 2 ^ k < 18446744073709551616 ^ ((digs v).length + (k / 64 + 1)) := by
  rw [Nat.pow_add]
  have h3 : (2 : Nat) ^ k ≤ 18446744073709551616 ^ (k / 64 + 1) := by rw [B_pow]; exact Nat.pow_le_pow_right (by decide) (by omega)
  exact Nat.lt_of_le_of_lt (Nat.mul_le_mul_left _ h3) ((Nat.mul_lt_mul_right (Nat.pow_pos (by decide))).2 h1)
 have := digs_len h2
 omega
set_option maxHeartbeats 4000000 in
theorem rSteps2_ok (neg : Bool) (num den : Nat) (e s : Int) (hd : 0 < den) (hnl : (digs num).length ≤ 600) (hdl : (digs den).length ≤ 600) (hes : e - s ≤ 20000 ∧ s - e < 900000) (he : -100000 < e ∧ e < 100000) :
 ∃ N h b, StepsOk num den (e - s) N h b ∧ FnOk Tryz.prog 108 [.v (realF neg num den e), .v (.int .i64 s)] [.v true (partV N h b)] := by
 have w1 : IntKind.i64.wrap (s - 1) = s - 1 := by rw [wrap_i64] <;> omega
 by_cases ha : 0 ≤ e - s + 1
 ·-- a is not less than 0
  obtain ⟨a, haa⟩ : ∃ a : Nat, e - s + 1 = a := ⟨(e - s + 1).toNat, by omega⟩
  obtain ⟨X, hX⟩ : ∃ X, X = num * 2 ^ a := ⟨_, rfl⟩
  obtain ⟨M, DD, hDD, hc1, hc2, hq, hx⟩ : ∃ M DD, 0 < DD ∧ M / DD = cutN num den (e - s) ∧ rstN (M % DD) DD = cutX num den (e - s) ∧ 2 * M / DD = X / den ∧ (2 * M % DD ≠ 0 ↔ X % den ≠ 0) := by
   rw [hX]
   rcases Nat.eq_zero_or_pos a with h0 | h0
   ·have hc := cut_eq (num := num) (den := den) (i := 0) (j := 1) (d := e - s) (by omega)
    rw [Nat.pow_zero, Nat.mul_one, Nat.pow_one] at hc
    refine ⟨num, den * 2, by omega, hc.1, hc.2, ?_, ?_⟩
    ·rw [h0, Nat.pow_zero, Nat.mul_one, Nat.mul_comm 2, Nat.mul_div_mul_right _ _ (by decide)]
    ·rw [h0, Nat.pow_zero, Nat.mul_one, Nat.mul_comm 2, Nat.mul_mod_mul_right]; omega
   ·have hc := cut_eq (num := num) (den := den) (i := a - 1) (j := 0) (d := e - s) (by omega)
    rw [Nat.pow_zero, Nat.mul_one] at hc
    have e2 : 2 * (num * 2 ^ (a - 1)) = num * 2 ^ a := by rw [Nat.mul_left_comm, ← Nat.pow_succ', show (a - 1).succ = a from by omega]
    exact ⟨num * 2 ^ (a - 1), den, hd, hc.1, hc.2, by rw [e2], by rw [e2]⟩
  refine ⟨_, _, _, stepsOk_of hDD hc1 hc2, ?_⟩
  have hxd : decide (2 * M % DD ≠ 0) = decide (X % den ≠ 0) := decide_eq_decide.2 hx
  rw [hq, hxd]
  clear hxd
  have hXl := len_shift (v := num) (k := a) hnl (by omega)
  have hL := Left_ok (digs num) a (by omega) (by omega) (digs_ok _).1
  rw [(digs_ok _).2.2] at hL
  have hDM := rDivMod_ok (digs (num * 2 ^ a)) (digs den) hXl (by omega) (digs_ok _).1 (digs_ok _).1 (by rw [(digs_ok _).2.2]; exact hd)
  rw [(digs_ok (num * 2 ^ a)).2.2, (digs_ok den).2.2] at hDM
  rw [← hX] at hXl hL hDM
  have hql := digs_mono (Nat.div_le_self X den)
  have hrl := digs_mono (Nat.mod_le X den)
  have hZ := IsZero_ok (digs (X % den)) (by omega) (digs_ok _).1
  rw [(digs_ok _).2.2] at hZ
  have hR := rRight1_ok (digs (X / den)) 1 (by omega) (by omega) (digs_ok _).1
  rw [(digs_ok _).2.2, Nat.pow_one] at hR
  have hB := rBit_ok (digs (X / den)) 0 (by omega) (by omega) (digs_ok _).1
  rw [(digs_ok _).2.2, bit_zero] at hB
  have hR : FnOk Tryz.prog 159 [.v (words (digs (X / den))), .v (.int .i64 1)] [.v true (words (digs (X / den / 2)))] := hR
  have hB : FnOk Tryz.prog 157 [.v (words (digs (X / den))), .v (.int .i64 0)] [.v true (.bool (decide (X / den % 2 = 1)))] := hB
  have hzr : (!decide (X % den = 0)) = decide (X % den ≠ 0) := by by_cases h : X % den = 0 <;> simp [h]
  unfold partV realF
  rw [← hzr]
  have w3 : IntKind.i64.wrap (e - (s - 1)) = (a : Int) := by rw [wrap_i64] <;> omega
  have w2 : IntKind.i64.wrap (1 * (s - 1)) = s - 1 := by rw [wrap_i64] <;> omega
  obtain ⟨NL, hNL⟩ : ∃ L, L = digs num := ⟨_, rfl⟩
  obtain ⟨DL, hDL⟩ : ∃ L, L = digs den := ⟨_, rfl⟩
  obtain ⟨XL, hXL⟩ : ∃ L, L = digs X := ⟨_, rfl⟩
  obtain ⟨QL, hQL⟩ : ∃ L, L = digs (X / den) := ⟨_, rfl⟩
  obtain ⟨RL, hRL⟩ : ∃ L, L = digs (X % den) := ⟨_, rfl⟩
  obtain ⟨HL, hHL⟩ : ∃ L, L = digs (X / den / 2) := ⟨_, rfl⟩
  obtain ⟨bb, hbb⟩ : ∃ b, b = decide (X / den % 2 = 1) := ⟨_, rfl⟩
  obtain ⟨zz, hzz⟩ : ∃ b, b = decide (X % den = 0) := ⟨_, rfl⟩
  rw [← hNL, ← hXL] at hL
  rw [← hXL, ← hDL, ← hQL, ← hRL] at hDM
  rw [← hRL, ← hzz] at hZ
  rw [← hQL, ← hHL] at hR
  rw [← hQL, ← hbb] at hB
  rw [← hNL, ← hDL, ← hHL, ← hbb, ← hzz]
  have ga : (0 : Int) ≤ (a : Int) := by omega
  clear hNL hDL hXL hQL hRL hHL hbb hzz hzr hql hrl hXl hX hc1 hc2 hq hx hDD hnl hdl
  refine FnOk.of Tryz.func108 rfl rfl fun cx w0 => ?_
  rw [show Tryz.f108.ntmps = 82 from rfl]
  refine zs0 ?_
  refine zs1 (an w1 <| an w2 <| w3) ?_
  refine zs0 ?_
  refine zs0 ?_
  refine Holds.next (fun σ => ∀ a w, Rel cx w0 σ a w → Rel cx w0 { nt := 82, env := [(2, .ptr 2 0 [] 0), (4, .ptr 4 0 [] 0), (6, .v true (words QL)), (7, .v true (.bool zz))], mem := [(2, .box 108 (.v false (.agg [.bool neg, words NL, words DL, .int .i64 e, .int .i64 1]))), (4, .box 174 (.v true (.agg [.sl 1 [], .bool false, .bool false])))] } a w) ?_ ?_
  ·refine zs1 ga ?_
   refine Holds.condT rfl ?_
   refine zd2 [] (ρ := fun d => if d = 27 then [.v true (words XL)] else [.v true (words QL), .v true (words RL)]) (o := by repeat' first|exact hL|exact hDM|trivial|constructor) (k := ?_)
   refine zr2 (ρ := fun _ => [.v true (.bool zz)]) (o := by repeat' first|exact hZ|trivial|constructor) (k := ?_)
   exact fun a w h => Rel.keep [2, 4, 6, 7] [2, 4] h
  ·intro σ hσ
   refine Holds.from hσ ?_
   refine Holds.seq ?_
   refine zs0 ?_
   refine Holds.condF rfl (Holds.skip ?_)
   refine zs2 (ρ := fun d => if d = 76 then [.v true (words HL)] else [.v true (.bool bb)]) (o := by repeat' first|exact hR|exact hB|trivial|constructor) (k := ?_)
   exact Holds.ret (RetOk.vs rfl (by exact ⟨⟨rfl, id⟩, trivial⟩) rfl)
 ·obtain ⟨j, hj⟩ : ∃ j : Nat, e - s + 1 = -(j : Int) := ⟨(-(e - s + 1)).toNat, by omega⟩
  have hc := cut_eq (num := num) (den := den) (i := 0) (j := j + 1) (d := e - s) (by omega)
  rw [Nat.pow_zero, Nat.mul_one] at hc
  have hp1 : 0 < 2 ^ (j + 1) := Nat.pow_pos (by decide)
  have hp0 : 0 < 2 ^ j := Nat.pow_pos (by decide)
  have hDD : 0 < den * 2 ^ (j + 1) := Nat.mul_pos hd hp1
  have hq : 2 * num / (den * 2 ^ (j + 1)) = num / den / 2 ^ j := by
   rw [Nat.pow_succ, ← Nat.mul_assoc, Nat.mul_comm 2, Nat.mul_div_mul_right _ _ (by decide), Nat.div_div_eq_div_mul]
  have hx : 2 * num % (den * 2 ^ (j + 1)) ≠ 0 ↔ ¬ (num % den = 0 ∧ num / den % 2 ^ j = 0) := by
   rw [Nat.pow_succ, ← Nat.mul_assoc, Nat.mul_comm 2, Nat.mul_mod_mul_right, Nat.mod_mul]
   constructor
   ·rintro h1 ⟨h2, h3⟩; rw [h2, h3] at h1; simp at h1
   ·intro h1 h2
    refine h1 ⟨by omega, ?_⟩
    have h3 : den * (num / den % 2 ^ j) = 0 := by omega
    rcases Nat.mul_eq_zero.1 h3 with h | h <;> omega
  refine ⟨_, _, _, stepsOk_of hDD hc.1 hc.2, ?_⟩
  have hxd : decide (2 * num % (den * 2 ^ (j + 1)) ≠ 0) = decide (¬ (num % den = 0 ∧ num / den % 2 ^ j = 0)) := decide_eq_decide.2 hx
  rw [hq, hxd]
  clear hxd
  have hDM := rDivMod_ok (digs num) (digs den) (by omega) (by omega) (digs_ok _).1 (digs_ok _).1 (by rw [(digs_ok _).2.2]; exact hd)
  rw [(digs_ok num).2.2, (digs_ok den).2.2] at hDM
  have hdl1 := digs_mono (Nat.div_le_self num den)
  have hrl := digs_mono (Nat.mod_le num den)
  have hSh := rRight1_ok (digs (num / den)) j (by omega) (by omega) (digs_ok _).1
  rw [(digs_ok _).2.2] at hSh
  have hLo := rLow_ok (digs (num / den)) j (by omega) (by omega) (digs_ok _).1
  rw [(digs_ok _).2.2] at hLo
  have hql := digs_mono (Nat.div_le_self (num / den) (2 ^ j))
  have hll := digs_mono (Nat.mod_le (num / den) (2 ^ j))
  have hZ := IsZero_ok (digs (num % den)) (by omega) (digs_ok _).1
  rw [(digs_ok _).2.2] at hZ
  have hZ2 := IsZero_ok (digs (num / den % 2 ^ j)) (by omega) (digs_ok _).1
  rw [(digs_ok _).2.2] at hZ2
  have hR := rRight1_ok (digs (num / den / 2 ^ j)) 1 (by omega) (by omega) (digs_ok _).1
  rw [(digs_ok _).2.2, Nat.pow_one] at hR
  have hB := rBit_ok (digs (num / den / 2 ^ j)) 0 (by omega) (by omega) (digs_ok _).1
  rw [(digs_ok _).2.2, bit_zero] at hB
  have hR : FnOk Tryz.prog 159 [.v (words (digs (num / den / 2 ^ j))), .v (.int .i64 1)] [.v true (words (digs (num / den / 2 ^ j / 2)))] := hR
  have hB : FnOk Tryz.prog 157 [.v (words (digs (num / den / 2 ^ j))), .v (.int .i64 0)] [.v true (.bool (decide (num / den / 2 ^ j % 2 = 1)))] := hB
  unfold partV realF
  have w3 : IntKind.i64.wrap (e - (s - 1)) = -(j : Int) := by rw [wrap_i64] <;> omega
  have w2 : IntKind.i64.wrap (1 * (s - 1)) = s - 1 := by rw [wrap_i64] <;> omega
  have w4 : IntKind.i64.wrap (0 - -(j : Int)) = (j : Int) := by rw [wrap_i64] <;> omega
  have ga : ¬ (0 : Int) ≤ -(j : Int) := by omega
  obtain ⟨NL, hNL⟩ : ∃ L, L = digs num := ⟨_, rfl⟩
  obtain ⟨DL, hDL⟩ : ∃ L, L = digs den := ⟨_, rfl⟩
  obtain ⟨XL, hXL⟩ : ∃ L, L = digs (num / den) := ⟨_, rfl⟩
  obtain ⟨QL, hQL⟩ : ∃ L, L = digs (num / den / 2 ^ j) := ⟨_, rfl⟩
  obtain ⟨RL, hRL⟩ : ∃ L, L = digs (num % den) := ⟨_, rfl⟩
  obtain ⟨OL, hOL⟩ : ∃ L, L = digs (num / den % 2 ^ j) := ⟨_, rfl⟩
  obtain ⟨HL, hHL⟩ : ∃ L, L = digs (num / den / 2 ^ j / 2) := ⟨_, rfl⟩
  obtain ⟨bb, hbb⟩ : ∃ b, b = decide (num / den / 2 ^ j % 2 = 1) := ⟨_, rfl⟩
  obtain ⟨z1, hz1⟩ : ∃ b, b = decide (num % den = 0) := ⟨_, rfl⟩
  obtain ⟨z2, hz2⟩ : ∃ b, b = decide (num / den % 2 ^ j = 0) := ⟨_, rfl⟩
  have hzz : decide (¬ (num % den = 0 ∧ num / den % 2 ^ j = 0)) = !(z1 && z2) := by rw [hz1, hz2]; by_cases h1 : num % den = 0 <;> by_cases h2 : num / den % 2 ^ j = 0 <;> simp [h1, h2]
  rw [hzz]
  rw [← hNL, ← hDL, ← hXL, ← hRL] at hDM
  rw [← hXL, ← hQL] at hSh
  rw [← hXL, ← hOL] at hLo
  rw [← hRL, ← hz1] at hZ
  rw [← hOL, ← hz2] at hZ2
  rw [← hQL, ← hHL] at hR
  rw [← hQL, ← hbb] at hB
  rw [← hNL, ← hDL, ← hHL, ← hbb]
  clear hNL hDL hXL hQL hRL hHL hOL hbb hz1 hz2 hzz hql hrl hll hdl1 hc hq hx hDD hnl hdl hp0 hp1 hd
  refine FnOk.of Tryz.func108 rfl rfl fun cx w0 => ?_
  rw [show Tryz.f108.ntmps = 82 from rfl]
  refine zs0 ?_
  refine zs1 (an w1 <| an w2 <| w3) ?_
  refine zs0 ?_
  refine zs0 ?_
  refine Holds.next (fun σ => ∀ a w, Rel cx w0 σ a w → Rel cx w0 { nt := 82, env := [(2, .ptr 2 0 [] 0), (4, .ptr 4 0 [] 0), (6, .v true (words QL)), (7, .v true (.bool (z1 && z2)))], mem := [(2, .box 108 (.v false (.agg [.bool neg, words NL, words DL, .int .i64 e, .int .i64 1]))), (4, .box 174 (.v true (.agg [.sl 1 [], .bool false, .bool false])))] } a w) ?_ ?_
  ·refine zs1 ga ?_
   refine Holds.condF rfl ?_
   refine zs2 (ρ := fun _ => [.v true (words XL), .v true (words RL)]) (o := by repeat' first|exact hDM|trivial|constructor) (k := ?_)
   refine zs3 (ρ := fun _ => [.v true (words QL)]) w4 (o := by repeat' first|exact hSh|trivial|constructor) (k := ?_)
   cases z1 with
   | true =>
     rw [Bool.true_and]
     refine zr3 (ρ := fun d => if d = 49 then [.v true (.bool true)] else if d = 54 then [.v true (words OL)] else [.v true (.bool z2)]) w4 (o := by repeat' first|exact hZ|exact hLo|exact hZ2|trivial|constructor) (k := ?_)
     exact fun a w h => Rel.keep [2, 4, 6, 7] [2, 4] h
   | false =>
     rw [Bool.false_and]
     refine zr2 (ρ := fun _ => [.v true (.bool false)]) (o := by repeat' first|exact hZ|trivial|constructor) (k := ?_)
     exact fun a w h => Rel.keep [2, 4, 6, 7] [2, 4] h
  ·intro σ hσ
   refine Holds.from hσ ?_
   obtain ⟨zz, hzz⟩ : ∃ z, z = (z1 && z2) := ⟨_, rfl⟩
   rw [← hzz]
   refine Holds.seq ?_
   refine zs0 ?_
   refine Holds.condF rfl (Holds.skip ?_)
   refine zs2 (ρ := fun d => if d = 76 then [.v true (words HL)] else [.v true (.bool bb)]) (o := by repeat' first|exact hR|exact hB|trivial|constructor) (k := ?_)
   exact Holds.ret (RetOk.vs rfl (by exact ⟨⟨rfl, id⟩, trivial⟩) rfl)
def fbyV (P g : Int) (r : Nat) (neg : Bool) : V := if grB r neg = true then fltV 1 neg (g - P + 1) (2 ^ P.toNat - 1) else fltV 2 neg 0 0
theorem Top_ok (K p : Nat) (hK : 1 ≤ K ∧ K ≤ 14) (hP : 2 ≤ p ∧ p ≤ 256) : FnOk Tryz.prog 156 [.v (fmtV ((K + 1 : Nat) : Int) p)] [.v true (fltV 1 false (gK K - p + 1) (2 ^ p - 1))] := by
 have hGr := Greatest_ok K p hK
 have hG := gK_bd hK
 have o1 : okW [(1 : Int)] := by intro n hn; simp at hn; omega
 have h1w : FnOk Tryz.prog 30 [.v (.int .u64 1)] [.v true (words [1])] := by
  have := FromWord_ok 1 (by decide)
  rw [show digs 1 = [1] from by decide] at this
  exact this
 have hS := Left_ok [1] p (by simp) (by omega) o1
 rw [show val [(1 : Int)] = 1 from by decide, Nat.one_mul] at hS
 obtain ⟨q5, hq5⟩ : ∃ q, q = 5 := ⟨_, rfl⟩
 have h2l : (digs (2 ^ p)).length ≤ q5 := digs_len (by
  rw [show (18446744073709551616 : Nat) = 2 ^ 64 from rfl, ← Nat.pow_mul]
  exact Nat.pow_lt_pow_right (by decide) (by omega))
 have hU := rSub_ok (digs (2 ^ p)) [1] (by omega) (by simp) (digs_ok _).1 o1 (by rw [(digs_ok _).2.2, show val [(1 : Int)] = 1 from by decide]; exact Nat.pow_pos (by decide))
 rw [(digs_ok _).2.2, show val [(1 : Int)] = 1 from by decide] at hU
 obtain ⟨G, hG'⟩ : ∃ G, G = gK K := ⟨_, rfl⟩
 rw [← hG'] at hGr hG ⊢
 unfold fltV
 obtain ⟨S, hS'⟩ : ∃ S, S = digs (2 ^ p) := ⟨_, rfl⟩
 obtain ⟨U, hU'⟩ : ∃ U, U = digs (2 ^ p - 1) := ⟨_, rfl⟩
 obtain ⟨O, hO⟩ : ∃ O, O = [(1 : Int)] := ⟨_, rfl⟩
 rw [← hS', ← hO] at hS
 rw [← hS', ← hU', ← hO] at hU
 rw [← hO] at h1w
 rw [← hU']
 obtain ⟨k, hk⟩ : ∃ k : Int, k = ((K + 1 : Nat) : Int) := ⟨_, rfl⟩
 rw [← hk] at hGr ⊢
 have w1 : IntKind.i64.wrap (G - (p : Int)) = G - p := by rw [wrap_i64] <;> omega
 have w2 : IntKind.i64.wrap (G - (p : Int) + 1) = G - p + 1 := by rw [wrap_i64] <;> omega
 clear hG' hk hS' hU' h2l hO o1
 unfold fmtV at hGr ⊢
 refine FnOk.of Tryz.func156 rfl rfl fun cx w0 => ?_
 rw [show Tryz.f156.ntmps = 18 from rfl]
 refine zs0 ?_
 refine zs2 (ρ := fun _ => [.v true (words O)]) (o := by repeat' first|exact h1w|trivial|constructor) (k := ?_)
 refine zd3 [] (ρ := fun d => if d = 6 then [.v true (.int .i64 G)] else if d = 14 then [.v true (words S)] else [.v true (words U)]) (an w1 <| w2) (o := by repeat' first|exact hGr|exact hS|exact hU|trivial|constructor) (k := ?_)
 exact Holds.ret (RetOk.vs rfl (by exact ⟨⟨rfl, id⟩, trivial⟩) rfl)
set_option maxHeartbeats 2000000 in
theorem fbeyond_ok (K p : Nat) (r : Nat) (neg : Bool) (hK : 1 ≤ K ∧ K ≤ 14) (hP : 2 ≤ p ∧ p ≤ 256) (hr : r ≤ 4) : FnOk Tryz.prog 105 [.v (fmtV ((K + 1 : Nat) : Int) p), .v (.int .i64 r), .v (.bool neg)] [.v true (fbyV p (gK K) r neg)] := by
 have hT := Top_ok K p hK hP
 unfold fbyV
 rw [Int.toNat_natCast]
 rw [fltV_zero, fltV_eq]
 rw [fltV_eq] at hT
 obtain ⟨U, hU⟩ : ∃ U, U = (digs (2 ^ p - 1)).map fun n => V.int .u64 n := ⟨_, rfl⟩
 obtain ⟨x, hx⟩ : ∃ x, x = gK K - (p : Int) + 1 := ⟨_, rfl⟩
 obtain ⟨k, hk⟩ : ∃ k : Int, k = ((K + 1 : Nat) : Int) := ⟨_, rfl⟩
 rw [← hU, ← hx, ← hk] at hT
 rw [← hU, ← hx, ← hk]
 unfold fmtV at hT ⊢
 refine FnOk.of Tryz.func105 rfl rfl fun cx w0 => ?_
 rw [show Tryz.f105.ntmps = 32 from rfl]
 refine zs0 ?_
 refine Holds.seq ?_
 match r, hr, neg with
 | 0, _, neg =>
   rw [show grB 0 neg = false from rfl, if_neg (by simp)]
   refine zs0 ?_
   refine Holds.condF rfl (Holds.skip ?_)
   refine zs0 ?_
   exact Holds.ret (RetOk.vs rfl (by exact ⟨⟨rfl, id⟩, trivial⟩) rfl)
 | 1, _, neg =>
   rw [show grB 1 neg = false from rfl, if_neg (by simp)]
   refine zs0 ?_
   refine Holds.condF rfl (Holds.skip ?_)
   refine zs0 ?_
   exact Holds.ret (RetOk.vs rfl (by exact ⟨⟨rfl, id⟩, trivial⟩) rfl)
 | 2, _, neg =>
   rw [show grB 2 neg = true from rfl, if_pos rfl]
   refine zs0 ?_
   refine Holds.condT rfl ?_
   refine zs2 (ρ := fun _ => [.v true (.agg [.int .i64 (1 : Nat), .bool false, .int .i64 x, .sl 1 U])]) (o := by repeat' first|exact hT|trivial|constructor) (k := ?_)
   refine zs0 ?_
   refine zs0 ?_
   exact Holds.ret (RetOk.vs rfl (by exact ⟨⟨rfl, id⟩, trivial⟩) rfl)
 | 3, _, true =>
   rw [show grB 3 true = true from rfl, if_pos rfl]
   refine zs0 ?_
   refine Holds.condT rfl ?_
   refine zs2 (ρ := fun _ => [.v true (.agg [.int .i64 (1 : Nat), .bool false, .int .i64 x, .sl 1 U])]) (o := by repeat' first|exact hT|trivial|constructor) (k := ?_)
   refine zs0 ?_
   refine zs0 ?_
   exact Holds.ret (RetOk.vs rfl (by exact ⟨⟨rfl, id⟩, trivial⟩) rfl)
 | 3, _, false =>
   rw [show grB 3 false = false from rfl, if_neg (by simp)]
   refine zs0 ?_
   refine Holds.condF rfl (Holds.skip ?_)
   refine zs0 ?_
   exact Holds.ret (RetOk.vs rfl (by exact ⟨⟨rfl, id⟩, trivial⟩) rfl)
 | 4, _, true =>
   rw [show grB 4 true = false from rfl, if_neg (by simp)]
   refine zs0 ?_
   refine Holds.condF rfl (Holds.skip ?_)
   refine zs0 ?_
   exact Holds.ret (RetOk.vs rfl (by exact ⟨⟨rfl, id⟩, trivial⟩) rfl)
 | 4, _, false =>
   rw [show grB 4 false = true from rfl, if_pos rfl]
   refine zs0 ?_
   refine Holds.condT rfl ?_
   refine zs2 (ρ := fun _ => [.v true (.agg [.int .i64 (1 : Nat), .bool false, .int .i64 x, .sl 1 U])]) (o := by repeat' first|exact hT|trivial|constructor) (k := ?_)
   refine zs0 ?_
   refine zs0 ?_
   exact Holds.ret (RetOk.vs rfl (by exact ⟨⟨rfl, id⟩, trivial⟩) rfl)
end Go.Proofs.YtobacemgcjnahaaGreatDoor.L
