/-
  Sa Sb Ta Tb Da Db Dd De Df Dg Ga Gb Gc Gd Ge
-/
import Derived.Test.YtlpolbeikangpaaGreatDoorPP4
import Derived.Test.YtlpolbeikangpaaGreatDoorPP5
import Derived.Test.YtlpolbeikangpaaGreatDoorPP3
set_option linter.unusedSimpArgs false
set_option linter.unusedVariables false
set_option maxRecDepth 100000
namespace Go.Proofs.YtlpolbeikangpaaGreatDoor.L
open Go Go.RowKit Go.Proofs
attribute [local go_sem] evalOps_nil evalOps_cons runW_t runW_f runE_s runP_s wantA evalOp effOp letters okDst coreA St.opv St.get St.at look constA St.put St.upd St.set decide_true List.all_nil List.all_cons Bool.and_true Bool.true_and and_self and_true true_and if_true if_false true_or Int.sub_zero List.nil_append List.cons_append List.append_nil Option.isSome_some List.getElem?_toArray List.getElem?_cons_succ List.getElem?_cons_zero Option.bind_some Option.map_some Option.map_none beq_self_eq_true Bool.false_beq Bool.true_beq Bool.not_true Bool.not_false Bool.false_eq_true cond_true cond_false binA binI List.map_cons List.map_nil boundA List.length_nil List.length_cons Nat.zero_mul Nat.one_mul Nat.mul_one Nat.zero_add Nat.add_zero Nat.zero_le Option.toList St.freshB AV.ment AV.ments Blk.ment V.sizes Nat.lt_add_one Bool.or_true Bool.true_or Bool.or_false Bool.false_or Bool.or_self if_pos if_neg decide_false decide_eq_true decide_eq_false wrap_i64 Int.toNat_natCast minA maxA Int.natCast_add Int.cast_ofNat_Int Option.isSome_none false_implies true_implies forall_const List.drop_zero Int.toNat_zero Int.add_sub_cancel lenA sliceA loadA indexAddrA partA fitsT V.atP V.offP V.size List.length_map List.getElem?_map Int.toNat_natCast_add_one Int.ofNat_eq_natCast TY calleeA capArg knotA capArgs toArgs toArg callA R.res R.mems R.blks R.av R.names R.nw invokeA storeA storeV fieldAddrA liveB V.off V.offs V.setP List.set_cons_zero List.set_cons_succ buildA buildP partsA appendA srcA copyA boxOk makeA AV.pure List.take_succ_cons List.take_zero nilA words unA entry List.zipIdx_cons List.zipIdx_nil Arg.av Arg.avs
def cntS (u : Nat) : Nat → Int × Int × Int
 | 0 => (64, 64, 0)
 | j + 1 => if u / 2 ^ j % 2 = 1 then (63 - (j : Int), (if (j : Int) < (cntS u j).2.1 then (j : Int) else (cntS u j).2.1), (cntS u j).2.2 + 1) else cntS u j
theorem cntS_b (u : Nat) : ∀ j, j ≤ 64 → (0 ≤ (cntS u j).1 ∧ (cntS u j).1 ≤ 64) ∧ (0 ≤ (cntS u j).2.1 ∧ (cntS u j).2.1 ≤ 64) ∧ (0 ≤ (cntS u j).2.2 ∧ (cntS u j).2.2 ≤ j)
 | 0, _ => ⟨⟨by show (0 : Int) ≤ 64; decide, by show (64 : Int) ≤ 64; decide⟩, ⟨by show (0 : Int) ≤ 64; decide, by show (64 : Int) ≤ 64; decide⟩, ⟨by show (0 : Int) ≤ 0; decide, by show (0 : Int) ≤ 0; decide⟩⟩
 | j + 1, h => by
   obtain ⟨h1, h2, h3⟩ := cntS_b u j (by omega)
   rw [cntS]
   split
   ·refine ⟨⟨by show 0 ≤ 63 - (j : Int); omega, by show 63 - (j : Int) ≤ 64; omega⟩, ?_, ⟨by show 0 ≤ (cntS u j).2.2 + 1; omega, by show (cntS u j).2.2 + 1 ≤ _; omega⟩⟩
    show (0 : Int) ≤ (if (j : Int) < (cntS u j).2.1 then (j : Int) else (cntS u j).2.1) ∧ (if (j : Int) < (cntS u j).2.1 then (j : Int) else (cntS u j).2.1) ≤ 64
    split <;> omega
   ·exact ⟨h1, h2, ⟨h3.1, by omega⟩⟩
theorem cntS_one (u : Nat) : ∀ j, j ≤ 64 → u % 2 ^ j ≠ 0 → (cntS u j).1 ≤ 63
 | 0, _, h => absurd (Nat.mod_one u) h
 | j + 1, hj, h => by
   rw [cntS]
   by_cases hb : u / 2 ^ j % 2 = 1
   ·rw [if_pos hb]
    show 63 - (j : Int) ≤ 63
    omega
   ·rw [if_neg hb]
    refine cntS_one u j (by omega) fun h0 => h ?_
    rw [Nat.pow_succ, Nat.mod_mul, h0, show u / 2 ^ j % 2 = 0 from by omega, Nat.mul_zero]
def cntV (u : Nat) : List R := [.v true (.int .i64 (cntS u 64).1), .v true (.int .i64 (cntS u 64).2.1), .v true (.int .i64 (cntS u 64).2.2)]
theorem Count_ok (x : Nat) (hx : x < 18446744073709551616) : FnOk Tryz.prog 218 [.v (.int .u64 x)] (cntV x) := by
 refine FnOk.of Tryz.func218 rfl rfl fun cx w0 => ?_
 rw [show Tryz.f218.ntmps = 28 from rfl]
 refine zs0 ?_
 refine zs0 ?_
 refine Holds.next (fun σ => ∀ a w, Rel cx w0 σ a w → Rel cx w0 { nt := 28, env := [(5, .v true (.int .i64 (cntS x 64).1)), (6, .v true (.int .i64 (cntS x 64).2.1)), (7, .v true (.int .i64 (cntS x 64).2.2))], mem := [] } a w) ?_ ?_
 ·refine zs0 ?_
  refine Holds.loopB (fun j : Nat => { nt := 28, env := [(8, .v true (.int .i64 (j : Int))), (5, .v true (.int .i64 (cntS x j).1)), (6, .v true (.int .i64 (cntS x j).2.1)), (7, .v true (.int .i64 (cntS x j).2.2)), (0, .v true (.int .u64 x))], mem := [] }) (fun j => j ≤ 64) (fun j => 64 - j) 0 (Nat.zero_le _) (fun a w h => Rel.keep [8, 5, 6, 7, 0] [] h) ?_
  intro j hj
  by_cases hend : j = 64
  ·refine Holds.seq ?_
   refine zs0 ?_
   refine Holds.condF rfl (Holds.exit ⟨rfl, fun a w h => ?_⟩)
   rw [← hend]
   exact Rel.keep [5, 6, 7] [] h
  ·refine Holds.seq ?_
   obtain ⟨h1, h2, h3⟩ := cntS_b x j hj
   refine zs0 ?_
   refine Holds.condT rfl (Holds.skip ?_)
   have es : cntS x (j + 1) = if x / 2 ^ j % 2 = 1 then (63 - (j : Int), (if (j : Int) < (cntS x j).2.1 then (j : Int) else (cntS x j).2.1), (cntS x j).2.2 + 1) else cntS x j := rfl
   refine Holds.next (fun σ => ∀ a w, Rel cx w0 σ a w → Rel cx w0 { nt := 28, env := [(8, .v true (.int .i64 (j : Int))), (5, .v true (.int .i64 (cntS x (j + 1)).1)), (6, .v true (.int .i64 (cntS x (j + 1)).2.1)), (7, .v true (.int .i64 (cntS x (j + 1)).2.2)), (0, .v true (.int .u64 x))], mem := [] } a w) ?_ ?_
   ·refine Holds.blockN ?_
    rw [es]
    obtain ⟨s, hs⟩ : ∃ s, s = cntS x j := ⟨_, rfl⟩
    rw [← hs] at h1 h2 h3 ⊢
    have hsh := shrB x j (by omega)
    have hq : x / 2 ^ j ≤ x := Nat.div_le_self _ _
    obtain ⟨q, hqe⟩ : ∃ q, q = x / 2 ^ j := ⟨_, rfl⟩
    rw [← hqe] at hsh hq ⊢
    have hmod : ((q : Int)).tmod 2 = ((q % 2 : Nat) : Int) := by rw [Int.tmod_eq_emod_of_nonneg (by omega)]; omega
    have hb2 : q % 2 < 2 := Nat.mod_lt _ (by decide)
    obtain ⟨b, hb⟩ : ∃ b, b = q % 2 := ⟨_, rfl⟩
    rw [← hb] at hmod hb2 ⊢
    have hwm : IntKind.u64.wrap (b : Int) = b := by rw [wrap_u64]; omega
    have hwq : IntKind.u64.wrap (q : Int) = q := by rw [wrap_u64]; omega
    by_cases h : b = 1
    ·have h' : (b : Int) = 1 := by omega
     rw [if_pos h]
     refine zs1 (an hsh <| an hmod <| an hwm <| an hwq <| h') ?_
     refine Holds.condT rfl ?_
     refine zs0 ?_
     refine zs0 ?_
     refine zr0 ?_
     exact fun a w h => Rel.keep [8, 5, 6, 7, 0] [] h
    ·have h' : ¬ (b : Int) = 1 := by omega
     rw [if_neg h]
     refine zs1 (an hsh <| an hmod <| an hwm <| an hwq <| h') ?_
     exact Holds.condF rfl (Holds.skip fun a w h => Rel.keep [8, 5, 6, 7, 0] [] h)
   ·intro σ hσ
    refine Holds.from hσ ?_
    refine zr0 ?_
    exact ⟨j + 1, (by show j + 1 ≤ 64; omega), (show 64 - (j + 1) < 64 - j by omega), fun a w h => Rel.keep [8, 5, 6, 7, 0] [] h⟩
 ·intro σ hσ
  refine Holds.from hσ ?_
  refine zs0 ?_
  exact Holds.ret (RetOk.vs rfl (by exact ⟨⟨rfl, id⟩, ⟨rfl, id⟩, ⟨rfl, id⟩, trivial⟩) rfl)
def lenR (x : List Int) : Int := match trimW x x.length with
 | 0 => 0
 | m + 1 => 64 * (m : Int) + 64 - (cntS (x.getD m 0).toNat 64).1
theorem lenR_zero {x : List Int} (ox : okW x) : lenR x = 0 ↔ val x = 0 := by
 rw [lenR]
 rw [← val_trim x, trimL]
 cases h : trimW x x.length with
 | zero => simp [val]
 | succ m =>
   obtain ⟨h1, h2⟩ := trimW_last x _ _ h
   have hw := okW_getD ox m
   have hc := cntS_one (x.getD m 0).toNat 64 (by omega) (by
    rw [Nat.mod_eq_of_lt (by omega)]
    omega)
   have hc2 := cntS_b (x.getD m 0).toNat 64 (by omega)
   constructor
   ·intro h
    simp only at h
    omega
   ·intro h
    exfalso
    have ht : x.take (m + 1) = x.take m ++ [x.getD m 0] := take_succ (by omega)
    rw [ht, val_append] at h
    have h3 : 18446744073709551616 ^ (x.take m).length * val [x.getD m 0] = 0 := by omega
    rcases Nat.mul_eq_zero.1 h3 with h4 | h4
    ·have := Nat.pow_pos (a := 18446744073709551616) (n := (x.take m).length) (by decide)
     omega
    ·simp only [val] at h4
     omega
theorem rLen_ok (x : List Int) (hx : x.length < 100000000) (ox : okW x) : FnOk Tryz.prog 143 [.v (words x)] [.v true (.int .i64 (lenR x))] := by
 refine FnOk.of Tryz.func143 rfl rfl fun cx w0 => ?_
 rw [show Tryz.f143.ntmps = 33 from rfl]
 refine zs0 ?_
 refine Holds.next (fun σ => lenR x = 0 ∧ ∀ a w, Rel cx w0 σ a w → Rel cx w0 { nt := 33, env := [], mem := [] } a w) ?_ ?_
 ·refine zs0 ?_
  refine Holds.loopB (fun j : Nat => { nt := 33, env := [(3, .v true (.int .i64 ((j : Int) - 1))), (0, .v false (words x))], mem := [] }) (fun j => j ≤ x.length ∧ trimW x x.length = trimW x j) id x.length ⟨Nat.le_refl _, rfl⟩ (fun a w hr => Rel.keep [3, 0] [] hr) ?_
  rintro j ⟨hj, ht⟩
  rcases j with _ | j
  ·refine Holds.seq ?_
   refine zs0 ?_
   refine Holds.condF rfl (Holds.exit ⟨rfl, ?_, fun a w hr => Rel.keep [] [] hr⟩)
   rw [lenR, ht, trimW]
  ·have hjx : j < x.length := by omega
   have hw := okW_getD ox j
   have g := get_map hjx
   have hcnt := Count_ok (x.getD j 0).toNat (by omega)
   have e1 : (((x.getD j 0).toNat : Nat) : Int) = x.getD j 0 := by omega
   rw [e1] at hcnt
   have hc2 := cntS_b (x.getD j 0).toNat 64 (by omega)
   have ej : ((j : Int) + 1 - 1) = j := by omega
   rw [show (((j + 1 : Nat) : Int) - 1) = (j : Int) from by omega]
   refine Holds.seq ?_
   refine zs0 ?_
   refine Holds.condT rfl (Holds.skip ?_)
   refine Holds.next (fun σ => x.getD j 0 = 0 ∧ ∀ a w, Rel cx w0 σ a w → Rel cx w0 { nt := 33, env := [(3, .v true (.int .i64 (j : Int))), (0, .v false (words x))], mem := [] } a w) ?_ ?_
   ·refine Holds.blockN ?_
    by_cases h0 : x.getD j 0 = 0
    ·refine zs1 (an g <| h0) ?_
     exact Holds.condF rfl (Holds.skip ⟨h0, fun a w hr => Rel.keep [3, 0] [] hr⟩)
    ·have el : lenR x = 64 * (j : Int) + 64 - (cntS (x.getD j 0).toNat 64).1 := by rw [lenR, ht, trimW, if_neg h0]
     rw [el]
     obtain ⟨u, hu⟩ : ∃ u, u = x.getD j 0 := ⟨_, rfl⟩
     rw [← hu] at g hw hcnt hc2 h0 ⊢
     refine zs1 (an g <| h0) ?_
     refine Holds.condT rfl ?_
     refine zs3 (ρ := fun _ => cntV u.toNat) g (o := by repeat' first|exact hcnt|trivial|constructor) (k := ?_)
     refine zs0 ?_
     exact Holds.ret (RetOk.vs rfl (by exact ⟨⟨rfl, id⟩, trivial⟩) rfl)
   ·rintro σ ⟨h0, hσ⟩
    refine Holds.from hσ ?_
    refine zr0 ?_
    exact ⟨j, ⟨by omega, by rw [ht, trimW, if_pos h0]⟩, (show j < j + 1 by omega), fun a w hr => Rel.keep [3, 0] [] hr⟩
 ·rintro σ ⟨h0, hσ⟩
  rw [h0]
  refine Holds.from hσ ?_
  refine zs0 ?_
  exact Holds.ret (RetOk.vs rfl (by exact ⟨⟨rfl, id⟩, trivial⟩) rfl)
theorem IsZero_ok (x : List Int) (hx : x.length < 100000000) (ox : okW x) : FnOk Tryz.prog 95 [.v (words x)] [.v true (.bool (decide (val x = 0)))] := by
 have h1 := rLen_ok x hx ox
 have hz : decide (val x = 0) = decide (lenR x = 0) := by rw [decide_eq_decide]; exact (lenR_zero ox).symm
 rw [hz]
 refine FnOk.of Tryz.func95 rfl rfl fun cx w0 => ?_
 rw [show Tryz.f95.ntmps = 6 from rfl]
 refine zs0 ?_
 by_cases h : lenR x = 0
 ·rw [h] at h1
  refine zs3 (ρ := fun _ => [.v true (.int .i64 0)]) h (o := by repeat' first|exact h1|trivial|constructor) (k := ?_)
  rw [decide_eq_true h]
  exact Holds.ret (RetOk.vs rfl (by exact ⟨⟨rfl, id⟩, trivial⟩) rfl)
 ·refine zs3 (ρ := fun _ => [.v true (.int .i64 (lenR x))]) h (o := by repeat' first|exact h1|trivial|constructor) (k := ?_)
  rw [decide_eq_false h]
  exact Holds.ret (RetOk.vs rfl (by exact ⟨⟨rfl, id⟩, trivial⟩) rfl)
theorem val_inj2 : ∀ {l m : List Int}, okW l → okW m → l.length = m.length → val l = val m → l = m
 | [], [], _, _, _, _ => rfl
 | x :: r, y :: s, ol, om, hl, hv => by
   simp only [val] at hv
   have h1 := ol x (by simp)
   have h2 := om y (by simp)
   have hx : x = y := by omega
   have hr : val r = val s := by omega
   rw [hx, val_inj2 (fun n hn => ol n (List.mem_cons_of_mem _ hn)) (fun n hn => om n (List.mem_cons_of_mem _ hn)) (by simpa using hl) hr]
theorem val_rep0 : ∀ n, val (List.replicate n 0) = 0
 | 0 => rfl
 | n + 1 => by rw [List.replicate_succ, val, val_rep0 n]; rfl
theorem LeftW_ok (x : List Int) (s : Nat) (hs : s < 64) (hx : x.length < 40000) (ox : okW x) : ∃ (row : List Int) (h : Nat), row.length = x.length ∧ okW (row ++ [(h : Int)]) ∧ val (row ++ [(h : Int)]) = val x * 2 ^ s ∧
 FnOk Tryz.prog 149 [.v (words x), .v (.int .i64 s)] [.v true (words row), .v true (.int .u64 h)] := by
 have h2s : 2 ^ s < 18446744073709551616 := Nat.lt_of_lt_of_le (Nat.pow_lt_pow_right (by decide) hs) (by decide)
 have h1 := Digits_ok x (by omega) ox
 have h2 := Word_ok (2 ^ s) h2s
 have lx := digL_len x
 obtain ⟨P, hP⟩ : ∃ P, P = 2 ^ s := ⟨_, rfl⟩
 have hshl : IntKind.u64.wrap (1 * 2 ^ (min s 64)) = (P : Int) := by
  have := shlN 1 s hs
  rw [Nat.one_mul, Nat.mod_eq_of_lt h2s, ← hP] at this
  exact this
 rw [← hP] at h2 h2s ⊢
 have o1 : okH [(P : Int) % 4294967296, (P : Int) / 4294967296] := by intro n hn; simp at hn; omega
 have h3 := Times_ok (digL x) [(P : Int) % 4294967296, (P : Int) / 4294967296] (by omega) (by simp) (digL_ok ox) o1
 obtain ⟨t1, t2, t3⟩ := timesL_ok (digL_ok ox) o1
 obtain ⟨t, ht⟩ : ∃ t, t = timesL (digL x) [(P : Int) % 4294967296, (P : Int) / 4294967296] := ⟨_, rfl⟩
 rw [← ht] at h3 t1 t2 t3
 have hv1 : valH [(P : Int) % 4294967296, (P : Int) / 4294967296] = P := by
  simp only [valH]; omega
 rw [hv1, val_dig ox] at t3
 have ht2 : t.length = 2 * x.length + 2 := by rw [t2, lx]; rfl
 have h4 := Cut_ok t x.length (by omega) (by omega) t1
 have epad : padH t x.length = t := by rw [padH, ht2, Nat.sub_self]; exact List.append_nil t
 rw [epad] at h4
 obtain ⟨u, p, q, hu, hul⟩ : ∃ u p q, t = u ++ [p, q] ∧ u.length = 2 * x.length := by
  refine ⟨t.take (2 * x.length), t.getD (2 * x.length) 0, t.getD (2 * x.length + 1) 0, ?_, by rw [List.length_take]; omega⟩
  have a1 : t.take (2 * x.length + 1) = _ := take_succ (x := t) (k := 2 * x.length) (by omega)
  have a2 : t.take (2 * x.length + 1 + 1) = _ := take_succ (x := t) (k := 2 * x.length + 1) (by omega)
  rw [a1, List.take_of_length_le (by omega)] at a2
  rw [List.append_assoc] at a2
  exact a2
 have g1 : t.take (2 * x.length) = u := by rw [hu, ← hul, List.take_left']; rfl
 have g2 : t.getD (2 * x.length) 0 = p := by rw [hu, ← hul]; simp [List.getD_eq_getElem?_getD]
 have g3 : t.getD (2 * x.length + 1) 0 = q := by rw [hu, ← hul]; simp [List.getD_eq_getElem?_getD]
 rw [g1, g2, g3] at h4
 have hp := t1 p (by rw [hu]; simp)
 have hq := t1 q (by rw [hu]; simp)
 have hro2 := rowOf_append u p q (by omega)
 rw [← hu] at hro2
 obtain ⟨h, hh⟩ : ∃ h : Nat, (h : Int) = p + q * 4294967296 := ⟨(p + q * 4294967296).toNat, by omega⟩
 rw [← hh] at h4 hro2
 refine ⟨rowOf u, h, by rw [rowOf_len, hul]; omega, by rw [← hro2]; exact rowOf_ok t1, by rw [← hro2, val_row t1 (by omega), t3], ?_⟩
 refine FnOk.of Tryz.func149 rfl rfl fun cx w0 => ?_
 rw [show Tryz.f149.ntmps = 17 from rfl]
 refine zs0 ?_
 refine zd3 [] (ρ := fun d => if d = 7 then [.v true (words (digL x))] else if d = 10 then [.v true (words [(P : Int) % 4294967296, (P : Int) / 4294967296])] else if d = 11 then [.v true (words t)] else [.v true (words (rowOf u)), .v true (.int .u64 h)]) hshl (o := by repeat' first|exact h1|exact h2|exact h3|exact h4|trivial|constructor) (k := ?_)
 exact Holds.ret (RetOk.vs rfl (by exact ⟨⟨rfl, id⟩, ⟨rfl, id⟩, trivial⟩) rfl)
theorem Left_ok (x : List Int) (s : Nat) (hx : x.length < 40000) (hm : s < 1000000) (ox : okW x) : FnOk Tryz.prog 74 [.v (words x), .v (.int .i64 s)] [.v true (words (digs (val x * 2 ^ s)))] := by
 obtain ⟨m, hm'⟩ : ∃ m, m = s / 64 := ⟨_, rfl⟩
 obtain ⟨r, hr'⟩ : ∃ r, r = s % 64 := ⟨_, rfl⟩
 have hq : (s : Int).tdiv 64 = m := by rw [hm']; exact quoN s 64
 have hr : (s : Int).tmod 64 = r := by rw [hr']; exact remN s 64
 obtain ⟨row, h, hl1, hok, hval, h1⟩ := LeftW_ok x r (by omega) hx ox
 have oz : okW (List.replicate m 0 ++ (row ++ [(h : Int)])) := fun n hn => by
  simp only [List.mem_append, List.mem_replicate] at hn
  rcases hn with ⟨_, hn⟩ | hn
  ·omega
  ·exact hok n (List.mem_append.2 hn)
 have hT := rTrim_ok (List.replicate m 0 ++ (row ++ [(h : Int)])) (by simp; omega) oz
 have hv : val (List.replicate m 0 ++ (row ++ [(h : Int)])) = val x * 2 ^ s := by
  rw [val_append, val_rep0, List.length_replicate, hval, Nat.zero_add]
  have hs : s = 64 * m + r := by omega
  rw [hs, Nat.pow_add, Nat.pow_mul, show (2 : Nat) ^ 64 = 18446744073709551616 from rfl, Nat.mul_left_comm]
 rw [hv] at hT
 refine FnOk.of Tryz.func74 rfl rfl fun cx w0 => ?_
 rw [show Tryz.f74.ntmps = 26 from rfl]
 refine zs0 ?_
 refine zs3 (ρ := fun _ => [.v true (words row), .v true (.int .u64 h)]) hr (o := by repeat' first|exact h1|trivial|constructor) (k := ?_)
 refine zs1 hq ?_
 refine Holds.step (Px := px) (T := TT) (ρ := fun _ => []) TTe (by simp (maxSteps := 100000) (disch := omega) only [go_sem, V.isAgg, V.flat, ↓reduceIte, Nat.reduceAdd, Nat.reduceSub, Nat.reduceLT, Nat.reduceEqDiff, reduceCtorEq, Nat.reduceLeDiff, Nat.reduceBEq, Nat.reduceMul, Int.reduceToNat, flatW, List.length_replicate]; rfl) (by repeat' first | exact trivial | constructor) ?_
 have hl : (List.replicate m (V.int .u64 0) ++ List.map (fun n => V.int .u64 n) row).length = m + x.length := by simp; omega
 have htk : List.take (m + x.length + 1) (List.replicate m (V.int .u64 0) ++ (List.map (fun n => V.int .u64 n) row ++ [V.int .u64 h])) = List.map (fun n => V.int .u64 n) (List.replicate m 0 ++ (row ++ [(h : Int)])) := by
  rw [List.take_of_length_le (by simp; omega), List.map_append, List.map_append, List.map_replicate]; rfl
 refine Holds.step (Px := px) (T := TT) (ρ := fun _ => [.v true (words (digs (val x * 2 ^ s)))]) TTe (by simp (maxSteps := 100000) (disch := omega) only [go_sem, V.isAgg, V.flat, ↓reduceIte, Nat.reduceAdd, Nat.reduceSub, Nat.reduceLT, Nat.reduceEqDiff, reduceCtorEq, Nat.reduceLeDiff, Nat.reduceBEq, Nat.reduceMul, Int.reduceToNat, hl, hl1, htk, List.append_assoc]; rfl) (by first | exact hT | (repeat' first | exact trivial | exact hT | constructor)) ?_
 exact Holds.ret (RetOk.vs rfl (by exact ⟨⟨rfl, id⟩, trivial⟩) rfl)
def cmpN (a b : Nat) : Int := if a < b then -1 else if b < a then 1 else 0
def cmpD (f g : Nat → Int) : Nat → Int
 | 0 => 0
 | j + 1 => if f j < g j then -1 else if g j < f j then 1 else cmpD f g j
theorem cmpD_val {B : Nat} {f g : Nat → Int} {F G : Nat → Nat} (hF0 : F 0 = 0) (hG0 : G 0 = 0) (hF : ∀ j, F (j + 1) = F j + B ^ j * (f j).toNat) (hG : ∀ j, G (j + 1) = G j + B ^ j * (g j).toNat)
 (bf : ∀ j, 0 ≤ f j ∧ f j < B) (bg : ∀ j, 0 ≤ g j ∧ g j < B) : ∀ j, F j < B ^ j ∧ G j < B ^ j ∧ cmpD f g j = cmpN (F j) (G j)
 | 0 => by rw [hF0, hG0]; exact ⟨by simp, by simp, rfl⟩
 | j + 1 => by
   obtain ⟨h1, h2, h3⟩ := cmpD_val hF0 hG0 hF hG bf bg j
   obtain ⟨f0, f1⟩ := bf j
   obtain ⟨g0, g1⟩ := bg j
   have step : ∀ {P Q : Nat} {u v : Nat}, P < B ^ j → u < v → P + B ^ j * u < Q + B ^ j * v := fun {P Q u v} hP huv => by
    have : B ^ j * (u + 1) ≤ B ^ j * v := Nat.mul_le_mul_left _ huv
    rw [Nat.mul_add, Nat.mul_one] at this
    omega
   have bnd : ∀ {P : Nat} {x : Int}, P < B ^ j → 0 ≤ x → x < B → P + B ^ j * x.toNat < B ^ (j + 1) := fun {P x} hP hx0 hx => by
    have := step (Q := 0) (v := B) hP (show x.toNat < B by omega)
    rw [Nat.zero_add] at this
    rw [Nat.pow_succ]
    exact this
   rw [hF, hG]
   refine ⟨bnd h1 f0 f1, bnd h2 g0 g1, ?_⟩
   rw [cmpD]
   rcases Int.lt_trichotomy (f j) (g j) with h | h | h
   ·have := step (Q := G j) h1 (show (f j).toNat < (g j).toNat by omega)
    rw [if_pos h, cmpN, if_pos this]
   ·rw [h, if_neg (by omega), if_neg (by omega), h3, cmpN, cmpN]
    rcases Nat.lt_trichotomy (F j) (G j) with h4 | h4 | h4
    ·rw [if_pos h4, if_pos (by omega)]
    ·rw [h4, if_neg (by omega), if_neg (by omega), if_neg (by omega), if_neg (by omega)]
    ·rw [if_neg (by omega), if_pos h4, if_neg (by omega), if_pos (by omega)]
   ·have := step (Q := F j) h2 (show (g j).toNat < (f j).toNat by omega)
    rw [if_neg (by omega), if_pos h, cmpN, if_neg (by omega), if_pos this]
theorem val_takeS {l : List Int} (j : Nat) : val (l.take (j + 1)) = val (l.take j) + 18446744073709551616 ^ j * (l.getD j 0).toNat := by
 rcases Nat.lt_or_ge j l.length with h | h
 ·rw [take_succ h, val_append, List.length_take, Nat.min_eq_left (by omega), val, val]; simp
 ·rw [List.take_of_length_le (by omega), List.take_of_length_le h, List.getD_eq_getElem?_getD, List.getElem?_eq_none h]; rfl
theorem valH_takeS {l : List Int} (j : Nat) : valH (l.take (j + 1)) = valH (l.take j) + 4294967296 ^ j * (l.getD j 0).toNat := by
 rcases Nat.lt_or_ge j l.length with h | h
 ·rw [take_succ h, valH_append, List.length_take, Nat.min_eq_left (by omega), valH, valH]; simp
 ·rw [List.take_of_length_le (by omega), List.take_of_length_le h, List.getD_eq_getElem?_getD, List.getElem?_eq_none h]; rfl
theorem cmpD_W {x y : List Int} (ox : okW x) (oy : okW y) {M : Nat} (hx : x.length ≤ M) (hy : y.length ≤ M) : cmpD (fun i => x.getD i 0) (fun i => y.getD i 0) M = cmpN (val x) (val y) := by
 have h := (cmpD_val (B := 18446744073709551616) (F := fun j => val (x.take j)) (G := fun j => val (y.take j)) (f := fun i => x.getD i 0) (g := fun i => y.getD i 0) rfl rfl (fun j => val_takeS j) (fun j => val_takeS j) (okW_getD ox) (okW_getD oy) M).2.2
 simp only [List.take_of_length_le hx, List.take_of_length_le hy] at h
 exact h
theorem cmpD_H {x y : List Int} (ox : okH x) (oy : okH y) {M : Nat} (hx : x.length ≤ M) (hy : y.length ≤ M) : cmpD (fun i => x.getD i 0) (fun i => y.getD i 0) M = cmpN (valH x) (valH y) := by
 have h := (cmpD_val (B := 4294967296) (F := fun j => valH (x.take j)) (G := fun j => valH (y.take j)) (f := fun i => x.getD i 0) (g := fun i => y.getD i 0) rfl rfl (fun j => valH_takeS j) (fun j => valH_takeS j) (okH_getD ox) (okH_getD oy) M).2.2
 simp only [List.take_of_length_le hx, List.take_of_length_le hy] at h
 exact h
theorem Compare_ok (a b : List Int) (hal : a.length < 100000) (hbl : b.length < 100000) (oa : okH a) (ob : okH b) : FnOk Tryz.prog 227 [.v (words a), .v (words b)] [.v true (.int .i64 (cmpN (valH a) (valH b)))] := by
 obtain ⟨M, hM⟩ : ∃ M, M = max a.length b.length := ⟨_, rfl⟩
 have hmax : (if (a.length : Int) < (b.length : Int) then (b.length : Int) else a.length) = M := by rw [hM]; split <;> omega
 rw [← cmpD_H oa ob (M := M) (by omega) (by omega)]
 obtain ⟨C, hC⟩ : ∃ C, C = cmpD (fun i => a.getD i 0) (fun i => b.getD i 0) := ⟨_, rfl⟩
 have hs : ∀ j, C (j + 1) = if a.getD j 0 < b.getD j 0 then -1 else if b.getD j 0 < a.getD j 0 then 1 else C j := fun j => by rw [hC, cmpD]
 have h0 : C 0 = 0 := by rw [hC, cmpD]
 rw [← hC]
 refine FnOk.of Tryz.func227 rfl rfl fun cx w0 => ?_
 rw [show Tryz.f227.ntmps = 32 from rfl]
 refine zs0 ?_
 refine Holds.next (fun σ => C M = 0 ∧ ∀ x w, Rel cx w0 σ x w → Rel cx w0 { nt := 32, env := [], mem := [] } x w) ?_ ?_
 ·refine zs1 hmax ?_
  refine Holds.loopB (fun j : Nat => { nt := 32, env := [(5, .v true (.int .i64 ((j : Int) - 1))), (0, .v false (words a)), (1, .v false (words b))], mem := [] }) (fun j => j ≤ M ∧ C M = C j) id M ⟨Nat.le_refl _, rfl⟩ (fun x w hr => Rel.keep [5, 0, 1] [] hr) ?_
  rintro j ⟨hj, hCj⟩
  rcases j with _ | j
  ·refine Holds.seq ?_
   refine zs0 ?_
   exact Holds.condF rfl (Holds.exit ⟨rfl, by rw [hCj, h0], fun x w hr => Rel.keep [] [] hr⟩)
  ·have dA := digit_ok a j (by omega)
   have dB := digit_ok b j (by omega)
   have hsj := hs j
   rw [← hCj] at hsj
   obtain ⟨p, hp⟩ : ∃ p, p = a.getD j 0 := ⟨_, rfl⟩
   obtain ⟨q, hq⟩ : ∃ q, q = b.getD j 0 := ⟨_, rfl⟩
   rw [← hp] at dA hsj
   rw [← hq] at dB hsj
   refine Holds.seq ?_
   refine zs0 ?_
   refine Holds.condT rfl (Holds.skip ?_)
   refine Holds.next (fun σ => C M = C j ∧ ∀ x w, Rel cx w0 σ x w → Rel cx w0 { nt := 32, env := [(5, .v true (.int .i64 (j : Int))), (0, .v false (words a)), (1, .v false (words b))], mem := [] } x w) ?_ ?_
   ·refine Holds.blockN ?_
    refine zs2 (ρ := fun d => if d = 20 then [.v true (.int .u64 p)] else [.v true (.int .u64 q)]) (o := by repeat' first|exact dA|exact dB|trivial|constructor) (k := ?_)
    refine Holds.blockN ?_
    rcases Int.lt_trichotomy p q with h | h | h
    ·rw [if_pos h] at hsj
     refine zs1 h ?_
     refine Holds.condT rfl ?_
     rw [hsj]
     refine zs0 ?_
     exact Holds.ret (RetOk.vs rfl (by exact ⟨⟨rfl, id⟩, trivial⟩) rfl)
    ·have n1 : ¬ p < q := by omega
     have n2 : ¬ q < p := by omega
     rw [if_neg n1, if_neg n2] at hsj
     refine zs1 (an n1 <| n2) ?_
     refine Holds.condF rfl ?_
     refine zs1 (an n1 <| n2) ?_
     exact Holds.condF rfl (Holds.skip ⟨hsj, fun x w hr => Rel.keep [5, 0, 1] [] hr⟩)
    ·have n1 : ¬ p < q := by omega
     rw [if_neg n1, if_pos h] at hsj
     refine zs1 (an n1 <| h) ?_
     refine Holds.condF rfl ?_
     refine zs1 (an n1 <| h) ?_
     refine Holds.condT rfl ?_
     rw [hsj]
     refine zs0 ?_
     exact Holds.ret (RetOk.vs rfl (by exact ⟨⟨rfl, id⟩, trivial⟩) rfl)
   ·rintro σ ⟨hC2, hσ⟩
    refine Holds.from hσ ?_
    refine zr0 ?_
    exact ⟨j, ⟨by omega, hC2⟩, (show j < j + 1 by omega), fun x w hr => Rel.keep [5, 0, 1] [] hr⟩
 ·rintro σ ⟨hC0, hσ⟩
  rw [hC0]
  refine Holds.from hσ ?_
  refine zs0 ?_
  exact Holds.ret (RetOk.vs rfl (by exact ⟨⟨rfl, id⟩, trivial⟩) rfl)
theorem rCmp_ok (x y : List Int) (hx : x.length < 40000) (hy : y.length < 40000) (ox : okW x) (oy : okW y) : FnOk Tryz.prog 170 [.v (words x), .v (words y)] [.v true (.int .i64 (cmpN (val x) (val y)))] := by
 have h1 := Digits_ok x (by omega) ox
 have h2 := Digits_ok y (by omega) oy
 have lx := digL_len x
 have ly := digL_len y
 have h3 := Compare_ok (digL x) (digL y) (by omega) (by omega) (digL_ok ox) (digL_ok oy)
 rw [val_dig ox, val_dig oy] at h3
 refine FnOk.of Tryz.func170 rfl rfl fun cx w0 => ?_
 rw [show Tryz.f170.ntmps = 10 from rfl]
 refine zs0 ?_
 refine zs2 (ρ := fun d => if d = 6 then [.v true (words (digL x))] else if d = 8 then [.v true (words (digL y))] else [.v true (.int .i64 (cmpN (val x) (val y)))]) (o := by repeat' first|exact h1|exact h2|exact h3|trivial|constructor) (k := ?_)
 exact Holds.ret (RetOk.vs rfl (by exact ⟨⟨rfl, id⟩, trivial⟩) rfl)
def mnC (f g : Nat → Int) : Nat → Int
 | 0 => 0
 | k + 1 => if f k < g k + mnC f g k then 1 else 0
def mnD (B : Int) (f g : Nat → Int) (k : Nat) : Int := (f k - g k - mnC f g k) % B
def mnW (B : Int) (f g : Nat → Int) (k : Nat) : List Int := (List.range k).map (mnD B f g)
theorem mnW_len (B : Int) (f g : Nat → Int) (k : Nat) : (mnW B f g k).length = k := by rw [mnW, List.length_map, List.length_range]
theorem mnW_succ (B : Int) (f g : Nat → Int) (k : Nat) : mnW B f g (k + 1) = mnW B f g k ++ [mnD B f g k] := by rw [mnW, List.range_succ, List.map_append]; rfl
theorem mnC_01 (f g : Nat → Int) : ∀ k, mnC f g k = 0 ∨ mnC f g k = 1
 | 0 => .inl rfl
 | k + 1 => by rw [mnC]; split <;> simp
theorem mn_val {B : Nat} (hB : 0 < B) {f g : Nat → Int} {F G W : Nat → Nat} (hF0 : F 0 = 0) (hG0 : G 0 = 0) (hW0 : W 0 = 0) (hF : ∀ j, F (j + 1) = F j + B ^ j * (f j).toNat) (hG : ∀ j, G (j + 1) = G j + B ^ j * (g j).toNat)
 (hW : ∀ j, W (j + 1) = W j + B ^ j * (mnD B f g j).toNat) (bf : ∀ j, 0 ≤ f j ∧ f j < B) (bg : ∀ j, 0 ≤ g j ∧ g j < B) : ∀ k, W k < B ^ k ∧ F k + B ^ k * (mnC f g k).toNat = G k + W k
 | 0 => by rw [hF0, hG0, hW0]; exact ⟨by simp, rfl⟩
 | k + 1 => by
   obtain ⟨h1, h2⟩ := mn_val hB hF0 hG0 hW0 hF hG hW bf bg k
   obtain ⟨f0, f1⟩ := bf k
   obtain ⟨g0, g1⟩ := bg k
   have hc := mnC_01 f g k
   have d0 : 0 ≤ mnD B f g k := Int.emod_nonneg _ (by omega)
   have d1 : mnD B f g k < B := Int.emod_lt_of_pos _ (by omega)
   have e : (f k).toNat + B * (mnC f g (k + 1)).toNat = (g k).toNat + (mnD B f g k).toNat + (mnC f g k).toNat := by
    rw [mnC]
    by_cases h : f k < g k + mnC f g k
    ·have hd : mnD B f g k = f k - g k - mnC f g k + B := by
      rw [mnD, ← Int.add_emod_right, Int.emod_eq_of_lt (by omega) (by omega)]
     rw [if_pos h]
     show _ + B * 1 = _
     omega
    ·have hd : mnD B f g k = f k - g k - mnC f g k := by
      rw [mnD, Int.emod_eq_of_lt (by omega) (by omega)]
     rw [if_neg h]
     show _ + B * 0 = _
     omega
   have e2 : B ^ k * ((f k).toNat + B * (mnC f g (k + 1)).toNat) = B ^ k * ((g k).toNat + (mnD B f g k).toNat + (mnC f g k).toNat) := by rw [e]
   have hp : B ^ (k + 1) = B ^ k * B := Nat.pow_succ ..
   rw [Nat.mul_add, Nat.mul_add, Nat.mul_add, ← Nat.mul_assoc, ← hp] at e2
   refine ⟨?_, by rw [hF, hG, hW]; omega⟩
   have h3 : B ^ k * ((mnD B f g k).toNat + 1) ≤ B ^ k * B := Nat.mul_le_mul_left _ (by omega)
   rw [Nat.mul_add, Nat.mul_one, ← hp] at h3
   rw [hW]
   omega
theorem mnW_32 {x y : List Int} (ox : okH x) (oy : okH y) (hl : y.length ≤ x.length) (h : valH y ≤ valH x) : okH (mnW 4294967296 (fun i => x.getD i 0) (fun i => y.getD i 0) x.length) ∧ valH (mnW 4294967296 (fun i => x.getD i 0) (fun i => y.getD i 0) x.length) = valH x - valH y := by
 have key := mn_val (B := 4294967296) (by decide) (F := fun j => valH (x.take j)) (G := fun j => valH (y.take j)) (W := fun j => valH (mnW 4294967296 (fun i => x.getD i 0) (fun i => y.getD i 0) j)) (f := fun i => x.getD i 0) (g := fun i => y.getD i 0) rfl rfl rfl (fun j => valH_takeS j) (fun j => valH_takeS j)
  (fun j => by simp only [mnW_succ]; rw [valH_append, mnW_len]; simp [valH]) (okH_getD ox) (okH_getD oy) x.length
 simp only [List.take_length, List.take_of_length_le hl] at key
 obtain ⟨k1, k2⟩ := key
 refine ⟨fun n hn => ?_, ?_⟩
 ·rw [mnW] at hn
  obtain ⟨j, _, rfl⟩ := List.mem_map.1 hn
  exact ⟨Int.emod_nonneg _ (by decide), Int.emod_lt_of_pos _ (by decide)⟩
 ·rcases mnC_01 (fun i => x.getD i 0) (fun i => y.getD i 0) x.length with hc | hc
  ·rw [hc, show (0 : Int).toNat = 0 from rfl, Nat.mul_zero, Nat.add_zero] at k2
   omega
  ·rw [hc, show (1 : Int).toNat = 1 from rfl, Nat.mul_one] at k2
   omega
def mnA (k : Nat) : AV := if k = 0 then .nil else .own 300 0 k
def mnB (W : Nat → List Int) (k : Nat) : List (Nat × Blk) := if k = 0 then [] else [(300, .buf 91 1 true ((W k).map fun n => .int .u64 n))]
theorem mnA_s (k : Nat) : mnA (k + 1) = .own 300 0 (k + 1) := if_neg (by omega)
theorem mnB_s (W : Nat → List Int) (k : Nat) : mnB W (k + 1) = [(300, .buf 91 1 true ((W (k + 1)).map fun n => .int .u64 n))] := if_neg (by omega)
theorem Minus_ok (a b : List Int) (hal : a.length < 100000) (hbl : b.length < 100000) (oa : okH a) (ob : okH b) :
 FnOk Tryz.prog 259 [.v (words a), .v (words b)] [.v true (words (mnW 4294967296 (fun i => a.getD i 0) (fun i => b.getD i 0) a.length)), .v true (.bool (decide (mnC (fun i => a.getD i 0) (fun i => b.getD i 0) a.length = 1)))] := by
 obtain ⟨W, hW⟩ : ∃ W, W = mnW 4294967296 (fun i => a.getD i 0) (fun i => b.getD i 0) := ⟨_, rfl⟩
 obtain ⟨C, hC⟩ : ∃ C, C = mnC (fun i => a.getD i 0) (fun i => b.getD i 0) := ⟨_, rfl⟩
 have C01 : ∀ k, C k = 0 ∨ C k = 1 := fun k => by rw [hC]; exact mnC_01 _ _ k
 have C0 : C 0 = 0 := by rw [hC, mnC]
 have Cs : ∀ k, C (k + 1) = if a.getD k 0 < b.getD k 0 + C k then 1 else 0 := fun k => by rw [hC, mnC]
 have Ws : ∀ k, W (k + 1) = W k ++ [(a.getD k 0 - b.getD k 0 - C k) % 4294967296] := fun k => by rw [hW, mnW_succ, hC]; rfl
 have Wl : ∀ k, (W k).length = k := fun k => by rw [hW, mnW_len]
 have W0 : W 0 = [] := List.eq_nil_of_length_eq_zero (Wl 0)
 rw [← hW, ← hC]
 refine FnOk.of Tryz.func259 rfl rfl fun cx w0 => ?_
 rw [show Tryz.f259.ntmps = 38 from rfl]
 refine Holds.step (Px := px) (T := TT) (ρ := fun _ => []) TTe (by simp (maxSteps := 100000) (disch := omega) only [go_sem, V.isAgg, V.flat, ↓reduceIte, Nat.reduceAdd, Nat.reduceSub, Nat.reduceLT, Nat.reduceEqDiff, reduceCtorEq, Nat.reduceLeDiff, Nat.reduceBEq, Nat.reduceMul, Int.reduceToNat, List.length_cons, List.length_nil]; rfl) (by repeat' first | exact trivial | constructor) ?_
 refine Holds.step (Px := px) (T := TT) (ρ := fun _ => []) TTe (by simp (maxSteps := 100000) (disch := omega) only [go_sem, V.isAgg, V.flat, ↓reduceIte, Nat.reduceAdd, Nat.reduceSub, Nat.reduceLT, Nat.reduceEqDiff, reduceCtorEq, Nat.reduceLeDiff, Nat.reduceBEq, Nat.reduceMul, Int.reduceToNat]; rfl) (by repeat' first | exact trivial | constructor) ?_
 refine Holds.step (Px := px) (T := TT) (ρ := fun _ => []) TTe (by simp (maxSteps := 100000) (disch := omega) only [go_sem, V.isAgg, V.flat, ↓reduceIte, Nat.reduceAdd, Nat.reduceSub, Nat.reduceLT, Nat.reduceEqDiff, reduceCtorEq, Nat.reduceLeDiff, Nat.reduceBEq, Nat.reduceMul, Int.reduceToNat]; rfl) (by repeat' first | exact trivial | constructor) ?_
 refine Holds.next (fun σ => ∀ x w, Rel cx w0 σ x w → Rel cx w0 { nt := 38, env := [(7, .v true (.int .u64 (C a.length))), (6, mnA a.length)], mem := mnB W a.length } x w) ?_ ?_
 ·refine Holds.step (Px := px) (T := TT) (ρ := fun _ => []) TTe (by simp (maxSteps := 100000) (disch := omega) only [go_sem, V.isAgg, V.flat, ↓reduceIte, Nat.reduceAdd, Nat.reduceSub, Nat.reduceLT, Nat.reduceEqDiff, reduceCtorEq, Nat.reduceLeDiff, Nat.reduceBEq, Nat.reduceMul, Int.reduceToNat]; rfl) (by repeat' first | exact trivial | constructor) ?_
  refine Holds.loopB (fun k : Nat => { nt := 38, env := [(8, .v true (.int .i64 k)), (7, .v true (.int .u64 (C k))), (6, mnA k), (0, .v false (words a)), (1, .v false (words b))], mem := mnB W k }) (fun k => k ≤ a.length) (fun k => a.length - k) 0 (Nat.zero_le _) (fun x w hr => by
   rw [C0]
   exact Rel.keep [8, 7, 6, 0, 1] [] hr) ?_
  intro k hk
  by_cases hend : k = a.length
  ·refine Holds.seq ?_
   refine Holds.step (Px := px) (T := TT) (ρ := fun _ => []) TTe (by simp (maxSteps := 100000) (disch := omega) only [go_sem, V.isAgg, V.flat, ↓reduceIte, Nat.reduceAdd, Nat.reduceSub, Nat.reduceLT, Nat.reduceEqDiff, reduceCtorEq, Nat.reduceLeDiff, Nat.reduceBEq, Nat.reduceMul, Int.reduceToNat]; rfl) (by repeat' first | exact trivial | constructor) ?_
   refine Holds.condF rfl (Holds.exit ⟨rfl, fun x w hr => ?_⟩)
   rw [← hend]
   exact Rel.less [7, 6] (fun _ => rfl) hr
  ·have hka : k < a.length := by omega
   have ga := get_map hka
   have ha := okH_getD oa k
   have hb := okH_getD ob k
   have hc := C01 k
   have dB := digit_ok b k (by omega)
   have hCs := Cs k
   have hWs := Ws k
   have hWl := Wl k
   obtain ⟨p, hp⟩ : ∃ p, p = a.getD k 0 := ⟨_, rfl⟩
   obtain ⟨q, hq⟩ : ∃ q, q = b.getD k 0 := ⟨_, rfl⟩
   obtain ⟨c, hcc⟩ : ∃ c, c = C k := ⟨_, rfl⟩
   rw [← hp] at ga ha hCs hWs
   rw [← hq] at hb dB hCs hWs
   rw [← hcc] at hc hCs hWs ⊢
   have e1 : IntKind.u64.wrap (p + 4294967296) = p + 4294967296 := by rw [wrap_u64]; omega
   have e2 : IntKind.u64.wrap (p + 4294967296 - q) = p + 4294967296 - q := by rw [wrap_u64]; omega
   obtain ⟨X, hX⟩ : ∃ X, X = p + 4294967296 - q - c := ⟨_, rfl⟩
   have e3 : IntKind.u64.wrap (p + 4294967296 - q - c) = X := by rw [wrap_u64, hX]; omega
   have e4 : X.tmod 4294967296 = (p - q - c) % 4294967296 := by rw [Int.tmod_eq_emod_of_nonneg (by omega)]; omega
   have e4' : IntKind.u64.wrap ((p - q - c) % 4294967296) = (p - q - c) % 4294967296 := by rw [wrap_u64]; omega
   have e5 : X.tdiv 4294967296 = X / 4294967296 := Int.tdiv_eq_ediv_of_nonneg (by omega)
   have e5' : IntKind.u64.wrap (X / 4294967296) = X / 4294967296 := by rw [wrap_u64]; omega
   have e6 : IntKind.u64.wrap (1 - X / 4294967296) = C (k + 1) := by
    rw [wrap_u64, hCs]
    split <;> omega
   refine Holds.seq ?_
   refine Holds.step (Px := px) (T := TT) (ρ := fun _ => []) TTe (by simp (maxSteps := 100000) (disch := omega) only [go_sem, V.isAgg, V.flat, ↓reduceIte, Nat.reduceAdd, Nat.reduceSub, Nat.reduceLT, Nat.reduceEqDiff, reduceCtorEq, Nat.reduceLeDiff, Nat.reduceBEq, Nat.reduceMul, Int.reduceToNat]; rfl) (by repeat' first | exact trivial | constructor) ?_
   refine Holds.condT rfl (Holds.skip ?_)
   refine Holds.next (fun σ => ∀ x w, Rel cx w0 σ x w → Rel cx w0 { nt := 38, env := [(8, .v true (.int .i64 k)), (7, .v true (.int .u64 (C (k + 1)))), (6, mnA (k + 1)), (0, .v false (words a)), (1, .v false (words b))], mem := mnB W (k + 1) } x w) ?_ ?_
   ·refine Holds.blockN ?_
    refine Holds.dstep (Px := px) (T := TT) (ρ := fun _ => [.v true (.int .u64 q)]) [] mixed (by kernel_rfl) TTe (by simp (maxSteps := 100000) (disch := omega) only [go_sem, V.isAgg, V.flat, ↓reduceIte, Nat.reduceAdd, Nat.reduceSub, Nat.reduceLT, Nat.reduceEqDiff, reduceCtorEq, Nat.reduceLeDiff, Nat.reduceBEq, Nat.reduceMul, Int.reduceToNat, ga, e1, e2, e3]; rfl) (by first | exact dB | (repeat' first | exact trivial | exact dB | constructor)) (by rfl) (by rfl) (by rfl) ?_
    rcases k with _ | k
    ·refine Holds.step (Px := px) (T := TT) (ρ := fun _ => []) TTe (by simp (maxSteps := 100000) (disch := omega) only [go_sem, V.isAgg, V.flat, ↓reduceIte, Nat.reduceAdd, Nat.reduceSub, Nat.reduceLT, Nat.reduceEqDiff, reduceCtorEq, Nat.reduceLeDiff, Nat.reduceBEq, Nat.reduceMul, Int.reduceToNat, e4, e4', mnA, mnB]; rfl) (by repeat' first | exact trivial | constructor) ?_
     refine Holds.region (Px := px) (T := TT) (ρ := fun _ => []) TTe (by simp (maxSteps := 100000) (disch := omega) only [go_sem, V.isAgg, V.flat, ↓reduceIte, Nat.reduceAdd, Nat.reduceSub, Nat.reduceLT, Nat.reduceEqDiff, reduceCtorEq, Nat.reduceLeDiff, Nat.reduceBEq, Nat.reduceMul, Int.reduceToNat, e5, e5', e6]; rfl) (by repeat' first | exact trivial | constructor) ?_
     intro x w h
     have := Rel.ren (s := 31) (s' := 300) (Rel.keep [8, 7, 6, 0, 1] [31] h) (by decide) rfl rfl
     rw [mnB, if_neg (by omega), hWs, W0, mnA, if_neg (by omega)]
     exact this
    ·rw [mnA_s, mnB_s]
     refine Holds.step (Px := px) (T := TT) (ρ := fun _ => []) TTe (by simp (maxSteps := 100000) (disch := omega) only [go_sem, V.isAgg, V.flat, ↓reduceIte, Nat.reduceAdd, Nat.reduceSub, Nat.reduceLT, Nat.reduceEqDiff, reduceCtorEq, Nat.reduceLeDiff, Nat.reduceBEq, Nat.reduceMul, Int.reduceToNat, e4, e4', hWl]; rfl) (by repeat' first | exact trivial | constructor) ?_
     refine Holds.region (Px := px) (T := TT) (ρ := fun _ => []) TTe (by simp (maxSteps := 100000) (disch := omega) only [go_sem, V.isAgg, V.flat, ↓reduceIte, Nat.reduceAdd, Nat.reduceSub, Nat.reduceLT, Nat.reduceEqDiff, reduceCtorEq, Nat.reduceLeDiff, Nat.reduceBEq, Nat.reduceMul, Int.reduceToNat, e5, e5', e6]; rfl) (by repeat' first | exact trivial | constructor) ?_
     intro x w h
     have := Rel.ren (s := 31) (s' := 300) (Rel.keep [8, 7, 6, 0, 1] [31] h) (by decide) rfl rfl
     rw [mnB, if_neg (by omega), hWs, mnA, if_neg (by omega), List.map_append]
     exact this
   ·intro σ hσ
    refine Holds.from hσ ?_
    refine Holds.region (Px := px) (T := TT) (ρ := fun _ => []) TTe (by simp (maxSteps := 100000) (disch := omega) only [go_sem, V.isAgg, V.flat, ↓reduceIte, Nat.reduceAdd, Nat.reduceSub, Nat.reduceLT, Nat.reduceEqDiff, reduceCtorEq, Nat.reduceLeDiff, Nat.reduceBEq, Nat.reduceMul, Int.reduceToNat]; rfl) (by repeat' first | exact trivial | constructor) ?_
    exact ⟨k + 1, (by show k + 1 ≤ a.length; omega), (show a.length - (k + 1) < a.length - k by omega), fun x w hr => Rel.less [8, 7, 6, 0, 1] (fun _ => rfl) hr⟩
 ·intro σ hσ
  refine Holds.from hσ ?_
  have hWl := Wl a.length
  obtain ⟨b1, hb1⟩ : ∃ b1, b1 = decide (C a.length = 1) := ⟨_, rfl⟩
  rw [mnA, mnB, ← hb1]
  by_cases h0 : a.length = 0
  ·rw [if_pos h0, if_pos h0, h0, W0]
   have hbf : b1 = false := by rw [hb1, h0, C0]; rfl
   rw [hbf, C0]
   refine Holds.step (Px := px) (T := TT) (ρ := fun _ => []) TTe (by simp (maxSteps := 100000) (disch := omega) only [go_sem, V.isAgg, V.flat, ↓reduceIte, Nat.reduceAdd, Nat.reduceSub, Nat.reduceLT, Nat.reduceEqDiff, reduceCtorEq, Nat.reduceLeDiff, Nat.reduceBEq, Nat.reduceMul, Int.reduceToNat]; rfl) (by repeat' first | exact trivial | constructor) ?_
   exact Holds.ret ⟨_, [], rfl, ⟨rfl, ⟨rfl, id⟩, trivial⟩, by simp [R.names, R.mems, R.blks], by simp, rfl⟩
  ·rw [if_neg h0, if_neg h0]
   refine Holds.step (Px := px) (T := TT) (ρ := fun _ => []) TTe (by simp (maxSteps := 100000) (disch := omega) only [go_sem, V.isAgg, V.flat, ↓reduceIte, Nat.reduceAdd, Nat.reduceSub, Nat.reduceLT, Nat.reduceEqDiff, reduceCtorEq, Nat.reduceLeDiff, Nat.reduceBEq, Nat.reduceMul, Int.reduceToNat, ← hb1]; rfl) (by repeat' first | exact trivial | constructor) ?_
   exact Holds.ret ⟨_, [], rfl, ⟨⟨rfl, by rw [List.drop_zero, List.take_of_length_le (by rw [List.length_map, hWl]; exact Nat.le_refl _)], id, rfl⟩, ⟨rfl, id⟩, trivial⟩, by simp [R.names, R.mems, R.blks], by simp, rfl⟩
def dvH (k : Nat) : List Int → List Int × Nat
 | [] => ([], 0)
 | a :: r => ((((dvH k r).2 * 4294967296 + a.toNat) / k : Nat) :: (dvH k r).1, ((dvH k r).2 * 4294967296 + a.toNat) % k)
theorem dvH_ok {k : Nat} (hk : 0 < k) : ∀ {x : List Int}, okH x → (dvH k x).2 < k ∧ okH (dvH k x).1 ∧ (dvH k x).1.length = x.length ∧ valH (dvH k x).1 * k + (dvH k x).2 = valH x
 | [], _ => ⟨hk, (fun n hn => by cases hn), rfl, by simp [dvH, valH]⟩
 | a :: r, o => by
   obtain ⟨h1, h2, h3, h4⟩ := dvH_ok hk (x := r) fun n hn => o n (by simp [hn])
   have ha := o a (by simp)
   obtain ⟨s, hs⟩ : ∃ s, s = (dvH k r).2 := ⟨_, rfl⟩
   obtain ⟨W, hW⟩ : ∃ W, W = (dvH k r).1 := ⟨_, rfl⟩
   have e : dvH k (a :: r) = ((((s * 4294967296 + a.toNat) / k : Nat) : Int) :: W, (s * 4294967296 + a.toNat) % k) := by rw [dvH, hs, hW]
   rw [← hs] at h1 h4
   rw [← hW] at h2 h3 h4
   rw [e]
   have hq : (s * 4294967296 + a.toNat) / k < 4294967296 := by
    refine (Nat.div_lt_iff_lt_mul hk).2 ?_
    have : (s + 1) * 4294967296 ≤ k * 4294967296 := Nat.mul_le_mul_right _ h1
    omega
   refine ⟨Nat.mod_lt _ hk, fun n hn => ?_, by simp [h3], ?_⟩
   ·rcases List.mem_cons.1 hn with rfl | hn
    ·obtain ⟨q, hq'⟩ : ∃ q, q = (s * 4294967296 + a.toNat) / k := ⟨_, rfl⟩
     rw [← hq'] at hq ⊢
     omega
    ·exact h2 n hn
   ·have hd := Nat.div_add_mod (s * 4294967296 + a.toNat) k
    simp only [valH, Int.toNat_natCast]
    rw [← h4, Nat.add_mul, Nat.mul_comm _ k, Nat.mul_add, Nat.mul_assoc]
    omega
theorem dvH_drop {k j : Nat} {x : List Int} (h : j < x.length) : dvH k (x.drop j) = (((((dvH k (x.drop (j + 1))).2 * 4294967296 + (x.getD j 0).toNat) / k : Nat) : Int) :: (dvH k (x.drop (j + 1))).1, ((dvH k (x.drop (j + 1))).2 * 4294967296 + (x.getD j 0).toNat) % k) := by
 rw [List.drop_eq_getElem_cons h, dvH, List.getD_eq_getElem?_getD, List.getElem?_eq_getElem h]; rfl
theorem dvH_val {k : Nat} (hk : 0 < k) {x : List Int} (o : okH x) : valH (dvH k x).1 = valH x / k ∧ (dvH k x).2 = valH x % k := by
 obtain ⟨h1, _, _, h4⟩ := dvH_ok hk o
 obtain ⟨v, hv⟩ : ∃ v, v = valH (dvH k x).1 := ⟨_, rfl⟩
 obtain ⟨s, hs⟩ : ∃ s, s = (dvH k x).2 := ⟨_, rfl⟩
 rw [← hv, ← hs] at h4
 rw [← hs] at h1
 rw [← hv, ← hs, ← h4, Nat.mul_comm v k]
 exact ⟨by rw [Nat.mul_add_div hk, Nat.div_eq_of_lt h1, Nat.add_zero], by rw [Nat.mul_add_mod, Nat.mod_eq_of_lt h1]⟩
theorem one_ok (x : List Int) (k : Nat) (hx : x.length < 1000000) (ox : okH x) (hk : 0 < k) (hk2 : k < 4294967296) : FnOk Tryz.prog 258 [.v (words x), .v (.int .u64 k)] [.v true (words (dvH k x).1), .v true (words [((dvH k x).2 : Int)])] := by
 obtain ⟨_, ow, lw, _⟩ := dvH_ok hk ox
 have hk0 : ¬ (k : Int) = 0 := by omega
 refine FnOk.of Tryz.func258 rfl rfl fun cx w0 => ?_
 rw [show Tryz.f258.ntmps = 38 from rfl]
 refine zs0 ?_
 refine zs0 ?_
 refine zs0 ?_
 refine Holds.next (fun σ => ∀ a w, Rel cx w0 σ a w → Rel cx w0 { nt := 38, env := [(7, .v true (.int .u64 (dvH k x).2)), (6, .own 11 0 x.length)], mem := [(11, .buf 91 1 true ((dvH k x).1.map fun n => .int .u64 n))] } a w) ?_ ?_
 ·refine zs0 ?_
  refine Holds.loopB (fun j : Nat => { nt := 38, env := [(8, .v true (.int .i64 ((j : Int) - 1))), (7, .v true (.int .u64 (dvH k (x.drop j)).2)), (6, .own 11 0 x.length), (0, .v false (words x)), (1, .v true (.int .u64 k))], mem := [(11, .buf 91 1 true ((List.replicate j 0 ++ (dvH k (x.drop j)).1).map fun n => .int .u64 n))] }) (fun j => j ≤ x.length) id x.length (Nat.le_refl _) (fun a w h => by
   have := Rel.keep [8, 7, 6, 0, 1] [11] h
   rw [List.drop_length]
   show Rel _ _ { nt := 38, env := _, mem := [(11, .buf 91 1 true ((List.replicate x.length (0 : Int) ++ []).map fun n => .int .u64 n))] } _ _
   rw [List.append_nil, List.map_replicate]
   exact this) ?_
  intro j hj
  rcases j with _ | j
  ·refine Holds.seq ?_
   refine zs0 ?_
   refine Holds.condF rfl (Holds.exit ⟨rfl, fun a w h => ?_⟩)
   exact Rel.keep [7, 6] [11] h
  ·have hjx : j < x.length := by omega
   have gx := get_map hjx
   have hx0 := okH_getD ox j
   have ho : okH (x.drop (j + 1)) := fun n hn => ox n (List.mem_of_mem_drop hn)
   obtain ⟨r1, r2, r3, _⟩ := dvH_ok hk ho
   have hd := dvH_drop (k := k) hjx
   obtain ⟨s, hs⟩ : ∃ s, s = (dvH k (x.drop (j + 1))).2 := ⟨_, rfl⟩
   obtain ⟨W, hW⟩ : ∃ W, W = (dvH k (x.drop (j + 1))).1 := ⟨_, rfl⟩
   rw [← hs] at r1 hd
   rw [← hW] at r3 hd
   rw [← hs, ← hW]
   obtain ⟨d, hdd⟩ : ∃ d : Nat, d = (x.getD j 0).toNat := ⟨_, rfl⟩
   rw [← hdd] at hd
   rw [show x.getD j 0 = (d : Int) from by omega] at gx
   obtain ⟨t, ht⟩ : ∃ t, t = s * 4294967296 + d := ⟨_, rfl⟩
   rw [← ht] at hd
   have ht64 : t < 18446744073709551616 := by omega
   have w1 : IntKind.u64.wrap ((s : Int) * 4294967296) = ((s * 4294967296 : Nat) : Int) := by rw [wrap_u64]; omega
   have w2 : IntKind.u64.wrap (((s * 4294967296 : Nat) : Int) + (d : Int)) = (t : Int) := by rw [wrap_u64]; omega
   have w3 := quoN t k
   have w4 : IntKind.u64.wrap ((t / k : Nat) : Int) = ((t / k : Nat) : Int) := wrapN _ (Nat.lt_of_le_of_lt (Nat.div_le_self _ _) ht64)
   have w5 := remN t k
   obtain ⟨q, hq⟩ : ∃ q, q = t / k := ⟨_, rfl⟩
   obtain ⟨r, hr⟩ : ∃ r, r = t % k := ⟨_, rfl⟩
   rw [← hq, ← hr] at hd
   rw [← hq] at w3 w4
   rw [← hr] at w5
   rw [List.length_drop] at r3
   have hLl : (List.replicate (j + 1) (0 : Int) ++ W).length = x.length := by rw [List.length_append, List.length_replicate, r3]; omega
   have eset : (List.replicate (j + 1) (0 : Int) ++ W).set j (q : Int) = List.replicate j 0 ++ (q : Int) :: W := by
    rw [show List.replicate (j + 1) (0 : Int) = List.replicate j 0 ++ [0] from by rw [List.replicate_succ'], List.append_assoc, List.set_append_right _ _ (by rw [List.length_replicate]; exact Nat.le_refl _), List.length_replicate, Nat.sub_self]
    rfl
   obtain ⟨Lw, hL⟩ : ∃ Lw, Lw = List.replicate (j + 1) (0 : Int) ++ W := ⟨_, rfl⟩
   rw [← hL] at hLl eset ⊢
   have gL := get_map (l := Lw) (i := j) (by omega)
   refine Holds.seq ?_
   refine zs0 ?_
   refine Holds.condT rfl (Holds.skip ?_)
   refine Holds.next (fun σ => ∀ a w, Rel cx w0 σ a w → Rel cx w0 { nt := 38, env := [(8, .v true (.int .i64 (j : Int))), (7, .v true (.int .u64 r)), (6, .own 11 0 x.length), (0, .v false (words x)), (1, .v true (.int .u64 k))], mem := [(11, .buf 91 1 true ((Lw.set j (q : Int)).map fun n => .int .u64 n))] } a w) ?_ ?_
   ·refine Holds.blockN ?_
    refine zs1 (an gx <| an w1 <| w2) ?_
    refine zs1 (an hk0 <| an w3 <| an w4 <| an gL <| hLl) ?_
    refine zr1 (an hk0 <| w5) ?_
    intro a w h
    have := Rel.keep [8, 7, 6, 0, 1] [11] h
    rw [List.map_set]
    exact this
   ·intro σ hσ
    refine Holds.from hσ ?_
    refine zr0 ?_
    refine ⟨j, (by show j ≤ x.length; omega), (show j < j + 1 by omega), fun a w h => ?_⟩
    have := Rel.keep [8, 7, 6, 0, 1] [11] h
    rw [eset] at this
    simp only [hd]
    exact this
 ·intro σ hσ
  refine Holds.from hσ ?_
  have htk : List.take x.length (List.map (fun n => V.int .u64 n) (dvH k x).1) = List.map (fun n => V.int .u64 n) (dvH k x).1 := List.take_of_length_le (by rw [List.length_map]; omega)
  refine zs0 ?_
  exact Holds.ret ⟨_, [], rfl, ⟨⟨rfl, by rw [List.drop_zero, htk], id, rfl⟩, ⟨rfl, rfl, id, rfl⟩, trivial⟩, by simp [R.names, R.mems, R.blks], by simp, rfl⟩
theorem Divide1_ok (x y : List Int) (k : Nat) (hx : x.length < 1000000) (ox : okH x) (hk : 0 < k) (hk2 : k < 4294967296) (hy : y.length < 10000) (ht : trimL y = [(k : Int)]) :
 FnOk Tryz.prog 220 [.v (words x), .v (words y)] [.v true (words (dvH k x).1), .v true (words [((dvH k x).2 : Int)])] := by
 have h1 := Short_ok y (by omega)
 rw [ht] at h1
 have h2 := one_ok x k hx ox hk hk2
 rw [show words [(k : Int)] = .sl 1 [.int .u64 k] from rfl] at h1
 obtain ⟨Q, hQ⟩ : ∃ Q, Q = (dvH k x).1 := ⟨_, rfl⟩
 obtain ⟨r, hr⟩ : ∃ r, r = [((dvH k x).2 : Int)] := ⟨_, rfl⟩
 rw [← hQ, ← hr] at h2 ⊢
 refine FnOk.of Tryz.func220 rfl rfl fun cx w0 => ?_
 rw [show Tryz.f220.ntmps = 163 from rfl]
 refine zs0 ?_
 refine zs2 (ρ := fun _ => [.v false (.sl 1 [.int .u64 k])]) (o := by repeat' first|exact h1|trivial|constructor) (k := ?_)
 refine Holds.seq ?_
 refine zs0 ?_
 refine Holds.condT rfl ?_
 refine zs2 (ρ := fun _ => [.v true (words Q), .v true (words r)]) (o := by repeat' first|exact h2|trivial|constructor) (k := ?_)
 exact Holds.ret (RetOk.vs rfl (by exact ⟨⟨rfl, id⟩, ⟨rfl, id⟩, trivial⟩) rfl)
theorem TimesO_ok (a b : List Int) (hal : a.length < 100000) (hbl : b.length < 100000) (oa : okH a) (ob : okH b) (nm : Nat) : FnOk Tryz.prog 153 [.v (words a), .v (words b)] [.own nm 91 1 true ((timesL a b).map fun n => .int .u64 n)] := by
 refine FnOk.of Tryz.func153 rfl rfl fun cx w0 => ?_
 rw [show Tryz.f153.ntmps = 62 from rfl]
 refine zs0 ?_
 refine zs0 ?_
 obtain ⟨N, hN⟩ : ∃ N, N = a.length + b.length := ⟨_, rfl⟩
 refine Holds.next (fun σ => ∀ x w, Rel cx w0 σ x w → Rel cx w0 { nt := 62, env := [(5, .own 300 0 N)], mem := [(300, .buf 91 1 true ((timesL a b).map fun n => .int .u64 n))] } x w) ?_ ?_
 ·refine zs0 ?_
  refine Holds.loopB (fun i : Nat => { nt := 62, env := [(6, .v true (.int .i64 i)), (5, .own 300 0 N), (0, .v false (words a)), (1, .v false (words b))], mem := [(300, .buf 91 1 true ((tmO a b i).map fun n => .int .u64 n))] }) (fun i => i ≤ a.length) (fun i => a.length - i) 0 (Nat.zero_le _) (fun x w h => by
   have := Rel.ren (s := 14) (s' := 300) (Rel.keep [6, 5, 0, 1] [14] h) (by decide) rfl rfl
   rw [tmO, List.map_replicate, hN]
   exact this) ?_
  intro i hi
  obtain ⟨h1, h2, h3, h4⟩ := tmO_ok oa ob i hi
  by_cases hend : i = a.length
  ·refine Holds.seq ?_
   refine zs0 ?_
   refine Holds.condF rfl (Holds.exit ⟨rfl, fun x w h => ?_⟩)
   rw [timesL, ← hend]
   exact Rel.keep [5] [300] h
  ·have hia : i < a.length := by omega
   have hA := okH_getD oa i
   obtain ⟨A, hAe⟩ : ∃ A, A = a.getD i 0 := ⟨_, rfl⟩
   obtain ⟨s, hs⟩ : ∃ s : List Int × Int, s = (tmO a b i, 0) := ⟨_, rfl⟩
   have gA := get_map hia
   rw [← hAe] at hA gA
   have hs1 : s.1 = tmO a b i := by rw [hs]
   have hs2 : s.2 = 0 := by rw [hs]
   have os : okH s.1 := by rw [hs1]; exact h1
   have hsl : s.1.length = N := by rw [hs1, h2, hN]
   have hI := tmI_ok (i := i) hA ob os (by rw [hs2]; omega)
   refine Holds.seq ?_
   refine zs0 ?_
   refine Holds.condT rfl (Holds.skip ?_)
   refine Holds.next (fun σ => ∀ x w, Rel cx w0 σ x w → Rel cx w0 { nt := 62, env := [(6, .v true (.int .i64 i)), (5, .own 300 0 N), (0, .v false (words a)), (1, .v false (words b))], mem := [(300, .buf 91 1 true ((tmO a b (i + 1)).map fun n => .int .u64 n))] } x w) ?_ ?_
   ·refine Holds.blockN ?_
    refine zs0 ?_
    refine Holds.next (fun σ => ∀ x w, Rel cx w0 σ x w → Rel cx w0 { nt := 62, env := [(7, .v true (.int .u64 (tmI A b i s b.length).2)), (6, .v true (.int .i64 i)), (5, .own 300 0 N), (0, .v false (words a)), (1, .v false (words b))], mem := [(300, .buf 91 1 true ((tmI A b i s b.length).1.map fun n => .int .u64 n))] } x w) ?_ ?_
    ·refine zs0 ?_
     refine Holds.loopB (fun k : Nat => { nt := 62, env := [(8, .v true (.int .i64 k)), (7, .v true (.int .u64 (tmI A b i s k).2)), (6, .v true (.int .i64 i)), (5, .own 300 0 N), (0, .v false (words a)), (1, .v false (words b))], mem := [(300, .buf 91 1 true ((tmI A b i s k).1.map fun n => .int .u64 n))] }) (fun k => k ≤ b.length) (fun k => b.length - k) 0 (Nat.zero_le _) (fun x w h => by
      have := Rel.keep [8, 7, 6, 5, 0, 1] [300] h
      rw [tmI, hs]
      exact this) ?_
     intro k hk
     obtain ⟨k1, k2, k3⟩ := hI k
     by_cases hend2 : k = b.length
     ·refine Holds.seq ?_
      refine zs0 ?_
      refine Holds.condF rfl (Holds.exit ⟨rfl, fun x w h => ?_⟩)
      rw [← hend2]
      have := Rel.keep [7, 6, 5, 0, 1] [300] h
      exact this
     ·have hkb : k < b.length := by omega
      have gB := get_map hkb
      have hU := okH_getD ob k
      have hik : i + k < (tmI A b i s k).1.length := by omega
      have gZ := get_map hik
      have hZ := okH_getD k1 (i + k)
      have esucc : tmI A b i s (k + 1) = ((tmI A b i s k).1.set (i + k) (((tmI A b i s k).2 + (tmI A b i s k).1.getD (i + k) 0 + A * b.getD k 0) % 4294967296), ((tmI A b i s k).2 + (tmI A b i s k).1.getD (i + k) 0 + A * b.getD k 0) / 4294967296) := rfl
      obtain ⟨U, hUe⟩ : ∃ U, U = b.getD k 0 := ⟨_, rfl⟩
      rw [← hUe] at gB hU esucc
      obtain ⟨T, hT⟩ : ∃ T, T = tmI A b i s k := ⟨_, rfl⟩
      rw [← hT] at k1 k2 k3 hik gZ hZ esucc ⊢
      obtain ⟨z, hz⟩ : ∃ z, z = T.1.getD (i + k) 0 := ⟨_, rfl⟩
      rw [← hz] at gZ hZ esucc
      have hp := tm_bound hA hU
      obtain ⟨p, hpe⟩ : ∃ p, p = A * U := ⟨_, rfl⟩
      have e2 : IntKind.u64.wrap (A * U) = p := by rw [wrap_u64, ← hpe]; rw [← hpe] at hp; omega
      rw [← hpe] at hp esucc
      have e1 : IntKind.u64.wrap (T.2 + z) = T.2 + z := by rw [wrap_u64]; omega
      obtain ⟨q, hq⟩ : ∃ q, q = T.2 + z + p := ⟨_, rfl⟩
      have e3 : IntKind.u64.wrap (T.2 + z + p) = q := by rw [wrap_u64, hq]; omega
      rw [← hq] at esucc
      have hq0 : 0 ≤ q ∧ q < 18446744073709551616 := by omega
      have e4 : q.tmod 4294967296 = q % 4294967296 := Int.tmod_eq_emod_of_nonneg hq0.1
      have e5 : q.tdiv 4294967296 = q / 4294967296 := Int.tdiv_eq_ediv_of_nonneg hq0.1
      have e6 : IntKind.u64.wrap (q / 4294967296) = q / 4294967296 := by rw [wrap_u64]; omega
      have hadd : ((i : Int) + k).toNat = i + k := by omega
      refine Holds.seq ?_
      refine zs0 ?_
      refine Holds.condT rfl (Holds.skip ?_)
      refine Holds.next (fun σ => ∀ x w, Rel cx w0 σ x w → Rel cx w0 { nt := 62, env := [(8, .v true (.int .i64 k)), (7, .v true (.int .u64 (q / 4294967296))), (6, .v true (.int .i64 i)), (5, .own 300 0 N), (0, .v false (words a)), (1, .v false (words b))], mem := [(300, .buf 91 1 true ((T.1.set (i + k) (q % 4294967296)).map fun n => .int .u64 n))] } x w) ?_ ?_
      ·refine Holds.blockN ?_
       refine zd1 [] (an gA <| an gB <| an gZ <| an hadd <| an e1 <| an e2 <| e3) ?_
       refine zs1 (an hadd <| an e4 <| gZ) ?_
       refine zr1 (an e5 <| e6) ?_
       intro x w h
       have := Rel.keep [8, 7, 6, 5, 0, 1] [300] h
       rw [List.map_set]
       exact this
      ·intro σ hσ
       refine Holds.from hσ ?_
       refine zr0 ?_
       refine ⟨k + 1, (by show k + 1 ≤ b.length; omega), (show b.length - (k + 1) < b.length - k by omega), fun x w h => ?_⟩
       simp only [esucc]
       exact Rel.keep [8, 7, 6, 5, 0, 1] [300] h
    ·intro σ hσ
     refine Holds.from hσ ?_
     obtain ⟨k1, k2, k3⟩ := hI b.length
     have hib : i + b.length < (tmI A b i s b.length).1.length := by omega
     have gZ := get_map hib
     have hadd : ((i : Int) + b.length).toNat = i + b.length := by omega
     have e : tmO a b (i + 1) = (tmI A b i s b.length).1.set (i + b.length) (tmI A b i s b.length).2 := by rw [tmO, hAe, hs]
     refine zr1 (an gZ <| hadd) ?_
     intro x w h
     rw [e, List.map_set]
     exact Rel.keep [6, 5, 0, 1] [300] h
   ·intro σ hσ
    refine Holds.from hσ ?_
    refine zr0 ?_
    exact ⟨i + 1, (by show i + 1 ≤ a.length; omega), (show a.length - (i + 1) < a.length - i by omega), fun x w h => Rel.keep [6, 5, 0, 1] [300] h⟩
 ·intro σ hσ
  refine Holds.from hσ ?_
  have hl := (timesL_ok oa ob).2.1
  refine zs0 ?_
  exact Holds.ret ⟨_, [(nm, 300)], rfl, ⟨⟨by simp [srcOf], rfl, by rw [List.length_map, hl, hN], by simp [St.at, look]⟩, trivial⟩, by simp [R.names, R.mems, R.blks], by simp, by simp [R.names, R.mems, R.blks]⟩
theorem valH_lt : ∀ {l : List Int}, okH l → valH l < 4294967296 ^ l.length
 | [], _ => by simp [valH]
 | a :: r, o => by
   have ha := o a (by simp)
   have hr := valH_lt (l := r) fun n hn => o n (by simp [hn])
   rw [valH, List.length_cons, Nat.pow_succ]
   omega
theorem okH_drop {l : List Int} (h : okH l) (k : Nat) : okH (l.drop k) := fun n hn => h n (List.mem_of_mem_drop hn)
theorem okH_take {l : List Int} (h : okH l) (k : Nat) : okH (l.take k) := fun n hn => h n (List.mem_of_mem_take hn)
theorem getD_drop (l : List Int) (j k : Nat) : (l.drop j).getD k 0 = l.getD (j + k) 0 := by
 rw [List.getD_eq_getElem?_getD, List.getElem?_drop, ← List.getD_eq_getElem?_getD]
theorem valH_cut (l : List Int) (k : Nat) (hk : k ≤ l.length) : valH l = valH (l.take k) + 4294967296 ^ k * valH (l.drop k) := by
 have := valH_append (l.take k) (l.drop k)
 rw [List.take_append_drop, List.length_take, Nat.min_eq_left hk] at this
 exact this
theorem digit_le {w P top bt vb g : Nat} (h1 : w < P * (top + 1)) (h2 : P * bt ≤ vb) (hb : 0 < bt) (hP : 0 < P) (hg : g * vb ≤ w) : g ≤ top / bt := by
 refine (Nat.le_div_iff_mul_le hb).2 ?_
 have h3 : g * (P * bt) ≤ g * vb := Nat.mul_le_mul_left _ h2
 have h4 : P * (g * bt) < P * (top + 1) := by
  rw [Nat.mul_left_comm]; omega
 have := Nat.lt_of_mul_lt_mul_left h4
 omega
structure Win (A b : List Int) (j : Nat) (W : List Int) (w : Nat) : Prop where
 len : W.length = b.length + 1
 ok : okH W
 val : valH W = w
 lt : w < valH b * 4294967296
 all : valH A = valH (A.take j) + 4294967296 ^ j * w
 up : valH (A.drop (j + b.length + 1)) = 0
 top : w / valH b ≤ ((A.getD (j + b.length) 0).toNat * 4294967296 + (A.getD (j + b.length - 1) 0).toNat) / (b.getD (b.length - 1) 0).toNat
theorem win_ok {A b : List Int} {j : Nat} (oA : okH A) (ob : okH b) (hj : j + b.length + 1 ≤ A.length) (hn : 1 ≤ b.length) (hb : 0 < (b.getD (b.length - 1) 0).toNat) (hu : valH (A.drop (j + 1)) < valH b) :
 Win A b j ((A.drop j).take (b.length + 1)) (valH ((A.drop j).take (b.length + 1))) := by
 obtain ⟨D, hD⟩ : ∃ D, D = A.drop j := ⟨_, rfl⟩
 have oD : okH D := by rw [hD]; exact okH_drop oA j
 have lD : b.length + 1 ≤ D.length := by rw [hD, List.length_drop]; omega
 have hDt : A.drop (j + 1) = D.drop 1 := by rw [hD, List.drop_drop]
 have hDu : A.drop (j + b.length + 1) = (D.drop 1).drop b.length := by rw [hD, List.drop_drop, List.drop_drop]; congr 1; omega
 have hD0 : D = D.getD 0 0 :: D.drop 1 := by
  cases D with
  | nil => simp at lD
  | cons x r => rfl
 have d0 := okH_getD oD 0
 have gj : ∀ k, A.getD (j + k) 0 = D.getD k 0 := fun k => by rw [hD, getD_drop]
 rw [← hD]
 rw [hDt] at hu
 obtain ⟨n, hn'⟩ : ∃ n, b.length = n + 1 := ⟨b.length - 1, by omega⟩
 have hbl := valH_lt ob
 have hup : valH ((D.drop 1).drop b.length) = 0 := by
  have h1 := valH_cut (D.drop 1) b.length (by rw [List.length_drop]; omega)
  rcases Nat.eq_zero_or_pos (valH ((D.drop 1).drop b.length)) with h0 | h0
  ·exact h0
  ·have := Nat.mul_le_mul_left (4294967296 ^ b.length) h0
   omega
 have hDv : valH D = valH (D.take (b.length + 1)) := by
  have h1 := valH_cut D (b.length + 1) lD
  rw [show D.drop (b.length + 1) = (D.drop 1).drop b.length from by rw [List.drop_drop]; congr 1; omega, hup, Nat.mul_zero, Nat.add_zero] at h1
  exact h1
 have hlt : valH D < valH b * 4294967296 := by
  rw [hD0, valH]
  omega
 have ht : valH (D.take (b.length + 1)) = valH (D.take n) + 4294967296 ^ n * ((D.getD (n + 1) 0).toNat * 4294967296 + (D.getD n 0).toNat) := by
  rw [hn', valH_takeS, valH_takeS, Nat.pow_succ, Nat.mul_add, Nat.mul_assoc, Nat.mul_comm 4294967296 (D.getD (n + 1) 0).toNat]
  omega
 have htn := valH_lt (okH_take oD n)
 rw [List.length_take, Nat.min_eq_left (by omega)] at htn
 have hvb : 4294967296 ^ n * (b.getD n 0).toNat ≤ valH b := by
  have h1 := valH_takeS (l := b) n
  rw [← hn', List.take_length] at h1
  omega
 refine ⟨by rw [List.length_take]; omega, okH_take oD _, rfl, by omega, ?_, by rw [hDu]; exact hup, ?_⟩
 ·rw [← hDv, hD]
  exact valH_cut A j (by omega)
 ·rw [show j + b.length = j + (n + 1) from by omega, show j + (n + 1) - 1 = j + n from by omega, gj, gj, show b.length - 1 = n from by omega]
  rw [show b.length - 1 = n from by omega] at hb
  obtain ⟨T, hT⟩ : ∃ T, T = (D.getD (n + 1) 0).toNat * 4294967296 + (D.getD n 0).toNat := ⟨_, rfl⟩
  rw [← hT] at ht ⊢
  refine digit_le (P := 4294967296 ^ n) ?_ hvb hb (Nat.pow_pos (by decide)) (Nat.div_mul_le_self _ _)
  rw [ht, Nat.mul_add, Nat.mul_one]
  omega
theorem win_next {A b : List Int} {j : Nat} {W : List Int} {w g : Nat} (h : Win A b j W w) (hg : g = w / valH b) (oA : okH A) (hj : j + b.length + 1 ≤ A.length) {R : List Int} (oR : okH R) (lR : R.length = b.length + 1) (vR : valH R = w - g * valH b) (hb : 0 < valH b) :
 okH (A.take j ++ (R ++ A.drop (j + b.length + 1))) ∧ (A.take j ++ (R ++ A.drop (j + b.length + 1))).length = A.length ∧ valH ((A.take j ++ (R ++ A.drop (j + b.length + 1))).drop j) < valH b ∧
 valH (A.take j ++ (R ++ A.drop (j + b.length + 1))) + valH b * (4294967296 ^ j * g) = valH A := by
 have lt : (A.take j).length = j := by rw [List.length_take]; omega
 have hm : w - g * valH b < valH b ∧ g * valH b ≤ w := by
  have h1 := Nat.div_add_mod w (valH b)
  have h2 := Nat.mod_lt w hb
  rw [← hg, Nat.mul_comm] at h1
  omega
 refine ⟨?_, ?_, ?_, ?_⟩
 ·intro n hn
  rcases List.mem_append.1 hn with hn | hn
  ·exact okH_take oA j n hn
  ·rcases List.mem_append.1 hn with hn | hn
   ·exact oR n hn
   ·exact okH_drop oA _ n hn
 ·rw [List.length_append, List.length_append, lt, lR, List.length_drop]; omega
 ·rw [List.drop_left' lt, valH_append, h.up, Nat.mul_zero, Nat.add_zero, vR]
  exact hm.1
 ·rw [valH_append, valH_append, h.up, Nat.mul_zero, Nat.add_zero, vR, lt, h.all]
  obtain ⟨P, hP⟩ : ∃ P, P = 4294967296 ^ j := ⟨_, rfl⟩
  rw [← hP, Nat.mul_sub]
  have h3 : P * (g * valH b) ≤ P * w := Nat.mul_le_mul_left _ hm.2
  have e : valH b * (P * g) = P * (g * valH b) := by rw [Nat.mul_left_comm, Nat.mul_comm (valH b)]
  rw [e]
  omega
theorem borrow_iff {x y : List Int} (ox : okH x) (oy : okH y) (hl : y.length ≤ x.length) : mnC (fun i => x.getD i 0) (fun i => y.getD i 0) x.length = 1 ↔ valH x < valH y := by
 have key := mn_val (B := 4294967296) (by decide) (F := fun j => valH (x.take j)) (G := fun j => valH (y.take j)) (W := fun j => valH (mnW 4294967296 (fun i => x.getD i 0) (fun i => y.getD i 0) j)) (f := fun i => x.getD i 0) (g := fun i => y.getD i 0) rfl rfl rfl (fun j => valH_takeS j) (fun j => valH_takeS j)
  (fun j => by simp only [mnW_succ]; rw [valH_append, mnW_len]; simp [valH]) (okH_getD ox) (okH_getD oy) x.length
 simp only [List.take_length, List.take_of_length_le hl] at key
 obtain ⟨k1, k2⟩ := key
 rcases mnC_01 (fun i => x.getD i 0) (fun i => y.getD i 0) x.length with hc | hc
 ·rw [hc] at k2 ⊢
  rw [show (0 : Int).toNat = 0 from rfl, Nat.mul_zero, Nat.add_zero] at k2
  constructor
  ·intro h; cases h
  ·intro h; omega
 ·rw [hc] at k2 ⊢
  rw [show (1 : Int).toNat = 1 from rfl, Nat.mul_one] at k2
  constructor
  ·intro h; omega
  ·intro h; rfl
def hdigs (v : Nat) : Nat → List Int
 | 0 => []
 | n + 1 => ((v % 4294967296 : Nat) : Int) :: hdigs (v / 4294967296) n
theorem hdigs_ok : ∀ (n v : Nat), okH (hdigs v n) ∧ (hdigs v n).length = n
 | 0, v => ⟨(fun n hn => by cases hn), rfl⟩
 | n + 1, v => by
   obtain ⟨h1, h2⟩ := hdigs_ok n (v / 4294967296)
   refine ⟨fun m hm => ?_, by rw [hdigs, List.length_cons, h2]⟩
   rcases List.mem_cons.1 hm with rfl | hm
   ·omega
   ·exact h1 m hm
theorem hdigs_val : ∀ {l : List Int}, okH l → hdigs (valH l) l.length = l
 | [], _ => rfl
 | a :: r, o => by
   have ha := o a (by simp)
   have hr := hdigs_val (l := r) fun n hn => o n (by simp [hn])
   rw [List.length_cons, hdigs, valH]
   rw [show (a.toNat + 4294967296 * valH r) / 4294967296 = valH r from by omega, hr, show (((a.toNat + 4294967296 * valH r) % 4294967296 : Nat) : Int) = a from by omega]
theorem hdigs_of {l : List Int} {v n : Nat} (o : okH l) (hl : l.length = n) (hv : valH l = v) : l = hdigs v n := by
 rw [← hl, ← hv, hdigs_val o]
theorem hdigs_eq : ∀ {n v : Nat}, v < 4294967296 ^ n → valH (hdigs v n) = v
 | 0, v, h => by
   have : v = 0 := by simpa using h
   rw [this]; rfl
 | n + 1, v, h => by
   rw [Nat.pow_succ] at h
   rw [hdigs, valH, hdigs_eq (n := n) (v := v / 4294967296) (by omega)]
   omega
theorem norm32 {b : Nat} (hb : b < 4294967296) (h0 : 0 < b) : ∃ k, k < 32 ∧ 2147483648 ≤ b * 2 ^ k ∧ b * 2 ^ k < 4294967296 := by
 have h1 := Nat.log2_self_le (n := b) (by omega)
 have h2 := Nat.lt_log2_self (n := b)
 have h3 : b.log2 < 32 := (Nat.log2_lt (by omega)).2 hb
 obtain ⟨L, hL⟩ : ∃ L, L = b.log2 := ⟨_, rfl⟩
 rw [← hL] at h1 h2 h3
 refine ⟨31 - L, by omega, ?_, ?_⟩
 ·have : 2 ^ L * 2 ^ (31 - L) ≤ b * 2 ^ (31 - L) := Nat.mul_le_mul_right _ h1
  rw [← Nat.pow_add, show L + (31 - L) = 31 from by omega] at this
  exact this
 ·have : b * 2 ^ (31 - L) < 2 ^ (L + 1) * 2 ^ (31 - L) := (Nat.mul_lt_mul_right (Nat.pow_pos (by decide))).2 h2
  rw [← Nat.pow_add, show L + 1 + (31 - L) = 32 from by omega] at this
  exact this
theorem norm_more {b k k0 : Nat} (hk : k < k0) (h : b * 2 ^ k0 < 4294967296) : b * 2 ^ k < 2147483648 := by
 have h1 : 2 ^ (k + 1) ≤ 2 ^ k0 := Nat.pow_le_pow_right (by decide) hk
 have h2 := Nat.mul_le_mul_left b h1
 rw [Nat.pow_succ, ← Nat.mul_assoc] at h2
 omega
theorem shape_ok {l : List Int} {n : Nat} (o : okH l) (h1 : 4294967296 ^ n * 2147483648 ≤ valH l) (h2 : valH l < 4294967296 ^ (n + 1)) : (trimL l).length = n + 1 ∧ 2147483648 ≤ ((trimL l).getD n 0).toNat := by
 have hv := valH_trim l
 have ot := trimL_okH o
 have hlt := valH_lt ot
 rw [hv] at hlt
 have hp : 0 < 4294967296 ^ n := Nat.pow_pos (by decide)
 have hge : n + 1 ≤ (trimL l).length := by
  rcases Nat.lt_or_ge (trimL l).length (n + 1) with h | h
  ·have := Nat.pow_le_pow_right (n := 4294967296) (by decide) (Nat.le_of_lt_succ h)
   omega
  ·exact h
 have hle : (trimL l).length ≤ n + 1 := by
  rcases trimL_last l with h | ⟨t, z, h, hz⟩
  ·rw [h]; exact Nat.zero_le _
  ·have hz' := ot z (by rw [h]; simp)
   have : valH (trimL l) = valH t + 4294967296 ^ t.length * valH [z] := by rw [h, valH_append]
   rw [hv] at this
   have hz1 : 1 ≤ valH [z] := by simp only [valH]; omega
   have h3 := Nat.mul_le_mul_left (4294967296 ^ t.length) hz1
   rw [h, List.length_append, List.length_cons, List.length_nil]
   rcases Nat.lt_or_ge n t.length with h4 | h4
   ·have := Nat.pow_le_pow_right (n := 4294967296) (by decide) h4
    rw [Nat.succ_eq_add_one] at this
    omega
   ·omega
 have hlen : (trimL l).length = n + 1 := by omega
 refine ⟨hlen, ?_⟩
 have h3 := valH_takeS (l := trimL l) n
 rw [← hlen, List.take_length, hv] at h3
 have h4 := valH_lt (okH_take ot n)
 rw [List.length_take, Nat.min_eq_left (by omega)] at h4
 have h5 : 4294967296 ^ n * 2147483648 < 4294967296 ^ n * (((trimL l).getD n 0).toNat + 1) := by
  rw [Nat.mul_add, Nat.mul_one]; omega
 have := Nat.lt_of_mul_lt_mul_left h5
 omega
def cpL (A R : List Int) (j k : Nat) : List Int := A.take j ++ (R.take k ++ A.drop (j + k))
theorem cpL_len {A R : List Int} {j k : Nat} (hk : k ≤ R.length) (hj : j + R.length ≤ A.length) : (cpL A R j k).length = A.length := by
 rw [cpL, List.length_append, List.length_append, List.length_take, List.length_take, List.length_drop]; omega
theorem cpL_succ {A R : List Int} {j k : Nat} (hk : k < R.length) (hj : j + R.length ≤ A.length) : (cpL A R j k).set (j + k) (R.getD k 0) = cpL A R j (k + 1) := by
 have l1 : (A.take j).length = j := by rw [List.length_take]; omega
 have l2 : (R.take k).length = k := by rw [List.length_take]; omega
 rw [cpL, List.set_append_right _ _ (by omega), l1, show j + k - j = k from by omega, List.set_append_right _ _ (by omega), l2, Nat.sub_self, List.drop_eq_getElem_cons (by omega : j + k < A.length), cpL, take_succ hk, List.append_assoc]
 rfl
theorem cpL_zero (A R : List Int) (j : Nat) : cpL A R j 0 = A := by
 rw [cpL, List.take_zero, List.nil_append, Nat.add_zero, List.take_append_drop]
def srS (S N M m j : Nat) (d A Qs : List Int) (e : List (Nat × AV)) : St :=
 { nt := 163, env := e ++ [(9, .v true (.int .i64 j)), (8, .own 62 0 M), (7, .v true (.int .i64 m)), (1, .v false (words d)), (0, .own 49 0 N), (6, .v true (.int .u64 S))],
   mem := [(62, .buf 91 1 true (Qs.map fun n => .int .u64 n)), (49, .buf 91 1 true (A.map fun n => .int .u64 n))] }
theorem sub_wrap (γ : Nat) (h : γ < 4294967296) (h0 : 0 < γ) : IntKind.u64.wrap ((γ : Int) - 1) = ((γ - 1 : Nat) : Int) := by rw [wrap_u64]; omega
theorem win_map (A : List Int) (j m : Nat) : List.take ((j : Int) + (m : Int) + 1 - (j : Int)).toNat (List.drop j (A.map fun n => V.int .u64 n)) = ((A.drop j).take (m + 1)).map fun n => V.int .u64 n := by
 rw [show ((j : Int) + (m : Int) + 1 - (j : Int)).toNat = m + 1 from by omega, List.map_take, List.map_drop]
def pB4 : List Nat := [1, 1, 1, 1, 1, 1, 1, 1, 1, 1, 0, 1, 0, 0, 1, 0, 0, 1, 1, 0]
def pB6 : List Nat := [1, 1, 1, 1, 1, 1, 1, 1, 1, 1, 0, 1, 0, 0, 1, 0, 0, 1, 1, 0, 0, 0, 0, 1, 0, 1, 1, 0, 0]
set_option maxHeartbeats 4000000 in
theorem copy_ok {cx : Cx} {w0 : World} {S N M m j : Nat} {d A Qs R : List Int} {γ : Nat} {N' : St → Prop} (lA : A.length = N) (lR : R.length = m + 1) (hj : j + m + 1 ≤ N) (hN : N < 10000) :
 Holds Tryz.prog none cx w0 (codeAt Tryz.f220 pB6) (srS S N M m j d A Qs [(13, .v true (words R)), (11, .v true (.int .u64 γ))])
  (NR (fun σ => ∀ a w, Rel cx w0 σ a w → Rel cx w0 (srS S N M m j d (cpL A R j (m + 1)) Qs [(11, .v true (.int .u64 γ))]) a w) N') := by
 unfold srS
 refine zs0 ?_
 refine Holds.loopB (fun k : Nat => { nt := 163, env := [(15, .v true (.int .i64 k)), (13, .v true (words R)), (11, .v true (.int .u64 γ)), (9, .v true (.int .i64 j)), (8, .own 62 0 M), (7, .v true (.int .i64 m)), (1, .v false (words d)), (0, .own 49 0 N), (6, .v true (.int .u64 S))], mem := [(62, .buf 91 1 true (Qs.map fun n => .int .u64 n)), (49, .buf 91 1 true ((cpL A R j k).map fun n => .int .u64 n))] }) (fun k => k ≤ m + 1) (fun k => m + 1 - k) 0 (Nat.zero_le _) (fun a w h => by
  have := Rel.keep [15, 13, 11, 9, 8, 7, 1, 0, 6] [62, 49] h
  rw [cpL_zero]
  exact this) ?_
 intro k hk
 by_cases hend : k = m + 1
 ·have g : ¬ (k : Int) ≤ m := by omega
  refine Holds.seq ?_
  refine zs1 g ?_
  refine Holds.condF rfl (Holds.exit ⟨rfl, fun a w h => ?_⟩)
  have := Rel.keep [11, 9, 8, 7, 1, 0, 6] [62, 49] h
  rw [hend] at this
  exact this
 ·have g : (k : Int) ≤ m := by omega
  have i1 : ((j : Int) + (k : Int)).toNat = j + k := by omega
  have gR := get_map (l := R) (i := k) (by omega)
  have lc : (cpL A R j k).length = N := by rw [cpL_len (by omega) (by omega), lA]
  have gC := get_map (l := cpL A R j k) (i := j + k) (by omega)
  have hs := cpL_succ (A := A) (R := R) (j := j) (k := k) (by omega) (by omega)
  obtain ⟨C, hC⟩ : ∃ C, C = cpL A R j k := ⟨_, rfl⟩
  rw [← hC] at lc gC hs ⊢
  refine Holds.seq ?_
  refine zs1 g ?_
  refine Holds.condT rfl (Holds.skip ?_)
  refine Holds.next (fun σ => ∀ a w, Rel cx w0 σ a w → Rel cx w0 { nt := 163, env := [(15, .v true (.int .i64 k)), (13, .v true (words R)), (11, .v true (.int .u64 γ)), (9, .v true (.int .i64 j)), (8, .own 62 0 M), (7, .v true (.int .i64 m)), (1, .v false (words d)), (0, .own 49 0 N), (6, .v true (.int .u64 S))], mem := [(62, .buf 91 1 true (Qs.map fun n => .int .u64 n)), (49, .buf 91 1 true ((cpL A R j (k + 1)).map fun n => .int .u64 n))] } a w) ?_ ?_
  ·refine Holds.blockN ?_
   refine zr1 (an i1 <| an gR <| an gC <| lc) ?_
   intro a w h
   have := Rel.keep [15, 13, 11, 9, 8, 7, 1, 0, 6] [62, 49] h
   rw [← hs, List.map_set]
   exact this
  ·intro σ hσ
   refine Holds.from hσ ?_
   refine zr0 ?_
   exact ⟨k + 1, (by show k + 1 ≤ m + 1; omega), (show m + 1 - (k + 1) < m + 1 - k by omega), fun a w h => Rel.keep [15, 13, 11, 9, 8, 7, 1, 0, 6] [62, 49] h⟩
set_option maxHeartbeats 4000000 in
theorem search_ok {cx : Cx} {w0 : World} {S N M m j : Nat} {d A Qs W : List Int} {wv γ0 : Nat} {N' : St → Prop} (lA : A.length = N) (hj : j + m + 1 ≤ N) (hN : N < 10000) (od : okH d) (hd : d.length = m) (hd0 : 0 < valH d)
 (hW : W = (A.drop j).take (m + 1)) (oW : okH W) (lW : W.length = m + 1) (hwv : valH W = wv) (hγ0 : wv / valH d ≤ γ0 ∧ γ0 < 4294967296) :
 Holds Tryz.prog none cx w0 (codeAt Tryz.f220 pB4) (srS S N M m j d A Qs [(11, .v true (.int .u64 γ0))])
  (NR (fun σ => ∀ a w, Rel cx w0 σ a w → Rel cx w0 (srS S N M m j d (cpL A (hdigs (wv % valH d) (m + 1)) j (m + 1)) Qs [(11, .v true (.int .u64 (wv / valH d : Nat)))]) a w) N') := by
 refine Holds.loopB (fun γ : Nat => srS S N M m j d A Qs [(11, .v true (.int .u64 γ))]) (fun γ => wv / valH d ≤ γ ∧ γ < 4294967296) (fun γ => γ - wv / valH d) γ0 hγ0 (fun a w h => h) ?_
 rintro γ ⟨hgγ, hγl⟩
 have oγ : okH [(γ : Int)] := by intro q hq; simp at hq; omega
 have hTp := Times_ok d [(γ : Int)] (by omega) (by simp) od oγ
 obtain ⟨p1, p2, p3⟩ := timesL_ok od oγ
 rw [show valH [(γ : Int)] = γ from by simp [valH]] at p3
 obtain ⟨P, hP⟩ : ∃ P, P = timesL d [(γ : Int)] := ⟨_, rfl⟩
 rw [← hP] at hTp p1 p2 p3
 have p2 : P.length = m + 1 := by rw [p2, hd]; rfl
 have hMn := Minus_ok W P (by omega) (by omega) oW p1
 have hbo := borrow_iff oW p1 (by omega)
 rw [hwv, p3] at hbo
 have hsub : valH d * γ ≤ wv → mnW 4294967296 (fun i => W.getD i 0) (fun i => P.getD i 0) W.length = hdigs (wv - valH d * γ) (m + 1) := fun hle => by
  obtain ⟨k1, k2⟩ := mnW_32 oW p1 (by omega) (by rw [p3, hwv]; exact hle)
  rw [p3, hwv] at k2
  exact hdigs_of k1 (by rw [mnW_len, lW]) k2
 obtain ⟨B, hB⟩ : ∃ B, B = mnC (fun i => W.getD i 0) (fun i => P.getD i 0) W.length := ⟨_, rfl⟩
 obtain ⟨X, hX⟩ : ∃ X, X = mnW 4294967296 (fun i => W.getD i 0) (fun i => P.getD i 0) W.length := ⟨_, rfl⟩
 rw [← hB] at hbo hMn
 rw [← hX] at hMn hsub
 have hwin := win_map A j m
 rw [← hW] at hwin
 have i4 : ((j : Int) + (m : Int) + 1).toNat = j + m + 1 := by omega
 have g0 : (0 : Int) ≤ (j : Int) := by omega
 have g1 : (j : Int) ≤ (j : Int) + (m : Int) + 1 := by omega
 have g2 : (j : Int) + (m : Int) + 1 ≤ (N : Int) := by omega
 clear hB hX hP oγ
 refine Holds.block ?_
 by_cases hbr : wv < valH d * γ
 ·rw [decide_eq_true (hbo.2 hbr)] at hMn
  have hγ1 : wv / valH d < γ := (Nat.div_lt_iff_lt_mul hd0).2 (by rw [Nat.mul_comm]; exact hbr)
  have wg := sub_wrap γ hγl (Nat.lt_of_le_of_lt (Nat.zero_le _) hγ1)
  clear hbo hsub p3
  unfold srS
  refine zs2 (ρ := fun _ => [.v true (words P)]) (o := by repeat' first|exact hTp|trivial|constructor) (k := ?_)
  refine Holds.seq ?_
  refine zs3 (ρ := fun _ => [.v true (words X), .v true (.bool true)]) (an i4 <| hwin) (o := by repeat' first|exact hMn|trivial|constructor) (k := ?_)
  refine zs0 ?_
  refine Holds.condF rfl (Holds.skip ?_)
  refine zr1 wg ?_
  exact ⟨γ - 1, ⟨by omega, by omega⟩, (show γ - 1 - wv / valH d < γ - wv / valH d by omega), fun a w h => Rel.keep [11, 9, 8, 7, 1, 0, 6] [62, 49] h⟩
 ·have hγ1 : γ = wv / valH d := by
   have := (Nat.le_div_iff_mul_le hd0).2 (show γ * valH d ≤ wv by rw [Nat.mul_comm]; omega)
   omega
  rw [decide_eq_false (fun h => hbr (hbo.1 h))] at hMn
  have hX := hsub (by omega)
  have hmod : wv - valH d * γ = wv % valH d := by
   rw [hγ1]
   have := Nat.div_add_mod wv (valH d)
   omega
  rw [hmod] at hX
  have lX : X.length = m + 1 := by rw [hX]; exact (hdigs_ok _ _).2
  clear hbo hsub p3 hmod
  unfold srS
  refine zs2 (ρ := fun _ => [.v true (words P)]) (o := by repeat' first|exact hTp|trivial|constructor) (k := ?_)
  refine Holds.seq ?_
  refine zs3 (ρ := fun _ => [.v true (words X), .v true (.bool false)]) (an i4 <| hwin) (o := by repeat' first|exact hMn|trivial|constructor) (k := ?_)
  refine zs0 ?_
  refine Holds.condT rfl ?_
  refine Holds.next (fun σ => ∀ a w, Rel cx w0 σ a w → Rel cx w0 (srS S N M m j d (cpL A X j (m + 1)) Qs [(11, .v true (.int .u64 γ))]) a w) ?_ ?_
  ·exact Holds.from (σ' := srS S N M m j d A Qs [(13, .v true (words X)), (11, .v true (.int .u64 γ))]) (fun a w h => Rel.keep [13, 11, 9, 8, 7, 1, 0, 6] [62, 49] h) (copy_ok lA lX hj hN)
  ·intro σ hσ
   refine Holds.exit ⟨rfl, fun a w h => ?_⟩
   have := hσ a w h
   rw [hX, hγ1] at this
   exact this
theorem valH_sdrop {l : List Int} {j : Nat} {g : Nat} (hj : j < l.length) : valH ((l.set j (g : Int)).drop j) = g + 4294967296 * valH (l.drop (j + 1)) := by
 rw [List.drop_set, if_neg (Nat.lt_irrefl _), Nat.sub_self, List.drop_eq_getElem_cons hj, List.set_cons_zero, valH, Int.toNat_natCast]
theorem okH_setN {l : List Int} (h : okH l) {i : Nat} {n : Int} (hn : 0 ≤ n ∧ n < 4294967296) : okH (l.set i n) := fun m hm => by
 rcases List.mem_or_eq_of_mem_set hm with h1 | rfl
 ·exact h m h1
 ·exact hn
structure DivI (d : List Int) (N M Z : Nat) (j : Nat) (A Qs : List Int) : Prop where
 le : j ≤ M
 oA : okH A
 lA : A.length = N
 oQ : okH Qs
 lQ : Qs.length = M
 all : valH A + valH d * (4294967296 ^ j * valH (Qs.drop j)) = Z
 up : valH (A.drop j) < valH d
theorem DivI.last {d : List Int} {N M Z : Nat} {A Qs : List Int} (h : DivI d N M Z 0 A Qs) (hd0 : 0 < valH d) : A = hdigs (Z % valH d) N ∧ Qs = hdigs (Z / valH d) M := by
 have h1 := h.all
 have h2 := h.up
 rw [List.drop_zero, Nat.pow_zero, Nat.one_mul] at h1
 rw [List.drop_zero] at h2
 exact ⟨hdigs_of h.oA h.lA (by rw [← h1, Nat.add_mul_mod_self_left, Nat.mod_eq_of_lt h2]), hdigs_of h.oQ h.lQ (by rw [← h1, Nat.add_mul_div_left _ _ hd0, Nat.div_eq_of_lt h2, Nat.zero_add])⟩
theorem nat_of {x : Int} (h : 0 ≤ x ∧ x < 4294967296) : ∃ a : Nat, x = a ∧ a < 4294967296 := ⟨x.toNat, by omega, by omega⟩
theorem DivI.step {d : List Int} {N M Z m n j : Nat} {A Qs : List Int} (h : DivI d N M Z (j + 1) A Qs) (hm : m = n + 1) (hn : 1 ≤ n) (hd : d.length = m) (hM : M = N - m) (od : okH d) (hd0 : 0 < valH d) (hdt : 2147483648 ≤ (d.getD n 0).toNat) :
 ∃ (a1 a2 dt γ0 q0 wv : Nat) (W : List Int), (a1 < 4294967296 ∧ a2 < 4294967296 ∧ 0 < dt) ∧ A[j + m]? = some (a1 : Int) ∧ A[j + n]? = some (a2 : Int) ∧ d[n]? = some (dt : Int) ∧ q0 = (a1 * 4294967296 + a2) / dt ∧ γ0 = min q0 4294967295 ∧
  W = (A.drop j).take (m + 1) ∧ okH W ∧ W.length = m + 1 ∧ valH W = wv ∧ wv / valH d ≤ γ0 ∧ wv / valH d < 4294967296 ∧ DivI d N M Z j (cpL A (hdigs (wv % valH d) (m + 1)) j (m + 1)) (Qs.set j ((wv / valH d : Nat) : Int)) := by
 have hj := h.le
 have lA := h.lA
 have lQ := h.lQ
 have hjm : j + d.length + 1 ≤ A.length := by omega
 have wn := win_ok h.oA od hjm (by omega) (by rw [show d.length - 1 = n from by omega]; exact Nat.lt_of_lt_of_le (by decide) hdt) h.up
 obtain ⟨W, hW⟩ : ∃ W, W = (A.drop j).take (d.length + 1) := ⟨_, rfl⟩
 rw [← hW] at wn
 obtain ⟨wv, hwv⟩ : ∃ wv, wv = valH W := ⟨_, rfl⟩
 rw [← hwv] at wn
 have wtop := wn.top
 rw [show d.length - 1 = n from by omega, show j + d.length - 1 = j + n from by omega, hd] at wtop
 have g1 := get_map (l := A) (i := j + m) (by omega)
 have g2 := get_map (l := A) (i := j + n) (by omega)
 have g3 := get_map (l := d) (i := n) (by omega)
 obtain ⟨a1, e1, b1⟩ := nat_of (okH_getD h.oA (j + m))
 obtain ⟨a2, e2, b2⟩ := nat_of (okH_getD h.oA (j + n))
 obtain ⟨dt, e3, b3⟩ := nat_of (okH_getD od n)
 rw [e1] at g1
 rw [e2] at g2
 rw [e3] at g3 hdt
 rw [e1, e2, e3] at wtop
 rw [Int.toNat_natCast] at hdt
 rw [Int.toNat_natCast, Int.toNat_natCast, Int.toNat_natCast] at wtop
 clear e1 e2 e3
 have hg32 : wv / valH d < 4294967296 := (Nat.div_lt_iff_lt_mul hd0).2 (by have := wn.lt; rw [Nat.mul_comm] at this; exact this)
 have hR := hdigs_ok (m + 1) (wv % valH d)
 have hmod : wv % valH d = wv - wv / valH d * valH d := by
  have h1 := Nat.div_add_mod wv (valH d)
  rw [Nat.mul_comm] at h1
  exact (Nat.sub_eq_of_eq_add (by rw [Nat.add_comm]; exact h1.symm)).symm
 have hvR : valH (hdigs (wv % valH d) (m + 1)) = wv % valH d := by
  refine hdigs_eq ?_
  have h1 := valH_lt od
  rw [hd] at h1
  have h2 : 4294967296 ^ m ≤ 4294967296 ^ (m + 1) := Nat.pow_le_pow_right (by decide) (by omega)
  have h3 := Nat.mod_lt wv hd0
  omega
 obtain ⟨k1, k2, k3, k4⟩ := win_next wn rfl h.oA hjm hR.1 (by rw [hR.2, hd]) (by rw [hvR, hmod]) hd0
 have hcp : cpL A (hdigs (wv % valH d) (m + 1)) j (m + 1) = A.take j ++ (hdigs (wv % valH d) (m + 1) ++ A.drop (j + d.length + 1)) := by
  have ht : (hdigs (wv % valH d) (m + 1)).take (m + 1) = hdigs (wv % valH d) (m + 1) := List.take_of_length_le (by rw [hR.2]; exact Nat.le_refl _)
  rw [cpL, ht, hd, Nat.add_assoc]
 obtain ⟨q0, hq0⟩ : ∃ q0, q0 = (a1 * 4294967296 + a2) / dt := ⟨_, rfl⟩
 rw [← hq0] at wtop
 have hle : wv / valH d ≤ min q0 4294967295 := Nat.le_min.2 ⟨wtop, Nat.le_of_lt_succ hg32⟩
 refine ⟨a1, a2, dt, min q0 4294967295, q0, wv, W, ⟨b1, b2, Nat.lt_of_lt_of_le (by decide) hdt⟩, g1, g2, g3, hq0, rfl, by rw [hW, hd], wn.ok, by rw [wn.len, hd], hwv.symm, hle, hg32, ?_⟩
 clear hle wtop hq0 g1 g2 g3 b1 b2 b3 hdt wn hW hwv
 rw [hcp]
 refine ⟨Nat.le_of_succ_le hj, k1, by rw [k2, lA], okH_setN h.oQ ⟨Int.natCast_nonneg _, Int.ofNat_lt.2 hg32⟩, by rw [List.length_set, lQ], ?_, k3⟩
 rw [valH_sdrop (by rw [lQ]; exact hj)]
 have h1 := h.all
 obtain ⟨X, hX⟩ : ∃ X, X = valH (Qs.drop (j + 1)) := ⟨_, rfl⟩
 obtain ⟨g, hg⟩ : ∃ g, g = wv / valH d := ⟨_, rfl⟩
 rw [← hX] at h1 ⊢
 rw [← hg] at k4 ⊢
 rw [Nat.pow_succ] at h1
 rw [Nat.mul_add, Nat.mul_add, ← Nat.add_assoc, k4, ← h1, Nat.mul_assoc]
def pB2 : List Nat := [1, 1, 1, 1, 1, 1, 1, 1, 1, 1, 0]
def dvS (S N M m : Nat) (d A Qs : List Int) (e : List (Nat × AV)) : St :=
 { nt := 163, env := e ++ [(8, .own 62 0 M), (7, .v true (.int .i64 m)), (1, .v false (words d)), (0, .own 49 0 N), (6, .v true (.int .u64 S))],
   mem := [(62, .buf 91 1 true (Qs.map fun n => .int .u64 n)), (49, .buf 91 1 true (A.map fun n => .int .u64 n))] }
set_option maxHeartbeats 4000000 in
theorem places_ok {cx : Cx} {w0 : World} {S N M m n Z : Nat} {d A Qs : List Int} {N' : St → Prop} (hm : m = n + 1) (hn : 1 ≤ n) (hN : N < 10000) (hd : d.length = m) (hM : M = N - m) (hml : m < 10000) (od : okH d) (hd0 : 0 < valH d) (hdt : 2147483648 ≤ (d.getD n 0).toNat)
 (h0 : DivI d N M Z M A Qs) :
 Holds Tryz.prog none cx w0 (codeAt Tryz.f220 pB2) (dvS S N M m d A Qs [])
  (NR (fun σ => ∀ a w, Rel cx w0 σ a w → Rel cx w0 (dvS S N M m d (hdigs (Z % valH d) N) (hdigs (Z / valH d) M) []) a w) N') := by
 obtain ⟨δ, hδ⟩ : ∃ δ, δ = m - N := ⟨_, rfl⟩
 have eN : ((N : Int) - (m : Int) - 1) = (M : Int) - 1 - (δ : Int) := by omega
 unfold dvS
 refine zs1 eN ?_
 refine Holds.loopB (fun s : Nat × List Int × List Int => dvS S N M m d s.2.1 s.2.2 [(9, .v true (.int .i64 ((s.1 : Int) - 1 - (δ : Int))))]) (fun s => DivI d N M Z s.1 s.2.1 s.2.2) (fun s => s.1) (M, A, Qs) h0 (fun a w h => Rel.keep [9, 8, 7, 1, 0, 6] [62, 49] h) ?_
 rintro ⟨j, A, Qs⟩ hI
 simp only at hI ⊢
 rcases j with _ | j
 ·have e9 : (((0 : Nat) : Int) - 1 - (δ : Int)) = -1 - (δ : Int) := by omega
  have g9 : ¬ (0 : Int) ≤ -1 - (δ : Int) := by omega
  obtain ⟨e1, e2⟩ := hI.last hd0
  rw [e9]
  unfold dvS
  refine Holds.seq ?_
  refine zs1 g9 ?_
  refine Holds.condF rfl (Holds.exit ⟨rfl, fun a w h => ?_⟩)
  have := Rel.keep [8, 7, 1, 0, 6] [62, 49] h
  rw [e1, e2] at this
  exact this
 ·have hj := hI.le
  have hδ0 : δ = 0 := by omega
  subst hδ0
  have e9 : (((j + 1 : Nat) : Int) - 1 - ((0 : Nat) : Int)) = (j : Int) := by omega
  have g9 : (0 : Int) ≤ (j : Int) := by omega
  rw [e9]
  obtain ⟨a1, a2, dt, γ0, q0, wv, W, ⟨a1l, a2l, dt0⟩, gA1, gA2, gd, hq0, hγ0, hW, oW, lW, hwv, hle, hg32, hnext⟩ := hI.step hm hn hd hM od hd0 hdt
  have lA := hI.lA
  have lQ := hI.lQ
  obtain ⟨T0, hT0⟩ : ∃ T0, T0 = a1 * 4294967296 + a2 := ⟨_, rfl⟩
  rw [← hT0] at hq0
  have w1 : IntKind.u64.wrap ((a1 : Int) * 4294967296) = ((a1 * 4294967296 : Nat) : Int) := by rw [wrap_u64]; omega
  have w2 : IntKind.u64.wrap (((a1 * 4294967296 : Nat) : Int) + (a2 : Int)) = (T0 : Int) := by rw [wrap_u64]; omega
  have i1 : ((j : Int) + (m : Int)).toNat = j + m := by omega
  have i2 : ((j : Int) + (m : Int) - 1).toNat = j + n := by omega
  have i3 : ((m : Int) - 1).toNat = n := by omega
  have hTd := quoN T0 dt
  have w3 : IntKind.u64.wrap ((T0 / dt : Nat) : Int) = ((T0 / dt : Nat) : Int) := wrapN _ (Nat.lt_of_le_of_lt (Nat.div_le_self _ _) (by omega))
  have hdt0 : ¬ (dt : Int) = 0 := by omega
  rw [← hq0] at hTd w3
  have hmin : (if (4294967295 : Int) < (q0 : Int) then (4294967295 : Int) else (q0 : Int)) = (γ0 : Int) := by split <;> omega
  have hjN : j + m + 1 ≤ N := by omega
  have hjM : j < M := by omega
  have hγl : γ0 < 4294967296 := by omega
  obtain ⟨g, hg⟩ : ∃ g, g = wv / valH d := ⟨_, rfl⟩
  obtain ⟨A', hA'⟩ : ∃ A', A' = cpL A (hdigs (wv % valH d) (m + 1)) j (m + 1) := ⟨_, rfl⟩
  have hSr := fun {N'} => search_ok (cx := cx) (w0 := w0) (S := S) (M := M) (Qs := Qs) (N' := N') lA hjN hN od hd hd0 hW oW lW hwv ⟨hle, hγl⟩
  rw [← hA', ← hg] at hnext hSr
  rw [← hg] at hg32
  clear hI hW oW lW hwv hle hA' hg hq0 hT0 hδ hγ0 hdt h0
  unfold dvS
  refine Holds.seq ?_
  refine zs1 g9 ?_
  refine Holds.condT rfl (Holds.skip ?_)
  refine Holds.next (fun σ => ∀ a w, Rel cx w0 σ a w → Rel cx w0 (dvS S N M m d A' (Qs.set j (g : Int)) [(9, .v true (.int .i64 j))]) a w) ?_ ?_
  ·refine Holds.blockN ?_
   refine zd1 [] (an i1 <| an i2 <| an gA1 <| an gA2 <| an w1 <| w2) ?_
   refine zs1 (an i3 <| an gd <| an hdt0 <| an hTd <| an w3 <| hmin) ?_
   refine Holds.next (fun σ => ∀ a w, Rel cx w0 σ a w → Rel cx w0 (srS S N M m j d A' Qs [(11, .v true (.int .u64 (g : Nat)))]) a w) ?_ ?_
   ·exact Holds.from (σ' := srS S N M m j d A Qs [(11, .v true (.int .u64 γ0))]) (fun a w h => Rel.keep [11, 9, 8, 7, 1, 0, 6] [62, 49] h) hSr
   ·intro σ hσ
    refine Holds.from hσ ?_
    have gQ := get_map (l := Qs) (i := j) (by omega)
    unfold srS
    refine zr1 (an gQ <| lQ) ?_
    intro a w h
    have := Rel.keep [9, 8, 7, 1, 0, 6] [62, 49] h
    unfold dvS
    rw [List.map_set]
    exact this
  ·intro σ hσ
   refine Holds.from hσ ?_
   unfold dvS
   refine zr0 ?_
   refine ⟨(j, A', Qs.set j (g : Int)), hnext, (show j < j + 1 by omega), fun a w h => ?_⟩
   have := Rel.keep [9, 8, 7, 1, 0, 6] [62, 49] h
   rw [show ((j : Int) - 1) = (j : Int) - 1 - ((0 : Nat) : Int) from by omega] at this
   exact this
theorem two_wrap (s : Nat) (h : s < 4294967296) : IntKind.u64.wrap (2 * (s : Int)) = ((2 * s : Nat) : Int) := by rw [wrap_u64]; omega
set_option maxHeartbeats 2000000 in
theorem scale_ok {cx : Cx} {w0 : World} {x b : List Int} {n bt k0 S : Nat} {N' : St → Prop} (hn : b.length = n + 1) (hnl : n < 10000) (gb : b[n]? = some (bt : Int)) (hbt1 : bt < 4294967296) (hk0 : k0 < 32) (hn1 : 2147483648 ≤ bt * 2 ^ k0) (hn2 : bt * 2 ^ k0 < 4294967296) (hSe : S = 2 ^ k0) :
 Holds Tryz.prog none cx w0 (codeAt Tryz.f220 [1, 1, 1, 1, 0]) { nt := 163, env := [(6, .v true (.int .u64 (1 : Nat))), (0, .v false (words x)), (1, .v false (words b))], mem := [] }
  (NR (fun σ => ∀ a w, Rel cx w0 σ a w → Rel cx w0 { nt := 163, env := [(6, .v true (.int .u64 S)), (0, .v false (words x)), (1, .v false (words b))], mem := [] } a w) N') := by
 refine Holds.loopB (fun k : Nat => { nt := 163, env := [(6, .v true (.int .u64 (2 ^ k : Nat))), (0, .v false (words x)), (1, .v false (words b))], mem := [] }) (fun k => k ≤ k0) (fun k => k0 - k) 0 (Nat.zero_le _) (fun a w h => Rel.keep [6, 0, 1] [] h) ?_
 intro k hk
 obtain ⟨s, hs⟩ : ∃ s, s = 2 ^ k := ⟨_, rfl⟩
 have hs32 : s < 4294967296 := by rw [hs]; exact Nat.lt_of_lt_of_le (Nat.pow_lt_pow_right (by decide) (show k < 32 by omega)) (by decide)
 have hm64 : bt * s < 18446744073709551616 := by
  have := Nat.mul_le_mul (show bt ≤ 4294967295 by omega) (show s ≤ 4294967295 by omega); omega
 obtain ⟨p, hp⟩ : ∃ p, p = bt * s := ⟨_, rfl⟩
 have w1 : IntKind.u64.wrap ((bt : Int) * (s : Int)) = (p : Int) := by
  rw [← Int.natCast_mul, hp]; exact wrapN _ hm64
 have w2 := two_wrap s hs32
 have e1 : (((n + 1 : Nat) : Int) - 1) = (n : Int) := by omega
 rw [← hs]
 by_cases hend : k = k0
 ·have g2 : ¬ (p : Int) < 2147483648 := by
   have : 2147483648 ≤ p := by rw [hp, hs, hend]; exact hn1
   omega
  refine Holds.seq ?_
  refine zs1 (an hn <| an e1 <| an gb <| an w1 <| g2) ?_
  refine Holds.condF rfl (Holds.exit ⟨rfl, fun a w h => ?_⟩)
  have := Rel.keep [6, 0, 1] [] h
  rw [hSe, ← hend, ← hs]
  exact this
 ·have hlt := norm_more (show k < k0 by omega) hn2
  rw [← hs, ← hp] at hlt
  have g2 : (p : Int) < 2147483648 := by omega
  refine Holds.seq ?_
  refine zs1 (an hn <| an e1 <| an gb <| an w1 <| g2) ?_
  refine Holds.condT rfl (Holds.skip ?_)
  refine Holds.block ?_
  refine zr1 w2 ?_
  refine ⟨k + 1, (by show k + 1 ≤ k0; omega), (show k0 - (k + 1) < k0 - k by omega), fun a w h => ?_⟩
  have := Rel.keep [6, 0, 1] [] h
  show Rel cx w0 { nt := 163, env := [(6, .v true (.int .u64 ((2 ^ (k + 1) : Nat) : Int))), (0, .v false (words x)), (1, .v false (words b))], mem := [] } a w
  rw [Nat.pow_succ, ← hs, Nat.mul_comm]
  exact this
set_option maxHeartbeats 2000000 in
theorem down_ok {cx : Cx} {w0 : World} {x Q : List Int} {k M : Nat} {N' : St → Prop} (hx : x.length < 1000000) (ox : okH x) (hk : 0 < k) (hk2 : k < 4294967296) (hl : Q.length = M) :
 Holds Tryz.prog none cx w0 (codeAt Tryz.f220 [1, 1, 1, 1, 1, 1, 1, 1, 1, 1, 1, 1, 1, 1, 0]) { nt := 163, env := [(18, .v true (.int .u64 (0 : Nat))), (17, .own 137 0 x.length), (16, .v false (words x)), (6, .v true (.int .u64 k)), (8, .own 62 0 M)], mem := [(62, .buf 91 1 true (Q.map fun n => .int .u64 n)), (137, .buf 91 1 true (List.replicate x.length (.int .u64 0)))] }
  (NR (fun σ => ∀ a w, Rel cx w0 σ a w → Rel cx w0 { nt := 163, env := [(18, .v true (.int .u64 (dvH k x).2)), (17, .own 137 0 x.length), (8, .own 62 0 M)], mem := [(62, .buf 91 1 true (Q.map fun n => .int .u64 n)), (137, .buf 91 1 true ((dvH k x).1.map fun n => .int .u64 n))] } a w) N') := by
 have hk0 : ¬ (k : Int) = 0 := by omega
 refine zs0 ?_
 refine Holds.loopB (fun j : Nat => { nt := 163, env := [(19, .v true (.int .i64 ((j : Int) - 1))), (18, .v true (.int .u64 (dvH k (x.drop j)).2)), (17, .own 137 0 x.length), (16, .v false (words x)), (6, .v true (.int .u64 k)), (8, .own 62 0 M)], mem := [(62, .buf 91 1 true (Q.map fun n => .int .u64 n)), (137, .buf 91 1 true ((List.replicate j 0 ++ (dvH k (x.drop j)).1).map fun n => .int .u64 n))] }) (fun j => j ≤ x.length) id x.length (Nat.le_refl _) (fun a w h => by
  have := Rel.keep [19, 18, 17, 16, 6, 8] [62, 137] h
  rw [List.drop_length]
  show Rel _ _ { nt := 163, env := _, mem := [(62, .buf 91 1 true (Q.map fun n => .int .u64 n)), (137, .buf 91 1 true ((List.replicate x.length (0 : Int) ++ []).map fun n => .int .u64 n))] } _ _
  rw [List.append_nil, List.map_replicate]
  exact this) ?_
 intro j hj
 rcases j with _ | j
 ·refine Holds.seq ?_
  refine zs0 ?_
  refine Holds.condF rfl (Holds.exit ⟨rfl, fun a w h => ?_⟩)
  exact Rel.keep [18, 17, 8] [62, 137] h
 ·have hjx : j < x.length := by omega
  have gx := get_map hjx
  have hx0 := okH_getD ox j
  have ho : okH (x.drop (j + 1)) := fun n hn => ox n (List.mem_of_mem_drop hn)
  obtain ⟨r1, r2, r3, _⟩ := dvH_ok hk ho
  have hd := dvH_drop (k := k) hjx
  obtain ⟨s, hs⟩ : ∃ s, s = (dvH k (x.drop (j + 1))).2 := ⟨_, rfl⟩
  obtain ⟨W, hW⟩ : ∃ W, W = (dvH k (x.drop (j + 1))).1 := ⟨_, rfl⟩
  rw [← hs] at r1 hd
  rw [← hW] at r3 hd
  rw [← hs, ← hW]
  obtain ⟨d, hdd⟩ : ∃ d : Nat, d = (x.getD j 0).toNat := ⟨_, rfl⟩
  rw [← hdd] at hd
  rw [show x.getD j 0 = (d : Int) from by omega] at gx
  obtain ⟨t, ht⟩ : ∃ t, t = s * 4294967296 + d := ⟨_, rfl⟩
  rw [← ht] at hd
  have ht64 : t < 18446744073709551616 := by omega
  have w1 : IntKind.u64.wrap ((s : Int) * 4294967296) = ((s * 4294967296 : Nat) : Int) := by rw [wrap_u64]; omega
  have w2 : IntKind.u64.wrap (((s * 4294967296 : Nat) : Int) + (d : Int)) = (t : Int) := by rw [wrap_u64]; omega
  have w3 := quoN t k
  have w4 : IntKind.u64.wrap ((t / k : Nat) : Int) = ((t / k : Nat) : Int) := wrapN _ (Nat.lt_of_le_of_lt (Nat.div_le_self _ _) ht64)
  have w5 := remN t k
  obtain ⟨q, hq⟩ : ∃ q, q = t / k := ⟨_, rfl⟩
  obtain ⟨r, hr⟩ : ∃ r, r = t % k := ⟨_, rfl⟩
  rw [← hq, ← hr] at hd
  rw [← hq] at w3 w4
  rw [← hr] at w5
  rw [List.length_drop] at r3
  have hLl : (List.replicate (j + 1) (0 : Int) ++ W).length = x.length := by rw [List.length_append, List.length_replicate, r3]; omega
  have eset : (List.replicate (j + 1) (0 : Int) ++ W).set j (q : Int) = List.replicate j 0 ++ (q : Int) :: W := by
   rw [show List.replicate (j + 1) (0 : Int) = List.replicate j 0 ++ [0] from by rw [List.replicate_succ'], List.append_assoc, List.set_append_right _ _ (by rw [List.length_replicate]; exact Nat.le_refl _), List.length_replicate, Nat.sub_self]
   rfl
  obtain ⟨Lw, hL⟩ : ∃ Lw, Lw = List.replicate (j + 1) (0 : Int) ++ W := ⟨_, rfl⟩
  rw [← hL] at hLl eset ⊢
  have gL := get_map (l := Lw) (i := j) (by omega)
  refine Holds.seq ?_
  refine zs0 ?_
  refine Holds.condT rfl (Holds.skip ?_)
  refine Holds.next (fun σ => ∀ a w, Rel cx w0 σ a w → Rel cx w0 { nt := 163, env := [(19, .v true (.int .i64 (j : Int))), (18, .v true (.int .u64 r)), (17, .own 137 0 x.length), (16, .v false (words x)), (6, .v true (.int .u64 k)), (8, .own 62 0 M)], mem := [(62, .buf 91 1 true (Q.map fun n => .int .u64 n)), (137, .buf 91 1 true ((Lw.set j (q : Int)).map fun n => .int .u64 n))] } a w) ?_ ?_
  ·refine Holds.blockN ?_
   refine zs1 (an gx <| an w1 <| w2) ?_
   refine zs1 (an hk0 <| an w3 <| an w4 <| an gL <| hLl) ?_
   refine zr1 (an hk0 <| w5) ?_
   intro a w h
   have := Rel.keep [19, 18, 17, 16, 6, 8] [62, 137] h
   rw [List.map_set]
   exact this
  ·intro σ hσ
   refine Holds.from hσ ?_
   refine zr0 ?_
   refine ⟨j, (by show j ≤ x.length; omega), (show j < j + 1 by omega), fun a w h => ?_⟩
   have := Rel.keep [19, 18, 17, 16, 6, 8] [62, 137] h
   rw [eset] at this
   simp only [hd]
   exact this
set_option maxHeartbeats 8000000 in
theorem DivideN_ok (x y : List Int) (hx : x.length ≤ 2000) (hy : y.length ≤ 2000) (ox : okH x) (oy : okH y) (h2 : 2 ≤ (trimL y).length) :
 ∃ Q R, okH Q ∧ okH R ∧ Q.length ≤ 2002 ∧ R.length ≤ 2002 ∧ valH Q = valH x / valH y ∧ valH R = valH x % valH y ∧ FnOk Tryz.prog 220 [.v (words x), .v (words y)] [.v true (words Q), .v true (words R)] := by
 have hS := Short_ok y (by omega)
 have hyl := trimL_len y
 have hvy := valH_trim y
 have hnz := trimL_last y
 have ot := trimL_okH oy
 obtain ⟨b, hb⟩ : ∃ b, b = trimL y := ⟨_, rfl⟩
 rw [← hb] at hS hyl hvy hnz ot h2
 clear hb
 obtain ⟨n, hn⟩ : ∃ n, b.length = n + 1 := ⟨b.length - 1, by omega⟩
 obtain ⟨bt, hbt⟩ : ∃ bt : Nat, (bt : Int) = b.getD n 0 := ⟨(b.getD n 0).toNat, by have := okH_getD ot n; omega⟩
 have hbt1 : bt < 4294967296 := by have := okH_getD ot n; omega
 have hbt0 : 0 < bt := by
  rcases hnz with h | ⟨t, z, h, hz⟩
  ·rw [h] at h2; simp at h2
  ·have hl : t.length = n := by rw [h, List.length_append] at hn; simpa using hn
   have : b.getD n 0 = z := by rw [h, ← hl]; simp [List.getD_eq_getElem?_getD]
   omega
 obtain ⟨k0, hk0, hn1, hn2⟩ := norm32 hbt1 hbt0
 obtain ⟨S, hSe⟩ : ∃ S, S = 2 ^ k0 := ⟨_, rfl⟩
 have hS0 : 0 < S := by rw [hSe]; exact Nat.pow_pos (by decide)
 have hS1 : S < 4294967296 := by rw [hSe]; exact Nat.lt_of_lt_of_le (Nat.pow_lt_pow_right (by decide) hk0) (by decide)
 have oS : okH [(S : Int)] := by intro m hm; simp at hm; omega
 have vS : valH [(S : Int)] = S := by simp [valH]
 have hTb := Times_ok b [(S : Int)] (by omega) (by simp) ot oS
 obtain ⟨tb1, tb2, tb3⟩ := timesL_ok ot oS
 have vb : valH b = valH (b.take n) + 4294967296 ^ n * bt := by
  have := valH_takeS (l := b) n
  rw [← hn, List.take_length, ← hbt] at this
  exact this
 have vbl := valH_lt (okH_take ot n)
 rw [List.length_take, Nat.min_eq_left (by omega)] at vbl
 rw [vS] at tb3
 obtain ⟨hs1, hs2⟩ := shape_ok (n := n) tb1 (by
  rw [tb3, vb]
  have := Nat.mul_le_mul_left (4294967296 ^ n) hn1
  rw [← hSe, ← Nat.mul_assoc] at this
  rw [Nat.add_mul]; omega) (by
  rw [tb3, vb, Nat.pow_succ]
  have h3 : (bt + 1) * S ≤ 4294967296 := by
   rw [hSe]
   have h4 : 2 ^ (32 - k0) * 2 ^ k0 = 4294967296 := by rw [← Nat.pow_add, show 32 - k0 + k0 = 32 from by omega]
   have h5 : bt < 2 ^ (32 - k0) := by
    rcases Nat.lt_or_ge bt (2 ^ (32 - k0)) with h | h
    ·exact h
    ·have := Nat.mul_le_mul_right (2 ^ k0) h
     omega
   have := Nat.mul_le_mul_right (2 ^ k0) (Nat.succ_le_of_lt h5)
   rw [h4] at this
   exact this
  have h6 : (valH (b.take n) + 4294967296 ^ n * bt) < 4294967296 ^ n * (bt + 1) := by rw [Nat.mul_add, Nat.mul_one]; omega
  have h7 := (Nat.mul_lt_mul_right hS0).2 h6
  have h8 := Nat.mul_le_mul_left (4294967296 ^ n) h3
  rw [← Nat.mul_assoc] at h8
  omega)
 have hSb := Short_ok (timesL b [(S : Int)]) (by rw [tb2]; simp; omega)
 have od := trimL_okH tb1
 have vd := valH_trim (timesL b [(S : Int)])
 rw [tb3] at vd
 obtain ⟨tb, htb⟩ : ∃ tb, tb = timesL b [(S : Int)] := ⟨_, rfl⟩
 rw [← htb] at hTb hSb hs1 hs2 od vd
 obtain ⟨d, hd⟩ : ∃ d, d = trimL tb := ⟨_, rfl⟩
 rw [← hd] at hSb hs1 hs2 od vd
 have hTa := TimesO_ok x [(S : Int)] (by omega) (by simp) ox oS 500
 obtain ⟨ta1, ta2, ta3⟩ := timesL_ok ox oS
 rw [vS] at ta3
 obtain ⟨ta, hta⟩ : ∃ ta, ta = timesL x [(S : Int)] := ⟨_, rfl⟩
 rw [← hta] at hTa ta1 ta2 ta3
 have ta2 : ta.length = x.length + 1 := ta2
 have hd0 : 0 < valH d := by
  have : 0 < valH b := by
   rw [vb]
   have := Nat.mul_le_mul_left (4294967296 ^ n) hbt0
   have hp : 0 < 4294967296 ^ n := Nat.pow_pos (by decide)
   omega
  rw [vd]; exact Nat.mul_pos this hS0
 obtain ⟨N, hN⟩ : ∃ N, N = x.length + 2 := ⟨_, rfl⟩
 obtain ⟨M, hM⟩ : ∃ M, M = N - (n + 1) := ⟨_, rfl⟩
 obtain ⟨Z, hV⟩ : ∃ Z, Z = valH x * S := ⟨_, rfl⟩
 have hr : valH x % valH y * S = Z % valH d := by rw [vd, hV, hvy, Nat.mul_mod_mul_right]
 have hq : valH x / valH y = Z / valH d := by rw [vd, hV, hvy, Nat.mul_div_mul_right _ _ hS0]
 have hyp : 0 < valH y := by
  rcases Nat.eq_zero_or_pos (valH y) with h | h
  ·rw [← hvy] at h; rw [h, Nat.zero_mul] at vd; omega
  ·exact h
 have hVlt : Z < 4294967296 ^ (x.length + 1) := by rw [hV, ← ta3, ← ta2]; exact valH_lt ta1
 have hdge : 4294967296 ^ n ≤ valH d := by
  have h3 := valH_takeS (l := d) n
  rw [← hs1, List.take_length] at h3
  have h4 := Nat.mul_le_mul_left (4294967296 ^ n) (show 1 ≤ (d.getD n 0).toNat by omega)
  omega
 have hQlt : Z / valH d < 4294967296 ^ M := by
  refine (Nat.div_lt_iff_lt_mul hd0).2 (Nat.lt_of_lt_of_le hVlt ?_)
  have h3 : 4294967296 ^ (x.length + 1) ≤ 4294967296 ^ (M + n) := Nat.pow_le_pow_right (by decide) (by omega)
  rw [Nat.pow_add _ M n] at h3
  exact Nat.le_trans h3 (Nat.mul_le_mul_left _ hdge)
 have hAlt : Z % valH d < 4294967296 ^ N := Nat.lt_of_le_of_lt (Nat.mod_le _ _) (Nat.lt_of_lt_of_le hVlt (Nat.pow_le_pow_right (by decide) (by omega)))
 obtain ⟨A1, hA1⟩ : ∃ A1, A1 = hdigs (Z % valH d) N := ⟨_, rfl⟩
 obtain ⟨Q, hQ⟩ : ∃ Q, Q = hdigs (Z / valH d) M := ⟨_, rfl⟩
 have oA1 : okH A1 := by rw [hA1]; exact (hdigs_ok _ _).1
 have lA1 : A1.length = N := by rw [hA1]; exact (hdigs_ok _ _).2
 have vA1 : valH A1 = Z % valH d := by rw [hA1]; exact hdigs_eq hAlt
 have hSA := Short_ok A1 (by omega)
 have oT := trimL_okH oA1
 have lT := trimL_len A1
 have vT := valH_trim A1
 obtain ⟨T, hT⟩ : ∃ T, T = trimL A1 := ⟨_, rfl⟩
 rw [← hT] at hSA oT lT vT
 obtain ⟨r1, r2, r3, _⟩ := dvH_ok hS0 oT
 obtain ⟨rv1, rv2⟩ := dvH_val hS0 oT
 refine ⟨Q, (dvH S T).1, by rw [hQ]; exact (hdigs_ok _ _).1, r2, by rw [hQ, (hdigs_ok _ _).2]; omega, by omega, by rw [hQ, hdigs_eq hQlt, hq], by rw [rv1, vT, vA1, ← hr, Nat.mul_div_cancel _ hS0], ?_⟩
 have lQ : Q.length = M := by rw [hQ]; exact (hdigs_ok _ _).2
 refine FnOk.of Tryz.func220 rfl rfl fun cx w0 => ?_
 rw [show Tryz.f220.ntmps = 163 from rfl]
 have g1 : ¬ (b.length : Int) = 1 := by omega
 refine zs0 ?_
 refine zs2 (ρ := fun _ => [.v false (words b)]) (o := by repeat' first|exact hS|trivial|constructor) (k := ?_)
 refine Holds.seq ?_
 refine zs1 g1 ?_
 refine Holds.condF rfl (Holds.skip ?_)
 refine Holds.from (σ' := { nt := 163, env := [(0, .v false (words x)), (1, .v false (words b))], mem := [] }) (fun a w h => Rel.keep [0, 1] [] h) ?_
 refine zs0 ?_
 have gb : b[n]? = some (bt : Int) := by rw [get_map (by omega), ← hbt]
 refine Holds.next (fun σ => ∀ a w, Rel cx w0 σ a w → Rel cx w0 { nt := 163, env := [(6, .v true (.int .u64 S)), (0, .v false (words x)), (1, .v false (words b))], mem := [] } a w) (Holds.from (fun a w h => Rel.keep [6, 0, 1] [] h) (scale_ok hn (by omega) gb hbt1 hk0 hn1 hn2 hSe)) ?_
 intro σ hσ
 refine Holds.from hσ ?_
 clear hσ
 refine zs2 (ρ := fun _ => [.own 500 91 1 true (ta.map fun n => .int .u64 n)]) (o := by repeat' first|exact hTa|trivial|constructor) (k := ?_)
 refine zs1 ta2 ?_
 refine zs2 (ρ := fun q => if q = 53 then [.v true (words tb)] else [.v false (words d)]) (o := by repeat' first|exact hTb|exact hSb|trivial|constructor) (k := ?_)
 refine zs0 ?_
 obtain ⟨m, hm⟩ : ∃ m, m = n + 1 := ⟨_, rfl⟩
 rw [← hm] at hs1 hM
 refine Holds.from (σ' := { nt := 163, env := [(7, .v true (.int .i64 m)), (1, .v false (words d)), (0, .own 49 0 N), (6, .v true (.int .u64 S))], mem := [(49, .buf 91 1 true ((ta ++ [0]).map fun n => .int .u64 n))] }) (fun a w h => by
  have := Rel.keep [7, 1, 0, 6] [49] h
  rw [hs1] at this
  rw [List.map_append, hN]
  exact this) ?_
 have hMi : (if (0 : Int) < (N : Int) - (m : Int) then (N : Int) - (m : Int) else 0) = (M : Int) := by split <;> omega
 have hoA : okH (ta ++ [0]) := fun q hq => by
  rcases List.mem_append.1 hq with hq | hq
  ·exact ta1 q hq
  ·simp at hq; omega
 have hvA : valH (ta ++ [0]) = Z := by rw [valH_append, ta3, hV]; simp [valH]
 have hlA : (ta ++ [0]).length = N := by rw [List.length_append, ta2, hN]; rfl
 have hI0 : DivI d N M Z M (ta ++ [0]) (List.replicate M 0) := by
  refine ⟨Nat.le_refl _, hoA, hlA, (fun q hq => by rw [List.mem_replicate] at hq; omega), List.length_replicate, by rw [List.drop_of_length_le (by simp), valH, Nat.mul_zero, Nat.mul_zero, Nat.add_zero]; exact hvA, ?_⟩
  have e : (ta ++ [(0 : Int)]).drop M = ta.drop M ++ [0] := List.drop_append_of_le_length (by omega)
  rw [e, valH_append, show valH [(0 : Int)] = 0 from rfl, Nat.mul_zero, Nat.add_zero]
  have h3 := valH_lt (okH_drop ta1 M)
  rw [List.length_drop] at h3
  have h4 : 4294967296 ^ (ta.length - M) ≤ 4294967296 ^ n := Nat.pow_le_pow_right (by decide) (by omega)
  omega
 have hP := fun {N'} => places_ok (cx := cx) (w0 := w0) (S := S) (N' := N') hm (by omega) (by omega) hs1 hM (by omega) od hd0 hs2 hI0
 rw [← hA1, ← hQ] at hP
 clear hI0 hvA hoA hQlt hAlt hVlt hdge hr hq hyp hd0 vd hs2 od vb vbl tb1 tb2 tb3 hn1 hn2 hbt ot hnz hvy rv1 rv2 ta1 ta3
 refine zs1 hMi ?_
 refine Holds.next (fun σ => ∀ a w, Rel cx w0 σ a w → Rel cx w0 (dvS S N M m d A1 Q []) a w) (Holds.from (σ' := dvS S N M m d (ta ++ [0]) (List.replicate M 0) []) (fun a w h => by
  have := Rel.keep [8, 7, 1, 0, 6] [62, 49] h
  unfold dvS
  rw [List.map_replicate]
  exact this) hP) ?_
 intro σ hσ
 refine Holds.from hσ ?_
 clear hσ hP
 unfold dvS
 refine Holds.from (σ' := { nt := 163, env := [(8, .own 62 0 M), (0, .v true (words A1)), (6, .v true (.int .u64 S))], mem := [(62, .buf 91 1 true (Q.map fun n => .int .u64 n))] }) (fun a w h => by
  have := Rel.keep [8, 0, 6] [62] (Rel.freeze (s := 49) (e := 91) (z := 1) (nw := true) (xs := A1.map fun n => .int .u64 n) h rfl)
  have e : List.take N (List.drop 0 (List.map (fun n => V.int .u64 n) A1)) = List.map (fun n => V.int .u64 n) A1 := by rw [List.drop_zero, List.take_of_length_le (by rw [List.length_map, lA1]; exact Nat.le_refl _)]
  rw [show words A1 = .sl 1 (A1.map fun n => .int .u64 n) from rfl, ← e]
  exact this) ?_
 refine zs2 (ρ := fun _ => [.v false (words T)]) (o := by repeat' first|exact hSA|trivial|constructor) (k := ?_)
 refine zs0 ?_
 refine zs0 ?_
 refine Holds.next (fun σ => ∀ a w, Rel cx w0 σ a w → Rel cx w0 { nt := 163, env := [(18, .v true (.int .u64 (dvH S T).2)), (17, .own 137 0 T.length), (8, .own 62 0 M)], mem := [(62, .buf 91 1 true (Q.map fun n => .int .u64 n)), (137, .buf 91 1 true ((dvH S T).1.map fun n => .int .u64 n))] } a w) (Holds.from (fun a w h => Rel.keep [18, 17, 16, 6, 8] [62, 137] h) (down_ok (by omega) oT hS0 hS1 lQ)) ?_
 intro σ hσ
 refine Holds.from hσ ?_
 clear hσ
 refine zs0 ?_
 have e1 : List.take M (List.map (fun n => V.int .u64 n) Q) = List.map (fun n => V.int .u64 n) Q := List.take_of_length_le (by rw [List.length_map]; omega)
 have e2 : List.take T.length (List.map (fun n => V.int .u64 n) (dvH S T).1) = List.map (fun n => V.int .u64 n) (dvH S T).1 := List.take_of_length_le (by rw [List.length_map]; omega)
 exact Holds.ret ⟨_, [], rfl, ⟨⟨rfl, by rw [List.drop_zero, e1], id, rfl⟩, ⟨rfl, by rw [List.drop_zero, e2], id, rfl⟩, trivial⟩, by simp [R.names, R.mems, R.blks], by simp, rfl⟩
theorem Divide_ok (x y : List Int) (hx : x.length ≤ 2000) (hy : y.length ≤ 2000) (ox : okH x) (oy : okH y) (h0 : 0 < valH y) :
 ∃ Q R, okH Q ∧ okH R ∧ Q.length ≤ 2002 ∧ R.length ≤ 2002 ∧ valH Q = valH x / valH y ∧ valH R = valH x % valH y ∧ FnOk Tryz.prog 220 [.v (words x), .v (words y)] [.v true (words Q), .v true (words R)] := by
 rcases Nat.lt_or_ge (trimL y).length 2 with h | h
 ·have hv := valH_trim y
  have ot := trimL_okH oy
  rcases trimL_last y with hn | ⟨t, z, hn, hz⟩
  ·rw [hn] at hv; simp only [valH] at hv; omega
  ·have ht : t = [] := by
    rw [hn, List.length_append, List.length_cons, List.length_nil] at h
    exact List.length_eq_zero_iff.1 (by omega)
   rw [ht, List.nil_append] at hn
   have hz' := ot z (by rw [hn]; simp)
   obtain ⟨k, hk, hk2⟩ := nat_of hz'
   subst hk
   have hk0 : 0 < k := by omega
   rw [hn] at hv
   have hvk : valH y = k := by rw [← hv]; simp [valH]
   obtain ⟨r1, r2, r3, _⟩ := dvH_ok hk0 ox
   obtain ⟨v1, v2⟩ := dvH_val hk0 ox
   rw [hvk]
   refine ⟨(dvH k x).1, [((dvH k x).2 : Int)], r2, fun n hn => ?_, by omega, by simp, v1, by rw [← v2]; simp [valH], ?_⟩
   ·simp at hn; omega
   ·exact Divide1_ok x y k (by omega) ox hk0 hk2 (by omega) hn
 ·exact DivideN_ok x y hx hy ox oy h
theorem rDivMod_ok (x y : List Int) (hx : x.length ≤ 1000) (hy : y.length ≤ 1000) (ox : okW x) (oy : okW y) (h0 : 0 < val y) :
 FnOk Tryz.prog 147 [.v (words x), .v (words y)] [.v true (words (digs (val x / val y))), .v true (words (digs (val x % val y)))] := by
 have h1 := Digits_ok x (by omega) ox
 have h2 := Digits_ok y (by omega) oy
 have lx := digL_len x
 have ly := digL_len y
 obtain ⟨Q, R, oQ, oR, lQ, lR, vQ, vR, h3⟩ := Divide_ok (digL x) (digL y) (by omega) (by omega) (digL_ok ox) (digL_ok oy) (by rw [val_dig oy]; exact h0)
 have h4 := nat_ok Q (by omega) oQ
 have h5 := nat_ok R (by omega) oR
 rw [vQ, val_dig ox, val_dig oy] at h4
 rw [vR, val_dig ox, val_dig oy] at h5
 refine FnOk.of Tryz.func147 rfl rfl fun cx w0 => ?_
 rw [show Tryz.f147.ntmps = 20 from rfl]
 refine zs0 ?_
 refine zs2 (ρ := fun d => if d = 10 then [.v true (words (digL x))] else if d = 12 then [.v true (words (digL y))] else [.v true (words Q), .v true (words R)]) (o := by repeat' first|exact h1|exact h2|exact h3|trivial|constructor) (k := ?_)
 refine zs2 (ρ := fun d => if d = 17 then [.v true (words (digs (val x / val y)))] else [.v true (words (digs (val x % val y)))]) (o := by repeat' first|exact h4|exact h5|trivial|constructor) (k := ?_)
 exact Holds.ret (RetOk.vs rfl (by exact ⟨⟨rfl, id⟩, ⟨rfl, id⟩, trivial⟩) rfl)
theorem natW {x : Int} (h : 0 ≤ x ∧ x < 18446744073709551616) : ∃ a : Nat, x = a ∧ a < 18446744073709551616 := ⟨x.toNat, by omega, by omega⟩
theorem add64M (x y c : Nat) (hx : x < 18446744073709551616) (hy : y < 18446744073709551616) (hc : c ≤ 1) : ∃ s d : Nat, s + 18446744073709551616 * d = x + y + c ∧ s < 18446744073709551616 ∧ d ≤ 1 ∧ FnOk Tryz.prog 139 [.v (.int .u64 x), .v (.int .u64 y), .v (.int .u64 c)] [.v true (.int .u64 s), .v true (.int .u64 d)] := by
 have h := add64_ok x y c (by omega) (by omega) (by omega) (by omega)
 refine ⟨(x + y + c) % 18446744073709551616, (x + y + c) / 18446744073709551616, by omega, by omega, by omega, ?_⟩
 rw [show (((x + y + c) % 18446744073709551616 : Nat) : Int) = ((x : Int) + y + c) % 18446744073709551616 from by omega, show (((x + y + c) / 18446744073709551616 : Nat) : Int) = ((x : Int) + y + c) / 18446744073709551616 from by omega]
 exact h
theorem sub64N (x y c : Nat) (hx : x < 18446744073709551616) (hy : y < 18446744073709551616) (hc : c ≤ 1) : ∃ s d : Nat, s + y + c = x + 18446744073709551616 * d ∧ s < 18446744073709551616 ∧ d ≤ 1 ∧ FnOk Tryz.prog 252 [.v (.int .u64 x), .v (.int .u64 y), .v (.int .u64 c)] [.v true (.int .u64 s), .v true (.int .u64 d)] := by
 have h := sub64_ok x y c (by omega) (by omega) (by omega) (by omega) (by omega) (by omega)
 by_cases hlt : x < y + c
 ·refine ⟨x + 18446744073709551616 - y - c, 1, by omega, by omega, by omega, ?_⟩
  rw [show ((x + 18446744073709551616 - y - c : Nat) : Int) = ((x : Int) - y - c) % 18446744073709551616 from by omega, show ((1 : Nat) : Int) = if (x : Int) < (y : Int) + c then 1 else 0 from by rw [if_pos (by omega)]; rfl]
  exact h
 ·refine ⟨x - y - c, 0, by omega, by omega, by omega, ?_⟩
  rw [show ((x - y - c : Nat) : Int) = ((x : Int) - y - c) % 18446744073709551616 from by omega, show ((0 : Nat) : Int) = if (x : Int) < (y : Int) + c then 1 else 0 from by rw [if_neg (by omega)]; rfl]
  exact h
theorem mul64N (x y : Nat) (hx : x < 18446744073709551616) (hy : y < 18446744073709551616) : ∃ h l : Nat, l + 18446744073709551616 * h = x * y ∧ l < 18446744073709551616 ∧ h ≤ 18446744073709551614 ∧ FnOk Tryz.prog 138 [.v (.int .u64 x), .v (.int .u64 y)] [.v true (.int .u64 h), .v true (.int .u64 l)] := by
 have h := mul64_ok x y hx hy
 have hle : x * y ≤ 18446744073709551615 * 18446744073709551615 := Nat.mul_le_mul (by omega) (by omega)
 exact ⟨x * y / 18446744073709551616, x * y % 18446744073709551616, by omega, by omega, by omega, h⟩
theorem val_takeN {l : List Int} (j : Nat) : val (l.take (j + 1)) = val (l.take j) + 18446744073709551616 ^ j * (l.getD j 0).toNat := val_takeS j
theorem okW_dropN {l : List Int} (h : okW l) (k : Nat) : okW (l.drop k) := fun n hn => h n (List.mem_of_mem_drop hn)
theorem okW_snoc {l : List Int} {x : Nat} (h : okW l) (hx : x < 18446744073709551616) : okW (l ++ [(x : Int)]) := fun n hn => by
 rcases List.mem_append.1 hn with hn | hn
 ·exact h n hn
 ·simp at hn; omega
theorem val_snoc (l : List Int) (x : Nat) : val (l ++ [(x : Int)]) = val l + 18446744073709551616 ^ l.length * x := by
 rw [val_append]; simp [val]
def cpW (A W : List Int) (j : Nat) : List Int := A.take j ++ (W ++ A.drop (j + W.length))
theorem cpW_nil (A : List Int) (j : Nat) : cpW A [] j = A := by
 rw [cpW, List.nil_append, List.length_nil, Nat.add_zero, List.take_append_drop]
theorem cpW_len {A W : List Int} {j : Nat} (h : j + W.length ≤ A.length) : (cpW A W j).length = A.length := by
 rw [cpW, List.length_append, List.length_append, List.length_take, List.length_drop]; omega
theorem cpW_get {A W : List Int} {j i : Nat} (h : j + W.length ≤ A.length) (hi : W.length ≤ i) : (cpW A W j)[j + i]? = A[j + i]? := by
 have l1 : (A.take j).length = j := by rw [List.length_take]; omega
 rw [cpW, List.getElem?_append_right (by omega), l1, List.getElem?_append_right (by omega), List.getElem?_drop]
 congr 1
 omega
theorem cpW_set {A W : List Int} {j : Nat} (x : Int) (h : j + W.length < A.length) : (cpW A W j).set (j + W.length) x = cpW A (W ++ [x]) j := by
 have l1 : (A.take j).length = j := by rw [List.length_take]; omega
 rw [cpW, List.set_append_right _ _ (by omega), l1, show j + W.length - j = W.length from by omega, List.set_append_right _ _ (Nat.le_refl _), Nat.sub_self, List.drop_eq_getElem_cons h, List.set_cons_zero, cpW, List.length_append, List.append_assoc]
 rfl
theorem cpW_cpW {A W Y : List Int} {j : Nat} (h : j + W.length ≤ A.length) (hl : Y.length = W.length) : cpW (cpW A W j) Y j = cpW A Y j := by
 have l1 : (A.take j).length = j := by rw [List.length_take]; omega
 have e1 : (cpW A W j).take j = A.take j := by rw [cpW, List.take_left' l1]
 have e2 : (cpW A W j).drop (j + Y.length) = A.drop (j + Y.length) := by
  rw [cpW, ← List.append_assoc, List.drop_left' (by rw [List.length_append, l1, hl]), hl]
 rw [cpW, e1, e2, cpW]
theorem less_step {P a b q c bo h l l2 c2 s bo' u w z : Nat} (hi : u + P * (bo + c) = w + q * z) (hm : l + 18446744073709551616 * h = q * b) (ha : l2 + 18446744073709551616 * c2 = l + c + 0) (hs : s + l2 + bo = a + 18446744073709551616 * bo') :
 (u + P * a) + P * 18446744073709551616 * (bo' + (h + c2)) = (w + P * s) + q * (z + P * b) := by
 have e : a + 18446744073709551616 * (bo' + (h + c2)) = s + (bo + c) + q * b := by rw [← hm]; omega
 have e2 := congrArg (P * ·) e
 simp only [Nat.mul_add] at e2 hi ⊢
 have e3 : q * (P * b) = P * (q * b) := Nat.mul_left_comm _ _ _
 have e4 : P * 18446744073709551616 * bo' = P * (18446744073709551616 * bo') := Nat.mul_assoc _ _ _
 have e5 : P * 18446744073709551616 * h = P * (18446744073709551616 * h) := Nat.mul_assoc _ _ _
 have e6 : P * 18446744073709551616 * c2 = P * (18446744073709551616 * c2) := Nat.mul_assoc _ _ _
 rw [e3, e4, e5, e6]
 omega
theorem back_step {P a b c s d u w z : Nat} (hi : w + P * c = u + z) (hs : s + 18446744073709551616 * d = a + b + c) : (w + P * s) + P * 18446744073709551616 * d = (u + P * a) + (z + P * b) := by
 have e2 := congrArg (P * ·) hs
 simp only [Nat.mul_add] at e2
 rw [Nat.mul_assoc]
 omega
def lsMem (s' : Nat) (A : List Int) (M : List (Nat × Blk)) : List (Nat × Blk) := (s', .buf 91 1 true (A.map fun n => .int .u64 n)) :: M
def lsE (s' j n q : Nat) (v : List Int) : List (Nat × AV) := [(0, .own s' j (n + 1)), (1, .v true (words v)), (2, .v true (.int .u64 q))]
def lsS (s' j n q : Nat) (v A : List Int) (M : List (Nat × Blk)) (Rt : List (AV × Value)) (F : List (Nat × Obj)) (e : List (Nat × AV)) : St := { nt := 99, env := e ++ lsE s' j n q v, mem := lsMem s' A M, root := Rt, fix := F }
structure LsI (A v : List Int) (j q : Nat) (W : List Int) (c bo : Nat) : Prop where
 le : W.length ≤ v.length
 ok : okW W
 c64 : c < 18446744073709551616
 bo1 : bo ≤ 1
 all : val ((A.drop j).take W.length) + 18446744073709551616 ^ W.length * (bo + c) = val W + q * val (v.take W.length)
theorem LsI.nil (A v : List Int) (j q : Nat) : LsI A v j q [] 0 0 := ⟨Nat.zero_le _, (fun n hn => by cases hn), by omega, by omega, by simp [val]⟩
theorem LsI.step {A v W : List Int} {j q c bo k a b h l l2 c2 s bo' : Nat} (hI : LsI A v j q W c bo) (hk : W.length = k) (hkv : k < v.length) (ga : A.getD (j + k) 0 = (a : Int)) (gb : v.getD k 0 = (b : Int))
 (hm : l + 18446744073709551616 * h = q * b) (h64 : h ≤ 18446744073709551614) (ha : l2 + 18446744073709551616 * c2 = l + c + 0) (hc2 : c2 ≤ 1) (hs : s + l2 + bo = a + 18446744073709551616 * bo') (hs64 : s < 18446744073709551616) (hb1 : bo' ≤ 1) :
 LsI A v j q (W ++ [(s : Int)]) (h + c2) bo' := by
 have hl : (W ++ [(s : Int)]).length = k + 1 := by rw [List.length_append, hk]; rfl
 have hall := hI.all
 rw [hk] at hall
 refine ⟨by rw [hl]; exact hkv, okW_snoc hI.ok hs64, by omega, hb1, ?_⟩
 rw [hl, val_takeN, val_takeN, getD_drop, ga, gb, Int.toNat_natCast, Int.toNat_natCast, val_snoc, hk, Nat.pow_succ]
 exact less_step hall hm ha hs
set_option maxHeartbeats 4000000 in
theorem less_take {cx : Cx} {w0 : World} {s' j n q : Nat} {v A : List Int} {M : List (Nat × Blk)} {Rt : List (AV × Value)} {F : List (Nat × Obj)} {N' : St → Prop} (oA : okW A) (ov : okW v) (hv : v.length = n) (hn : n < 10000) (hj : j + n + 1 ≤ A.length) (hA : A.length < 10000) (hq : q < 18446744073709551616) :
 Holds Tryz.prog none cx w0 (codeAt Tryz.f207 [1, 1, 0]) (lsS s' j n q v A M Rt F [(6, .v true (.bool false)), (7, .v true (.int .u64 (0 : Nat))), (8, .v true (.int .u64 (0 : Nat)))])
  (NR (fun σ => ∃ W c bo, LsI A v j q W c bo ∧ W.length = n ∧ ∀ a w, Rel cx w0 σ a w → Rel cx w0 (lsS s' j n q v (cpW A W j) M Rt F [(7, .v true (.int .u64 (c : Nat))), (8, .v true (.int .u64 (bo : Nat)))]) a w) N') := by
 unfold lsS lsE lsMem
 refine zs0 ?_
 refine Holds.loopB (fun x : List Int × Nat × Nat => lsS s' j n q v (cpW A x.1 j) M Rt F [(19, .v true (.int .i64 (x.1.length : Nat))), (18, .v true (.int .i64 (n : Nat))), (17, .v true (words v)), (7, .v true (.int .u64 (x.2.1 : Nat))), (8, .v true (.int .u64 (x.2.2 : Nat)))])
  (fun x => LsI A v j q x.1 x.2.1 x.2.2) (fun x => n - x.1.length) ([], 0, 0) (LsI.nil A v j q) (fun a w h => by
    have := Rel.keepE [19, 18, 17, 7, 8, 0, 1, 2] h
    rw [hv] at this
    simp only [cpW_nil]
    exact this) ?_
 rintro ⟨W, c, bo⟩ hI
 simp only at hI ⊢
 obtain ⟨k, hk⟩ : ∃ k, k = W.length := ⟨_, rfl⟩
 have hle := hI.le
 rw [← hk]
 by_cases hend : k = n
 ·have g : ¬ (k : Int) < n := by omega
  unfold lsS lsE lsMem
  refine zs1 g ?_
  refine Holds.seq (Holds.condF rfl (Holds.exit ⟨rfl, W, c, bo, hI, by omega, fun a w h => ?_⟩))
  exact Rel.keepE [7, 8, 0, 1, 2] h
 ·have g : (k : Int) < n := by omega
  have g0 : (0 : Int) ≤ (k : Int) := by omega
  have gn : (k : Int) < (n : Int) + 1 := by omega
  obtain ⟨a, ha, ha64⟩ := natW (okW_getD oA (j + k))
  obtain ⟨b, hb, hb64⟩ := natW (okW_getD ov k)
  have gv : v[k]? = some (b : Int) := by rw [get_map (by omega), hb]
  have gA : (cpW A W j)[j + k]? = some (a : Int) := by rw [cpW_get (by omega) (by omega), get_map (by omega), ha]
  have lC := cpW_len (A := A) (W := W) (j := j) (by omega)
  have c64 := hI.c64
  have bo1 := hI.bo1
  obtain ⟨h, l, hm, hl64, hh64, fM⟩ := mul64N q b hq hb64
  obtain ⟨l2, c2, ha2, hl2, hc2, fA⟩ := add64M l c 0 hl64 c64 (by omega)
  obtain ⟨s, bo', hs, hs64, hb1, fS⟩ := sub64N a l2 bo ha64 hl2 bo1
  have hnext := hI.step hk.symm (by omega) ha hb hm hh64 ha2 hc2 hs hs64 hb1
  have hset := cpW_set (A := A) (W := W) (j := j) (s : Int) (by omega)
  rw [← hk] at hset
  have lN : (W ++ [(s : Int)]).length = k + 1 := by rw [List.length_append, ← hk]; rfl
  have wc : IntKind.u64.wrap ((h : Int) + (c2 : Int)) = ((h + c2 : Nat) : Int) := by rw [wrap_u64]; omega
  have wk : IntKind.i64.wrap ((k : Int) + 1) = ((k + 1 : Nat) : Int) := by rw [wrap_i64] <;> omega
  obtain ⟨C, hC⟩ : ∃ C, C = cpW A W j := ⟨_, rfl⟩
  obtain ⟨C', hC'⟩ : ∃ C', C' = cpW A (W ++ [(s : Int)]) j := ⟨_, rfl⟩
  rw [← hC] at gA lC hset ⊢
  rw [← hC'] at hset
  have ik : ((j : Int) + (k : Int)).toNat = j + k := by omega
  clear hI hm ha2 hs ha hb oA ov
  unfold lsS lsE lsMem
  refine zs1 g ?_
  refine Holds.seq (Holds.condT rfl (Holds.skip ?_))
  show Holds _ _ _ _ _ _ _
  refine Holds.next (fun σ => ∀ x w, Rel cx w0 σ x w → Rel cx w0 (lsS s' j n q v C' M Rt F [(19, .v true (.int .i64 (k : Nat))), (18, .v true (.int .i64 (n : Nat))), (17, .v true (words v)), (7, .v true (.int .u64 (h + c2 : Nat))), (8, .v true (.int .u64 (bo' : Nat)))]) x w) ?_ ?_
  ·refine Holds.blockN ?_
   refine zs1 gv ?_
   refine zs2 (ρ := fun _ => [.v true (.int .u64 h), .v true (.int .u64 l)]) (o := by repeat' first|exact fM|trivial|constructor) (k := ?_)
   refine zs0 ?_
   refine zs2 (ρ := fun _ => [.v true (.int .u64 l2), .v true (.int .u64 c2)]) (o := by repeat' first|exact fA|trivial|constructor) (k := ?_)
   refine zs1 wc ?_
   refine zr3 (ρ := fun _ => [.v true (.int .u64 s), .v true (.int .u64 bo')]) (an gA <| an gn <| an g0 <| an ik <| lC) (o := by repeat' first|exact fS|trivial|constructor) (k := ?_)
   intro x w hr
   exact Rel.memEq (mem' := lsMem s' C' M) (Rel.keepE [19, 18, 17, 7, 8, 0, 1, 2] hr) (fun p => by unfold lsMem; rw [← hset, List.map_set]; simp only [look]; split <;> rfl)
  ·intro σ hσ
   refine Holds.from hσ ?_
   unfold lsS lsE lsMem
   refine zr1 wk ?_
   refine ⟨(W ++ [(s : Int)], h + c2, bo'), hnext, (show n - (W ++ [(s : Int)]).length < n - W.length by rw [lN]; omega), fun x w h => ?_⟩
   have := Rel.keepE [19, 18, 17, 7, 8, 0, 1, 2] h
   simp only [lN, ← hC']
   exact this
structure BkI (A v : List Int) (j : Nat) (Y : List Int) (c : Nat) : Prop where
 le : Y.length ≤ v.length
 ok : okW Y
 c1 : c ≤ 1
 all : val Y + 18446744073709551616 ^ Y.length * c = val ((A.drop j).take Y.length) + val (v.take Y.length)
theorem BkI.nil (A v : List Int) (j : Nat) : BkI A v j [] 0 := ⟨Nat.zero_le _, (fun n hn => by cases hn), by omega, by simp [val]⟩
theorem BkI.step {A v Y : List Int} {j c k a b s d : Nat} (hI : BkI A v j Y c) (hk : Y.length = k) (hkv : k < v.length) (ga : A.getD (j + k) 0 = (a : Int)) (gb : v.getD k 0 = (b : Int))
 (hs : s + 18446744073709551616 * d = a + b + c) (hs64 : s < 18446744073709551616) (hd1 : d ≤ 1) : BkI A v j (Y ++ [(s : Int)]) d := by
 have hl : (Y ++ [(s : Int)]).length = k + 1 := by rw [List.length_append, hk]; rfl
 have hall := hI.all
 rw [hk] at hall
 refine ⟨by rw [hl]; exact hkv, okW_snoc hI.ok hs64, hd1, ?_⟩
 rw [hl, val_takeN, val_takeN, getD_drop, ga, gb, Int.toNat_natCast, Int.toNat_natCast, val_snoc, hk, Nat.pow_succ]
 exact back_step hall hs
set_option maxHeartbeats 4000000 in
theorem less_back {cx : Cx} {w0 : World} {s' j n q : Nat} {v A : List Int} {M : List (Nat × Blk)} {Rt : List (AV × Value)} {F : List (Nat × Obj)} {N' : St → Prop} (oA : okW A) (ov : okW v) (hv : v.length = n) (hn : n < 10000) (hj : j + n + 1 ≤ A.length) (hA : A.length < 10000) :
 Holds Tryz.prog none cx w0 (codeAt Tryz.f207 [1, 1, 1, 1, 1, 1, 0]) (lsS s' j n q v A M Rt F [(14, .v true (.int .u64 (0 : Nat)))])
  (NR (fun σ => ∃ Y c, BkI A v j Y c ∧ Y.length = n ∧ ∀ a w, Rel cx w0 σ a w → Rel cx w0 (lsS s' j n q v (cpW A Y j) M Rt F [(14, .v true (.int .u64 (c : Nat)))]) a w) N') := by
 unfold lsS lsE lsMem
 refine zs0 ?_
 refine Holds.loopB (fun x : List Int × Nat => lsS s' j n q v (cpW A x.1 j) M Rt F [(72, .v true (.int .i64 (x.1.length : Nat))), (71, .v true (.int .i64 (n : Nat))), (70, .v true (words v)), (14, .v true (.int .u64 (x.2 : Nat)))])
  (fun x => BkI A v j x.1 x.2) (fun x => n - x.1.length) ([], 0) (BkI.nil A v j) (fun a w h => by
    have := Rel.keepE [72, 71, 70, 14, 0, 1, 2] h
    rw [hv] at this
    simp only [cpW_nil]
    exact this) ?_
 rintro ⟨W, c⟩ hI
 simp only at hI ⊢
 obtain ⟨k, hk⟩ : ∃ k, k = W.length := ⟨_, rfl⟩
 have hle := hI.le
 rw [← hk]
 by_cases hend : k = n
 ·have g : ¬ (k : Int) < n := by omega
  unfold lsS lsE lsMem
  refine zs1 g ?_
  refine Holds.seq (Holds.condF rfl (Holds.exit ⟨rfl, W, c, hI, by omega, fun a w h => ?_⟩))
  exact Rel.keepE [14, 0, 1, 2] h
 ·have g : (k : Int) < n := by omega
  have g0 : (0 : Int) ≤ (k : Int) := by omega
  have gn : (k : Int) < (n : Int) + 1 := by omega
  obtain ⟨a, ha, ha64⟩ := natW (okW_getD oA (j + k))
  obtain ⟨b, hb, hb64⟩ := natW (okW_getD ov k)
  have gv : v[k]? = some (b : Int) := by rw [get_map (by omega), hb]
  have gA : (cpW A W j)[j + k]? = some (a : Int) := by rw [cpW_get (by omega) (by omega), get_map (by omega), ha]
  have lC := cpW_len (A := A) (W := W) (j := j) (by omega)
  have c1 := hI.c1
  obtain ⟨s, d, hs, hs64, hd1, fA⟩ := add64M a b c ha64 hb64 c1
  have hnext := hI.step hk.symm (by omega) ha hb hs hs64 hd1
  have hset := cpW_set (A := A) (W := W) (j := j) (s : Int) (by omega)
  rw [← hk] at hset
  have lN : (W ++ [(s : Int)]).length = k + 1 := by rw [List.length_append, ← hk]; rfl
  have wk : IntKind.i64.wrap ((k : Int) + 1) = ((k + 1 : Nat) : Int) := by rw [wrap_i64] <;> omega
  obtain ⟨C, hC⟩ : ∃ C, C = cpW A W j := ⟨_, rfl⟩
  obtain ⟨C', hC'⟩ : ∃ C', C' = cpW A (W ++ [(s : Int)]) j := ⟨_, rfl⟩
  rw [← hC] at gA lC hset ⊢
  rw [← hC'] at hset
  have ik : ((j : Int) + (k : Int)).toNat = j + k := by omega
  clear hI hs ha hb oA ov
  unfold lsS lsE lsMem
  refine zs1 g ?_
  refine Holds.seq (Holds.condT rfl (Holds.skip ?_))
  show Holds _ _ _ _ _ _ _
  refine Holds.next (fun σ => ∀ x w, Rel cx w0 σ x w → Rel cx w0 (lsS s' j n q v C' M Rt F [(72, .v true (.int .i64 (k : Nat))), (71, .v true (.int .i64 (n : Nat))), (70, .v true (words v)), (14, .v true (.int .u64 (d : Nat)))]) x w) ?_ ?_
  ·refine Holds.blockN ?_
   refine zs1 gv ?_
   refine zr3 (ρ := fun _ => [.v true (.int .u64 s), .v true (.int .u64 d)]) (an gA <| an gn <| an g0 <| an ik <| lC) (o := by repeat' first|exact fA|trivial|constructor) (k := ?_)
   intro x w hr
   exact Rel.memEq (mem' := lsMem s' C' M) (Rel.keepE [72, 71, 70, 14, 0, 1, 2] hr) (fun p => by unfold lsMem; rw [← hset, List.map_set]; simp only [look]; split <;> rfl)
  ·intro σ hσ
   refine Holds.from hσ ?_
   unfold lsS lsE lsMem
   refine zr1 wk ?_
   refine ⟨(W ++ [(s : Int)], d), hnext, (show n - (W ++ [(s : Int)]).length < n - W.length by rw [lN]; omega), fun x w h => ?_⟩
   have := Rel.keepE [72, 71, 70, 14, 0, 1, 2] h
   simp only [lN, ← hC']
   exact this
theorem win_val {A : List Int} {j n a : Nat} (ha : A.getD (j + n) 0 = (a : Int)) : val ((A.drop j).take (n + 1)) = val ((A.drop j).take n) + 18446744073709551616 ^ n * a := by
 rw [val_takeN, getD_drop, ha, Int.toNat_natCast]
set_option maxHeartbeats 4000000 in
theorem less_ok {j n q : Nat} {v A R : List Int} (oA : okW A) (ov : okW v) (hv : v.length = n) (hn : n < 5000) (hj : j + n + 1 ≤ A.length) (hA : A.length < 10000) (hq : q < 18446744073709551616) (oR : okW R) (lR : R.length = n + 1)
 (bl : Bool) (hcase : (bl = false ∧ val R + q * val v = val ((A.drop j).take (n + 1))) ∨ (bl = true ∧ val ((A.drop j).take (n + 1)) < q * val v ∧ val R + q * val v = val ((A.drop j).take (n + 1)) + val v)) :
 RowOk Tryz.prog 207 (fun s => .own s j (n + 1)) (.buf 91 1 true (A.map fun n => .int .u64 n)) (.buf 91 1 true ((cpW A R j).map fun n => .int .u64 n)) [words v, .int .u64 q] [.bool bl] := by
 refine RowOk.of Tryz.func207 rfl rfl fun cx w0 s' M Rt F => ?_
 show Holds Tryz.prog none cx w0 _ { nt := 99, env := [(0, .own s' j (n + 1)), (1, .v true (words v)), (2, .v true (.int .u64 q))], mem := (s', .buf 91 1 true (A.map fun n => .int .u64 n)) :: M, root := Rt, fix := F } _
 refine zs0 ?_
 refine zs0 ?_
 refine Holds.next _ (Holds.from (σ' := lsS s' j n q v A M Rt F [(6, .v true (.bool false)), (7, .v true (.int .u64 (0 : Nat))), (8, .v true (.int .u64 (0 : Nat)))]) (fun a w h => Rel.keepE [6, 7, 8, 0, 1, 2] h) (less_take oA ov hv (by omega) hj hA hq)) ?_
 rintro σ ⟨W, c, bo, hI, lW, hσ⟩
 refine Holds.from hσ ?_
 clear hσ
 obtain ⟨a, ha, ha64⟩ := natW (okW_getD oA (j + n))
 have gA : (cpW A W j)[j + n]? = some (a : Int) := by rw [cpW_get (by omega) (by omega), get_map (by omega), ha]
 have lC := cpW_len (A := A) (W := W) (j := j) (by omega)
 obtain ⟨s, bo', hs, hs64, hb1, fS⟩ := sub64N a c bo ha64 hI.c64 hI.bo1
 have hset := cpW_set (A := A) (W := W) (j := j) (s : Int) (by omega)
 rw [lW] at hset
 have hwv := win_val ha
 have hall := hI.all
 rw [lW] at hall
 have hvv : v.take n = v := List.take_of_length_le (by omega)
 rw [hvv] at hall
 have oW' := okW_snoc hI.ok hs64
 have vW' := val_snoc W s
 rw [lW] at vW'
 have lW' : (W ++ [(s : Int)]).length = n + 1 := by rw [List.length_append, lW]; rfl
 have key : val ((A.drop j).take (n + 1)) + 18446744073709551616 ^ n * (18446744073709551616 * bo') = val (W ++ [(s : Int)]) + q * val v := by
  rw [hwv, vW']
  have e := congrArg (18446744073709551616 ^ n * ·) hs
  simp only [Nat.mul_add] at e hall ⊢
  omega
 have bW' := val_lt oW'
 rw [lW', Nat.pow_succ] at bW'
 obtain ⟨C, hC⟩ : ∃ C, C = cpW A W j := ⟨_, rfl⟩
 obtain ⟨A', hA'⟩ : ∃ A', A' = cpW A (W ++ [(s : Int)]) j := ⟨_, rfl⟩
 rw [← hC] at gA lC hset ⊢
 rw [← hA'] at hset
 have ik : ((j : Int) + (n : Int)).toNat = j + n := by omega
 have g0 : (0 : Int) ≤ (n : Int) := by omega
 have gn : (n : Int) < (n : Int) + 1 := by omega
 unfold lsS lsE lsMem
 refine zs3 (ρ := fun _ => [.v true (.int .u64 s), .v true (.int .u64 bo')]) (an hv <| an gA <| an gn <| an g0 <| an ik <| lC) (o := by repeat' first|exact fS|trivial|constructor) (k := ?_)
 refine Holds.from (σ' := lsS s' j n q v A' M Rt F [(8, .v true (.int .u64 (bo' : Nat)))]) (fun x w hr => Rel.memEq (mem' := lsMem s' A' M) (Rel.keepE [8, 0, 1, 2] hr) (fun p => by unfold lsMem; rw [← hset, List.map_set]; simp only [look]; split <;> rfl)) ?_
 rcases hcase with ⟨rfl, hc⟩ | ⟨rfl, hc1, hc2⟩
 ·have hb0 : bo' = 0 := by
   rcases Nat.eq_zero_or_pos bo' with h | h
   ·exact h
   ·exfalso
    have : bo' = 1 := by omega
    rw [this, Nat.mul_one] at key
    omega
  subst hb0
  simp only [Nat.mul_zero, Nat.add_zero] at key
  have hR : W ++ [(s : Int)] = R := val_inj2 oW' oR (by rw [lW', lR]) (by omega)
  rw [hR] at hA'
  unfold lsS lsE lsMem
  refine Holds.seq ?_
  refine zs0 ?_
  refine Holds.condT rfl ?_
  refine zs0 ?_
  exact Holds.ret ⟨.inl rfl, rfl, rfl, rfl, fun p => by rw [hA'], rfl⟩
 ·have hb1' : bo' = 1 := by
   rcases Nat.eq_zero_or_pos bo' with h | h
   ·exfalso
    simp only [h, Nat.mul_zero, Nat.add_zero] at key
    omega
   ·omega
  subst hb1'
  rw [Nat.mul_one] at key
  have oA' : okW A' := by
   rw [hA', cpW]
   intro x hx
   rcases List.mem_append.1 hx with hx | hx
   ·exact okW_take oA j x hx
   ·rcases List.mem_append.1 hx with hx | hx
    ·exact oW' x hx
    ·exact okW_dropN oA _ x hx
  have lA' : A'.length = A.length := by rw [hA', cpW_len (by omega)]
  have dA' : (A'.drop j).take (n + 1) = W ++ [(s : Int)] := by
   have l1 : (A.take j).length = j := by rw [List.length_take]; omega
   rw [hA', cpW, List.drop_left' l1, List.take_left' lW']
  unfold lsS lsE lsMem
  refine Holds.seq ?_
  refine zs0 ?_
  refine Holds.condF rfl (Holds.skip ?_)
  refine zs0 ?_
  refine Holds.next _ (Holds.from (σ' := lsS s' j n q v A' M Rt F [(14, .v true (.int .u64 (0 : Nat)))]) (fun a w h => Rel.keepE [14, 0, 1, 2] h) (less_back oA' ov hv (by omega) (by omega) (by omega))) ?_
  rintro σ ⟨Y, d, hB, lY, hσ⟩
  refine Holds.from hσ ?_
  clear hσ
  obtain ⟨z, hz, hz64⟩ := natW (okW_getD oA' (j + n))
  have gZ : (cpW A' Y j)[j + n]? = some (z : Int) := by rw [cpW_get (by omega) (by omega), get_map (by omega), hz]
  have lC2 := cpW_len (A := A') (W := Y) (j := j) (by omega)
  have hset2 := cpW_set (A := A') (W := Y) (j := j) (((z + d) % 18446744073709551616 : Nat) : Int) (by omega)
  rw [lY] at hset2
  have hbal := hB.all
  rw [lY, hvv] at hbal
  have hwz := win_val hz
  rw [dA'] at hwz
  have d1 := hB.c1
  have bY := val_lt hB.ok
  rw [lY] at bY
  have bv := val_lt ov
  rw [hv] at bv
  have top : z + d = 18446744073709551616 := by
   obtain ⟨P, hP⟩ : ∃ P, P = 18446744073709551616 ^ n := ⟨_, rfl⟩
   rw [← hP] at hbal hwz bY bv key bW'
   have e : val Y + P * (z + d) = val R + P * 18446744073709551616 := by
    rw [Nat.mul_add]; omega
   rcases Nat.lt_or_ge (z + d) 18446744073709551616 with h | h
   ·exfalso
    have := Nat.mul_le_mul_left P (show z + d + 1 ≤ 18446744073709551616 by omega)
    rw [Nat.mul_add P (z + d) 1, Nat.mul_one] at this
    omega
   ·omega
  have hR : Y ++ [(((z + d) % 18446744073709551616 : Nat) : Int)] = R := by
   rw [top]
   refine val_inj2 (okW_snoc hB.ok (by decide)) oR (by rw [List.length_append, lY, lR]; rfl) ?_
   rw [val_snoc, lY, Nat.mod_self, Nat.mul_zero, Nat.add_zero]
   obtain ⟨P, hP⟩ : ∃ P, P = 18446744073709551616 ^ n := ⟨_, rfl⟩
   rw [← hP] at hbal hwz key
   have e : val Y + P * (z + d) = val R + P * 18446744073709551616 := by
    rw [Nat.mul_add]; omega
   rw [top] at e
   omega
  have hcp : cpW A' R j = cpW A R j := by rw [hA']; exact cpW_cpW (by omega) (by rw [lR, lW'])
  rw [hR, hcp] at hset2
  have wz : IntKind.u64.wrap ((z : Int) + (d : Int)) = (((z + d) % 18446744073709551616 : Nat) : Int) := by rw [addN, wrapM]
  obtain ⟨C2, hC2⟩ : ∃ C2, C2 = cpW A' Y j := ⟨_, rfl⟩
  rw [← hC2] at hset2
  rw [← hC2] at gZ lC2 ⊢
  unfold lsS lsE lsMem
  refine zs1 (an hv <| an gZ <| an gn <| an g0 <| an ik <| an lC2 <| wz) ?_
  refine zs0 ?_
  exact Holds.ret ⟨.inl rfl, rfl, rfl, rfl, fun p => by rw [← hset2, List.map_set]; simp only [look]; split <;> rfl, rfl⟩
def gsN (a b c v w : Nat) : Nat := min 18446744073709551615 ((a * 18446744073709551616 * 18446744073709551616 + b * 18446744073709551616 + c) / (v * 18446744073709551616 + w))
structure GsI (a b c v w q r : Nat) (over : Bool) : Prop where
 q64 : q ≤ 18446744073709551615
 r64 : r < 18446744073709551616
 ge : gsN a b c v w ≤ q
 rest : if over = true then a * 18446744073709551616 + b ≥ q * v + 18446744073709551616 else a * 18446744073709551616 + b = q * v + r
theorem fits_iff {a b c v w q r : Nat} (h : a * 18446744073709551616 + b = q * v + r) : q * (v * 18446744073709551616 + w) ≤ a * 18446744073709551616 * 18446744073709551616 + b * 18446744073709551616 + c ↔ q * w ≤ r * 18446744073709551616 + c := by
 have e := congrArg (· * 18446744073709551616) h
 simp only [Nat.add_mul] at e
 rw [Nat.mul_add, ← Nat.mul_assoc]
 omega
theorem GsI.fin {a b c v w q r : Nat} {over : Bool} (h : GsI a b c v w q r over) (hw : w < 18446744073709551616) (hv : 0 < v) (hf : over = true ∨ q * w ≤ r * 18446744073709551616 + c) : q = gsN a b c v w := by
 have hle : q * (v * 18446744073709551616 + w) ≤ a * 18446744073709551616 * 18446744073709551616 + b * 18446744073709551616 + c := by
  have hr := h.rest
  cases over with
  | true =>
    rw [if_pos rfl] at hr
    obtain ⟨r', hr'⟩ : ∃ r', a * 18446744073709551616 + b = q * v + r' := ⟨a * 18446744073709551616 + b - q * v, by omega⟩
    refine (fits_iff hr').2 ?_
    have h1 : q * w ≤ 18446744073709551615 * 18446744073709551615 := Nat.mul_le_mul h.q64 (by omega)
    have h2 : 18446744073709551616 ≤ r' := by omega
    omega
  | false =>
    rw [if_neg (by simp)] at hr
    refine (fits_iff hr).2 ?_
    rcases hf with hf | hf
    ·cases hf
    ·exact hf
 have h2 := (Nat.le_div_iff_mul_le (by omega : 0 < v * 18446744073709551616 + w)).2 hle
 refine Nat.le_antisymm (Nat.le_min.2 ⟨h.q64, h2⟩) h.ge
theorem GsI.next {a b c v w q r r' d : Nat} (h : GsI a b c v w q r false) (hv : 0 < v) (hf : ¬ q * w ≤ r * 18446744073709551616 + c) (hs : r' + 18446744073709551616 * d = r + v + 0) (hr' : r' < 18446744073709551616) (hd : d ≤ 1) : 0 < q ∧ GsI a b c v w (q - 1) r' (decide (d = 1)) := by
 have hr := h.rest
 rw [if_neg (by simp)] at hr
 have hq0 : 0 < q := by
  rcases Nat.eq_zero_or_pos q with h0 | h0
  ·rw [h0, Nat.zero_mul] at hf; omega
  ·exact h0
 have q64 := h.q64
 have hge : gsN a b c v w ≤ q - 1 := by
  have h1 : ¬ q * (v * 18446744073709551616 + w) ≤ a * 18446744073709551616 * 18446744073709551616 + b * 18446744073709551616 + c := fun hc => hf ((fits_iff hr).1 hc)
  have h2 : (a * 18446744073709551616 * 18446744073709551616 + b * 18446744073709551616 + c) / (v * 18446744073709551616 + w) < q := (Nat.div_lt_iff_lt_mul (by omega)).2 (by omega)
  exact Nat.le_trans (Nat.min_le_right _ _) (by omega)
 obtain ⟨p, hp⟩ : ∃ p, q = p + 1 := ⟨q - 1, by omega⟩
 subst hp
 rw [Nat.add_mul, Nat.one_mul] at hr
 refine ⟨hq0, by omega, hr', hge, ?_⟩
 rw [Nat.add_sub_cancel]
 by_cases h1 : d = 1
 ·rw [decide_eq_true h1, if_pos rfl]
  omega
 ·rw [decide_eq_false h1, if_neg (by simp)]
  omega
theorem gs_start {a b c v w q : Nat} (hv : 0 < v) (hq : q = 18446744073709551615 ∨ q = (a * 18446744073709551616 + b) / v) (hc : c < 18446744073709551616) : gsN a b c v w ≤ q := by
 rcases hq with rfl | rfl
 ·exact Nat.min_le_left _ _
 ·refine Nat.le_trans (Nat.min_le_right _ _) ((Nat.le_div_iff_mul_le hv).2 ?_)
  obtain ⟨t, ht⟩ : ∃ t, t = (a * 18446744073709551616 * 18446744073709551616 + b * 18446744073709551616 + c) / (v * 18446744073709551616 + w) := ⟨_, rfl⟩
  have h1 := Nat.div_mul_le_self (a * 18446744073709551616 * 18446744073709551616 + b * 18446744073709551616 + c) (v * 18446744073709551616 + w)
  rw [← ht] at h1 ⊢
  rw [Nat.mul_add, ← Nat.mul_assoc] at h1
  have h2 : t * v * 18446744073709551616 < (a * 18446744073709551616 + b + 1) * 18446744073709551616 := by
   rw [Nat.add_mul, Nat.add_mul]; omega
  have := Nat.lt_of_mul_lt_mul_right h2
  omega
set_option maxHeartbeats 4000000 in
theorem guess_ok (a b c v w : Nat) (ha : a ≤ v) (hb : b < 18446744073709551616) (hc : c < 18446744073709551616) (hv : v < 18446744073709551616) (hv0 : 0 < v) (hw : w < 18446744073709551616) :
 FnOk Tryz.prog 206 [.v (.int .u64 a), .v (.int .u64 b), .v (.int .u64 c), .v (.int .u64 v), .v (.int .u64 w)] [.v true (.int .u64 (gsN a b c v w : Nat))] := by
 refine FnOk.of Tryz.func206 rfl rfl fun cx w0 => ?_
 rw [show Tryz.f206.ntmps = 71 from rfl]
 have g1 : ¬ (v : Int) < a := by omega
 refine zs0 ?_
 refine Holds.seq ?_
 refine zs1 g1 ?_
 refine Holds.condF rfl (Holds.skip ?_)
 refine zs0 ?_
 refine zs0 ?_
 refine Holds.next (fun σ => ∃ q r over, GsI a b c v w q r over ∧ ∀ x w', Rel cx w0 σ x w' → Rel cx w0 { nt := 71, env := [(11, .v true (.int .u64 (q : Nat))), (12, .v true (.int .u64 (r : Nat))), (13, .v true (.bool over)), (2, .v true (.int .u64 (c : Nat))), (3, .v true (.int .u64 (v : Nat))), (4, .v true (.int .u64 (w : Nat)))], mem := [] } x w') ?_ ?_
 ·by_cases he : a = v
  ·subst he
   obtain ⟨r, d, hs, hr, hd, fA⟩ := add64M b a 0 hb hv (by omega)
   refine Holds.step (Px := px) (T := TT) (ρ := fun _ => []) TTe (by simp (maxSteps := 100000) (disch := omega) only [go_sem, V.isAgg, V.flat, ↓reduceIte, Nat.reduceAdd, Nat.reduceSub, Nat.reduceLT, Nat.reduceEqDiff, reduceCtorEq, Nat.reduceLeDiff, Nat.reduceBEq, Nat.reduceMul, Int.reduceToNat, eq_self]; rfl) (by repeat' first | exact trivial | constructor) ?_
   refine Holds.condT rfl ?_
   refine zs0 ?_
   refine zs0 ?_
   refine zs2 (ρ := fun _ => [.v true (.int .u64 r), .v true (.int .u64 d)]) (o := by repeat' first|exact fA|trivial|constructor) (k := ?_)
   have hI : GsI a b c a w 18446744073709551615 r (decide (d = 1)) := by
    refine ⟨Nat.le_refl _, hr, gs_start hv0 (.inl rfl) hc, ?_⟩
    by_cases h1 : d = 1
    ·rw [decide_eq_true h1, if_pos rfl]; omega
    ·rw [decide_eq_false h1, if_neg (by simp)]; omega
   by_cases h1 : d = 1
   ·rw [decide_eq_true h1] at hI
    subst h1
    refine zr0 ?_
    exact ⟨_, _, _, hI, fun x w' h => Rel.keep [11, 12, 13, 2, 3, 4] [] h⟩
   ·rw [decide_eq_false h1] at hI
    have g2 : ¬ (d : Int) = 1 := by omega
    refine zr1 g2 ?_
    exact ⟨_, _, _, hI, fun x w' h => Rel.keep [11, 12, 13, 2, 3, 4] [] h⟩
  ·have g2 : ¬ (a : Int) = v := by omega
   have fD := div64_ok a b v hb hv (by omega)
   obtain ⟨q, hq⟩ : ∃ q, q = (a * 18446744073709551616 + b) / v := ⟨_, rfl⟩
   obtain ⟨r, hr⟩ : ∃ r, r = (a * 18446744073709551616 + b) % v := ⟨_, rfl⟩
   rw [← hq, ← hr] at fD
   have hI : GsI a b c v w q r false := by
    have h1 := Nat.div_add_mod (a * 18446744073709551616 + b) v
    rw [← hq, ← hr, Nat.mul_comm] at h1
    have h2 := Nat.mod_lt (a * 18446744073709551616 + b) hv0
    rw [← hr] at h2
    refine ⟨?_, by omega, gs_start hv0 (.inr hq) hc, by rw [if_neg (by simp)]; exact h1.symm⟩
    have : q < 18446744073709551616 := by
     rw [hq]
     refine (Nat.div_lt_iff_lt_mul hv0).2 ?_
     have : (a + 1) * 18446744073709551616 ≤ v * 18446744073709551616 := Nat.mul_le_mul_right _ (by omega)
     rw [Nat.mul_comm 18446744073709551616 v]
     omega
    omega
   refine zs1 g2 ?_
   refine Holds.condF rfl ?_
   refine zr2 (ρ := fun _ => [.v true (.int .u64 q), .v true (.int .u64 r)]) (o := by repeat' first|exact fD|trivial|constructor) (k := ?_)
   exact ⟨_, _, _, hI, fun x w' h => Rel.keep [11, 12, 13, 2, 3, 4] [] h⟩
 rintro σ ⟨q, r, over, hI, hσ⟩
 refine Holds.from hσ ?_
 clear hσ g1 ha hb
 refine Holds.next (fun σ => ∀ x w', Rel cx w0 σ x w' → Rel cx w0 { nt := 71, env := [(11, .v true (.int .u64 (gsN a b c v w : Nat)))], mem := [] } x w') ?_ ?_
 ·refine Holds.loopB (fun s : Nat × Nat × Bool => { nt := 71, env := [(11, .v true (.int .u64 (s.1 : Nat))), (12, .v true (.int .u64 (s.2.1 : Nat))), (13, .v true (.bool s.2.2)), (2, .v true (.int .u64 (c : Nat))), (3, .v true (.int .u64 (v : Nat))), (4, .v true (.int .u64 (w : Nat)))], mem := [] })
   (fun s => GsI a b c v w s.1 s.2.1 s.2.2) (fun s => s.1) (q, r, over) hI (fun x w' h => h) ?_
  clear hI q r over
  rintro ⟨q, r, over⟩ hI
  simp only at hI ⊢
  cases over with
  | true =>
    refine Holds.seq ?_
    refine zs0 ?_
    refine Holds.condF rfl (Holds.exit ⟨rfl, fun x w' h => ?_⟩)
    rw [← hI.fin hw hv0 (.inl rfl)]
    exact Rel.keep [11] [] h
  | false =>
    have q64 := hI.q64
    have r64 := hI.r64
    obtain ⟨h, l, hm, hl, hh, fM⟩ := mul64N q w (by omega) hw
    refine Holds.seq ?_
    refine zs0 ?_
    refine Holds.condT rfl (Holds.skip ?_)
    refine Holds.block ?_
    refine zs2 (ρ := fun _ => [.v true (.int .u64 h), .v true (.int .u64 l)]) (o := by repeat' first|exact fM|trivial|constructor) (k := ?_)
    by_cases hf : q * w ≤ r * 18446744073709551616 + c
    ·have hend := hI.fin hw hv0 (.inr hf)
     refine Holds.seq ?_
     rcases Nat.lt_or_ge h r with h1 | h1
     ·have g1 : (h : Int) < r := by omega
      refine zs1 g1 ?_
      refine Holds.condT rfl (Holds.exit ⟨rfl, fun x w' h => ?_⟩)
      rw [← hend]
      exact Rel.keep [11] [] h
     ·have g1 : ¬ (h : Int) < r := by omega
      have g2 : (h : Int) = r := by omega
      have g3 : (l : Int) ≤ c := by omega
      refine zs1 (an g1 <| an g2 <| g3) ?_
      refine Holds.condT rfl (Holds.exit ⟨rfl, fun x w' h => ?_⟩)
      rw [← hend]
      exact Rel.keep [11] [] h
    ·obtain ⟨r', d, hs, hr', hd, fA⟩ := add64M r v 0 r64 hv (by omega)
     obtain ⟨hq0, hnext⟩ := hI.next hv0 hf hs hr' hd
     have wq : IntKind.u64.wrap ((q : Int) - 1) = ((q - 1 : Nat) : Int) := by rw [wrap_u64]; omega
     have g1 : ¬ (h : Int) < r := by omega
     refine Holds.next (fun σ => ∀ x w', Rel cx w0 σ x w' → Rel cx w0 { nt := 71, env := [(11, .v true (.int .u64 (q : Nat))), (12, .v true (.int .u64 (r : Nat))), (2, .v true (.int .u64 (c : Nat))), (3, .v true (.int .u64 (v : Nat))), (4, .v true (.int .u64 (w : Nat)))], mem := [] } x w') ?_ ?_
     ·by_cases h2 : h = r
      ·have g2 : (h : Int) = r := by omega
       have g3 : ¬ (l : Int) ≤ c := by omega
       refine zs1 (an g1 <| an g2 <| g3) ?_
       exact Holds.condF rfl (Holds.skip fun x w' h => Rel.keep [11, 12, 2, 3, 4] [] h)
      ·have g2 : ¬ (h : Int) = r := by omega
       refine zs1 (an g1 <| g2) ?_
       exact Holds.condF rfl (Holds.skip fun x w' h => Rel.keep [11, 12, 2, 3, 4] [] h)
     ·intro σ hσ
      refine Holds.from hσ ?_
      clear hσ
      refine zs1 wq ?_
      refine zs0 ?_
      refine zs2 (ρ := fun _ => [.v true (.int .u64 r'), .v true (.int .u64 d)]) (o := by repeat' first|exact fA|trivial|constructor) (k := ?_)
      by_cases h1 : d = 1
      ·rw [decide_eq_true h1] at hnext
       subst h1
       refine zr0 ?_
       exact ⟨(q - 1, r', true), hnext, (show q - 1 < q by omega), fun x w' h => Rel.keep [11, 12, 13, 2, 3, 4] [] h⟩
      ·rw [decide_eq_false h1] at hnext
       have g4 : ¬ (d : Int) = 1 := by omega
       refine zr1 g4 ?_
       exact ⟨(q - 1, r', false), hnext, (show q - 1 < q by omega), fun x w' h => Rel.keep [11, 12, 13, 2, 3, 4] [] h⟩
 ·intro σ hσ
  refine Holds.from hσ ?_
  refine zs0 ?_
  exact Holds.ret (RetOk.vs rfl (by exact ⟨⟨rfl, id⟩, trivial⟩) rfl)
theorem trim_ge {l : List Int} (o : okW l) (h : 0 < (trimL l).length) : 18446744073709551616 ^ ((trimL l).length - 1) ≤ val l := by
 have hv := val_trim l
 rcases trimL_last l with hn | ⟨t, z, hn, hz⟩
 ·rw [hn] at h; cases h
 ·have hz' := trimL_ok o z (by rw [hn]; simp)
  rw [hn, val_append] at hv
  have h1 : 1 ≤ val [z] := by simp only [val]; omega
  have := Nat.mul_le_mul_left (18446744073709551616 ^ t.length) h1
  rw [hn, List.length_append, List.length_cons, List.length_nil, Nat.zero_add, Nat.add_sub_cancel]
  omega
theorem trim_less {x y : List Int} (ox : okW x) (oy : okW y) (h : (trimL x).length < (trimL y).length) : val x < val y := by
 have h1 := val_lt (trimL_ok ox)
 rw [val_trim] at h1
 have h2 := trim_ge oy (by omega)
 have h3 : 18446744073709551616 ^ (trimL x).length ≤ 18446744073709551616 ^ ((trimL y).length - 1) := Nat.pow_le_pow_right (by decide) (by omega)
 omega
set_option maxHeartbeats 2000000 in
theorem wCmp_ok (x y : List Int) (hx : x.length < 100000) (hy : y.length < 100000) (ox : okW x) (oy : okW y) : FnOk Tryz.prog 101 [.v (words x), .v (words y)] [.v true (.int .i64 (cmpN (val x) (val y)))] := by
 have h1 := view_ok x (by omega)
 have h2 := view_ok y (by omega)
 have lx := trimL_len x
 have ly := trimL_len y
 have l1 := trim_less ox oy
 have l2 := trim_less oy ox
 have o1 := trimL_ok ox
 have o2 := trimL_ok oy
 have hD := cmpD_W (x := trimL x) (y := trimL y) o1 o2 (M := (trimL x).length) (Nat.le_refl _)
 rw [val_trim, val_trim] at hD
 obtain ⟨X, hX⟩ : ∃ X, X = trimL x := ⟨_, rfl⟩
 obtain ⟨Y, hY⟩ : ∃ Y, Y = trimL y := ⟨_, rfl⟩
 rw [← hX] at h1 lx l1 l2 hD o1
 rw [← hY] at h2 ly l1 l2 hD o2
 clear hX hY ox oy
 obtain ⟨R, hR⟩ : ∃ R, R = cmpN (val x) (val y) := ⟨_, rfl⟩
 refine FnOk.of Tryz.func101 rfl rfl fun cx w0 => ?_
 rw [show Tryz.f101.ntmps = 45 from rfl]
 refine zs0 ?_
 refine zs2 (ρ := fun d => if d = 7 then [.v false (words X)] else [.v false (words Y)]) (o := by repeat' first|exact h1|exact h2|trivial|constructor) (k := ?_)
 refine Holds.from (σ' := { nt := 45, env := [(0, .v false (words X)), (1, .v false (words Y)), (4, .v true (.int .i64 0))], mem := [] }) (fun a w h => Rel.keep [0, 1, 4] [] h) ?_
 refine Holds.seq ?_
 by_cases he : X.length = Y.length
 ·have g : (X.length : Int) = Y.length := by omega
  refine zs1 g ?_
  refine Holds.condF rfl (Holds.skip ?_)
  refine Holds.from (σ' := { nt := 45, env := [(0, .v false (words X)), (1, .v false (words Y)), (4, .v true (.int .i64 0))], mem := [] }) (fun a w h => Rel.keep [0, 1, 4] [] h) ?_
  have hD := hD (by omega)
  rw [← hR] at hD ⊢
  obtain ⟨C, hC⟩ : ∃ C, C = cmpD (fun i => X.getD i 0) (fun i => Y.getD i 0) := ⟨_, rfl⟩
  have hs : ∀ j, C (j + 1) = if X.getD j 0 < Y.getD j 0 then -1 else if Y.getD j 0 < X.getD j 0 then 1 else C j := fun j => by rw [hC, cmpD]
  have h0 : C 0 = 0 := by rw [hC, cmpD]
  rw [← hC] at hD
  clear hC l1 l2 h1 h2 o1 o2
  refine Holds.next (fun σ => R = 0 ∧ ∀ a w, Rel cx w0 σ a w → Rel cx w0 { nt := 45, env := [], mem := [] } a w) ?_ ?_
  ·refine zs0 ?_
   refine Holds.loopB (fun j : Nat => { nt := 45, env := [(5, .v true (.int .i64 ((j : Int) - 1))), (0, .v false (words X)), (1, .v false (words Y))], mem := [] }) (fun j => j ≤ X.length ∧ R = C j) id X.length ⟨Nat.le_refl _, hD.symm⟩ (fun a w h => Rel.keep [5, 0, 1] [] h) ?_
   rintro j ⟨hj, hCj⟩
   rcases j with _ | j
   ·refine Holds.seq ?_
    refine zs0 ?_
    exact Holds.condF rfl (Holds.exit ⟨rfl, by rw [hCj, h0], fun x w hr => Rel.keep [] [] hr⟩)
   ·have hsj := hs j
    rw [← hCj] at hsj
    have gX := get_map (l := X) (i := j) (by omega)
    have gY := get_map (l := Y) (i := j) (by omega)
    have e9 : (((j + 1 : Nat) : Int) - 1) = (j : Int) := by omega
    have g9 : (0 : Int) ≤ (j : Int) := by omega
    have gl : (j : Int) < Y.length := by omega
    have gl2 : (j : Int) < X.length := by omega
    obtain ⟨p, hp⟩ : ∃ p, p = X.getD j 0 := ⟨_, rfl⟩
    obtain ⟨q, hq⟩ : ∃ q, q = Y.getD j 0 := ⟨_, rfl⟩
    rw [← hp] at gX hsj
    rw [← hq] at gY hsj
    rw [e9]
    refine Holds.seq ?_
    refine zs1 g9 ?_
    refine Holds.condT rfl (Holds.skip ?_)
    refine Holds.next (fun σ => R = C j ∧ ∀ a w, Rel cx w0 σ a w → Rel cx w0 { nt := 45, env := [(5, .v true (.int .i64 (j : Int))), (0, .v false (words X)), (1, .v false (words Y))], mem := [] } a w) ?_ ?_
    ·refine Holds.blockN ?_
     by_cases hpq : p = q
     ·rw [if_neg (by omega), if_neg (by omega)] at hsj
      refine zd1 [] (an gX <| an gY <| an gl <| an gl2 <| hpq) ?_
      exact Holds.condF rfl (Holds.skip ⟨hsj, fun a w h => Rel.keep [5, 0, 1] [] h⟩)
     ·refine zd1 [] (an gX <| an gY <| an gl <| an gl2 <| hpq) ?_
      refine Holds.condT rfl ?_
      refine Holds.seq ?_
      by_cases hlt : p < q
      ·rw [if_pos hlt] at hsj
       rw [hsj]
       refine zd1 [] (an gX <| an gY <| an gl <| an gl2 <| hlt) ?_
       refine Holds.condT rfl ?_
       refine zs0 ?_
       exact Holds.ret (RetOk.vs rfl (by exact ⟨⟨rfl, id⟩, trivial⟩) rfl)
      ·rw [if_neg hlt, if_pos (by omega)] at hsj
       rw [hsj]
       refine zd1 [] (an gX <| an gY <| an gl <| an gl2 <| hlt) ?_
       refine Holds.condF rfl (Holds.skip ?_)
       refine zs0 ?_
       exact Holds.ret (RetOk.vs rfl (by exact ⟨⟨rfl, id⟩, trivial⟩) rfl)
    ·rintro σ ⟨hC2, hσ⟩
     refine Holds.from hσ ?_
     refine zr0 ?_
     exact ⟨j, ⟨by show j ≤ X.length; omega, hC2⟩, (show j < j + 1 by omega), fun a w h => Rel.keep [5, 0, 1] [] h⟩
  ·rintro σ ⟨hC0, hσ⟩
   rw [hC0]
   refine Holds.from hσ ?_
   refine zs0 ?_
   exact Holds.ret (RetOk.vs rfl (by exact ⟨⟨rfl, id⟩, trivial⟩) rfl)
 ·have g : ¬ (X.length : Int) = Y.length := by omega
  refine zs1 g ?_
  refine Holds.condT rfl ?_
  refine Holds.seq ?_
  by_cases hlt : X.length < Y.length
  ·have g2 : (X.length : Int) < Y.length := by omega
   have := l1 hlt
   rw [cmpN, if_pos this]
   refine zs1 g2 ?_
   refine Holds.condT rfl ?_
   refine zs0 ?_
   exact Holds.ret (RetOk.vs rfl (by exact ⟨⟨rfl, id⟩, trivial⟩) rfl)
  ·have g2 : ¬ (X.length : Int) < Y.length := by omega
   have := l2 (by omega)
   rw [cmpN, if_neg (by omega), if_pos this]
   refine zs1 g2 ?_
   refine Holds.condF rfl (Holds.skip ?_)
   refine zs0 ?_
   exact Holds.ret (RetOk.vs rfl (by exact ⟨⟨rfl, id⟩, trivial⟩) rfl)
def dvW (k : Nat) : List Int → List Int × Nat
 | [] => ([], 0)
 | a :: r => ((((dvW k r).2 * 18446744073709551616 + a.toNat) / k : Nat) :: (dvW k r).1, ((dvW k r).2 * 18446744073709551616 + a.toNat) % k)
theorem dvW_ok {k : Nat} (hk : 0 < k) : ∀ {x : List Int}, okW x → (dvW k x).2 < k ∧ okW (dvW k x).1 ∧ (dvW k x).1.length = x.length ∧ val (dvW k x).1 * k + (dvW k x).2 = val x
 | [], _ => ⟨hk, (fun n hn => by cases hn), rfl, by simp [dvW, val]⟩
 | a :: r, o => by
   obtain ⟨h1, h2, h3, h4⟩ := dvW_ok hk (x := r) fun n hn => o n (by simp [hn])
   have ha := o a (by simp)
   obtain ⟨s, hs⟩ : ∃ s, s = (dvW k r).2 := ⟨_, rfl⟩
   obtain ⟨W, hW⟩ : ∃ W, W = (dvW k r).1 := ⟨_, rfl⟩
   have e : dvW k (a :: r) = ((((s * 18446744073709551616 + a.toNat) / k : Nat) : Int) :: W, (s * 18446744073709551616 + a.toNat) % k) := by rw [dvW, hs, hW]
   rw [← hs] at h1 h4
   rw [← hW] at h2 h3 h4
   rw [e]
   have hq : (s * 18446744073709551616 + a.toNat) / k < 18446744073709551616 := by
    refine (Nat.div_lt_iff_lt_mul hk).2 ?_
    have : (s + 1) * 18446744073709551616 ≤ k * 18446744073709551616 := Nat.mul_le_mul_right _ h1
    omega
   refine ⟨Nat.mod_lt _ hk, fun n hn => ?_, by simp [h3], ?_⟩
   ·rcases List.mem_cons.1 hn with rfl | hn
    ·obtain ⟨q, hq'⟩ : ∃ q, q = (s * 18446744073709551616 + a.toNat) / k := ⟨_, rfl⟩
     rw [← hq'] at hq ⊢
     omega
    ·exact h2 n hn
   ·have hd := Nat.div_add_mod (s * 18446744073709551616 + a.toNat) k
    simp only [val]
    rw [← h4, Nat.add_mul, Nat.mul_comm _ k, Nat.mul_add, Nat.mul_assoc]
    simp only [Int.toNat_natCast]
    omega
theorem dvW_drop {k j : Nat} {x : List Int} (h : j < x.length) : dvW k (x.drop j) = (((((dvW k (x.drop (j + 1))).2 * 18446744073709551616 + (x.getD j 0).toNat) / k : Nat) : Int) :: (dvW k (x.drop (j + 1))).1, ((dvW k (x.drop (j + 1))).2 * 18446744073709551616 + (x.getD j 0).toNat) % k) := by
 rw [List.drop_eq_getElem_cons h, dvW, List.getD_eq_getElem?_getD, List.getElem?_eq_getElem h]; rfl
theorem dvW_val {k : Nat} (hk : 0 < k) {x : List Int} (o : okW x) : val (dvW k x).1 = val x / k ∧ (dvW k x).2 = val x % k := by
 obtain ⟨h1, _, _, h4⟩ := dvW_ok hk o
 obtain ⟨v, hv⟩ : ∃ v, v = val (dvW k x).1 := ⟨_, rfl⟩
 obtain ⟨s, hs⟩ : ∃ s, s = (dvW k x).2 := ⟨_, rfl⟩
 rw [← hv, ← hs] at h4
 rw [← hs] at h1
 rw [← hv, ← hs, ← h4, Nat.mul_comm v k]
 exact ⟨by rw [Nat.mul_add_div hk, Nat.div_eq_of_lt h1, Nat.add_zero], by rw [Nat.mul_add_mod, Nat.mod_eq_of_lt h1]⟩
set_option maxHeartbeats 2000000 in
theorem divWord_ok (x : List Int) (k : Nat) (hx : x.length < 100000) (ox : okW x) (hk : 0 < k) (hk2 : k < 18446744073709551616) : FnOk Tryz.prog 134 [.v (words x), .v (.int .u64 k)] [.v true (words (digs (val x / k))), .v true (.int .u64 (val x % k : Nat))] := by
 obtain ⟨_, ow, lw, _⟩ := dvW_ok hk ox
 obtain ⟨v1, v2⟩ := dvW_val hk ox
 have hT := wTrim_ok (dvW k x).1 (by omega) ow
 rw [v1] at hT
 rw [← v2]
 obtain ⟨D, hD⟩ : ∃ D, D = digs (val x / k) := ⟨_, rfl⟩
 rw [← hD] at hT ⊢
 clear v1 v2 hD
 refine FnOk.of Tryz.func134 rfl rfl fun cx w0 => ?_
 rw [show Tryz.f134.ntmps = 35 from rfl]
 refine zs0 ?_
 refine zs1 tby76 ?_
 refine zs0 ?_
 refine Holds.next (fun σ => ∀ a w, Rel cx w0 σ a w → Rel cx w0 { nt := 35, env := [(7, .v true (.int .u64 (dvW k x).2)), (6, .own 11 0 x.length)], mem := [(11, .buf 91 1 true ((dvW k x).1.map fun n => .int .u64 n))] } a w) ?_ ?_
 ·refine zs0 ?_
  refine Holds.loopB (fun j : Nat => { nt := 35, env := [(8, .v true (.int .i64 ((j : Int) - 1))), (7, .v true (.int .u64 (dvW k (x.drop j)).2)), (6, .own 11 0 x.length), (0, .v false (words x)), (1, .v true (.int .u64 k))], mem := [(11, .buf 91 1 true ((List.replicate j 0 ++ (dvW k (x.drop j)).1).map fun n => .int .u64 n))] }) (fun j => j ≤ x.length) id x.length (Nat.le_refl _) (fun a w h => by
   have := Rel.keep [8, 7, 6, 0, 1] [11] h
   rw [List.drop_length]
   show Rel _ _ { nt := 35, env := _, mem := [(11, .buf 91 1 true ((List.replicate x.length (0 : Int) ++ []).map fun n => .int .u64 n))] } _ _
   rw [List.append_nil, List.map_replicate]
   exact this) ?_
  intro j hj
  rcases j with _ | j
  ·refine Holds.seq ?_
   refine zs0 ?_
   refine Holds.condF rfl (Holds.exit ⟨rfl, fun a w h => ?_⟩)
   exact Rel.keep [7, 6] [11] h
  ·have hjx : j < x.length := by omega
   obtain ⟨d, hd0, hd64⟩ := natW (okW_getD ox j)
   have gx := get_map hjx
   rw [hd0] at gx
   have ho : okW (x.drop (j + 1)) := okW_dropN ox _
   obtain ⟨r1, r2, r3, _⟩ := dvW_ok hk ho
   have hd := dvW_drop (k := k) hjx
   rw [hd0, Int.toNat_natCast] at hd
   obtain ⟨s, hs⟩ : ∃ s, s = (dvW k (x.drop (j + 1))).2 := ⟨_, rfl⟩
   obtain ⟨W, hW⟩ : ∃ W, W = (dvW k (x.drop (j + 1))).1 := ⟨_, rfl⟩
   rw [← hs] at r1 hd
   rw [← hW] at r3 hd
   rw [← hs, ← hW]
   have fD := div64_ok s d k hd64 hk2 r1
   obtain ⟨q, hq⟩ : ∃ q, q = (s * 18446744073709551616 + d) / k := ⟨_, rfl⟩
   obtain ⟨r, hr⟩ : ∃ r, r = (s * 18446744073709551616 + d) % k := ⟨_, rfl⟩
   rw [← hq, ← hr] at hd fD
   rw [List.length_drop] at r3
   have hLl : (List.replicate (j + 1) (0 : Int) ++ W).length = x.length := by rw [List.length_append, List.length_replicate, r3]; omega
   have eset : (List.replicate (j + 1) (0 : Int) ++ W).set j (q : Int) = List.replicate j 0 ++ (q : Int) :: W := by
    rw [show List.replicate (j + 1) (0 : Int) = List.replicate j 0 ++ [0] from by rw [List.replicate_succ'], List.append_assoc, List.set_append_right _ _ (by rw [List.length_replicate]; exact Nat.le_refl _), List.length_replicate, Nat.sub_self]
    rfl
   obtain ⟨Lw, hL⟩ : ∃ Lw, Lw = List.replicate (j + 1) (0 : Int) ++ W := ⟨_, rfl⟩
   rw [← hL] at hLl eset ⊢
   have gL := get_map (l := Lw) (i := j) (by omega)
   refine Holds.seq ?_
   refine zs0 ?_
   refine Holds.condT rfl (Holds.skip ?_)
   refine Holds.next (fun σ => ∀ a w, Rel cx w0 σ a w → Rel cx w0 { nt := 35, env := [(8, .v true (.int .i64 (j : Int))), (7, .v true (.int .u64 r)), (6, .own 11 0 x.length), (0, .v false (words x)), (1, .v true (.int .u64 k))], mem := [(11, .buf 91 1 true ((Lw.set j (q : Int)).map fun n => .int .u64 n))] } a w) ?_ ?_
   ·refine Holds.blockN ?_
    refine zr3 (ρ := fun _ => [.v true (.int .u64 q), .v true (.int .u64 r)]) (an gx <| an gL <| hLl) (o := by repeat' first|exact fD|trivial|constructor) (k := ?_)
    intro a w h
    have := Rel.keep [8, 7, 6, 0, 1] [11] h
    rw [List.map_set]
    exact this
   ·intro σ hσ
    refine Holds.from hσ ?_
    refine zr0 ?_
    refine ⟨j, (by show j ≤ x.length; omega), (show j < j + 1 by omega), fun a w h => ?_⟩
    have := Rel.keep [8, 7, 6, 0, 1] [11] h
    rw [eset] at this
    simp only [hd]
    exact this
 ·intro σ hσ
  refine Holds.from hσ ?_
  have htk : List.take x.length (List.map (fun n => V.int .u64 n) (dvW k x).1) = List.map (fun n => V.int .u64 n) (dvW k x).1 := List.take_of_length_le (by rw [List.length_map]; omega)
  refine zs3 (ρ := fun _ => [.v true (words D)]) htk (o := by repeat' first|exact hT|trivial|constructor) (k := ?_)
  exact Holds.ret (RetOk.vs rfl (by exact ⟨⟨rfl, id⟩, ⟨rfl, id⟩, trivial⟩) rfl)
theorem bitI_orC (k : IntKind) (x y : Int) : bitI .or k x y = bitI .or k y x := by
 show k.wrap ((BitVec.ofInt k.bits x ||| BitVec.ofInt k.bits y).toNat : Int) = k.wrap ((BitVec.ofInt k.bits y ||| BitVec.ofInt k.bits x).toNat : Int)
 rw [BitVec.or_comm]
theorem sh_split {w D E B : Nat} (hB : D * E = B) (hE : 0 < E) (hD : 0 < D) : w * E = w / D * B + w % D * E ∧ w % D * E + E ≤ B ∧ w * E % B = w % D * E := by
 have h1 := Nat.div_add_mod w D
 have h2 := Nat.mod_lt w hD
 have h3 : w * E = w / D * B + w % D * E := by
  have := congrArg (· * E) h1
  simp only [Nat.add_mul] at this
  rw [← hB, ← Nat.mul_assoc, Nat.mul_comm (w / D) D]
  exact this.symm
 have h4 : w % D * E + E ≤ B := by
  have := Nat.mul_le_mul_right E (show w % D + 1 ≤ D by omega)
  rw [Nat.add_mul, Nat.one_mul, hB] at this
  exact this
 refine ⟨h3, h4, ?_⟩
 rw [h3, Nat.mul_comm, Nat.mul_add_mod]
 exact Nat.mod_eq_of_lt (by omega)
structure ShI (X : List Int) (N m r i : Nat) (Z : List Int) : Prop where
 ok : okW Z
 len : Z.length = N
 all : val Z = val (X.take i) * (18446744073709551616 ^ m * 2 ^ r)
 zero : ∀ j, i + m + 1 ≤ j → Z.getD j 0 = 0
 low : (Z.getD (i + m) 0).toNat < 2 ^ r
theorem set_same {l : List Int} {i : Nat} {x : Int} (h : l[i]? = some x) : l.set i x = l := by
 have hi : i < l.length := (List.getElem?_eq_some_iff.1 h).1
 refine List.ext_getElem? fun j => ?_
 rw [List.getElem?_set]
 split
 ·next e => subst e; first | exact h.symm | (rw [if_pos hi]; exact h.symm)
 ·rfl
theorem getD_set {l : List Int} {i j : Nat} {x : Int} (h : i < l.length) : (l.set i x).getD j 0 = if i = j then x else l.getD j 0 := by
 rw [List.getD_eq_getElem?_getD, List.getElem?_set]
 split
 ·rfl
 ·rw [← List.getD_eq_getElem?_getD]
theorem ShI.step {X Z : List Int} {N m r i w z : Nat} (h : ShI X N m r i Z) (hr : r < 64) (hN : i + m + 1 < N) (hw : X.getD i 0 = (w : Int)) (hw64 : w < 18446744073709551616) (hz : Z.getD (i + m) 0 = (z : Int)) :
 z < 2 ^ r ∧ z + w * 2 ^ r % 18446744073709551616 < 18446744073709551616 ∧ ShI X N m r (i + 1) ((Z.set (i + m) ((z + w * 2 ^ r % 18446744073709551616 : Nat) : Int)).set (i + m + 1) ((w / 2 ^ (64 - r) : Nat) : Int)) := by
 have hlow := h.low
 rw [hz, Int.toNat_natCast] at hlow
 have hB : 2 ^ (64 - r) * 2 ^ r = 18446744073709551616 := by rw [← Nat.pow_add, show 64 - r + r = 64 from by omega]
 obtain ⟨s1, s2, s3⟩ := sh_split (w := w) hB (Nat.pow_pos (by decide)) (Nat.pow_pos (by decide))
 have hhi : w / 2 ^ (64 - r) < 2 ^ r := (Nat.div_lt_iff_lt_mul (Nat.pow_pos (by decide))).2 (by rw [Nat.mul_comm, hB]; exact hw64)
 have hE : 2 ^ r < 18446744073709551616 := Nat.lt_of_lt_of_le (Nat.pow_lt_pow_right (by decide) hr) (by decide)
 rw [s3]
 obtain ⟨hi, hhi'⟩ : ∃ hi, hi = w / 2 ^ (64 - r) := ⟨_, rfl⟩
 obtain ⟨lo, hlo⟩ : ∃ lo, lo = w % 2 ^ (64 - r) * 2 ^ r := ⟨_, rfl⟩
 have hall := h.all
 obtain ⟨E, hEe⟩ : ∃ E, E = 2 ^ r := ⟨_, rfl⟩
 rw [← hhi'] at s1 hhi ⊢
 rw [← hlo] at s1 s2 ⊢
 rw [← hEe] at s1 s2 hhi hlow hE hall ⊢
 have l1 : i + m < Z.length := by rw [h.len]; omega
 have l2 : i + m + 1 < (Z.set (i + m) ((z + lo : Nat) : Int)).length := by rw [List.length_set, h.len]; exact hN
 have e0 : (Z.set (i + m) ((z + lo : Nat) : Int)).getD (i + m + 1) 0 = 0 := by rw [getD_set l1, if_neg (by omega)]; exact h.zero _ (Nat.le_refl _)
 have v1 := val_set (n := ((z + lo : Nat) : Int)) l1
 have v2 := val_set (n := (hi : Int)) l2
 rw [e0, Int.toNat_zero, Nat.mul_zero, Nat.add_zero, Int.toNat_natCast] at v2
 rw [hz, Int.toNat_natCast, Int.toNat_natCast] at v1
 refine ⟨hlow, by omega, ⟨okW_set (okW_set h.ok ⟨by omega, by omega⟩) ⟨by omega, by omega⟩, by rw [List.length_set, List.length_set, h.len], ?_, ?_, ?_⟩⟩
 ·rw [v2, val_takeN, hw, Int.toNat_natCast, ← hEe, Nat.add_mul, ← hall]
  have e3 : 18446744073709551616 ^ i * w * (18446744073709551616 ^ m * E) = 18446744073709551616 ^ (i + m) * (w * E) := by
   rw [Nat.pow_add]
   simp only [Nat.mul_assoc, Nat.mul_comm, Nat.mul_left_comm]
  rw [e3, s1, Nat.pow_succ]
  obtain ⟨P, hP⟩ : ∃ P, P = 18446744073709551616 ^ (i + m) := ⟨_, rfl⟩
  rw [← hP] at v1 ⊢
  rw [Nat.mul_add] at v1 ⊢
  rw [Nat.mul_comm hi, ← Nat.mul_assoc]
  omega
 ·intro j hj
  rw [getD_set l2, if_neg (by omega), getD_set l1, if_neg (by omega)]
  exact h.zero j (by omega)
 ·rw [show i + 1 + m = i + m + 1 from by omega, getD_set l2, if_pos rfl, Int.toNat_natCast, ← hEe]
  exact hhi
set_option maxHeartbeats 4000000 in
theorem wShl_ok (x : List Int) (s : Nat) (hx : x.length < 10000) (hs : s < 1000000) (ox : okW x) : FnOk Tryz.prog 55 [.v (words x), .v (.int .i64 s)] [.v true (words (digs (val x * 2 ^ s)))] := by
 have h1 := view_ok x (by omega)
 have lx := trimL_len x
 have o1 := trimL_ok ox
 have hv := val_trim x
 have hz := val_zero ox
 obtain ⟨X, hX⟩ : ∃ X, X = trimL x := ⟨_, rfl⟩
 rw [← hX] at h1 lx o1 hv hz
 clear hX
 obtain ⟨m, hm⟩ : ∃ m, m = s / 64 := ⟨_, rfl⟩
 obtain ⟨r, hr⟩ : ∃ r, r = s % 64 := ⟨_, rfl⟩
 have hqm : (s : Int).tdiv 64 = m := by rw [hm]; exact quoN s 64
 have hrm : (s : Int).tmod 64 = r := by rw [hr]; exact remN s 64
 have hpow : (2 : Nat) ^ s = 18446744073709551616 ^ m * 2 ^ r := by
  have hs' : s = 64 * m + r := by omega
  rw [hs', Nat.pow_add, Nat.pow_mul, show (2 : Nat) ^ 64 = 18446744073709551616 from rfl]
 have hrl : r < 64 := by omega
 have hml : m < 20000 := by omega
 rw [hpow, ← hv]
 rw [← hv] at hz
 clear hpow hm hr ox hv
 obtain ⟨D, hD⟩ : ∃ D, D = digs (val X * (18446744073709551616 ^ m * 2 ^ r)) := ⟨_, rfl⟩
 rw [← hD]
 refine FnOk.of Tryz.func55 rfl rfl fun cx w0 => ?_
 rw [show Tryz.f55.ntmps = 58 from rfl]
 refine zs0 ?_
 refine zs2 (ρ := fun _ => [.v false (words X)]) (o := by repeat' first|exact h1|trivial|constructor) (k := ?_)
 refine Holds.from (σ' := { nt := 58, env := [(0, .v false (words X)), (1, .v true (.int .i64 s))], mem := [] }) (fun a w h => Rel.keep [0, 1] [] h) ?_
 refine Holds.seq ?_
 by_cases hX0 : X = []
 ·subst hX0
  have : D = [] := by rw [hD]; simp [val, digs, digsF]
  subst this
  refine zs0 ?_
  refine Holds.condT rfl ?_
  refine zs0 ?_
  exact Holds.ret ⟨_, [], rfl, ⟨rfl, trivial⟩, by simp [R.names, R.mems, R.blks], by simp, rfl⟩
 have hXp : 0 < X.length := List.length_pos_iff.2 hX0
 have gX0 : ¬ (X.length : Int) = 0 := by omega
 obtain ⟨N, hN⟩ : ∃ N, N = X.length + m + 1 := ⟨_, rfl⟩
 have wN : IntKind.i64.wrap ((X.length : Int) + (m : Int)) = ((X.length + m : Nat) : Int) := by rw [wrap_i64] <;> omega
 have wN1 : IntKind.i64.wrap (((X.length + m : Nat) : Int) + 1) = (N : Int) := by rw [wrap_i64] <;> omega
 refine zs1 gX0 ?_
 refine Holds.condF rfl (Holds.skip ?_)
 refine Holds.from (σ' := { nt := 58, env := [(0, .v false (words X)), (1, .v true (.int .i64 s))], mem := [] }) (fun a w h => Rel.keep [0, 1] [] h) ?_
 refine zs1 (an hqm <| an wN <| an wN1 <| tby76) ?_
 refine Holds.next (fun σ => ∃ Z, ShI X N m r X.length Z ∧ ∀ a w, Rel cx w0 σ a w → Rel cx w0 { nt := 58, env := [(5, .own 19 0 N)], mem := [(19, .buf 91 1 true (Z.map fun n => .int .u64 n))] } a w) ?_ ?_
 ·refine zs0 ?_
  refine Holds.loopB (fun q : Nat × List Int => { nt := 58, env := [(22, .v true (.int .i64 (q.1 : Nat))), (21, .v true (.int .i64 (X.length : Nat))), (20, .v false (words X)), (5, .own 19 0 N), (1, .v true (.int .i64 s))], mem := [(19, .buf 91 1 true (q.2.map fun n => .int .u64 n))] })
   (fun q => q.1 ≤ X.length ∧ ShI X N m r q.1 q.2) (fun q => X.length - q.1) (0, List.replicate N 0)
   ⟨Nat.zero_le _, ⟨(fun q hq => by rw [List.mem_replicate] at hq; omega), List.length_replicate, by rw [val_rep0]; simp [val], fun j _ => by rw [List.getD_eq_getElem?_getD, List.getElem?_replicate]; split <;> rfl, by
     rw [List.getD_eq_getElem?_getD, List.getElem?_replicate]; split <;> exact Nat.pow_pos (by decide)⟩⟩ (fun a w h => by
     have := Rel.keep [22, 21, 20, 5, 1] [19] h
     have iN : ((X.length : Int) + (m : Int) + 1).toNat = N := by omega
     rw [iN] at this
     simp only [List.map_replicate]
     exact this) ?_
  rintro ⟨i, Z⟩ ⟨hi, hI⟩
  simp only at hi hI ⊢
  by_cases hend : i = X.length
  ·have g : ¬ (i : Int) < X.length := by omega
   refine zs1 g ?_
   refine Holds.seq (Holds.condF rfl (Holds.exit ⟨rfl, Z, by rw [← hend]; exact hI, fun a w h => Rel.keep [5] [19] h⟩))
  ·have g : (i : Int) < X.length := by omega
   obtain ⟨w, hw, hw64⟩ := natW (okW_getD o1 i)
   obtain ⟨z, hz1, hz64⟩ := natW (okW_getD hI.ok (i + m))
   obtain ⟨hz2, hsum, hnext⟩ := hI.step hrl (by omega) hw hw64 hz1
   have lZ := hI.len
   have gX : X[i]? = some (w : Int) := by rw [get_map (by omega), hw]
   have gZ : Z[i + m]? = some (z : Int) := by rw [get_map (by omega), hz1]
   have iz : ((i : Int) + (m : Int)).toNat = i + m := by omega
   have iz1 : ((i : Int) + (m : Int) + 1).toNat = i + m + 1 := by omega
   have g1 : (0 : Int) ≤ (i : Int) + (m : Int) := by omega
   have g2 : (i : Int) + (m : Int) < N := by omega
   have g3 : (0 : Int) ≤ (i : Int) + (m : Int) + 1 := by omega
   have g4 : (i : Int) + (m : Int) + 1 < N := by omega
   have wi : IntKind.i64.wrap ((i : Int) + (m : Int)) = (i : Int) + (m : Int) := by rw [wrap_i64] <;> omega
   have wi1 : IntKind.i64.wrap ((i : Int) + (m : Int) + 1) = (i : Int) + (m : Int) + 1 := by rw [wrap_i64] <;> omega
   have wk : IntKind.i64.wrap ((i : Int) + 1) = ((i + 1 : Nat) : Int) := by rw [wrap_i64] <;> omega
   have hB : 2 ^ (64 - r) * 2 ^ r = 18446744073709551616 := by rw [← Nat.pow_add, show 64 - r + r = 64 from by omega]
   obtain ⟨_, _, s3⟩ := sh_split (w := w) hB (Nat.pow_pos (by decide)) (Nat.pow_pos (by decide))
   have wl := shlN w r hrl
   have wo : bitI .or .u64 (z : Int) ((w * 2 ^ r % 18446744073709551616 : Nat) : Int) = ((z + w * 2 ^ r % 18446744073709551616 : Nat) : Int) := by
    rw [bitI_orC, s3, orN _ z r hz2 (by rw [← s3, Nat.add_comm]; exact hsum), Nat.add_comm]
   have w64 : (64 : Int) - (r : Int) = ((64 - r : Nat) : Int) := by omega
   have whi := shrG w (64 - r) (by omega)
   have whi2 : IntKind.u64.wrap ((w / 2 ^ (64 - r) : Nat) : Int) = ((w / 2 ^ (64 - r) : Nat) : Int) := wrapN _ (Nat.lt_of_le_of_lt (Nat.div_le_self _ _) hw64)
   obtain ⟨y, hy⟩ : ∃ y, y = z + w * 2 ^ r % 18446744073709551616 := ⟨_, rfl⟩
   obtain ⟨u, hu⟩ : ∃ u, u = w / 2 ^ (64 - r) := ⟨_, rfl⟩
   obtain ⟨lo, hlo⟩ : ∃ lo, lo = w * 2 ^ r % 18446744073709551616 := ⟨_, rfl⟩
   rw [← hlo] at wl wo hy
   rw [← hy] at wo
   rw [← hlo, ← hy, ← hu] at hnext
   rw [← hu] at whi whi2
   have hu0 : r = 0 → (Z.set (i + m) (y : Int)).set (i + m + 1) (u : Int) = Z.set (i + m) (y : Int) := fun h => by
    have : u = 0 := by rw [hu, h]; exact Nat.div_eq_of_lt hw64
    rw [this]
    have e0 : (Z.set (i + m) (y : Int))[i + m + 1]? = some 0 := by
     rw [get_map (by rw [List.length_set]; omega), getD_set (by omega), if_neg (by omega), hI.zero _ (Nat.le_refl _)]
    exact set_same e0
   refine zs1 g ?_
   refine Holds.seq (Holds.condT rfl (Holds.skip ?_))
   show Holds _ _ _ _ _ _ _
   refine Holds.next (fun σ => ∀ a w, Rel cx w0 σ a w → Rel cx w0 { nt := 58, env := [(22, .v true (.int .i64 (i : Nat))), (21, .v true (.int .i64 (X.length : Nat))), (20, .v false (words X)), (5, .own 19 0 N), (1, .v true (.int .i64 s))], mem := [(19, .buf 91 1 true (((Z.set (i + m) (y : Int)).set (i + m + 1) (u : Int)).map fun n => .int .u64 n))] } a w) ?_ ?_
   ·refine Holds.blockN ?_
    refine zs1 gX ?_
    refine zd1 [] (an hqm <| an hrm <| an wi <| an iz <| an g1 <| an g2 <| an gZ <| an wl <| an wo <| lZ) ?_
    by_cases hr0 : r = 0
    ·rw [hu0 hr0]
     have g5 : ¬ (0 : Int) < (r : Int) := by omega
     refine zs1 (an hrm <| g5) ?_
     exact Holds.condF rfl (Holds.skip fun a w h => by
      have := Rel.keep [22, 21, 20, 5, 1] [19] h
      rw [List.map_set]
      exact this)
    ·have g5 : (0 : Int) < (r : Int) := by omega
     obtain ⟨Z', hZ'⟩ : ∃ Z', Z' = Z.set (i + m) (y : Int) := ⟨_, rfl⟩
     have lZ' : Z'.length = N := by rw [hZ', List.length_set, lZ]
     have gZ' := get_map (l := Z') (i := i + m + 1) (by omega)
     refine Holds.from (σ' := { nt := 58, env := [(6, .v true (.int .i64 (i : Nat))), (7, .v true (.int .u64 w)), (22, .v true (.int .i64 (i : Nat))), (21, .v true (.int .i64 (X.length : Nat))), (20, .v false (words X)), (5, .own 19 0 N), (1, .v true (.int .i64 s))], mem := [(19, .buf 91 1 true (Z'.map fun n => .int .u64 n))] }) (fun a w h => by
      have := Rel.keep [6, 7, 22, 21, 20, 5, 1] [19] h
      rw [hZ', List.map_set]
      exact this) ?_
     rw [← hZ']
     refine zs1 (an hrm <| g5) ?_
     refine Holds.condT rfl ?_
     refine zr1 (an hqm <| an hrm <| an wi <| an wi1 <| an iz1 <| an g3 <| an g4 <| an w64 <| an whi <| an whi2 <| an lZ' <| gZ') ?_
     intro a w h
     have := Rel.keep [22, 21, 20, 5, 1] [19] h
     rw [List.map_set]
     exact this
   ·intro σ hσ
    refine Holds.from hσ ?_
    refine zr1 wk ?_
    exact ⟨(i + 1, _), ⟨by show i + 1 ≤ X.length; omega, hnext⟩, (show X.length - (i + 1) < X.length - i by omega), fun a w h => Rel.keep [22, 21, 20, 5, 1] [19] h⟩
 ·rintro σ ⟨Z, hI, hσ⟩
  refine Holds.from hσ ?_
  have hT := wTrim_ok Z (by rw [hI.len]; omega) hI.ok
  rw [hI.all, List.take_length, ← hD] at hT
  have lZ := hI.len
  have htk : List.take N (List.map (fun n => V.int .u64 n) Z) = List.map (fun n => V.int .u64 n) Z := List.take_of_length_le (by rw [List.length_map]; omega)
  refine zs3 (ρ := fun _ => [.v true (words D)]) htk (o := by repeat' first|exact hT|trivial|constructor) (k := ?_)
  exact Holds.ret (RetOk.vs rfl (by exact ⟨⟨rfl, id⟩, trivial⟩) rfl)
end Go.Proofs.YtlpolbeikangpaaGreatDoor.L
