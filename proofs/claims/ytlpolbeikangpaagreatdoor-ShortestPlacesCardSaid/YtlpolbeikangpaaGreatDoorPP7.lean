/-
  Gf Gg Gh Gi Gj Gk Ha Hb Hc Hd He Hf Hg Hk Hn Ho Ia Ib Ic Id Ii Ij Ik Il Ja Jb Jc Jg Ji Ka
-/
import Derived.Test.YtlpolbeikangpaaGreatDoorPP4
import Derived.Test.YtlpolbeikangpaaGreatDoorPP6
import Derived.Test.YtlpolbeikangpaaGreatDoorPP5
import Derived.Test.YtlpolbeikangpaaGreatDoorPP3
import Derived.Laws.RangeString
set_option linter.unusedSimpArgs false
set_option linter.unusedVariables false
set_option maxRecDepth 100000
namespace Go.Proofs.YtlpolbeikangpaaGreatDoor.L
open Go Go.RowKit Go.Proofs
attribute [local go_sem] evalOps_nil evalOps_cons runW_t runW_f runE_s runP_s wantA evalOp effOp letters okDst coreA St.opv St.get St.at look constA St.put St.upd St.set decide_true List.all_nil List.all_cons Bool.and_true Bool.true_and and_self and_true true_and if_true if_false true_or Int.sub_zero List.nil_append List.cons_append List.append_nil Option.isSome_some List.getElem?_toArray List.getElem?_cons_succ List.getElem?_cons_zero Option.bind_some Option.map_some Option.map_none beq_self_eq_true Bool.false_beq Bool.true_beq Bool.not_true Bool.not_false Bool.false_eq_true cond_true cond_false binA binI List.map_cons List.map_nil boundA List.length_nil List.length_cons Nat.zero_mul Nat.one_mul Nat.mul_one Nat.zero_add Nat.add_zero Nat.zero_le Option.toList St.freshB AV.ment AV.ments Blk.ment V.sizes Nat.lt_add_one Bool.or_true Bool.true_or Bool.or_false Bool.false_or Bool.or_self if_pos if_neg decide_false decide_eq_true decide_eq_false wrap_i64 Int.toNat_natCast minA maxA Int.natCast_add Int.cast_ofNat_Int Option.isSome_none false_implies true_implies forall_const List.drop_zero Int.toNat_zero Int.add_sub_cancel lenA sliceA loadA indexAddrA partA fitsT V.atP V.offP V.size List.length_map List.getElem?_map Int.toNat_natCast_add_one Int.ofNat_eq_natCast TY calleeA capArg knotA capArgs toArgs toArg callA R.res R.mems R.blks R.av R.names R.nw invokeA storeA storeV fieldAddrA liveB V.off V.offs V.setP List.set_cons_zero List.set_cons_succ buildA buildP partsA appendA srcA copyA boxOk makeA AV.pure List.take_succ_cons List.take_zero nilA words unA entry List.zipIdx_cons List.zipIdx_nil Arg.av Arg.avs
def shr1 (r a h : Nat) : Nat := a / 2 ^ r + h * 2 ^ (64 - r) % 18446744073709551616
def shrL (r : Nat) : List Int → List Int
 | [] => []
 | a :: t => ((shr1 r a.toNat (t.getD 0 0).toNat : Nat) : Int) :: shrL r t
theorem shr1_ok {r a h : Nat} (hr : r < 64) (ha : a < 18446744073709551616) : shr1 r a h < 18446744073709551616 ∧ shr1 r a h * 2 ^ r + a % 2 ^ r = a + 18446744073709551616 * (h % 2 ^ r) ∧ a / 2 ^ r < 2 ^ (64 - r) ∧ h * 2 ^ (64 - r) % 18446744073709551616 = h % 2 ^ r * 2 ^ (64 - r) := by
 have hB : 2 ^ (64 - r) * 2 ^ r = 18446744073709551616 := by rw [← Nat.pow_add, show 64 - r + r = 64 from by omega]
 have hB2 : 2 ^ r * 2 ^ (64 - r) = 18446744073709551616 := by rw [Nat.mul_comm]; exact hB
 obtain ⟨s1, s2, s3⟩ := sh_split (w := h) hB2 (Nat.pow_pos (by decide)) (Nat.pow_pos (by decide))
 have hlt : a / 2 ^ r < 2 ^ (64 - r) := (Nat.div_lt_iff_lt_mul (Nat.pow_pos (by decide))).2 (by rw [hB]; exact ha)
 have hd := Nat.div_add_mod a (2 ^ r)
 unfold shr1
 rw [s3]
 refine ⟨by omega, ?_, hlt, rfl⟩
 rw [Nat.add_mul, Nat.mul_assoc, hB, Nat.mul_comm (a / 2 ^ r), Nat.mul_comm (h % 2 ^ r)]
 omega
theorem shrL_ok {r : Nat} (hr : r < 64) : ∀ {X : List Int}, okW X → okW (shrL r X) ∧ (shrL r X).length = X.length ∧ val (shrL r X) * 2 ^ r + (X.getD 0 0).toNat % 2 ^ r = val X
 | [], _ => ⟨(fun n hn => by cases hn), rfl, by simp [shrL, val]⟩
 | a :: t, o => by
   obtain ⟨h1, h2, h3⟩ := shrL_ok hr (X := t) fun n hn => o n (by simp [hn])
   obtain ⟨b, hb, hb64⟩ := natW (o a (by simp))
   subst hb
   obtain ⟨k1, k2, _, _⟩ := shr1_ok (h := (t.getD 0 0).toNat) hr hb64
   rw [shrL, Int.toNat_natCast]
   refine ⟨fun n hn => ?_, by rw [List.length_cons, List.length_cons, h2], ?_⟩
   ·rcases List.mem_cons.1 hn with rfl | hn
    ·omega
    ·exact h1 n hn
   ·rw [val, val, Int.toNat_natCast, Int.toNat_natCast, show ((b : Int) :: t).getD 0 0 = (b : Int) from rfl, Int.toNat_natCast]
    rw [Nat.add_mul, Nat.mul_assoc]
    obtain ⟨p, hp⟩ : ∃ p, p = shr1 r b (t.getD 0 0).toNat * 2 ^ r := ⟨_, rfl⟩
    obtain ⟨q, hq⟩ : ∃ q, q = val (shrL r t) * 2 ^ r := ⟨_, rfl⟩
    rw [← hp] at k2 ⊢
    rw [← hq] at h3 ⊢
    omega
theorem shrL_val {r : Nat} (hr : r < 64) {X : List Int} (o : okW X) : val (shrL r X) = val X / 2 ^ r := by
 obtain ⟨_, _, h⟩ := shrL_ok hr o
 have hp : 0 < 2 ^ r := Nat.pow_pos (by decide)
 rw [← h, Nat.mul_comm, Nat.mul_add_div hp, Nat.div_eq_of_lt (Nat.mod_lt _ hp), Nat.add_zero]
theorem shrL_get {r : Nat} : ∀ (X : List Int) (i : Nat), i < X.length → (shrL r X).getD i 0 = (shr1 r (X.getD i 0).toNat (X.getD (i + 1) 0).toNat : Nat)
 | a :: t, 0, _ => by
   show (((shr1 r a.toNat (t.getD 0 0).toNat : Nat) : Int) :: shrL r t).getD 0 0 = _
   rfl
 | a :: t, i + 1, h => shrL_get t i (by simpa using h)
set_option maxHeartbeats 4000000 in
theorem wShr_ok (x : List Int) (s : Nat) (hx : x.length < 10000) (hs : s < 1000000) (ox : okW x) : FnOk Tryz.prog 187 [.v (words x), .v (.int .i64 s)] [.v true (words (digs (val x / 2 ^ s)))] := by
 have h1 := view_ok x (by omega)
 have lx := trimL_len x
 have o1 := trimL_ok ox
 have hv := val_trim x
 obtain ⟨X, hX⟩ : ∃ X, X = trimL x := ⟨_, rfl⟩
 rw [← hX] at h1 lx o1 hv
 clear hX
 obtain ⟨m, hm⟩ : ∃ m, m = s / 64 := ⟨_, rfl⟩
 obtain ⟨r, hr⟩ : ∃ r, r = s % 64 := ⟨_, rfl⟩
 have hqm : (s : Int).tdiv 64 = m := by rw [hm]; exact quoN s 64
 have hrm : (s : Int).tmod 64 = r := by rw [hr]; exact remN s 64
 have hpow : (2 : Nat) ^ s = 18446744073709551616 ^ m * 2 ^ r := by
  have hs' : s = 64 * m + r := by omega
  rw [hs', Nat.pow_add, Nat.pow_mul, show (2 : Nat) ^ 64 = 18446744073709551616 from rfl]
 have hrl : r < 64 := by omega
 have hml : m < 20000 := by omega
 rw [hpow, ← hv]
 clear hpow hm hr ox hv
 refine FnOk.of Tryz.func187 rfl rfl fun cx w0 => ?_
 rw [show Tryz.f187.ntmps = 64 from rfl]
 refine zs0 ?_
 refine zs2 (ρ := fun _ => [.v false (words X)]) (o := by repeat' first|exact h1|trivial|constructor) (k := ?_)
 refine Holds.from (σ' := { nt := 64, env := [(0, .v false (words X)), (1, .v true (.int .i64 s))], mem := [] }) (fun a w h => Rel.keep [0, 1] [] h) ?_
 refine Holds.seq ?_
 by_cases hmX : X.length ≤ m
 ·have : val X / (18446744073709551616 ^ m * 2 ^ r) = 0 := by
   refine Nat.div_eq_of_lt ?_
   have h2 := val_lt o1
   have h3 : 18446744073709551616 ^ X.length ≤ 18446744073709551616 ^ m := Nat.pow_le_pow_right (by decide) hmX
   have h4 : 18446744073709551616 ^ m * 1 ≤ 18446744073709551616 ^ m * 2 ^ r := Nat.mul_le_mul_left _ (Nat.pow_pos (by decide))
   omega
  rw [this]
  have g : (X.length : Int) ≤ m := by omega
  refine zs1 (an hqm <| g) ?_
  refine Holds.condT rfl ?_
  refine zs0 ?_
  exact Holds.ret ⟨_, [], rfl, ⟨rfl, trivial⟩, by simp [R.names, R.mems, R.blks], by simp, rfl⟩
 have g : ¬ (X.length : Int) ≤ m := by omega
 have hcut : val X / (18446744073709551616 ^ m * 2 ^ r) = val (shrL r (X.drop m)) := by
  rw [shrL_val hrl (okW_dropN o1 m), ← Nat.div_div_eq_div_mul]
  congr 1
  have e : val X = val (X.take m) + 18446744073709551616 ^ m * val (X.drop m) := by
   have := val_append (X.take m) (X.drop m)
   rw [List.take_append_drop, List.length_take, Nat.min_eq_left (by omega)] at this
   exact this
  have h2 := val_lt (okW_take o1 m)
  rw [List.length_take, Nat.min_eq_left (by omega)] at h2
  rw [e, Nat.add_comm, Nat.mul_add_div (Nat.pow_pos (by decide)), Nat.div_eq_of_lt h2, Nat.add_zero]
 rw [hcut]
 have oY := okW_dropN o1 m
 have lY : (X.drop m).length = X.length - m := List.length_drop
 have hdr : List.drop m (List.map (fun n => V.int .u64 n) X) = List.map (fun n => V.int .u64 n) (X.drop m) := List.map_drop.symm
 refine zs1 (an hqm <| g) ?_
 refine Holds.condF rfl (Holds.skip ?_)
 refine Holds.from (σ' := { nt := 64, env := [(0, .v false (words X)), (1, .v true (.int .i64 s))], mem := [] }) (fun a w h => Rel.keep [0, 1] [] h) ?_
 have gm : (0 : Int) ≤ m := by omega
 have gm2 : (m : Int) ≤ X.length := by omega
 have htk0 : List.take X.length (List.map (fun n => V.int .u64 n) X) = List.map (fun n => V.int .u64 n) X := List.take_of_length_le (by rw [List.length_map]; exact Nat.le_refl _)
 refine zs1 (an hqm <| an gm <| an gm2 <| an hdr <| htk0) ?_
 obtain ⟨oR, lR, _⟩ := shrL_ok hrl oY
 have hget := fun i h => shrL_get (r := r) (X.drop m) i h
 have hT := wTrim_ok (shrL r (X.drop m)) (by omega) oR
 obtain ⟨Y, hY⟩ : ∃ Y, Y = X.drop m := ⟨_, rfl⟩
 rw [← hY] at hT lY oY lR hget ⊢
 obtain ⟨S, hS⟩ : ∃ S, S = shrL r Y := ⟨_, rfl⟩
 rw [← hS] at hT lR hget ⊢
 obtain ⟨D, hD⟩ : ∃ D, D = digs (val S) := ⟨_, rfl⟩
 rw [← hD] at hT ⊢
 clear hcut hdr htk0 gm gm2 g hY hS hD o1 oR h1 hmX
 refine Holds.from (σ' := { nt := 64, env := [(0, .v false (words Y)), (1, .v true (.int .i64 s))], mem := [] }) (fun a w h => Rel.keep [0, 1] [] h) ?_
 have hYl : Y.length < 100000 := by omega
 clear lY lx hx
 refine zs1 tby76 ?_
 refine Holds.next (fun σ => ∀ a w, Rel cx w0 σ a w → Rel cx w0 { nt := 64, env := [(5, .own 20 0 Y.length)], mem := [(20, .buf 91 1 true (S.map fun n => .int .u64 n))] } a w) ?_ ?_
 ·refine zs0 ?_
  refine Holds.loopB (fun i : Nat => { nt := 64, env := [(23, .v true (.int .i64 (i : Nat))), (22, .v true (.int .i64 (Y.length : Nat))), (5, .own 20 0 Y.length), (0, .v false (words Y)), (1, .v true (.int .i64 s))], mem := [(20, .buf 91 1 true ((S.take i ++ List.replicate (Y.length - i) 0).map fun n => .int .u64 n))] })
   (fun i => i ≤ Y.length) (fun i => Y.length - i) 0 (Nat.zero_le _) (fun a w h => by
     have := Rel.keep [23, 22, 5, 0, 1] [20] h
     rw [List.take_zero, List.nil_append, Nat.sub_zero, List.map_replicate]
     exact this) ?_
  intro i hi
  by_cases hend : i = Y.length
  ·have g : ¬ (i : Int) < Y.length := by omega
   refine zs1 g ?_
   refine Holds.seq (Holds.condF rfl (Holds.exit ⟨rfl, fun a w h => ?_⟩))
   have := Rel.keep [5] [20] h
   rw [hend, Nat.sub_self, List.replicate_zero, List.append_nil, List.take_of_length_le (by omega)] at this
   exact this
  ·have g : (i : Int) < Y.length := by omega
   have hil : i < Y.length := by omega
   obtain ⟨a, ha, ha64⟩ := natW (okW_getD oY i)
   obtain ⟨b, hb, hb64⟩ := natW (okW_getD oY (i + 1))
   have hgi := hget i hil
   rw [ha, hb, Int.toNat_natCast, Int.toNat_natCast] at hgi
   obtain ⟨k1, _, k3, k4⟩ := shr1_ok (h := b) hrl ha64
   have gA : Y[i]? = some (a : Int) := by rw [get_map hil, ha]
   have sr := shrG a r (by omega)
   have wa : IntKind.u64.wrap ((a / 2 ^ r : Nat) : Int) = ((a / 2 ^ r : Nat) : Int) := wrapN _ (Nat.lt_of_le_of_lt (Nat.div_le_self _ _) ha64)
   have wk : IntKind.i64.wrap ((i : Int) + 1) = ((i + 1 : Nat) : Int) := by rw [wrap_i64] <;> omega
   obtain ⟨C, hC⟩ : ∃ C, C = S.take i ++ List.replicate (Y.length - i) (0 : Int) := ⟨_, rfl⟩
   have lC : C.length = Y.length := by rw [hC, List.length_append, List.length_take, List.length_replicate]; omega
   have hset : ∀ v : Int, C.set i v = S.take i ++ v :: List.replicate (Y.length - (i + 1)) (0 : Int) := fun v => by
    have l1 : (S.take i).length = i := by rw [List.length_take]; omega
    rw [hC, List.set_append_right _ _ (by omega), l1, Nat.sub_self, show Y.length - i = (Y.length - (i + 1)) + 1 from by omega, List.replicate_succ, List.set_cons_zero]
   have hnew : C.set i (shr1 r a b : Nat) = S.take (i + 1) ++ List.replicate (Y.length - (i + 1)) (0 : Int) := by
    rw [hset, take_succ (x := S) (k := i) (by omega), hgi, List.append_assoc]; rfl
   obtain ⟨q, hq⟩ : ∃ q, q = a / 2 ^ r := ⟨_, rfl⟩
   rw [← hq] at k3 sr wa
   have gC := get_map (l := C) (i := i) (by omega)
   rw [← hC]
   refine zs1 g ?_
   refine Holds.seq (Holds.condT rfl (Holds.skip ?_))
   show Holds _ _ _ _ _ _ _
   refine Holds.next (fun σ => ∀ x w, Rel cx w0 σ x w → Rel cx w0 { nt := 64, env := [(23, .v true (.int .i64 (i : Nat))), (22, .v true (.int .i64 (Y.length : Nat))), (5, .own 20 0 Y.length), (0, .v false (words Y)), (1, .v true (.int .i64 s))], mem := [(20, .buf 91 1 true ((C.set i (shr1 r a b : Nat)).map fun n => .int .u64 n))] } x w) ?_ ?_
   ·refine Holds.blockN ?_
    refine zs0 ?_
    refine zs1 (an gA <| an hrm <| an sr <| an wa <| an gC <| lC) ?_
    by_cases hr0 : 0 < r ∧ i + 1 < Y.length
    ·have g5 : (0 : Int) < (r : Int) := by omega
     have g6 : ((i + 1 : Nat) : Int) < Y.length := by omega
     have hil1 : i + 1 < Y.length := hr0.2
     have gB : Y[i + 1]? = some (b : Int) := by rw [get_map hil1, hb]
     obtain ⟨C1, hC1⟩ : ∃ C1, C1 = C.set i (q : Int) := ⟨_, rfl⟩
     have lC1 : C1.length = Y.length := by rw [hC1, List.length_set, lC]
     have gC1 : C1[i]? = some (q : Int) := by rw [hC1, List.getElem?_set_self (by omega)]
     have w64 : (64 : Int) - (r : Int) = ((64 - r : Nat) : Int) := by omega
     have sl := shlN b (64 - r) (by omega)
     have wo : bitI .or .u64 (q : Int) ((b * 2 ^ (64 - r) % 18446744073709551616 : Nat) : Int) = ((shr1 r a b : Nat) : Int) := by
      unfold shr1 at k1 ⊢
      rw [← hq] at k1 ⊢
      rw [k4] at k1 ⊢
      rw [bitI_orC, orN _ q (64 - r) k3 (by rw [Nat.add_comm]; exact k1), Nat.add_comm]
     obtain ⟨lo, hlo⟩ : ∃ lo, lo = b * 2 ^ (64 - r) % 18446744073709551616 := ⟨_, rfl⟩
     rw [← hlo] at sl wo
     have hss : C.set i (shr1 r a b : Nat) = C1.set i (shr1 r a b : Nat) := by rw [hC1, List.set_set]
     rw [hss]
     have ii : ((i + 1 : Nat) : Int).toNat = i + 1 := by omega
     have gi0 : (0 : Int) ≤ ((i + 1 : Nat) : Int) := by omega
     obtain ⟨i1, hi1⟩ : ∃ i1, i1 = i + 1 := ⟨_, rfl⟩
     rw [← hi1] at wk g6 gB ii gi0 hil1
     refine Holds.from (σ' := { nt := 64, env := [(6, .v true (.int .i64 (i : Nat))), (23, .v true (.int .i64 (i : Nat))), (22, .v true (.int .i64 (Y.length : Nat))), (5, .own 20 0 Y.length), (0, .v false (words Y)), (1, .v true (.int .i64 s))], mem := [(20, .buf 91 1 true (C1.map fun n => .int .u64 n))] }) (fun x w h => by
      have := Rel.keep [6, 23, 22, 5, 0, 1] [20] h
      rw [hC1, List.map_set]
      exact this) ?_
     refine zs1 (an hrm <| an g5 <| an g6 <| wk) ?_
     refine Holds.condT rfl ?_
     refine zq1 [] (an hrm <| an wk <| an gi0 <| an g6 <| an ii <| an gB <| an gC1 <| an lC1 <| an w64 <| an sl <| wo) ?_
     intro x w h
     have := Rel.keep [23, 22, 5, 0, 1] [20] h
     rw [List.map_set]
     exact this
    ·have hsame : shr1 r a b = q := by
      unfold shr1
      rw [← hq]
      rcases Nat.eq_zero_or_pos r with h0 | h0
      ·rw [h0]; simp
      ·have : b = 0 := by
        have h1 : Y.length ≤ i + 1 := by omega
        have e : Y.getD (i + 1) 0 = 0 := by rw [List.getD_eq_getElem?_getD, List.getElem?_eq_none h1]; rfl
        omega
       rw [this]; simp
     rw [hsame]
     by_cases h0 : 0 < r
     ·have g5 : (0 : Int) < (r : Int) := by omega
      have g6 : ¬ ((i + 1 : Nat) : Int) < Y.length := by omega
      obtain ⟨i1, hi1⟩ : ∃ i1, i1 = i + 1 := ⟨_, rfl⟩
      rw [← hi1] at wk g6
      refine zs1 (an hrm <| an g5 <| an g6 <| wk) ?_
      exact Holds.condF rfl (Holds.skip fun x w h => by
       have := Rel.keep [23, 22, 5, 0, 1] [20] h
       rw [List.map_set]
       exact this)
     ·have g5 : ¬ (0 : Int) < (r : Int) := by omega
      refine zs1 (an hrm <| g5) ?_
      exact Holds.condF rfl (Holds.skip fun x w h => by
       have := Rel.keep [23, 22, 5, 0, 1] [20] h
       rw [List.map_set]
       exact this)
   ·intro σ hσ
    refine Holds.from hσ ?_
    rw [hnew]
    refine zr1 wk ?_
    exact ⟨i + 1, (by show i + 1 ≤ Y.length; omega), (show Y.length - (i + 1) < Y.length - i by omega), fun a w h => Rel.keep [23, 22, 5, 0, 1] [20] h⟩
 ·intro σ hσ
  refine Holds.from hσ ?_
  have htk : List.take Y.length (List.map (fun n => V.int .u64 n) S) = List.map (fun n => V.int .u64 n) S := List.take_of_length_le (by rw [List.length_map]; omega)
  refine zs3 (ρ := fun _ => [.v true (words D)]) htk (o := by repeat' first|exact hT|trivial|constructor) (k := ?_)
  exact Holds.ret (RetOk.vs rfl (by exact ⟨⟨rfl, id⟩, trivial⟩) rfl)
structure DvJ (d : List Int) (L M Z : Nat) (j : Nat) (A Qs : List Int) : Prop where
 le : j ≤ M
 oA : okW A
 lA : A.length = L
 oQ : okW Qs
 lQ : Qs.length = M
 all : val A + val d * (18446744073709551616 ^ j * val (Qs.drop j)) = Z
 up : val (A.drop j) < val d
theorem DvJ.last {d : List Int} {L M Z : Nat} {A Qs : List Int} (h : DvJ d L M Z 0 A Qs) (hd0 : 0 < val d) : val A = Z % val d ∧ val Qs = Z / val d := by
 have h1 := h.all
 have h2 := h.up
 rw [List.drop_zero, Nat.pow_zero, Nat.one_mul] at h1
 rw [List.drop_zero] at h2
 exact ⟨by rw [← h1, Nat.add_mul_mod_self_left, Nat.mod_eq_of_lt h2], by rw [← h1, Nat.add_mul_div_left _ _ hd0, Nat.div_eq_of_lt h2, Nat.zero_add]⟩
theorem val_cut (l : List Int) (k : Nat) (hk : k ≤ l.length) : val l = val (l.take k) + 18446744073709551616 ^ k * val (l.drop k) := by
 have := val_append (l.take k) (l.drop k)
 rw [List.take_append_drop, List.length_take, Nat.min_eq_left hk] at this
 exact this
theorem val_sdrop {l : List Int} {j : Nat} {g : Nat} (hj : j < l.length) : val ((l.set j (g : Int)).drop j) = g + 18446744073709551616 * val (l.drop (j + 1)) := by
 rw [List.drop_set, if_neg (Nat.lt_irrefl _), Nat.sub_self, List.drop_eq_getElem_cons hj, List.set_cons_zero, val, Int.toNat_natCast]
theorem gs_near {P t3 t2 w0 v0 w vd v1 v2 q g : Nat} (hw : w = w0 + P * t3) (hw0 : w0 < P) (hvd : vd = v0 + P * t2) (hv0 : v0 < P) (ht2 : t2 = v1 * 18446744073709551616 + v2) (hv1 : 0 < v1) (hlt : w < vd * 18446744073709551616)
 (hg : g = w / vd) (hq : q = min 18446744073709551615 (t3 / t2)) : q = g ∨ q = g + 1 := by
 have ht0 : 18446744073709551616 ≤ t2 := by omega
 have hvd0 : 0 < vd := by
  have := Nat.mul_le_mul_left P ht0
  omega
 have h1 : g ≤ 18446744073709551615 := by
  have : g < 18446744073709551616 := by rw [hg]; exact (Nat.div_lt_iff_lt_mul hvd0).2 (by rw [Nat.mul_comm]; exact hlt)
  omega
 have hgw : g * vd ≤ w := by rw [hg]; exact Nat.div_mul_le_self _ _
 have h2 : g ≤ t3 / t2 := digit_le (P := P) (w := w) (by rw [hw, Nat.mul_add, Nat.mul_one]; omega) (by rw [hvd]; omega) (by omega) (by omega) hgw
 have hge : g ≤ q := by rw [hq]; exact Nat.le_min.2 ⟨h1, h2⟩
 have hq1 : q ≤ 18446744073709551615 := by rw [hq]; exact Nat.min_le_left _ _
 have hq2 : q * t2 ≤ t3 := by
  have : q ≤ t3 / t2 := by rw [hq]; exact Nat.min_le_right _ _
  exact (Nat.le_div_iff_mul_le (by omega)).1 this
 have hle : q ≤ g + 1 := by
  rcases Nat.eq_zero_or_pos q with h0 | h0
  ·omega
  ·obtain ⟨p, hp⟩ : ∃ p, q = p + 1 := ⟨q - 1, by omega⟩
   have h3 : p * vd ≤ w := by
    have e1 : q * vd = q * v0 + P * (q * t2) := by rw [hvd, Nat.mul_add, Nat.mul_left_comm]
    have e2 := Nat.mul_le_mul_left P hq2
    have e3 : q * v0 ≤ 18446744073709551616 * P := Nat.mul_le_mul (by omega) (Nat.le_of_lt hv0)
    have e4 := Nat.mul_le_mul_left P ht0
    rw [hp, Nat.add_mul, Nat.one_mul, ← hp] at e1
    omega
   have : p ≤ g := by rw [hg]; exact (Nat.le_div_iff_mul_le hvd0).2 h3
   omega
 omega
theorem val_top {l : List Int} {n2 a b c : Nat} (ha : l.getD (n2 + 2) 0 = (a : Int)) (hb : l.getD (n2 + 1) 0 = (b : Int)) (hc : l.getD n2 0 = (c : Int)) :
 val (l.take (n2 + 3)) = val (l.take n2) + 18446744073709551616 ^ n2 * (a * 18446744073709551616 * 18446744073709551616 + b * 18446744073709551616 + c) := by
 rw [val_takeN, val_takeN, val_takeN, ha, hb, hc, Int.toNat_natCast, Int.toNat_natCast, Int.toNat_natCast, Nat.pow_succ, Nat.pow_succ, Nat.mul_add, Nat.mul_add]
 have e1 : 18446744073709551616 ^ n2 * 18446744073709551616 * b = 18446744073709551616 ^ n2 * (b * 18446744073709551616) := by rw [Nat.mul_assoc, Nat.mul_comm b]
 have e2 : 18446744073709551616 ^ (n2 + 1) * 18446744073709551616 * a = 18446744073709551616 ^ n2 * (a * 18446744073709551616 * 18446744073709551616) := by
  rw [Nat.pow_succ]
  simp only [Nat.mul_assoc, Nat.mul_comm, Nat.mul_left_comm]
 rw [e1, e2]
 omega
theorem val_top2 {l : List Int} {n2 a b : Nat} (ha : l.getD (n2 + 1) 0 = (a : Int)) (hb : l.getD n2 0 = (b : Int)) (hl : l.length = n2 + 2) :
 val l = val (l.take n2) + 18446744073709551616 ^ n2 * (a * 18446744073709551616 + b) := by
 have h : l.take (n2 + 2) = l := List.take_of_length_le (by omega)
 rw [← h, val_takeN, val_takeN, h, ha, hb, Int.toNat_natCast, Int.toNat_natCast, Nat.pow_succ, Nat.mul_add]
 have e1 : 18446744073709551616 ^ n2 * 18446744073709551616 * a = 18446744073709551616 ^ n2 * (a * 18446744073709551616) := by rw [Nat.mul_assoc, Nat.mul_comm a]
 rw [e1]
 omega
def wdN (v : Nat) : Nat → List Int
 | 0 => []
 | n + 1 => ((v % 18446744073709551616 : Nat) : Int) :: wdN (v / 18446744073709551616) n
theorem wdN_ok : ∀ (n v : Nat), okW (wdN v n) ∧ (wdN v n).length = n
 | 0, v => ⟨(fun n hn => by cases hn), rfl⟩
 | n + 1, v => by
   obtain ⟨h1, h2⟩ := wdN_ok n (v / 18446744073709551616)
   refine ⟨fun m hm => ?_, by rw [wdN, List.length_cons, h2]⟩
   rcases List.mem_cons.1 hm with rfl | hm
   ·omega
   ·exact h1 m hm
theorem wdN_eq : ∀ {n v : Nat}, v < 18446744073709551616 ^ n → val (wdN v n) = v
 | 0, v, h => by
   have : v = 0 := by simpa using h
   rw [this]; rfl
 | n + 1, v, h => by
   rw [Nat.pow_succ] at h
   rw [wdN, val, wdN_eq (n := n) (v := v / 18446744073709551616) (by omega)]
   omega
theorem DvJ.step {d : List Int} {L M Z n2 j : Nat} {A Qs : List Int} (h : DvJ d L M Z (j + 1) A Qs) (hd : d.length = n2 + 2) (hL : M + (n2 + 2) ≤ L) (od : okW d) (hd1 : 0 < (d.getD (n2 + 1) 0).toNat) :
 ∃ (a b c v1 v2 g : Nat) (R : List Int), (a ≤ v1 ∧ b < 18446744073709551616 ∧ c < 18446744073709551616 ∧ v1 < 18446744073709551616 ∧ 0 < v1 ∧ v2 < 18446744073709551616) ∧ A[j + (n2 + 2)]? = some (a : Int) ∧ A[j + (n2 + 1)]? = some (b : Int) ∧ A[j + n2]? = some (c : Int) ∧
  d[n2 + 1]? = some (v1 : Int) ∧ d[n2]? = some (v2 : Int) ∧ okW R ∧ R.length = n2 + 3 ∧ g < 18446744073709551616 ∧
  ((gsN a b c v1 v2 = g ∧ val R + gsN a b c v1 v2 * val d = val ((A.drop j).take (n2 + 2 + 1))) ∨ (gsN a b c v1 v2 = g + 1 ∧ val ((A.drop j).take (n2 + 2 + 1)) < gsN a b c v1 v2 * val d ∧ val R + gsN a b c v1 v2 * val d = val ((A.drop j).take (n2 + 2 + 1)) + val d)) ∧
  DvJ d L M Z j (cpW A R j) (Qs.set j (g : Int)) := by
 have hj := h.le
 have lA := h.lA
 have lQ := h.lQ
 have oD := okW_dropN h.oA j
 have lD : (A.drop j).length = L - j := by rw [List.length_drop, lA]
 have hDt : A.drop (j + 1) = (A.drop j).drop 1 := by rw [List.drop_drop]
 have gj : ∀ k, (A.drop j).getD k 0 = A.getD (j + k) 0 := fun k => getD_drop A j k
 obtain ⟨a, ea, ba⟩ := natW (okW_getD h.oA (j + (n2 + 2)))
 obtain ⟨b, eb, bb⟩ := natW (okW_getD h.oA (j + (n2 + 1)))
 obtain ⟨c, ec, bc⟩ := natW (okW_getD h.oA (j + n2))
 obtain ⟨v1, e1, b1⟩ := natW (okW_getD od (n2 + 1))
 obtain ⟨v2, e2, b2⟩ := natW (okW_getD od n2)
 have ga := get_map (l := A) (i := j + (n2 + 2)) (by omega)
 have gb := get_map (l := A) (i := j + (n2 + 1)) (by omega)
 have gc := get_map (l := A) (i := j + n2) (by omega)
 have g1 := get_map (l := d) (i := n2 + 1) (by omega)
 have g2 := get_map (l := d) (i := n2) (by omega)
 rw [ea] at ga
 rw [eb] at gb
 rw [ec] at gc
 rw [e1] at g1 hd1
 rw [e2] at g2
 rw [Int.toNat_natCast] at hd1
 have hup := h.up
 rw [hDt] at hup
 obtain ⟨D, hD⟩ : ∃ D, D = A.drop j := ⟨_, rfl⟩
 rw [← hD] at oD lD gj hup ⊢
 have hdl := val_lt od
 rw [hd] at hdl
 have hup0 : val ((D.drop 1).drop (n2 + 2)) = 0 := by
  have k1 := val_cut (D.drop 1) (n2 + 2) (by rw [List.length_drop]; omega)
  rcases Nat.eq_zero_or_pos (val ((D.drop 1).drop (n2 + 2))) with h0 | h0
  ·exact h0
  ·have := Nat.mul_le_mul_left (18446744073709551616 ^ (n2 + 2)) h0
   omega
 have hDu : val (D.drop (n2 + 3)) = 0 := by rw [show D.drop (n2 + 3) = (D.drop 1).drop (n2 + 2) from by rw [List.drop_drop]; congr 1; omega]; exact hup0
 have hDw := val_cut D (n2 + 3) (by omega)
 rw [hDu, Nat.mul_zero, Nat.add_zero] at hDw
 have hD0 : D = D.getD 0 0 :: D.drop 1 := by
  cases D with
  | nil => simp at lD; omega
  | cons x r => rfl
 have d0 := okW_getD oD 0
 have hlt : val D < val d * 18446744073709551616 := by rw [hD0, val]; omega
 rw [hDw] at hlt
 have ht := val_top (l := D) (n2 := n2) (by rw [gj]; exact ea) (by rw [gj]; exact eb) (by rw [gj]; exact ec)
 have ht0 := val_lt (okW_take oD n2)
 rw [List.length_take, Nat.min_eq_left (by omega)] at ht0
 have hv := val_top2 e1 e2 hd
 have hv0 := val_lt (okW_take od n2)
 rw [List.length_take, Nat.min_eq_left (by omega)] at hv0
 have hav : a ≤ v1 := by
  obtain ⟨P, hP⟩ : ∃ P, P = 18446744073709551616 ^ n2 := ⟨_, rfl⟩
  rw [← hP] at ht hv ht0 hv0
  rcases Nat.lt_or_ge v1 a with hc | hc
  ·exfalso
   have k1 := Nat.mul_le_mul_left P (show (v1 * 18446744073709551616 + v2 + 1) * 18446744073709551616 ≤ a * 18446744073709551616 * 18446744073709551616 by
    refine Nat.mul_le_mul_right _ ?_
    have := Nat.mul_le_mul_right 18446744073709551616 hc
    rw [Nat.succ_mul] at this
    omega)
   have k2 : val d * 18446744073709551616 < P * ((v1 * 18446744073709551616 + v2 + 1) * 18446744073709551616) := by
    rw [← Nat.mul_assoc]
    refine (Nat.mul_lt_mul_right (by decide)).2 ?_
    rw [Nat.mul_add, Nat.mul_one]; omega
   have k3 := Nat.mul_le_mul_left P (show a * 18446744073709551616 * 18446744073709551616 ≤ a * 18446744073709551616 * 18446744073709551616 + b * 18446744073709551616 + c by omega)
   omega
  ·exact hc
 obtain ⟨w, hw⟩ : ∃ w, w = val (D.take (n2 + 3)) := ⟨_, rfl⟩
 rw [← hw] at ht hlt hDw
 have hnear := gs_near (q := gsN a b c v1 v2) ht ht0 hv hv0 rfl hd1 hlt rfl rfl
 have hd0 : 0 < val d := by
  have := Nat.mul_le_mul_left (18446744073709551616 ^ n2) (show 1 ≤ v1 * 18446744073709551616 + v2 by omega)
  have hp : 0 < 18446744073709551616 ^ n2 := Nat.pow_pos (by decide)
  omega
 have hg64 : w / val d < 18446744073709551616 := (Nat.div_lt_iff_lt_mul hd0).2 (by rw [Nat.mul_comm]; exact hlt)
 have hdm := Nat.div_add_mod w (val d)
 have hml := Nat.mod_lt w hd0
 obtain ⟨g, hg⟩ : ∃ g, g = w / val d := ⟨_, rfl⟩
 obtain ⟨r, hr⟩ : ∃ r, r = w % val d := ⟨_, rfl⟩
 rw [← hg] at hnear hg64 hdm
 rw [← hr] at hdm hml
 have hrl : r < 18446744073709551616 ^ (n2 + 3) := by
  have : 18446744073709551616 ^ (n2 + 2) ≤ 18446744073709551616 ^ (n2 + 3) := Nat.pow_le_pow_right (by decide) (by omega)
  omega
 have hR := wdN_ok (n2 + 3) r
 have vR := wdN_eq hrl
 obtain ⟨R, hRe⟩ : ∃ R, R = wdN r (n2 + 3) := ⟨_, rfl⟩
 rw [← hRe] at hR vR
 have hval : g * val d + r = w := by rw [Nat.mul_comm]; exact hdm
 have l1 : (A.take j).length = j := by rw [List.length_take]; omega
 refine ⟨a, b, c, v1, v2, g, R, ⟨hav, bb, bc, b1, hd1, b2⟩, ga, gb, gc, g1, g2, hR.1, hR.2, hg64, ?_, ?_⟩
 ·rw [show n2 + 2 + 1 = n2 + 3 from rfl, ← hw, vR]
  rcases hnear with hq | hq
  ·exact .inl ⟨hq, by rw [hq]; omega⟩
  ·refine .inr ⟨hq, ?_, ?_⟩
   ·rw [hq, Nat.add_mul, Nat.one_mul]; omega
   ·rw [hq, Nat.add_mul, Nat.one_mul]; omega
 ·have hAu : A.drop (j + R.length) = D.drop (n2 + 3) := by rw [hD, List.drop_drop, hR.2]
  refine ⟨Nat.le_of_succ_le hj, ?_, by rw [cpW_len (by rw [hR.2]; omega), lA], okW_set h.oQ ⟨Int.natCast_nonneg _, Int.ofNat_lt.2 hg64⟩, by rw [List.length_set, lQ], ?_, ?_⟩
  ·intro x hx
   rw [cpW] at hx
   rcases List.mem_append.1 hx with hx | hx
   ·exact okW_take h.oA j x hx
   ·rcases List.mem_append.1 hx with hx | hx
    ·exact hR.1 x hx
    ·exact okW_dropN h.oA _ x hx
  ·have hall := h.all
   have hAj := val_cut A j (by omega)
   rw [← hD, hDw] at hAj
   rw [cpW, val_append, val_append, l1, hAu, hDu, Nat.mul_zero, Nat.add_zero, vR, val_sdrop (by rw [lQ]; exact hj)]
   obtain ⟨X, hX⟩ : ∃ X, X = val (Qs.drop (j + 1)) := ⟨_, rfl⟩
   rw [← hX] at hall ⊢
   rw [Nat.pow_succ] at hall
   obtain ⟨P, hP⟩ : ∃ P, P = 18446744073709551616 ^ j := ⟨_, rfl⟩
   rw [← hP] at hall hAj ⊢
   have k1 : P * w = P * r + val d * (P * g) := by
    rw [← hval, Nat.mul_add, Nat.mul_left_comm P g, Nat.mul_left_comm (val d) P, Nat.mul_comm (val d) g, Nat.mul_left_comm g P]; omega
   rw [Nat.mul_add, Nat.mul_add, ← hall, hAj, k1, Nat.mul_assoc]
   omega
  ·rw [cpW, List.drop_left' l1, val_append, hAu, hDu, Nat.mul_zero, Nat.add_zero, vR]
   exact hml
theorem wTrimO_ok (l : List Int) (hl : l.length < 1000000) (ol : okW l) (h0' : val l ≠ 0) (nm : Nat) : FnOk Tryz.prog 133 [.v (words l)] [.own nm 91 1 true ((digs (val l)).map fun n => .int .u64 n)] := by
 have h1 := view_ok l (by omega)
 have hlen := trimL_len l
 have hne : trimL l ≠ [] := fun h => h0' ((val_zero ol).1 h)
 rw [← trim_digs ol]
 obtain ⟨m, hm⟩ : ∃ m, m = trimL l := ⟨_, rfl⟩
 rw [← hm] at h1 hlen hne ⊢
 refine FnOk.of Tryz.func133 rfl rfl fun cx w0 => ?_
 rw [show Tryz.f133.ntmps = 12 from rfl]
 refine zs0 ?_
 refine Holds.seq ?_
 refine zs2 (ρ := fun _ => [.v false (words m)]) (o := by repeat' first|exact h1|trivial|constructor) (k := ?_)
 have hpos : 0 < m.length := List.length_pos_iff.2 hne
 have g : (0 : Int) < m.length := by omega
 have hall := flatW m
 refine zs1 g ?_
 refine Holds.condT rfl ?_
 refine zs1 (an tby76 <| hall) ?_
 exact Holds.ret ⟨_, [(nm, 11)], rfl, ⟨⟨by simp [srcOf], rfl, by rw [List.length_map], by simp [St.at, look]⟩, trivial⟩, by simp [R.names, R.mems, R.blks], by simp, by simp [R.names, R.mems, R.blks]⟩
set_option maxHeartbeats 4000000 in
theorem wShlO_ok (x : List Int) (s : Nat) (hx : x.length < 10000) (hs : s < 1000000) (ox : okW x) (h0' : val x ≠ 0) (nm : Nat) : FnOk Tryz.prog 55 [.v (words x), .v (.int .i64 s)] [.own nm 91 1 true ((digs (val x * 2 ^ s)).map fun n => .int .u64 n)] := by
 have h1 := view_ok x (by omega)
 have lx := trimL_len x
 have o1 := trimL_ok ox
 have hv := val_trim x
 have hz := val_zero ox
 obtain ⟨X, hX⟩ : ∃ X, X = trimL x := ⟨_, rfl⟩
 rw [← hX] at h1 lx o1 hv hz
 clear hX
 obtain ⟨m, hm⟩ : ∃ m, m = s / 64 := ⟨_, rfl⟩
 obtain ⟨r, hr⟩ : ∃ r, r = s % 64 := ⟨_, rfl⟩
 have hqm : (s : Int).tdiv 64 = m := by rw [hm]; exact quoN s 64
 have hrm : (s : Int).tmod 64 = r := by rw [hr]; exact remN s 64
 have hpow : (2 : Nat) ^ s = 18446744073709551616 ^ m * 2 ^ r := by
  have hs' : s = 64 * m + r := by omega
  rw [hs', Nat.pow_add, Nat.pow_mul, show (2 : Nat) ^ 64 = 18446744073709551616 from rfl]
 have hrl : r < 64 := by omega
 have hml : m < 20000 := by omega
 rw [hpow, ← hv]
 rw [← hv] at hz
 rw [← hv] at h0'
 clear hpow hm hr ox hv
 obtain ⟨D, hD⟩ : ∃ D, D = digs (val X * (18446744073709551616 ^ m * 2 ^ r)) := ⟨_, rfl⟩
 rw [← hD]
 refine FnOk.of Tryz.func55 rfl rfl fun cx w0 => ?_
 rw [show Tryz.f55.ntmps = 58 from rfl]
 refine zs0 ?_
 refine zs2 (ρ := fun _ => [.v false (words X)]) (o := by repeat' first|exact h1|trivial|constructor) (k := ?_)
 refine Holds.from (σ' := { nt := 58, env := [(0, .v false (words X)), (1, .v true (.int .i64 s))], mem := [] }) (fun a w h => Rel.keep [0, 1] [] h) ?_
 refine Holds.seq ?_
 have hX0 : X ≠ [] := fun h => h0' (by rw [h]; rfl)
 have hXp : 0 < X.length := List.length_pos_iff.2 hX0
 have gX0 : ¬ (X.length : Int) = 0 := by omega
 obtain ⟨N, hN⟩ : ∃ N, N = X.length + m + 1 := ⟨_, rfl⟩
 have wN : IntKind.i64.wrap ((X.length : Int) + (m : Int)) = ((X.length + m : Nat) : Int) := by rw [wrap_i64] <;> omega
 have wN1 : IntKind.i64.wrap (((X.length + m : Nat) : Int) + 1) = (N : Int) := by rw [wrap_i64] <;> omega
 refine zs1 gX0 ?_
 refine Holds.condF rfl (Holds.skip ?_)
 refine Holds.from (σ' := { nt := 58, env := [(0, .v false (words X)), (1, .v true (.int .i64 s))], mem := [] }) (fun a w h => Rel.keep [0, 1] [] h) ?_
 refine zs1 (an hqm <| an wN <| an wN1 <| tby76) ?_
 refine Holds.next (fun σ => ∃ Z, ShI X N m r X.length Z ∧ ∀ a w, Rel cx w0 σ a w → Rel cx w0 { nt := 58, env := [(5, .own 19 0 N)], mem := [(19, .buf 91 1 true (Z.map fun n => .int .u64 n))] } a w) ?_ ?_
 ·refine zs0 ?_
  refine Holds.loopB (fun q : Nat × List Int => { nt := 58, env := [(22, .v true (.int .i64 (q.1 : Nat))), (21, .v true (.int .i64 (X.length : Nat))), (20, .v false (words X)), (5, .own 19 0 N), (1, .v true (.int .i64 s))], mem := [(19, .buf 91 1 true (q.2.map fun n => .int .u64 n))] })
   (fun q => q.1 ≤ X.length ∧ ShI X N m r q.1 q.2) (fun q => X.length - q.1) (0, List.replicate N 0)
   ⟨Nat.zero_le _, ⟨(fun q hq => by rw [List.mem_replicate] at hq; omega), List.length_replicate, by rw [val_rep0]; simp [val], fun j _ => by rw [List.getD_eq_getElem?_getD, List.getElem?_replicate]; split <;> rfl, by
     rw [List.getD_eq_getElem?_getD, List.getElem?_replicate]; split <;> exact Nat.pow_pos (by decide)⟩⟩ (fun a w h => by
     have := Rel.keep [22, 21, 20, 5, 1] [19] h
     have iN : ((X.length : Int) + (m : Int) + 1).toNat = N := by omega
     rw [iN] at this
     simp only [List.map_replicate]
     exact this) ?_
  rintro ⟨i, Z⟩ ⟨hi, hI⟩
  simp only at hi hI ⊢
  by_cases hend : i = X.length
  ·have g : ¬ (i : Int) < X.length := by omega
   refine zs1 g ?_
   refine Holds.seq (Holds.condF rfl (Holds.exit ⟨rfl, Z, by rw [← hend]; exact hI, fun a w h => Rel.keep [5] [19] h⟩))
  ·have g : (i : Int) < X.length := by omega
   obtain ⟨w, hw, hw64⟩ := natW (okW_getD o1 i)
   obtain ⟨z, hz1, hz64⟩ := natW (okW_getD hI.ok (i + m))
   obtain ⟨hz2, hsum, hnext⟩ := hI.step hrl (by omega) hw hw64 hz1
   have lZ := hI.len
   have gX : X[i]? = some (w : Int) := by rw [get_map (by omega), hw]
   have gZ : Z[i + m]? = some (z : Int) := by rw [get_map (by omega), hz1]
   have iz : ((i : Int) + (m : Int)).toNat = i + m := by omega
   have iz1 : ((i : Int) + (m : Int) + 1).toNat = i + m + 1 := by omega
   have g1 : (0 : Int) ≤ (i : Int) + (m : Int) := by omega
   have g2 : (i : Int) + (m : Int) < N := by omega
   have g3 : (0 : Int) ≤ (i : Int) + (m : Int) + 1 := by omega
   have g4 : (i : Int) + (m : Int) + 1 < N := by omega
   have wi : IntKind.i64.wrap ((i : Int) + (m : Int)) = (i : Int) + (m : Int) := by rw [wrap_i64] <;> omega
   have wi1 : IntKind.i64.wrap ((i : Int) + (m : Int) + 1) = (i : Int) + (m : Int) + 1 := by rw [wrap_i64] <;> omega
   have wk : IntKind.i64.wrap ((i : Int) + 1) = ((i + 1 : Nat) : Int) := by rw [wrap_i64] <;> omega
   have hB : 2 ^ (64 - r) * 2 ^ r = 18446744073709551616 := by rw [← Nat.pow_add, show 64 - r + r = 64 from by omega]
   obtain ⟨_, _, s3⟩ := sh_split (w := w) hB (Nat.pow_pos (by decide)) (Nat.pow_pos (by decide))
   have wl := shlN w r hrl
   have wo : bitI .or .u64 (z : Int) ((w * 2 ^ r % 18446744073709551616 : Nat) : Int) = ((z + w * 2 ^ r % 18446744073709551616 : Nat) : Int) := by
    rw [bitI_orC, s3, orN _ z r hz2 (by rw [← s3, Nat.add_comm]; exact hsum), Nat.add_comm]
   have w64 : (64 : Int) - (r : Int) = ((64 - r : Nat) : Int) := by omega
   have whi := shrG w (64 - r) (by omega)
   have whi2 : IntKind.u64.wrap ((w / 2 ^ (64 - r) : Nat) : Int) = ((w / 2 ^ (64 - r) : Nat) : Int) := wrapN _ (Nat.lt_of_le_of_lt (Nat.div_le_self _ _) hw64)
   obtain ⟨y, hy⟩ : ∃ y, y = z + w * 2 ^ r % 18446744073709551616 := ⟨_, rfl⟩
   obtain ⟨u, hu⟩ : ∃ u, u = w / 2 ^ (64 - r) := ⟨_, rfl⟩
   obtain ⟨lo, hlo⟩ : ∃ lo, lo = w * 2 ^ r % 18446744073709551616 := ⟨_, rfl⟩
   rw [← hlo] at wl wo hy
   rw [← hy] at wo
   rw [← hlo, ← hy, ← hu] at hnext
   rw [← hu] at whi whi2
   have hu0 : r = 0 → (Z.set (i + m) (y : Int)).set (i + m + 1) (u : Int) = Z.set (i + m) (y : Int) := fun h => by
    have : u = 0 := by rw [hu, h]; exact Nat.div_eq_of_lt hw64
    rw [this]
    have e0 : (Z.set (i + m) (y : Int))[i + m + 1]? = some 0 := by
     rw [get_map (by rw [List.length_set]; omega), getD_set (by omega), if_neg (by omega), hI.zero _ (Nat.le_refl _)]
    exact set_same e0
   refine zs1 g ?_
   refine Holds.seq (Holds.condT rfl (Holds.skip ?_))
   show Holds _ _ _ _ _ _ _
   refine Holds.next (fun σ => ∀ a w, Rel cx w0 σ a w → Rel cx w0 { nt := 58, env := [(22, .v true (.int .i64 (i : Nat))), (21, .v true (.int .i64 (X.length : Nat))), (20, .v false (words X)), (5, .own 19 0 N), (1, .v true (.int .i64 s))], mem := [(19, .buf 91 1 true (((Z.set (i + m) (y : Int)).set (i + m + 1) (u : Int)).map fun n => .int .u64 n))] } a w) ?_ ?_
   ·refine Holds.blockN ?_
    refine zs1 gX ?_
    refine zd1 [] (an hqm <| an hrm <| an wi <| an iz <| an g1 <| an g2 <| an gZ <| an wl <| an wo <| lZ) ?_
    by_cases hr0 : r = 0
    ·rw [hu0 hr0]
     have g5 : ¬ (0 : Int) < (r : Int) := by omega
     refine zs1 (an hrm <| g5) ?_
     exact Holds.condF rfl (Holds.skip fun a w h => by
      have := Rel.keep [22, 21, 20, 5, 1] [19] h
      rw [List.map_set]
      exact this)
    ·have g5 : (0 : Int) < (r : Int) := by omega
     obtain ⟨Z', hZ'⟩ : ∃ Z', Z' = Z.set (i + m) (y : Int) := ⟨_, rfl⟩
     have lZ' : Z'.length = N := by rw [hZ', List.length_set, lZ]
     have gZ' := get_map (l := Z') (i := i + m + 1) (by omega)
     refine Holds.from (σ' := { nt := 58, env := [(6, .v true (.int .i64 (i : Nat))), (7, .v true (.int .u64 w)), (22, .v true (.int .i64 (i : Nat))), (21, .v true (.int .i64 (X.length : Nat))), (20, .v false (words X)), (5, .own 19 0 N), (1, .v true (.int .i64 s))], mem := [(19, .buf 91 1 true (Z'.map fun n => .int .u64 n))] }) (fun a w h => by
      have := Rel.keep [6, 7, 22, 21, 20, 5, 1] [19] h
      rw [hZ', List.map_set]
      exact this) ?_
     rw [← hZ']
     refine zs1 (an hrm <| g5) ?_
     refine Holds.condT rfl ?_
     refine zr1 (an hqm <| an hrm <| an wi <| an wi1 <| an iz1 <| an g3 <| an g4 <| an w64 <| an whi <| an whi2 <| an lZ' <| gZ') ?_
     intro a w h
     have := Rel.keep [22, 21, 20, 5, 1] [19] h
     rw [List.map_set]
     exact this
   ·intro σ hσ
    refine Holds.from hσ ?_
    refine zr1 wk ?_
    exact ⟨(i + 1, _), ⟨by show i + 1 ≤ X.length; omega, hnext⟩, (show X.length - (i + 1) < X.length - i by omega), fun a w h => Rel.keep [22, 21, 20, 5, 1] [19] h⟩
 ·rintro σ ⟨Z, hI, hσ⟩
  refine Holds.from hσ ?_
  have hT := wTrimO_ok Z (by rw [hI.len]; omega) hI.ok (by rw [hI.all, List.take_length]; exact Nat.mul_ne_zero h0' (Nat.ne_of_gt (Nat.mul_pos (Nat.pow_pos (by decide)) (Nat.pow_pos (by decide))))) 500
  rw [hI.all, List.take_length, ← hD] at hT
  have lZ := hI.len
  have htk : List.take N (List.map (fun n => V.int .u64 n) Z) = List.map (fun n => V.int .u64 n) Z := List.take_of_length_le (by rw [List.length_map]; omega)
  refine zs3 (ρ := fun _ => [.own 500 91 1 true (D.map fun n => .int .u64 n)]) htk (o := by repeat' first|exact hT|trivial|constructor) (k := ?_)
  exact Holds.ret ⟨_, [(nm, 500)], rfl, ⟨⟨by simp [srcOf], rfl, by rw [List.length_map], by simp [St.at, look]⟩, trivial⟩, by simp [R.names, R.mems, R.blks], by simp, by simp [R.names, R.mems, R.blks]⟩
def dmS (s N M n : Nat) (v A Qs : List Int) (e : List (Nat × AV)) : St :=
 { nt := 127, env := e ++ [(12, .own 64 0 M), (11, .v true (.int .i64 n)), (9, .v true (words v)), (10, .own 53 0 N), (8, .v true (.int .i64 s))],
   mem := [(64, .buf 91 1 true (Qs.map fun n => .int .u64 n)), (53, .buf 91 1 true (A.map fun n => .int .u64 n))] }
set_option maxHeartbeats 4000000 in
theorem wplaces_ok {cx : Cx} {w0 : World} {s N M n n2 L Z : Nat} {v A Qs : List Int} {N' : St → Prop} (hn : n = n2 + 2) (hN : M + n = N) (hNL : N ≤ L) (hL : L < 5000) (hv : v.length = n) (ov : okW v) (hv0 : 0 < val v) (hv1 : 0 < (v.getD (n2 + 1) 0).toNat)
 (h0 : DvJ v L M Z M A Qs) :
 Holds Tryz.prog none cx w0 (codeAt Tryz.f130 [1, 1, 1, 1, 1, 1, 1, 1, 1, 0]) (dmS s N M n v A Qs [])
  (NR (fun σ => ∃ A Qs, DvJ v L M Z 0 A Qs ∧ ∀ a w, Rel cx w0 σ a w → Rel cx w0 (dmS s N M n v A Qs []) a w) N') := by
 have eN : ((N : Int) - (n : Int) - 1) = (M : Int) - 1 := by omega
 unfold dmS
 refine zs1 eN ?_
 refine Holds.loopB (fun q : Nat × List Int × List Int => dmS s N M n v q.2.1 q.2.2 [(13, .v true (.int .i64 ((q.1 : Int) - 1)))]) (fun q => DvJ v L M Z q.1 q.2.1 q.2.2) (fun q => q.1) (M, A, Qs) h0 (fun a w h => Rel.keep [13, 12, 11, 9, 10, 8] [64, 53] h) ?_
 rintro ⟨j, A, Qs⟩ hI
 simp only at hI ⊢
 rcases j with _ | j
 ·unfold dmS
  refine Holds.seq ?_
  refine zs0 ?_
  exact Holds.condF rfl (Holds.exit ⟨rfl, A, Qs, hI, fun a w h => Rel.keep [12, 11, 9, 10, 8] [64, 53] h⟩)
 ·have hj := hI.le
  have e9 : (((j + 1 : Nat) : Int) - 1) = (j : Int) := by omega
  have g9 : (0 : Int) ≤ (j : Int) := by omega
  rw [e9]
  obtain ⟨a, b, c, v1, v2, g, R, ⟨hav, hb64, hc64, hv64, hvp, hw64⟩, gA, gB, gC, gV, gW, oR, lR, hg64, hcase, hnext⟩ := hI.step (by rw [hv, hn]) (by omega) ov hv1
  have lA := hI.lA
  have lQ := hI.lQ
  have fG := guess_ok a b c v1 v2 hav hb64 hc64 hv64 hvp hw64
  obtain ⟨q, hq⟩ : ∃ q, q = gsN a b c v1 v2 := ⟨_, rfl⟩
  rw [← hq] at fG hcase
  have hq64 : q < 18446744073709551616 := by
   rw [hq]; exact Nat.lt_of_le_of_lt (Nat.min_le_left _ _) (by decide)
  rw [show n2 + 2 + 1 = n + 1 from by omega] at hcase
  have hless : ∃ bl : Bool, (if bl = true then q = g + 1 else q = g) ∧ RowOk Tryz.prog 207 (fun s => .own s j (n + 1)) (.buf 91 1 true (A.map fun n => .int .u64 n)) (.buf 91 1 true ((cpW A R j).map fun n => .int .u64 n)) [words v, .int .u64 q] [.bool bl] := by
   rcases hcase with ⟨h1, h2⟩ | ⟨h1, h2, h3⟩
   ·exact ⟨false, by rw [if_neg (by simp)]; exact h1, less_ok hI.oA ov hv (by omega) (by omega) (by omega) hq64 oR (by omega) false (.inl ⟨rfl, h2⟩)⟩
   ·exact ⟨true, by rw [if_pos rfl]; exact h1, less_ok hI.oA ov hv (by omega) (by omega) (by omega) hq64 oR (by omega) true (.inr ⟨rfl, h2, h3⟩)⟩
  obtain ⟨bl, hbl, hL2⟩ := hless
  have i1 : ((j : Int) + (n : Int)).toNat = j + (n2 + 2) := by omega
  have i2 : ((j : Int) + (n : Int) - 1).toNat = j + (n2 + 1) := by omega
  have i3 : ((j : Int) + (n : Int) - 2).toNat = j + n2 := by omega
  have i4 : ((n : Int) - 1).toNat = n2 + 1 := by omega
  have i5 : ((n : Int) - 2).toNat = n2 := by omega
  have i6 : ((j : Int) + (n : Int) + 1 - (j : Int)).toNat = n + 1 := by omega
  have hjn : j + n + 1 ≤ N := by omega
  obtain ⟨A', hA'⟩ : ∃ A', A' = cpW A R j := ⟨_, rfl⟩
  rw [← hA'] at hL2 hnext
  clear hI hcase hq hav hA' oR lR h0 eN
  unfold dmS
  refine Holds.seq ?_
  refine zs1 g9 ?_
  refine Holds.condT rfl (Holds.skip ?_)
  refine Holds.next (fun σ => ∀ a w, Rel cx w0 σ a w → Rel cx w0 (dmS s N M n v A' (Qs.set j (g : Int)) [(13, .v true (.int .i64 j))]) a w) ?_ ?_
  ·refine Holds.blockN ?_
   refine zd3 [] (ρ := fun _ => [.v true (.int .u64 (q : Nat))]) (an i1 <| an i2 <| an i3 <| an i4 <| an i5 <| an gA <| an gB <| an gC <| an gV <| gW) (o := by repeat' first|exact fG|trivial|constructor) (k := ?_)
   refine Holds.from (σ' := dmS s N M n v A Qs [(14, .v true (.int .u64 (q : Nat))), (13, .v true (.int .i64 j))]) (fun a w h => Rel.keep [14, 13, 12, 11, 9, 10, 8] [64, 53] h) ?_
   refine Holds.next (fun σ => ∀ a w, Rel cx w0 σ a w → Rel cx w0 (dmS s N M n v A' Qs [(14, .v true (.int .u64 (g : Nat))), (13, .v true (.int .i64 j))]) a w) ?_ ?_
   ·unfold dmS
    refine Holds.seq (Holds.regionR (Px := px) (T := TT) (ρ := fun _ => []) (k := 9) (s := 53) TTe (by simp (maxSteps := 100000) (disch := omega) only [List.take_succ_cons, List.take_zero, go_sem, V.isAgg, V.flat, ↓reduceIte, Nat.reduceAdd, Nat.reduceSub, Nat.reduceLT, Nat.reduceEqDiff, reduceCtorEq, Nat.reduceLeDiff, Nat.reduceBEq, Nat.reduceMul, Int.reduceToNat, i6]; rfl) (by repeat' first | exact trivial | constructor) rfl (by rfl) rfl rfl (Nat.le_of_ble_eq_true rfl) (by rfl) (by first | rfl | exact if_pos rfl) (by rfl) (by rfl) (hL2) ⟨_, _, by simp (maxSteps := 100000) (disch := omega) only [List.drop_succ_cons, List.drop_zero, mres, go_sem, V.isAgg, V.flat, ↓reduceIte, Nat.reduceAdd, Nat.reduceSub, Nat.reduceLT, Nat.reduceEqDiff, reduceCtorEq, Nat.reduceLeDiff, Nat.reduceBEq, Nat.reduceMul, Int.reduceToNat, i6]; rfl, by repeat' first | exact trivial | constructor, ?_⟩); show Holds _ _ _ _ _ _ _
    cases bl with
    | true =>
      rw [if_pos rfl] at hbl
      have wq : IntKind.u64.wrap ((q : Int) - 1) = (g : Int) := by rw [wrap_u64]; omega
      refine Holds.condT rfl ?_
      refine zr1 wq ?_
      exact fun a w h => Rel.keep [14, 13, 12, 11, 9, 10, 8] [64, 53] h
    | false =>
      rw [if_neg (by simp)] at hbl
      subst hbl
      exact Holds.condF rfl (Holds.skip fun a w h => Rel.keep [14, 13, 12, 11, 9, 10, 8] [64, 53] h)
   ·intro σ hσ
    refine Holds.from hσ ?_
    have gQ := get_map (l := Qs) (i := j) (by omega)
    unfold dmS
    refine zr1 (an gQ <| lQ) ?_
    intro a w h
    have := Rel.keep [13, 12, 11, 9, 10, 8] [64, 53] h
    rw [List.map_set]
    exact this
  ·intro σ hσ
   refine Holds.from hσ ?_
   unfold dmS
   refine zr0 ?_
   exact ⟨(j, A', Qs.set j (g : Int)), hnext, (show j < j + 1 by omega), fun a w h => Rel.keep [13, 12, 11, 9, 10, 8] [64, 53] h⟩
theorem trim_self {l : List Int} (o : okW l) : trimL (trimL l) = trimL l := by
 rw [trim_digs (trimL_ok o), val_trim, ← trim_digs o]
set_option maxHeartbeats 4000000 in
theorem dm_small {cx : Cx} {w0 : World} {X Y : List Int} {Rs : List R} (hx : X.length < 2000) (ox : okW X) (hlt : val X < val Y) (oy : okW Y) (hy : Y.length < 2000) (hRs : Rs = [.v true (words (digs (val X / val Y))), .v true (words (digs (val X % val Y)))]) :
 Holds Tryz.prog none cx w0 (codeAt Tryz.f130 [1, 1]) { nt := 127, env := [(0, .v false (words X)), (1, .v false (words Y)), (4, .nil), (5, .nil)], mem := [] } (fnQ Tryz.prog Tryz.f130 Rs) := by
 have hC := wCmp_ok X Y (by omega) (by omega) ox oy
 rw [cmpN, if_pos hlt] at hC
 have hT := wTrim_ok X (by omega) ox
 rw [hRs, Nat.div_eq_of_lt hlt, Nat.mod_eq_of_lt hlt]
 refine Holds.seq ?_
 refine zs2 (ρ := fun _ => [.v true (.int .i64 (-1))]) (o := by repeat' first|exact hC|trivial|constructor) (k := ?_)
 refine Holds.condT rfl ?_
 refine zs2 (ρ := fun _ => [.v true (words (digs (val X)))]) (o := by repeat' first|exact hT|trivial|constructor) (k := ?_)
 exact Holds.ret ⟨_, [], rfl, ⟨rfl, ⟨rfl, id⟩, trivial⟩, by simp [R.names, R.mems, R.blks], by simp, rfl⟩
theorem noZ_top {m n : Nat} (h : (digs m).length = n + 1) : 0 < ((digs m).getD n 0).toNat := by
 have ho := (digs_ok m).1
 have ht : trimL (digs m) = digs m := by rw [trim_digs ho, (digs_ok m).2.2]
 rcases trimL_last (digs m) with hn | ⟨t, z, hn, hz⟩
 ·rw [ht] at hn; rw [hn] at h; cases h
 ·rw [ht] at hn
  have hz' := ho z (by rw [hn]; simp)
  have hl : t.length = n := by rw [hn, List.length_append] at h; simpa using h
  have : (digs m).getD n 0 = z := by rw [hn, ← hl]; simp [List.getD_eq_getElem?_getD]
  rw [this]; omega
theorem digs_lenG {m n : Nat} (h : 18446744073709551616 ^ n ≤ m) : n < (digs m).length := by
 have h1 := val_lt (digs_ok m).1
 rw [(digs_ok m).2.2] at h1
 rcases Nat.lt_or_ge n (digs m).length with h2 | h2
 ·exact h2
 ·have := Nat.pow_le_pow_right (n := 18446744073709551616) (by decide) h2
  omega
theorem scaled {Y : List Int} {n top s : Nat} (oY : okW Y) (hY : trimL Y = Y) (hn : Y.length = n + 1) (ht : Y.getD n 0 = (top : Int)) (h1 : top * 2 ^ s < 18446744073709551616) (hs : s < 64) :
 (digs (val Y * 2 ^ s)).length = n + 1 ∧ 18446744073709551616 ^ n * 2 ^ s ≤ val Y * 2 ^ s := by
 have hge := trim_ge oY (by rw [hY]; omega)
 rw [hY, hn, Nat.add_sub_cancel] at hge
 have hp : 0 < 2 ^ s := Nat.pow_pos (by decide)
 have h64 : 2 ^ (64 - s) * 2 ^ s = 18446744073709551616 := by rw [← Nat.pow_add, show 64 - s + s = 64 from by omega]
 have htop : top < 2 ^ (64 - s) := by
  rcases Nat.lt_or_ge top (2 ^ (64 - s)) with h | h
  ·exact h
  ·have := Nat.mul_le_mul_right (2 ^ s) h
   omega
 have htop2 : (top + 1) * 2 ^ s ≤ 18446744073709551616 := by
  have := Nat.mul_le_mul_right (2 ^ s) (Nat.succ_le_of_lt htop)
  rw [h64] at this
  exact this
 have hv := val_takeN (l := Y) n
 rw [← hn, List.take_length, ht, Int.toNat_natCast] at hv
 have h0 := val_lt (okW_take oY n)
 rw [List.length_take, Nat.min_eq_left (by omega)] at h0
 have hlt : val Y * 2 ^ s < 18446744073709551616 ^ (n + 1) := by
  rw [Nat.pow_succ]
  have a1 : val Y < 18446744073709551616 ^ n * (top + 1) := by rw [Nat.mul_add, Nat.mul_one]; omega
  have a2 := (Nat.mul_lt_mul_right hp).2 a1
  have a3 := Nat.mul_le_mul_left (18446744073709551616 ^ n) htop2
  rw [← Nat.mul_assoc] at a3
  omega
 have hmul : 18446744073709551616 ^ n * 2 ^ s ≤ val Y * 2 ^ s := Nat.mul_le_mul_right _ hge
 have hone : 18446744073709551616 ^ n * 1 ≤ 18446744073709551616 ^ n * 2 ^ s := Nat.mul_le_mul_left _ hp
 have l1 := digs_len hlt
 have l2 := digs_lenG (m := val Y * 2 ^ s) (n := n) (by omega)
 exact ⟨by omega, hmul⟩
theorem dm_init {X U Qs : List Int} {n M s vd : Nat} (oU : okW U) (hU : val U = val X * 2 ^ s) (oX : okW X) (hX : X.length = M + n) (hvd : 18446744073709551616 ^ n * 2 ^ s ≤ vd) (hMU : M ≤ U.length) {d : List Int} (hd : val d = vd) :
 DvJ d (U.length + 2) M (val X * 2 ^ s) M (U ++ [0, 0]) (List.replicate M 0) := by
 have oA : okW (U ++ [0, 0]) := fun q hq => by
  rcases List.mem_append.1 hq with hq | hq
  ·exact oU q hq
  ·simp at hq; omega
 have vA : val (U ++ [0, 0]) = val X * 2 ^ s := by rw [val_append, hU]; simp [val]
 refine ⟨Nat.le_refl _, oA, by rw [List.length_append]; rfl, (fun q hq => by rw [List.mem_replicate] at hq; omega), List.length_replicate, by rw [List.drop_of_length_le (by simp), val, Nat.mul_zero, Nat.mul_zero, Nat.add_zero, vA], ?_⟩
 have hc := val_cut (U ++ [0, 0]) M (by rw [List.length_append]; omega)
 rw [vA] at hc
 have hx := val_lt oX
 rw [hX, Nat.pow_add] at hx
 have h1 := (Nat.mul_lt_mul_right (Nat.pow_pos (show 0 < 2 by decide) : 0 < 2 ^ s)).2 hx
 rw [hd]
 rw [Nat.mul_assoc] at h1
 have h2 : 18446744073709551616 ^ M * val ((U ++ [0, 0]).drop M) < 18446744073709551616 ^ M * (18446744073709551616 ^ n * 2 ^ s) := by omega
 have := Nat.lt_of_mul_lt_mul_left h2
 omega
set_option maxHeartbeats 4000000 in
theorem wDivMod_ok (x y : List Int) (hx : x.length < 1000) (hy : y.length < 1000) (ox : okW x) (oy : okW y) (h0 : 0 < val y) :
 FnOk Tryz.prog 130 [.v (words x), .v (words y)] [.v true (words (digs (val x / val y))), .v true (words (digs (val x % val y)))] := by
 have h1 := view_ok x (by omega)
 have h2 := view_ok y (by omega)
 have lx := trimL_len x
 have ly := trimL_len y
 have o1 := trimL_ok ox
 have o2 := trimL_ok oy
 have t1 := trim_self ox
 have t2 := trim_self oy
 rw [← val_trim x, ← val_trim y]
 rw [← val_trim y] at h0
 obtain ⟨X, hX⟩ : ∃ X, X = trimL x := ⟨_, rfl⟩
 obtain ⟨Y, hY⟩ : ∃ Y, Y = trimL y := ⟨_, rfl⟩
 rw [← hX] at h1 lx o1 t1 ⊢
 rw [← hY] at h2 ly o2 t2 h0 ⊢
 clear hX hY ox oy
 refine FnOk.of Tryz.func130 rfl rfl fun cx w0 => ?_
 rw [show Tryz.f130.ntmps = 127 from rfl]
 refine zs0 ?_
 refine zs2 (ρ := fun d => if d = 16 then [.v false (words X)] else [.v false (words Y)]) (o := by repeat' first|exact h1|exact h2|trivial|constructor) (k := ?_)
 refine Holds.from (σ' := { nt := 127, env := [(0, .v false (words X)), (1, .v false (words Y)), (4, .nil), (5, .nil)], mem := [] }) (fun a w h => Rel.keep [0, 1, 4, 5] [] h) ?_
 clear h1 h2
 by_cases hlt : val X < val Y
 ·exact dm_small (by omega) o1 hlt o2 (by omega) rfl
 have hC := wCmp_ok X Y (by omega) (by omega) o1 o2
 obtain ⟨cc, hcc⟩ : ∃ cc, cc = cmpN (val X) (val Y) := ⟨_, rfl⟩
 have hc0 : ¬ cc < 0 := by rw [hcc, cmpN, if_neg hlt]; split <;> omega
 rw [← hcc] at hC
 clear hcc
 refine Holds.seq ?_
 refine zs3 (ρ := fun _ => [.v true (.int .i64 cc)]) hc0 (o := by repeat' first|exact hC|trivial|constructor) (k := ?_)
 refine Holds.condF rfl (Holds.skip ?_)
 refine Holds.from (σ' := { nt := 127, env := [(0, .v false (words X)), (1, .v false (words Y)), (4, .nil), (5, .nil)], mem := [] }) (fun a w h => Rel.keep [0, 1, 4, 5] [] h) ?_
 clear hC hc0
 have hYp : 0 < Y.length := by
  rcases Nat.eq_zero_or_pos Y.length with h | h
  ·rw [List.length_eq_zero_iff.1 h] at h0; simp [val] at h0
  ·exact h
 obtain ⟨n, hn⟩ : ∃ n, Y.length = n + 1 := ⟨Y.length - 1, by omega⟩
 obtain ⟨top, ht, ht64⟩ := natW (okW_getD o2 n)
 have gt := get_map (l := Y) (i := n) (by omega)
 rw [ht] at gt
 by_cases hY1 : Y.length = 1
 ·have hYe : Y = [(top : Int)] := by
   match Y, hY1, ht with
   | [z], _, ht => rw [show n = 0 from by simp at hn; omega] at ht; simpa using ht
  have hvY : val Y = top := by rw [hYe]; simp [val]
  rw [hvY] at h0 ⊢
  have hD := divWord_ok X top (by omega) o1 h0 ht64
  have hW := wWord_ok (val X % top) (Nat.lt_trans (Nat.mod_lt _ h0) ht64)
  obtain ⟨Q, hQ⟩ : ∃ Q, Q = digs (val X / top) := ⟨_, rfl⟩
  obtain ⟨r, hr⟩ : ∃ r, r = val X % top := ⟨_, rfl⟩
  rw [← hQ, ← hr] at hD ⊢
  rw [← hr] at hW
  have g1 : (Y.length : Int) = 1 := by omega
  have gt0 : Y[0]? = some (top : Int) := by rw [hYe]; rfl
  refine Holds.seq ?_
  refine zs1 g1 ?_
  refine Holds.condT rfl ?_
  refine zs3 (ρ := fun _ => [.v true (words Q), .v true (.int .u64 r)]) (an gt0 <| hY1) (o := by repeat' first|exact hD|trivial|constructor) (k := ?_)
  refine zs2 (ρ := fun _ => [.v true (words (digs r))]) (o := by repeat' first|exact hW|trivial|constructor) (k := ?_)
  exact Holds.ret (RetOk.vs rfl (by exact ⟨⟨rfl, id⟩, ⟨rfl, id⟩, trivial⟩) rfl)
 have g1 : ¬ (Y.length : Int) = 1 := by omega
 have hbig := trim_ge o2 (by rw [t2]; omega)
 have htp : 0 < top := by
  have := noZ_top (m := val Y) (n := n) (by rw [← trim_digs o2, t2]; exact hn)
  rw [← trim_digs o2, t2, ht] at this
  omega
 obtain ⟨s, hs64, hsE, hs1, hs2⟩ := norm64 ht64 htp
 have hlz := lz64_ok top ht64
 rw [hsE] at hlz
 obtain ⟨hvl, hvge⟩ := scaled o2 t2 hn ht hs2 hs64
 have hShY := wShl_ok Y s (by omega) (by omega) o2
 have hXn : n + 1 ≤ X.length := by
  rcases Nat.lt_or_ge X.length (n + 1) with h | h
  ·exact absurd (trim_less o1 o2 (by rw [t1, t2]; omega)) hlt
  ·exact h
 have hX0 : val X ≠ 0 := by omega
 have hShX := wShlO_ok X s (by omega) (by omega) o1 hX0 500
 have oU := (digs_ok (val X * 2 ^ s)).1
 have vU := (digs_ok (val X * 2 ^ s)).2.2
 have oV := (digs_ok (val Y * 2 ^ s)).1
 have vV := (digs_ok (val Y * 2 ^ s)).2.2
 have hpos : 0 < 2 ^ s := Nat.pow_pos (by decide)
 have hUge : X.length ≤ (digs (val X * 2 ^ s)).length := by
  have h3 := trim_ge o1 (by rw [t1]; omega)
  rw [t1] at h3
  have h4 := Nat.mul_le_mul_left (val X) hpos
  have := digs_lenG (m := val X * 2 ^ s) (n := X.length - 1) (by omega)
  omega
 have hUle : (digs (val X * 2 ^ s)).length ≤ X.length + 1 := by
  refine digs_len ?_
  have h3 := val_lt o1
  have h4 : 2 ^ s ≤ 18446744073709551616 := by
   have := Nat.pow_le_pow_right (n := 2) (by decide) (show s ≤ 64 by omega)
   exact this
  rw [Nat.pow_succ]
  exact Nat.lt_of_lt_of_le ((Nat.mul_lt_mul_right hpos).2 h3) (Nat.mul_le_mul_left _ h4)
 obtain ⟨n2, hn2⟩ : ∃ n2, n = n2 + 1 := ⟨n - 1, by omega⟩
 have hvtop := noZ_top (m := val Y * 2 ^ s) (n := n) hvl
 have hdiv : val X * 2 ^ s / (val Y * 2 ^ s) = val X / val Y := Nat.mul_div_mul_right _ _ hpos
 have hmod : val X * 2 ^ s % (val Y * 2 ^ s) = val X % val Y * 2 ^ s := Nat.mul_mod_mul_right _ _ _
 obtain ⟨M, hM⟩ : ∃ M, X.length = M + n := ⟨X.length - n, by omega⟩
 have hI0 := dm_init (Qs := []) oU vU o1 hM hvge (by omega) vV
 obtain ⟨U, hU⟩ : ∃ U, U = digs (val X * 2 ^ s) := ⟨_, rfl⟩
 obtain ⟨v, hv⟩ : ∃ v, v = digs (val Y * 2 ^ s) := ⟨_, rfl⟩
 rw [← hU] at hShX hI0 hUge hUle
 rw [← hv] at hShY hvl oV vV hvtop hI0
 obtain ⟨N, hN⟩ : ∃ N, N = X.length + 1 := ⟨_, rfl⟩
 have hv0 : 0 < val v := by rw [vV]; exact Nat.mul_pos h0 hpos
 have hP := fun {N'} => wplaces_ok (cx := cx) (w0 := w0) (s := s) (N := N) (M := M) (n := n + 1) (n2 := n2) (N' := N') (by omega) (by omega) (by omega) (by omega) hvl oV hv0 (by rw [← hn2]; exact hvtop) hI0
 clear hI0 hvtop hvge hs1 hs2 hbig hX0 hpos t1 t2 hlt h0 ht hsE
 obtain ⟨m, hm⟩ : ∃ m, m = n + 1 := ⟨_, rfl⟩
 rw [← hm] at hvl hP
 refine Holds.seq ?_
 refine zs1 g1 ?_
 refine Holds.condF rfl (Holds.skip ?_)
 refine Holds.from (σ' := { nt := 127, env := [(0, .v false (words X)), (1, .v false (words Y)), (4, .nil), (5, .nil)], mem := [] }) (fun a w h => Rel.keep [0, 1, 4, 5] [] h) ?_
 have i1 : (((n + 1 : Nat) : Int) - 1).toNat = n := by omega
 have e1 : (((n + 1 : Nat) : Int) - 1) = (n : Int) := by omega
 refine zs3 (ρ := fun _ => [.v true (.int .i64 s)]) (an hn <| an e1 <| gt) (o := by repeat' first|exact hlz|trivial|constructor) (k := ?_)
 refine zs2 (ρ := fun _ => [.v true (words v)]) (o := by repeat' first|exact hShY|trivial|constructor) (k := ?_)
 have iN : ((X.length : Int) + 1).toNat = N := by omega
 refine zs3 (ρ := fun _ => [.own 500 91 1 true (U.map fun n => .int .u64 n)]) iN (o := by repeat' first|exact hShX|trivial|constructor) (k := ?_)
 have hL : (U ++ [0, 0]).length = U.length + 2 := by rw [List.length_append]; rfl
 refine Holds.from (σ' := { nt := 127, env := [(9, .v true (words v)), (10, .own 53 0 N), (8, .v true (.int .i64 s)), (4, .nil), (5, .nil)], mem := [(53, .buf 91 1 true ((U ++ [0, 0]).map fun n => .int .u64 n))] }) (fun a w h => by
  have := Rel.keep [9, 10, 8, 4, 5] [53] h
  rw [List.map_append]
  exact this) ?_
 refine zs0 ?_
 have hMi : ((N : Int) - (m : Int)).toNat = M := by omega
 have hMi0 : (0 : Int) ≤ (N : Int) - (m : Int) := by omega
 refine zs1 (an hvl <| an hMi <| an hMi0 <| tby76) ?_
 refine Holds.next _ (Holds.from (σ' := dmS s N M m v (U ++ [0, 0]) (List.replicate M 0) []) (fun a w h => by
  have := Rel.keep [12, 11, 9, 10, 8] [64, 53] h
  unfold dmS
  rw [List.map_replicate]
  exact this) hP) ?_
 rintro σ ⟨A, Qs, hJ, hσ⟩
 refine Holds.from hσ ?_
 obtain ⟨rA, rQ⟩ := hJ.last hv0
 rw [vV] at rA rQ
 rw [hdiv] at rQ
 rw [hmod] at rA
 have lA := hJ.lA
 have lQ := hJ.lQ
 have hTQ := wTrim_ok Qs (by omega) hJ.oQ
 rw [rQ] at hTQ
 have hup := hJ.up
 rw [List.drop_zero] at hup
 have hAN : val (A.take N) = val A := by
  have hc := val_cut A N (by omega)
  have h3 := val_lt oV
  rw [hvl] at h3
  have h4 : 18446744073709551616 ^ m ≤ 18446744073709551616 ^ N := Nat.pow_le_pow_right (by decide) (by omega)
  rcases Nat.eq_zero_or_pos (val (A.drop N)) with h | h
  ·rw [h, Nat.mul_zero, Nat.add_zero] at hc; exact hc.symm
  ·have := Nat.mul_le_mul_left (18446744073709551616 ^ N) h
   omega
 have hTA := wTrim_ok (A.take N) (by rw [List.length_take]; omega) (okW_take hJ.oA N)
 rw [hAN, rA] at hTA
 have hdl : (digs (val X % val Y * 2 ^ s)).length < 10000 := by
  have h3 := val_lt oV
  rw [hvl] at h3
  have := digs_len (v := val X % val Y * 2 ^ s) (m := m) (by rw [← rA]; omega)
  omega
 have hSr := wShr_ok (digs (val X % val Y * 2 ^ s)) s hdl (by omega) (digs_ok _).1
 rw [(digs_ok (val X % val Y * 2 ^ s)).2.2, Nat.mul_div_cancel _ (Nat.pow_pos (by decide))] at hSr
 obtain ⟨Dq, hDq⟩ : ∃ Dq, Dq = digs (val X / val Y) := ⟨_, rfl⟩
 obtain ⟨Dr, hDr⟩ : ∃ Dr, Dr = digs (val X % val Y) := ⟨_, rfl⟩
 obtain ⟨Ds, hDs⟩ : ∃ Ds, Ds = digs (val X % val Y * 2 ^ s) := ⟨_, rfl⟩
 rw [← hDq] at hTQ ⊢
 rw [← hDr] at hSr ⊢
 rw [← hDs] at hTA hSr
 have k1 : List.take M (List.map (fun n => V.int .u64 n) Qs) = List.map (fun n => V.int .u64 n) Qs := List.take_of_length_le (by rw [List.length_map]; omega)
 have k2 : List.take N (List.map (fun n => V.int .u64 n) A) = List.map (fun n => V.int .u64 n) (A.take N) := List.map_take.symm
 clear hJ rA rQ hdl hAN hup hP hσ
 unfold dmS
 refine zs3 (ρ := fun d => if d = 122 then [.v true (words Dq)] else if d = 124 then [.v true (words Ds)] else [.v true (words Dr)]) (an k1 <| k2) (o := by repeat' first|exact hTQ|exact hTA|exact hSr|trivial|constructor) (k := ?_)
 exact Holds.ret (RetOk.vs rfl (by exact ⟨⟨rfl, id⟩, ⟨rfl, id⟩, trivial⟩) rfl)
theorem and_one (k : Nat) (hk : k < 9223372036854775808) : bitI .and .i64 (k : Int) 1 = ((k % 2 : Nat) : Int) := by
 show IntKind.i64.wrap ((BitVec.ofInt IntKind.i64.bits (k : Int) &&& BitVec.ofInt IntKind.i64.bits 1).toNat : Int) = _
 have h1 : (BitVec.ofInt IntKind.i64.bits (k : Int) &&& BitVec.ofInt IntKind.i64.bits 1).toNat = k % 2 := by
  rw [BitVec.toNat_and, BitVec.toNat_ofInt, BitVec.toNat_ofInt]
  have e1 : ((k : Int) % ((2 ^ IntKind.i64.bits : Nat) : Int)).toNat = k := by
   show ((k : Int) % 18446744073709551616).toNat = _
   omega
  have e2 : ((1 : Int) % ((2 ^ IntKind.i64.bits : Nat) : Int)).toNat = 1 := by
   show ((1 : Int) % 18446744073709551616).toNat = _
   decide
  rw [e1, e2, Nat.and_one_is_mod]
 rw [h1]
 exact wrap_i64 (by omega) (by omega)
theorem pow_half {b k : Nat} : b ^ k = b ^ (k % 2) * (b * b) ^ (k / 2) := by
 rw [← Nat.pow_two, ← Nat.pow_mul, ← Nat.pow_add]
 congr 1
 omega
theorem pow_inv {B e k o o' b : Nat} {b' : List Int} (hbe : b < 2 ^ e) (hke : k * e ≤ B) (hoe : o < 2 ^ (B - k * e + 1)) (he1 : 1 ≤ e) (h0 : 0 < k) (ho' : o' = o * b ^ (k % 2)) (ob' : okW b') (hb' : k / 2 = 0 ∨ val b' = b * b) :
 ∃ e', 1 ≤ e' ∧ val b' < 2 ^ e' ∧ k / 2 * e' ≤ B ∧ o' < 2 ^ (B - k / 2 * e' + 1) ∧ (k / 2 = 0 ∨ e' ≤ B) := by
 have hkk : k * e = k / 2 * (e + e) + k % 2 * e := by
  have := Nat.div_add_mod k 2
  rw [← Nat.two_mul e, ← Nat.mul_assoc, Nat.mul_comm (k / 2) 2, ← Nat.add_mul, this]
 have hob : o' < 2 ^ (B - k * e + 1 + k % 2 * e) := by
  rw [ho', Nat.pow_add]
  rcases Nat.mod_two_eq_zero_or_one k with h | h
  ·rw [h, Nat.pow_zero, Nat.zero_mul, Nat.pow_zero, Nat.mul_one, Nat.mul_one]; exact hoe
  ·rw [h, Nat.pow_one, Nat.one_mul]; exact Nat.mul_lt_mul'' hoe hbe
 rcases Nat.eq_zero_or_pos (k / 2) with h | h
 ·refine ⟨64 * b'.length + 1, by omega, ?_, by rw [h, Nat.zero_mul]; exact Nat.zero_le _, ?_, .inl h⟩
  ·have := val_lt ob'
   rw [show (18446744073709551616 : Nat) = 2 ^ 64 from rfl, ← Nat.pow_mul] at this
   exact Nat.lt_of_lt_of_le this (Nat.pow_le_pow_right (by decide) (by omega))
  ·rw [h, Nat.zero_mul, Nat.zero_add] at hkk
   rw [h, Nat.zero_mul]
   exact Nat.lt_of_lt_of_le hob (Nat.pow_le_pow_right (by decide) (by omega))
 ·rcases hb' with hb' | hb'
  ·omega
  ·have h2 : 1 * (e + e) ≤ k / 2 * (e + e) := Nat.mul_le_mul_right _ h
   refine ⟨e + e, by omega, by rw [hb', Nat.pow_add]; exact Nat.mul_lt_mul'' hbe hbe, by omega, ?_, .inr (by omega)⟩
   exact Nat.lt_of_lt_of_le hob (Nat.pow_le_pow_right (by decide) (by omega))
set_option maxHeartbeats 2000000 in
theorem wPow_ok (x : List Int) (K c : Nat) (ox : okW x) (hx : x.length < 1000) (hc : val x < 2 ^ c) (hK : K * c < 1000000) (hc1 : 1 ≤ c) : FnOk Tryz.prog 58 [.v (words x), .v (.int .i64 K)] [.v true (words (digs (val x ^ K)))] := by
 have hKl : K < 1000000 := Nat.lt_of_le_of_lt (Nat.le_mul_of_pos_right K hc1) hK
 have len : ∀ {m e : Nat}, m < 2 ^ e → e ≤ 2000000 → (digs m).length < 100000 := fun {m e} h1 h2 => by
  have : m < 18446744073709551616 ^ (e / 64 + 1) := by
   rw [show (18446744073709551616 : Nat) = 2 ^ 64 from rfl, ← Nat.pow_mul]
   exact Nat.lt_of_lt_of_le h1 (Nat.pow_le_pow_right (by decide) (by omega))
  have := digs_len this
  omega
 obtain ⟨T, hT⟩ : ∃ T, T = val x ^ K := ⟨_, rfl⟩
 rw [← hT]
 refine FnOk.of Tryz.func58 rfl rfl fun cx w0 => ?_
 rw [show Tryz.f58.ntmps = 25 from rfl]
 refine zs0 ?_
 refine zs0 ?_
 refine Holds.next (fun σ => ∀ a w, Rel cx w0 σ a w → Rel cx w0 { nt := 25, env := [(5, .v true (words (digs T)))], mem := [] } a w) ?_ ?_
 ·refine zs0 ?_
  refine Holds.loopB (fun s : Nat × Nat × List Int × Bool => { nt := 25, env := [(1, .v true (.int .i64 (s.1 : Nat))), (5, .v true (words (digs s.2.1))), (6, .v s.2.2.2 (words s.2.2.1))], mem := [] })
   (fun s => s.1 ≤ K ∧ okW s.2.2.1 ∧ s.2.2.1.length < 100000 ∧ s.2.1 * val s.2.2.1 ^ s.1 = T ∧ ∃ e, 1 ≤ e ∧ val s.2.2.1 < 2 ^ e ∧ s.1 * e ≤ K * c ∧ s.2.1 < 2 ^ (K * c - s.1 * e + 1) ∧ (s.1 = 0 ∨ e ≤ K * c)) (fun s => s.1) (K, 1, x, false)
   ⟨Nat.le_refl _, ox, by show x.length < 100000; omega, by show 1 * val x ^ K = T; rw [Nat.one_mul, hT], c, hc1, hc, Nat.le_refl _, by show 1 < 2 ^ (K * c - K * c + 1); rw [Nat.sub_self]; decide, by
     rcases Nat.eq_zero_or_pos K with h | h
     ·exact .inl h
     ·exact .inr (Nat.le_mul_of_pos_left c h)⟩ (fun a w h => ?_) ?_
  ·have := Rel.keep [1, 5, 6] [] (Rel.freeze (s := 7) (e := 91) (z := 1) (nw := true) (xs := [V.int .u64 1]) h rfl)
   show Rel cx w0 { nt := 25, env := [(1, .v true (.int .i64 (K : Nat))), (5, .v true (words (digs 1))), (6, .v false (words x))], mem := [] } a w
   rw [show digs 1 = [1] from by decide]
   exact this
  rintro ⟨k, o, b, nb⟩ ⟨hk, ob, lb, hv, e, he1, hbe, hke, hoe, hle⟩
  simp only at hk ob lb hv hbe hke hoe hle ⊢
  rcases Nat.eq_zero_or_pos k with h0 | h0
  ·subst h0
   rw [Nat.pow_zero, Nat.mul_one] at hv
   rw [hv]
   refine Holds.seq ?_
   refine zs0 ?_
   exact Holds.condF rfl (Holds.exit ⟨rfl, fun a w h => Rel.keep [5] [] h⟩)
  ·have g : (0 : Int) < k := by omega
   have heK : e ≤ K * c := by omega
   have hol : (digs o).length < 100000 := len hoe (by omega)
   have ha1 := and_one k (by omega)
   have hM := wMul_ok (digs o) b (by omega) (by omega) (digs_ok o).1 ob
   rw [(digs_ok o).2.2] at hM
   have hS := wMul_ok b b (by omega) (by omega) ob ob
   have hlen2 : (digs (val b * val b)).length < 100000 := len (e := e + e) (by rw [Nat.pow_add]; exact Nat.mul_lt_mul'' hbe hbe) (by omega)
   have hh := pow_half (b := val b) (k := k)
   have hfd : Int.fdiv (k : Int) (2 ^ min 1 64) = ((k / 2 : Nat) : Int) := by
    have := shrG k 1 (by omega)
    exact this
   have wk : IntKind.i64.wrap ((k / 2 : Nat) : Int) = ((k / 2 : Nat) : Int) := wrap_i64 (by omega) (by omega)
   obtain ⟨o', ho'⟩ : ∃ o', o' = o * val b ^ (k % 2) := ⟨_, rfl⟩
   refine Holds.seq ?_
   refine zs1 g ?_
   refine Holds.condT rfl (Holds.skip ?_)
   refine Holds.next (fun σ => ∃ b' nb', okW b' ∧ b'.length < 100000 ∧ (k / 2 = 0 ∨ val b' = val b * val b) ∧ ∀ a w, Rel cx w0 σ a w → Rel cx w0 { nt := 25, env := [(1, .v true (.int .i64 (k : Nat))), (5, .v true (words (digs o'))), (6, .v nb' (words b'))], mem := [] } a w) ?_ ?_
   ·refine Holds.blockN ?_
    refine Holds.next (fun σ => ∀ a w, Rel cx w0 σ a w → Rel cx w0 { nt := 25, env := [(1, .v true (.int .i64 (k : Nat))), (5, .v true (words (digs o'))), (6, .v nb (words b))], mem := [] } a w) ?_ ?_
    ·rcases Nat.mod_two_eq_zero_or_one k with h2 | h2
     ·rw [h2, Nat.pow_zero, Nat.mul_one] at ho'
      rw [h2] at ha1
      rw [ho']
      refine zs1 ha1 ?_
      exact Holds.condF rfl (Holds.skip fun a w h => Rel.keep [1, 5, 6] [] h)
     ·rw [h2, Nat.pow_one] at ho'
      rw [h2] at ha1
      rw [← ho'] at hM
      refine zs1 ha1 ?_
      refine Holds.condT rfl ?_
      refine zr2 (ρ := fun _ => [.v true (words (digs o'))]) (o := by repeat' first|exact hM|trivial|constructor) (k := ?_)
      exact fun a w h => Rel.keep [1, 5, 6] [] h
    ·intro σ hσ
     refine Holds.from hσ ?_
     clear hσ
     by_cases hk1 : 1 < k
     ·have g2 : (1 : Int) < k := by omega
      obtain ⟨D, hD⟩ : ∃ D, D = digs (val b * val b) := ⟨_, rfl⟩
      rw [← hD] at hS hlen2
      refine zs1 g2 ?_
      refine Holds.condT rfl ?_
      refine zr2 (ρ := fun _ => [.v true (words D)]) (o := by repeat' first|exact hS|trivial|constructor) (k := ?_)
      exact ⟨D, true, by rw [hD]; exact (digs_ok _).1, hlen2, .inr (by rw [hD, (digs_ok _).2.2]), fun a w h => Rel.keep [1, 5, 6] [] h⟩
     ·have g2 : ¬ (1 : Int) < k := by omega
      refine zs1 g2 ?_
      exact Holds.condF rfl (Holds.skip ⟨b, nb, ob, lb, .inl (by omega), fun a w h => Rel.keep [1, 5, 6] [] h⟩)
   ·rintro σ ⟨b', nb', ob', lb', hb', hσ⟩
    refine Holds.from hσ ?_
    refine zr1 (an hfd <| wk) ?_
    refine ⟨(k / 2, o', b', nb'), ⟨by show k / 2 ≤ K; omega, ob', lb', ?_, ?_⟩, (show k / 2 < k by omega), fun a w h => Rel.keep [1, 5, 6] [] h⟩
    ·show o' * val b' ^ (k / 2) = T
     rw [ho', Nat.mul_assoc, ← hv]
     rcases hb' with h | h
     ·rw [h, Nat.pow_zero, Nat.mul_one]
      have : k = 1 := by omega
      rw [this]
     ·rw [h, ← hh]
    ·exact pow_inv (show val b < 2 ^ e from hbe) hke hoe he1 h0 ho' ob' hb'
 ·intro σ hσ
  refine Holds.from hσ ?_
  refine zs0 ?_
  exact Holds.ret (RetOk.vs rfl (by exact ⟨⟨rfl, id⟩, trivial⟩) rfl)
theorem wTen_ok (k : Nat) (hk : k < 100000) : FnOk Tryz.prog 112 [.v (.int .i64 k)] [.v true (words (digs (10 ^ k)))] := by
 have o5 : okW [(5 : Int)] := by intro n hn; simp at hn; omega
 have v5 : val [(5 : Int)] = 5 := by decide
 have h1 := wPow_ok [5] k 3 o5 (by simp) (by rw [v5]; decide) (by omega) (by omega)
 rw [v5] at h1
 have hl : (digs (5 ^ k)).length < 10000 := by
  have h5 : (5 : Nat) ^ k ≤ 8 ^ k := Nat.pow_le_pow_left (by decide) k
  rw [show (8 : Nat) = 2 ^ 3 from rfl, ← Nat.pow_mul] at h5
  have h6 : (2 : Nat) ^ (3 * k) < 18446744073709551616 ^ (3 * k / 64 + 1) := by
   rw [show (18446744073709551616 : Nat) = 2 ^ 64 from rfl, ← Nat.pow_mul]
   exact Nat.pow_lt_pow_right (by decide) (by omega)
  have := digs_len (Nat.lt_of_le_of_lt h5 h6)
  omega
 have h2 := wShl_ok (digs (5 ^ k)) k hl (by omega) (digs_ok _).1
 rw [(digs_ok (5 ^ k)).2.2, ← Nat.mul_pow] at h2
 have h2 : FnOk Tryz.prog 55 [.v (words (digs (5 ^ k))), .v (.int .i64 k)] [.v true (words (digs (10 ^ k)))] := h2
 have h1 : FnOk Tryz.prog 58 [.v (.sl 1 [.int .u64 5]), .v (.int .i64 k)] [.v true (words (digs (5 ^ k)))] := h1
 obtain ⟨P, hP⟩ : ∃ P, P = digs (5 ^ k) := ⟨_, rfl⟩
 obtain ⟨T, hT⟩ : ∃ T, T = digs (10 ^ k) := ⟨_, rfl⟩
 rw [← hP] at h1 h2
 rw [← hT] at h2 ⊢
 refine FnOk.of Tryz.func112 rfl rfl fun cx w0 => ?_
 rw [show Tryz.f112.ntmps = 8 from rfl]
 refine zs0 ?_
 refine zs2 (ρ := fun d => if d = 5 then [.v true (words P)] else [.v true (words T)]) (o := by repeat' first|exact h1|exact h2|trivial|constructor) (k := ?_)
 exact Holds.ret (RetOk.vs rfl (by exact ⟨⟨rfl, id⟩, trivial⟩) rfl)
def blN (v : Nat) : Nat := if v = 0 then 0 else v.log2 + 1
theorem bl_of {v k : Nat} (h1 : 2 ^ k ≤ v) (h2 : v < 2 ^ (k + 1)) : blN v = k + 1 := by
 have hp : 0 < 2 ^ k := Nat.pow_pos (by decide)
 have h0 : v ≠ 0 := by omega
 rw [blN, if_neg h0]
 have a1 : v.log2 < k + 1 := (Nat.log2_lt h0).2 h2
 have a2 : k ≤ v.log2 := (Nat.le_log2 h0).2 h1
 omega
theorem bl_words {Y : List Int} {n top l : Nat} (oY : okW Y) (hn : Y.length = n + 1) (ht : Y.getD n 0 = (top : Int)) (hl0 : 0 < l) (hl1 : 2 ^ (l - 1) ≤ top) (hl2 : top < 2 ^ l) : blN (val Y) = 64 * n + l := by
 have hv := val_takeN (l := Y) n
 rw [← hn, List.take_length, ht, Int.toNat_natCast] at hv
 have h0 := val_lt (okW_take oY n)
 rw [List.length_take, Nat.min_eq_left (by omega)] at h0
 have hP : (18446744073709551616 : Nat) ^ n = 2 ^ (64 * n) := by rw [Nat.pow_mul]
 rw [hP] at hv h0
 have e : 64 * n + l = (64 * n + (l - 1)) + 1 := by omega
 rw [e]
 refine bl_of ?_ ?_
 ·have := Nat.mul_le_mul_left (2 ^ (64 * n)) hl1
  rw [← Nat.pow_add] at this
  omega
 ·have := Nat.mul_le_mul_left (2 ^ (64 * n)) (Nat.succ_le_of_lt hl2)
  rw [← Nat.pow_add, Nat.succ_eq_add_one, Nat.mul_add, Nat.mul_one, e] at this
  omega
theorem wLen_ok (x : List Int) (hx : x.length < 100000) (ox : okW x) : FnOk Tryz.prog 59 [.v (words x)] [.v true (.int .i64 (blN (val x) : Nat))] := by
 have h1 := view_ok x (by omega)
 have lx := trimL_len x
 have o1 := trimL_ok ox
 have t1 := trim_self ox
 rw [← val_trim x]
 obtain ⟨X, hX⟩ : ∃ X, X = trimL x := ⟨_, rfl⟩
 rw [← hX] at h1 lx o1 t1 ⊢
 clear hX ox
 refine FnOk.of Tryz.func59 rfl rfl fun cx w0 => ?_
 rw [show Tryz.f59.ntmps = 20 from rfl]
 refine zs0 ?_
 refine zs2 (ρ := fun _ => [.v false (words X)]) (o := by repeat' first|exact h1|trivial|constructor) (k := ?_)
 refine Holds.from (σ' := { nt := 20, env := [(0, .v false (words X))], mem := [] }) (fun a w h => Rel.keep [0] [] h) ?_
 refine Holds.seq ?_
 by_cases h0 : X.length = 0
 ·have : X = [] := List.length_eq_zero_iff.1 h0
  subst this
  refine zs0 ?_
  refine Holds.condT rfl ?_
  refine zs0 ?_
  exact Holds.ret (RetOk.vs rfl (by exact ⟨⟨rfl, id⟩, trivial⟩) rfl)
 ·obtain ⟨n, hn⟩ : ∃ n, X.length = n + 1 := ⟨X.length - 1, by omega⟩
  obtain ⟨top, ht, ht64⟩ := natW (okW_getD o1 n)
  have gt := get_map (l := X) (i := n) (by omega)
  rw [ht] at gt
  have htp : 0 < top := by
   have := noZ_top (m := val X) (n := n) (by rw [← trim_digs o1, t1]; exact hn)
   rw [← trim_digs o1, t1, ht] at this
   omega
  obtain ⟨l1, l2, l3⟩ := len64_spec ht64 htp
  have hb := bl_words o1 hn ht l1 l2 l3
  have hL := len64_ok top ht64
  have hl64 : len64 top ≤ 64 := by
   rcases Nat.lt_or_ge 64 (len64 top) with h | h
   ·have := Nat.pow_le_pow_right (n := 2) (by decide) (show 64 ≤ len64 top - 1 by omega)
    rw [show (2 : Nat) ^ 64 = 18446744073709551616 from rfl] at this
    omega
   ·exact h
  obtain ⟨l, hl⟩ : ∃ l, l = len64 top := ⟨_, rfl⟩
  rw [← hl] at hb hL hl64
  rw [hb]
  have g0 : ¬ (X.length : Int) = 0 := by omega
  have e1 : (((n + 1 : Nat) : Int) - 1) = (n : Int) := by omega
  have w1 : IntKind.i64.wrap (64 * (n : Int)) = ((64 * n : Nat) : Int) := by rw [wrap_i64] <;> omega
  have w2 : IntKind.i64.wrap (((64 * n : Nat) : Int) + (l : Int)) = ((64 * n + l : Nat) : Int) := by rw [wrap_i64] <;> omega
  refine zs1 g0 ?_
  refine Holds.condF rfl (Holds.skip ?_)
  refine zs3 (ρ := fun _ => [.v true (.int .i64 (l : Nat))]) (an hn <| an e1 <| an gt <| an w1 <| w2) (o := by repeat' first|exact hL|trivial|constructor) (k := ?_)
  exact Holds.ret (RetOk.vs rfl (by exact ⟨⟨rfl, id⟩, trivial⟩) rfl)
def HasD (v D : Nat) : Prop := 1 ≤ D ∧ 10 ^ (D - 1) ≤ v ∧ v < 10 ^ D
theorem hasD_ex : ∀ (v : Nat), 0 < v → ∃ D, HasD v D := fun v hv => by
 have key : ∀ n, v < 10 ^ n → ∃ D, HasD v D := fun n => by
  induction n with
  | zero => intro h; simp at h; omega
  | succ n ih =>
    intro h
    rcases Nat.lt_or_ge v (10 ^ n) with h1 | h1
    ·exact ih h1
    ·exact ⟨n + 1, by omega, h1, h⟩
 exact key v (Nat.lt_pow_self (by decide))
theorem hasD_lt {v D n : Nat} (h : HasD v D) (hn : 10 ^ n ≤ v) : n < D := by
 rcases Nat.lt_or_ge n D with h1 | h1
 ·exact h1
 ·have := Nat.pow_le_pow_right (n := 10) (by decide) h1
  have := h.2.2
  omega
theorem hasD_le {v D n : Nat} (h : HasD v D) (hn : v < 10 ^ n) : D ≤ n := by
 rcases Nat.lt_or_ge n D with h1 | h1
 ·have := Nat.pow_le_pow_right (n := 10) (by decide) (show n ≤ D - 1 by omega)
  have := h.2.1
  omega
 ·exact h1
theorem bl_le {v : Nat} (h : 0 < v) : 2 ^ (blN v - 1) ≤ v ∧ 1 ≤ blN v := by
 rw [blN, if_neg (by omega), Nat.add_sub_cancel]
 exact ⟨Nat.log2_self_le (by omega), by omega⟩
theorem bl_lt {v k : Nat} (h : v < 2 ^ k) : blN v ≤ k := by
 unfold blN
 split
 ·exact Nat.zero_le _
 ·next h0 => exact (Nat.log2_lt h0).2 h
def bitN (v i : Nat) : Bool := decide (v / 2 ^ i % 2 = 1)
theorem bit_word {x : List Int} (ox : okW x) (i : Nat) : val x / 2 ^ i % 2 = (x.getD (i / 64) 0).toNat / 2 ^ (i % 64) % 2 := by
 obtain ⟨m, hm⟩ : ∃ m, m = i / 64 := ⟨_, rfl⟩
 obtain ⟨r, hr⟩ : ∃ r, r = i % 64 := ⟨_, rfl⟩
 rw [← hm, ← hr]
 have hi : i = 64 * m + r := by omega
 have hP : (2 : Nat) ^ i = 18446744073709551616 ^ m * 2 ^ r := by rw [hi, Nat.pow_add, Nat.pow_mul, show (2 : Nat) ^ 64 = 18446744073709551616 from rfl]
 rw [hP, ← Nat.div_div_eq_div_mul]
 rcases Nat.lt_or_ge m x.length with h | h
 ·have hc := val_cut x m (by omega)
  have hl := val_lt (okW_take ox m)
  rw [List.length_take, Nat.min_eq_left (by omega)] at hl
  have hd : val x / 18446744073709551616 ^ m = val (x.drop m) := by
   rw [hc, Nat.add_comm, Nat.mul_add_div (Nat.pow_pos (by decide)), Nat.div_eq_of_lt hl, Nat.add_zero]
  rw [hd, List.drop_eq_getElem_cons h, val, List.getD_eq_getElem?_getD, List.getElem?_eq_getElem h]
  show (x[m].toNat + 18446744073709551616 * val (x.drop (m + 1))) / 2 ^ r % 2 = x[m].toNat / 2 ^ r % 2
  obtain ⟨k, hk⟩ : ∃ k, 64 - r = k + 1 := ⟨63 - r, by omega⟩
  have hB : 18446744073709551616 = 2 ^ r * (2 * 2 ^ k) := by rw [← Nat.pow_succ', ← Nat.pow_add, show r + (k + 1) = 64 from by omega]
  rw [hB, Nat.mul_assoc, Nat.add_comm, Nat.mul_add_div (Nat.pow_pos (by decide)), Nat.mul_assoc]
  omega
 ·have h0 : val x / 18446744073709551616 ^ m = 0 := by
   refine Nat.div_eq_of_lt (Nat.lt_of_lt_of_le (val_lt ox) (Nat.pow_le_pow_right (by decide) h))
  rw [h0, List.getD_eq_getElem?_getD, List.getElem?_eq_none h]
  simp
theorem and_one64 (k : Nat) (hk : k < 18446744073709551616) : bitI .and .u64 (k : Int) 1 = ((k % 2 : Nat) : Int) := by
 show IntKind.u64.wrap ((BitVec.ofInt IntKind.u64.bits (k : Int) &&& BitVec.ofInt IntKind.u64.bits 1).toNat : Int) = _
 have h1 : (BitVec.ofInt IntKind.u64.bits (k : Int) &&& BitVec.ofInt IntKind.u64.bits 1).toNat = k % 2 := by
  rw [BitVec.toNat_and, BitVec.toNat_ofInt, BitVec.toNat_ofInt]
  have e1 : ((k : Int) % ((2 ^ IntKind.u64.bits : Nat) : Int)).toNat = k := by
   show ((k : Int) % 18446744073709551616).toNat = _
   omega
  have e2 : ((1 : Int) % ((2 ^ IntKind.u64.bits : Nat) : Int)).toNat = 1 := by
   show ((1 : Int) % 18446744073709551616).toNat = _
   decide
  rw [e1, e2, Nat.and_one_is_mod]
 rw [h1]
 exact wrapN _ (by omega)
theorem wBit_ok (x : List Int) (i : Nat) (hx : x.length < 100000) (hi : i < 10000000) (ox : okW x) : FnOk Tryz.prog 60 [.v (words x), .v (.int .i64 i)] [.v true (.bool (bitN (val x) i))] := by
 have hb := bit_word ox i
 have hq : (i : Int).tdiv 64 = ((i / 64 : Nat) : Int) := quoN i 64
 have hr : (i : Int).tmod 64 = ((i % 64 : Nat) : Int) := remN i 64
 obtain ⟨w, hw, hw64⟩ := natW (okW_getD ox (i / 64))
 rw [hw, Int.toNat_natCast] at hb
 unfold bitN
 rw [hb]
 have hs := shrG w (i % 64) (by omega)
 have hle : w / 2 ^ (i % 64) ≤ w := Nat.div_le_self _ _
 have hwr := wrapN (w / 2 ^ (i % 64)) (by omega)
 have ha := and_one64 (w / 2 ^ (i % 64)) (by omega)
 obtain ⟨m, hm⟩ : ∃ m, m = i / 64 := ⟨_, rfl⟩
 obtain ⟨r, hr'⟩ : ∃ r, r = i % 64 := ⟨_, rfl⟩
 obtain ⟨u, hu⟩ : ∃ u, u = w / 2 ^ r := ⟨_, rfl⟩
 have hml : m < 10000000 := by omega
 rw [← hm] at hq hw
 rw [← hr'] at hr hs hwr ha ⊢
 rw [← hu] at hs hwr ha ⊢
 have g0 : (0 : Int) ≤ (i : Int) := by omega
 refine FnOk.of Tryz.func60 rfl rfl fun cx w0 => ?_
 rw [show Tryz.f60.ntmps = 26 from rfl]
 refine zs0 ?_
 by_cases hlt : m < x.length
 ·have g1 : (m : Int) < x.length := by omega
  have gx : x[m]? = some (w : Int) := by rw [get_map hlt, hw]
  rcases Nat.mod_two_eq_zero_or_one u with h | h
  ·rw [h] at ha ⊢
   rw [decide_eq_false (by decide)]
   refine zs1 (an g0 <| an hq <| an hr <| an g1 <| an gx <| an hs <| an hwr <| ha) ?_
   exact Holds.ret (RetOk.vs rfl (by exact ⟨⟨rfl, id⟩, trivial⟩) rfl)
  ·rw [h] at ha ⊢
   rw [decide_eq_true rfl]
   refine zs1 (an g0 <| an hq <| an hr <| an g1 <| an gx <| an hs <| an hwr <| ha) ?_
   exact Holds.ret (RetOk.vs rfl (by exact ⟨⟨rfl, id⟩, trivial⟩) rfl)
 ·have g1 : ¬ (m : Int) < x.length := by omega
  have hw0 : w = 0 := by
   have : x.getD m 0 = 0 := by rw [List.getD_eq_getElem?_getD, List.getElem?_eq_none (by omega)]; rfl
   omega
  rw [show u = 0 from by rw [hu, hw0, Nat.zero_div]]
  rw [decide_eq_false (by decide)]
  refine zs1 (an g0 <| an hq <| an hr <| g1) ?_
  exact Holds.ret (RetOk.vs rfl (by exact ⟨⟨rfl, id⟩, trivial⟩) rfl)
theorem rBit_ok (x : List Int) (i : Nat) (hx : x.length < 100000) (hi : i < 10000000) (ox : okW x) : FnOk Tryz.prog 173 [.v (words x), .v (.int .i64 i)] [.v true (.bool (bitN (val x) i))] := by
 have hb := bit_word ox i
 have hq : (i : Int).tdiv 64 = ((i / 64 : Nat) : Int) := quoN i 64
 have hr : (i : Int).tmod 64 = ((i % 64 : Nat) : Int) := remN i 64
 obtain ⟨w, hw, hw64⟩ := natW (okW_getD ox (i / 64))
 rw [hw, Int.toNat_natCast] at hb
 unfold bitN
 rw [hb]
 have hs := shrG w (i % 64) (by omega)
 have hle : w / 2 ^ (i % 64) ≤ w := Nat.div_le_self _ _
 have hwr := wrapN (w / 2 ^ (i % 64)) (by omega)
 have ha : ((w / 2 ^ (i % 64) : Nat) : Int).tmod 2 = ((w / 2 ^ (i % 64) % 2 : Nat) : Int) := remN _ 2
 obtain ⟨m, hm⟩ : ∃ m, m = i / 64 := ⟨_, rfl⟩
 obtain ⟨r, hr'⟩ : ∃ r, r = i % 64 := ⟨_, rfl⟩
 obtain ⟨u, hu⟩ : ∃ u, u = w / 2 ^ r := ⟨_, rfl⟩
 have hml : m < 10000000 := by omega
 rw [← hm] at hq hw
 rw [← hr'] at hr hs hwr ha ⊢
 rw [← hu] at hs hwr ha ⊢
 have g0 : (0 : Int) ≤ (i : Int) := by omega
 refine FnOk.of Tryz.func173 rfl rfl fun cx w0 => ?_
 rw [show Tryz.f173.ntmps = 26 from rfl]
 refine zs0 ?_
 by_cases hlt : m < x.length
 ·have g1 : (m : Int) < x.length := by omega
  have gx : x[m]? = some (w : Int) := by rw [get_map hlt, hw]
  rcases Nat.mod_two_eq_zero_or_one u with h | h
  ·rw [h] at ha ⊢
   rw [decide_eq_false (by decide)]
   refine zs1 (an g0 <| an hq <| an hr <| an g1 <| an gx <| an hs <| an hwr <| ha) ?_
   exact Holds.ret (RetOk.vs rfl (by exact ⟨⟨rfl, id⟩, trivial⟩) rfl)
  ·rw [h] at ha ⊢
   rw [decide_eq_true rfl]
   refine zs1 (an g0 <| an hq <| an hr <| an g1 <| an gx <| an hs <| an hwr <| ha) ?_
   exact Holds.ret (RetOk.vs rfl (by exact ⟨⟨rfl, id⟩, trivial⟩) rfl)
 ·have g1 : ¬ (m : Int) < x.length := by omega
  have hw0 : w = 0 := by
   have : x.getD m 0 = 0 := by rw [List.getD_eq_getElem?_getD, List.getElem?_eq_none (by omega)]; rfl
   omega
  rw [show u = 0 from by rw [hu, hw0, Nat.zero_div]]
  rw [decide_eq_false (by decide)]
  refine zs1 (an g0 <| an hq <| an hr <| g1) ?_
  exact Holds.ret (RetOk.vs rfl (by exact ⟨⟨rfl, id⟩, trivial⟩) rfl)
theorem bit_zero (v : Nat) : bitN v 0 = decide (v % 2 = 1) := by unfold bitN; rw [Nat.pow_zero, Nat.div_one]
def rstN (x d : Nat) : Int := if x = 0 then 0 else 2 + cmpN (x * 2) d
theorem rstN_bd (x d : Nat) : 0 ≤ rstN x d ∧ rstN x d ≤ 3 := by
 unfold rstN cmpN
 split
 ·omega
 ·split
  ·omega
  ·split <;> omega
theorem compare_ok (x d : List Int) (hx : x.length < 2000) (hd : d.length < 2000) (ox : okW x) (od : okW d) : FnOk Tryz.prog 161 [.v (words x), .v (words d)] [.v true (.int .i64 (rstN (val x) (val d)))] := by
 have hZ := wZero_ok x (by omega) ox
 have hS := wShl_ok x 1 (by omega) (by omega) ox
 rw [Nat.pow_one] at hS
 have hl : (digs (val x * 2)).length < 100000 := by
  have h1 := val_lt ox
  have h2 : val x * 2 < 18446744073709551616 ^ (x.length + 1) := by
   rw [Nat.pow_succ]
   have := Nat.mul_lt_mul_of_lt_of_le h1 (show 2 ≤ 18446744073709551616 by decide) (by decide)
   exact this
  have := digs_len h2
  omega
 have hC := wCmp_ok (digs (val x * 2)) d hl (by omega) (digs_ok _).1 od
 rw [(digs_ok (val x * 2)).2.2] at hC
 unfold rstN
 obtain ⟨c, hc⟩ : ∃ c, c = cmpN (val x * 2) (val d) := ⟨_, rfl⟩
 have hcb : -1 ≤ c ∧ c ≤ 1 := by
  rw [hc]; unfold cmpN
  split
  ·omega
  ·split <;> omega
 rw [← hc] at hC ⊢
 obtain ⟨D, hD⟩ : ∃ D, D = digs (val x * 2) := ⟨_, rfl⟩
 rw [← hD] at hS hC
 have hS : FnOk Tryz.prog 55 [.v (words x), .v (.int .i64 1)] [.v true (words D)] := hS
 refine FnOk.of Tryz.func161 rfl rfl fun cx w0 => ?_
 rw [show Tryz.f161.ntmps = 12 from rfl]
 refine zs0 ?_
 refine Holds.seq ?_
 by_cases h0 : val x = 0
 ·rw [decide_eq_true h0] at hZ
  rw [if_pos h0]
  refine zs2 (ρ := fun _ => [.v true (.bool true)]) (o := by repeat' first|exact hZ|trivial|constructor) (k := ?_)
  refine Holds.condT rfl ?_
  refine zs0 ?_
  exact Holds.ret (RetOk.vs rfl (by exact ⟨⟨rfl, id⟩, trivial⟩) rfl)
 ·rw [decide_eq_false h0] at hZ
  rw [if_neg h0]
  have w1 : IntKind.i64.wrap (2 + c) = 2 + c := by rw [wrap_i64] <;> omega
  refine zs2 (ρ := fun _ => [.v true (.bool false)]) (o := by repeat' first|exact hZ|trivial|constructor) (k := ?_)
  refine Holds.condF rfl (Holds.skip ?_)
  refine zs3 (ρ := fun d => if d = 8 then [.v true (words D)] else [.v true (.int .i64 c)]) w1 (o := by repeat' first|exact hS|exact hC|trivial|constructor) (k := ?_)
  exact Holds.ret (RetOk.vs rfl (by exact ⟨⟨rfl, id⟩, trivial⟩) rfl)
def mrN (r : Nat) (neg odd : Bool) (x : Int) : Bool := match r with
 | 0 => decide (x = 3) || (decide (x = 2) && odd)
 | 1 => decide (2 ≤ x)
 | 2 => false
 | 3 => decide (0 < x) && !neg
 | _ => decide (0 < x) && neg
theorem more0_ok (neg odd : Bool) (x : Int) : FnOk Tryz.prog 311 [.v (.bool neg), .v (.bool odd), .v (.int .i64 x)] [.v true (.bool (mrN 0 neg odd x))] := by
 unfold mrN
 refine FnOk.of Tryz.func311 rfl rfl fun cx w0 => ?_
 rw [show Tryz.f311.ntmps = 16 from rfl]
 refine zs0 ?_
 by_cases h3 : x = 3
 ·subst h3
  refine zs0 ?_
  exact Holds.ret (RetOk.vs rfl (by exact ⟨⟨rfl, id⟩, trivial⟩) rfl)
 ·by_cases h2 : x = 2
  ·subst h2
   refine zs0 ?_
   exact Holds.ret (RetOk.vs rfl (by exact ⟨⟨rfl, id⟩, trivial⟩) rfl)
  ·rw [decide_eq_false h3, decide_eq_false h2]
   refine zs1 (an h3 <| h2) ?_
   exact Holds.ret (RetOk.vs rfl (by exact ⟨⟨rfl, id⟩, trivial⟩) rfl)
theorem more1_ok (neg odd : Bool) (x : Int) : FnOk Tryz.prog 312 [.v (.bool neg), .v (.bool odd), .v (.int .i64 x)] [.v true (.bool (mrN 1 neg odd x))] := by
 unfold mrN
 refine FnOk.of Tryz.func312 rfl rfl fun cx w0 => ?_
 rw [show Tryz.f312.ntmps = 9 from rfl]
 refine zs0 ?_
 refine zs0 ?_
 exact Holds.ret (RetOk.vs rfl (by exact ⟨⟨rfl, id⟩, trivial⟩) rfl)
theorem more2_ok (neg odd : Bool) (x : Int) : FnOk Tryz.prog 313 [.v (.bool neg), .v (.bool odd), .v (.int .i64 x)] [.v true (.bool (mrN 2 neg odd x))] := by
 unfold mrN
 refine FnOk.of Tryz.func313 rfl rfl fun cx w0 => ?_
 rw [show Tryz.f313.ntmps = 7 from rfl]
 refine zs0 ?_
 refine zs0 ?_
 exact Holds.ret (RetOk.vs rfl (by exact ⟨⟨rfl, id⟩, trivial⟩) rfl)
theorem more3_ok (neg odd : Bool) (x : Int) : FnOk Tryz.prog 314 [.v (.bool neg), .v (.bool odd), .v (.int .i64 x)] [.v true (.bool (mrN 3 neg odd x))] := by
 unfold mrN
 refine FnOk.of Tryz.func314 rfl rfl fun cx w0 => ?_
 rw [show Tryz.f314.ntmps = 13 from rfl]
 refine zs0 ?_
 by_cases h : 0 < x
 ·rw [decide_eq_true h]
  cases neg
  ·refine zs1 h ?_
   exact Holds.ret (RetOk.vs rfl (by exact ⟨⟨rfl, id⟩, trivial⟩) rfl)
  ·refine zs1 h ?_
   exact Holds.ret (RetOk.vs rfl (by exact ⟨⟨rfl, id⟩, trivial⟩) rfl)
 ·rw [decide_eq_false h]
  refine zs1 h ?_
  exact Holds.ret (RetOk.vs rfl (by exact ⟨⟨rfl, id⟩, trivial⟩) rfl)
theorem more4_ok (neg odd : Bool) (x : Int) : FnOk Tryz.prog 315 [.v (.bool neg), .v (.bool odd), .v (.int .i64 x)] [.v true (.bool (mrN 4 neg odd x))] := by
 unfold mrN
 refine FnOk.of Tryz.func315 rfl rfl fun cx w0 => ?_
 rw [show Tryz.f315.ntmps = 12 from rfl]
 refine zs0 ?_
 by_cases h : 0 < x
 ·rw [decide_eq_true h]
  refine zs1 h ?_
  exact Holds.ret (RetOk.vs rfl (by exact ⟨⟨rfl, id⟩, trivial⟩) rfl)
 ·rw [decide_eq_false h]
  refine zs1 h ?_
  exact Holds.ret (RetOk.vs rfl (by exact ⟨⟨rfl, id⟩, trivial⟩) rfl)
theorem Right_ok (r : Int) : FnOk Tryz.prog 105 [.v (.int .i64 r)] [.v true (.bool (decide (0 ≤ r ∧ r ≤ 4)))] := by
 refine FnOk.of Tryz.func105 rfl rfl fun cx w0 => ?_
 rw [show Tryz.f105.ntmps = 9 from rfl]
 refine zs0 ?_
 by_cases h1 : 0 ≤ r
 ·by_cases h2 : r ≤ 4
  ·rw [decide_eq_true ⟨h1, h2⟩]
   refine zs1 (an h1 <| h2) ?_
   exact Holds.ret (RetOk.vs rfl (by exact ⟨⟨rfl, id⟩, trivial⟩) rfl)
  ·rw [decide_eq_false (fun h => h2 h.2)]
   refine zs1 (an h1 <| h2) ?_
   exact Holds.ret (RetOk.vs rfl (by exact ⟨⟨rfl, id⟩, trivial⟩) rfl)
 ·rw [decide_eq_false (fun h => h1 h.1)]
  refine zs1 h1 ?_
  exact Holds.ret (RetOk.vs rfl (by exact ⟨⟨rfl, id⟩, trivial⟩) rfl)
def upN (r : Nat) (neg : Bool) (q : Nat) (x : Int) : Nat := if mrN r neg (bitN q 0) x = true then q + 1 else q
theorem more_ok (r : Nat) (hr : r ≤ 4) (neg odd : Bool) (x : Int) : FnOk Tryz.prog (311 + r) [.v (.bool neg), .v (.bool odd), .v (.int .i64 x)] [.v true (.bool (mrN r neg odd x))] := by
 match r, hr with
 | 0, _ => exact more0_ok neg odd x
 | 1, _ => exact more1_ok neg odd x
 | 2, _ => exact more2_ok neg odd x
 | 3, _ => exact more3_ok neg odd x
 | 4, _ => exact more4_ok neg odd x
theorem up_ok (r : Nat) (hr : r ≤ 4) (neg : Bool) (q : List Int) (x : Int) (hq : q.length < 10000) (oq : okW q) : FnOk Tryz.prog 160 [.v (.int .i64 r), .v (.bool neg), .v (words q), .v (.int .i64 x)] [.v true (words (digs (upN r neg (val q) x)))] := by
 have hB := wBit_ok q 0 (by omega) (by omega) oq
 have hM := more_ok r hr neg (bitN (val q) 0) x
 have hA := wAdd_ok q [1] (by omega) (by simp) oq (by intro n hn; simp at hn; omega)
 rw [show val [(1 : Int)] = 1 from by decide] at hA
 have hA : FnOk Tryz.prog 131 [.v (words q), .v (.sl 1 [.int .u64 1])] [.v true (words (digs (val q + 1)))] := hA
 have hT := wTrim_ok q (by omega) oq
 unfold upN
 obtain ⟨b, hb⟩ : ∃ b, b = bitN (val q) 0 := ⟨_, rfl⟩
 rw [← hb] at hB hM ⊢
 obtain ⟨m, hm⟩ : ∃ m, m = mrN r neg b x := ⟨_, rfl⟩
 rw [← hm] at hM ⊢
 have g0 : (0 : Int) ≤ (r : Int) := by omega
 have g1 : (r : Int) < 5 := by omega
 have hB : FnOk Tryz.prog 60 [.v (words q), .v (.int .i64 0)] [.v true (.bool b)] := hB
 have gf : ([V.fnv 311, V.fnv 312, V.fnv 313, V.fnv 314, V.fnv 315] : List V)[r]? = some (V.fnv (311 + r)) := by
  match r, hr with
  | 0, _ => rfl
  | 1, _ => rfl
  | 2, _ => rfl
  | 3, _ => rfl
  | 4, _ => rfl
 have hoff : V.off ([V.fnv 311, V.fnv 312, V.fnv 313, V.fnv 314, V.fnv 315] : List V) r = r := by
  match r, hr with
  | 0, _ => rfl
  | 1, _ => rfl
  | 2, _ => rfl
  | 3, _ => rfl
  | 4, _ => rfl
 have hG0 : lookG GLOB 0 = some (.agg [V.fnv 311, V.fnv 312, V.fnv 313, V.fnv 314, V.fnv 315]) := rfl
 obtain ⟨fs, hfs⟩ : ∃ fs, fs = ([V.fnv 311, V.fnv 312, V.fnv 313, V.fnv 314, V.fnv 315] : List V) := ⟨_, rfl⟩
 rw [← hfs] at gf hoff hG0
 obtain ⟨f, hf⟩ : ∃ f, f = 311 + r := ⟨_, rfl⟩
 rw [← hf] at gf hM
 refine FnOk.of Tryz.func160 rfl rfl fun cx w0 => ?_
 rw [show Tryz.f160.ntmps = 22 from rfl]
 refine zs0 ?_
 refine Holds.seq ?_
 refine zd3 [] (ρ := fun d => if d = 14 then [.v true (.bool b)] else [.v true (.bool m)]) (an g0 <| an g1 <| an gf <| an hG0 <| hoff) (o := by repeat' first|exact hB|exact hM|trivial|constructor) (k := ?_)
 cases m with
 | true =>
   rw [if_pos rfl]
   refine Holds.condT rfl ?_
   refine zs2 (ρ := fun _ => [.v true (words (digs (val q + 1)))]) (o := by repeat' first|exact hA|trivial|constructor) (k := ?_)
   exact Holds.ret (RetOk.vs rfl (by exact ⟨⟨rfl, id⟩, trivial⟩) rfl)
 | false =>
   rw [if_neg (by simp)]
   refine Holds.condF rfl (Holds.skip ?_)
   refine zs2 (ρ := fun _ => [.v true (words (digs (val q)))]) (o := by repeat' first|exact hT|trivial|constructor) (k := ?_)
   exact Holds.ret (RetOk.vs rfl (by exact ⟨⟨rfl, id⟩, trivial⟩) rfl)
theorem Known_ok (r : Int) : FnOk Tryz.prog 103 [.v (.int .i64 r)] [.v true (.bool (decide (0 ≤ r ∧ r ≤ 4)))] := by
 refine FnOk.of Tryz.func103 rfl rfl fun cx w0 => ?_
 rw [show Tryz.f103.ntmps = 9 from rfl]
 refine zs0 ?_
 by_cases h1 : 0 ≤ r
 ·by_cases h2 : r ≤ 4
  ·rw [decide_eq_true ⟨h1, h2⟩]
   refine zs1 (an h1 <| h2) ?_
   exact Holds.ret (RetOk.vs rfl (by exact ⟨⟨rfl, id⟩, trivial⟩) rfl)
  ·rw [decide_eq_false (fun h => h2 h.2)]
   refine zs1 (an h1 <| h2) ?_
   exact Holds.ret (RetOk.vs rfl (by exact ⟨⟨rfl, id⟩, trivial⟩) rfl)
 ·rw [decide_eq_false (fun h => h1 h.1)]
  refine zs1 h1 ?_
  exact Holds.ret (RetOk.vs rfl (by exact ⟨⟨rfl, id⟩, trivial⟩) rfl)
set_option maxHeartbeats 2000000 in
theorem rPow_ok (x : List Int) (K c : Nat) (ox : okW x) (hx : x.length < 1000) (hc : val x < 2 ^ c) (hK : K * c < 300000) (hc1 : 1 ≤ c) : FnOk Tryz.prog 77 [.v (words x), .v (.int .i64 K)] [.v true (words (digs (val x ^ K)))] := by
 have hKl : K < 300000 := Nat.lt_of_le_of_lt (Nat.le_mul_of_pos_right K hc1) hK
 have len : ∀ {m e : Nat}, m < 2 ^ e → e ≤ 1000000 → (digs m).length < 30000 := fun {m e} h1 h2 => by
  have : m < 18446744073709551616 ^ (e / 64 + 1) := by
   rw [show (18446744073709551616 : Nat) = 2 ^ 64 from rfl, ← Nat.pow_mul]
   exact Nat.lt_of_lt_of_le h1 (Nat.pow_le_pow_right (by decide) (by omega))
  have := digs_len this
  omega
 have hTr := rTrim_ok x (by omega) ox
 have h1w : FnOk Tryz.prog 78 [.v (.int .u64 1)] [.v true (words [1])] := by
  have := FromWord_ok 1 (by decide)
  rw [show digs 1 = [1] from by decide] at this
  exact this
 obtain ⟨T, hT⟩ : ∃ T, T = val x ^ K := ⟨_, rfl⟩
 rw [← hT]
 refine FnOk.of Tryz.func77 rfl rfl fun cx w0 => ?_
 rw [show Tryz.f77.ntmps = 25 from rfl]
 refine zs0 ?_
 refine zs2 (ρ := fun _ => [.v true (words [1])]) (o := by repeat' first|exact h1w|trivial|constructor) (k := ?_)
 refine Holds.next (fun σ => ∀ a w, Rel cx w0 σ a w → Rel cx w0 { nt := 25, env := [(5, .v true (words (digs T)))], mem := [] } a w) ?_ ?_
 ·refine zs2 (ρ := fun _ => [.v true (words (digs (val x)))]) (o := by repeat' first|exact hTr|trivial|constructor) (k := ?_)
  refine Holds.loopB (fun s : Nat × Nat × List Int × Bool => { nt := 25, env := [(1, .v true (.int .i64 (s.1 : Nat))), (5, .v true (words (digs s.2.1))), (0, .v s.2.2.2 (words s.2.2.1))], mem := [] })
   (fun s => s.1 ≤ K ∧ okW s.2.2.1 ∧ s.2.2.1.length < 30000 ∧ s.2.1 * val s.2.2.1 ^ s.1 = T ∧ ∃ e, 1 ≤ e ∧ val s.2.2.1 < 2 ^ e ∧ s.1 * e ≤ K * c ∧ s.2.1 < 2 ^ (K * c - s.1 * e + 1) ∧ (s.1 = 0 ∨ e ≤ K * c)) (fun s => s.1) (K, 1, digs (val x), true)
   ⟨Nat.le_refl _, (digs_ok _).1, (by have := digs_len (val_lt ox); show (digs (val x)).length < 30000; omega), by show 1 * val (digs (val x)) ^ K = T; rw [(digs_ok _).2.2, Nat.one_mul, hT], c, hc1, by show val (digs (val x)) < 2 ^ c; rw [(digs_ok _).2.2]; exact hc, Nat.le_refl _, by show 1 < 2 ^ (K * c - K * c + 1); rw [Nat.sub_self]; decide, by
     rcases Nat.eq_zero_or_pos K with h | h
     ·exact .inl h
     ·exact .inr (Nat.le_mul_of_pos_left c h)⟩ (fun a w h => ?_) ?_
  ·have := Rel.keep [1, 5, 0] [] h
   show Rel cx w0 { nt := 25, env := [(1, .v true (.int .i64 (K : Nat))), (5, .v true (words (digs 1))), (0, .v true (words (digs (val x))))], mem := [] } a w
   rw [show digs 1 = [1] from by decide]
   exact this
  rintro ⟨k, o, b, nb⟩ ⟨hk, ob, lb, hv, e, he1, hbe, hke, hoe, hle⟩
  simp only at hk ob lb hv hbe hke hoe hle ⊢
  rcases Nat.eq_zero_or_pos k with h0 | h0
  ·subst h0
   rw [Nat.pow_zero, Nat.mul_one] at hv
   rw [hv]
   refine Holds.seq ?_
   refine zs0 ?_
   exact Holds.condF rfl (Holds.exit ⟨rfl, fun a w h => Rel.keep [5] [] h⟩)
  ·have g : (0 : Int) < k := by omega
   have heK : e ≤ K * c := by omega
   have hol : (digs o).length < 30000 := len hoe (by omega)
   have ha1 : (k : Int).tmod 2 = ((k % 2 : Nat) : Int) := remN k 2
   have hM := rMul_ok (digs o) b (by omega) (by omega) (digs_ok o).1 ob
   rw [(digs_ok o).2.2] at hM
   have hS := rMul_ok b b (by omega) (by omega) ob ob
   have hlen2 : (digs (val b * val b)).length < 30000 := len (e := e + e) (by rw [Nat.pow_add]; exact Nat.mul_lt_mul'' hbe hbe) (by omega)
   have hh := pow_half (b := val b) (k := k)
   have hfd : (k : Int).tdiv 2 = ((k / 2 : Nat) : Int) := quoN k 2
   have wk : IntKind.i64.wrap ((k / 2 : Nat) : Int) = ((k / 2 : Nat) : Int) := wrap_i64 (by omega) (by omega)
   obtain ⟨o', ho'⟩ : ∃ o', o' = o * val b ^ (k % 2) := ⟨_, rfl⟩
   refine Holds.seq ?_
   refine zs1 g ?_
   refine Holds.condT rfl (Holds.skip ?_)
   refine Holds.next (fun σ => ∃ b' nb', okW b' ∧ b'.length < 30000 ∧ (k / 2 = 0 ∨ val b' = val b * val b) ∧ ∀ a w, Rel cx w0 σ a w → Rel cx w0 { nt := 25, env := [(1, .v true (.int .i64 (k : Nat))), (5, .v true (words (digs o'))), (0, .v nb' (words b'))], mem := [] } a w) ?_ ?_
   ·refine Holds.blockN ?_
    refine Holds.next (fun σ => ∀ a w, Rel cx w0 σ a w → Rel cx w0 { nt := 25, env := [(1, .v true (.int .i64 (k : Nat))), (5, .v true (words (digs o'))), (0, .v nb (words b))], mem := [] } a w) ?_ ?_
    ·rcases Nat.mod_two_eq_zero_or_one k with h2 | h2
     ·rw [h2, Nat.pow_zero, Nat.mul_one] at ho'
      rw [h2] at ha1
      rw [ho']
      refine zs1 ha1 ?_
      exact Holds.condF rfl (Holds.skip fun a w h => Rel.keep [1, 5, 0] [] h)
     ·rw [h2, Nat.pow_one] at ho'
      rw [h2] at ha1
      rw [← ho'] at hM
      refine zs1 ha1 ?_
      refine Holds.condT rfl ?_
      refine zr2 (ρ := fun _ => [.v true (words (digs o'))]) (o := by repeat' first|exact hM|trivial|constructor) (k := ?_)
      exact fun a w h => Rel.keep [1, 5, 0] [] h
    ·intro σ hσ
     refine Holds.from hσ ?_
     clear hσ
     by_cases hk1 : 1 < k
     ·have g2 : (1 : Int) < k := by omega
      obtain ⟨D, hD⟩ : ∃ D, D = digs (val b * val b) := ⟨_, rfl⟩
      rw [← hD] at hS hlen2
      refine zs1 g2 ?_
      refine Holds.condT rfl ?_
      refine zr2 (ρ := fun _ => [.v true (words D)]) (o := by repeat' first|exact hS|trivial|constructor) (k := ?_)
      exact ⟨D, true, by rw [hD]; exact (digs_ok _).1, hlen2, .inr (by rw [hD, (digs_ok _).2.2]), fun a w h => Rel.keep [1, 5, 0] [] h⟩
     ·have g2 : ¬ (1 : Int) < k := by omega
      refine zs1 g2 ?_
      exact Holds.condF rfl (Holds.skip ⟨b, nb, ob, lb, .inl (by omega), fun a w h => Rel.keep [1, 5, 0] [] h⟩)
   ·rintro σ ⟨b', nb', ob', lb', hb', hσ⟩
    refine Holds.from hσ ?_
    refine zr1 (an hfd <| wk) ?_
    refine ⟨(k / 2, o', b', nb'), ⟨by show k / 2 ≤ K; omega, ob', lb', ?_, ?_⟩, (show k / 2 < k by omega), fun a w h => Rel.keep [1, 5, 0] [] h⟩
    ·show o' * val b' ^ (k / 2) = T
     rw [ho', Nat.mul_assoc, ← hv]
     rcases hb' with h | h
     ·rw [h, Nat.pow_zero, Nat.mul_one]
      have : k = 1 := by omega
      rw [this]
     ·rw [h, ← hh]
    ·exact pow_inv (show val b < 2 ^ e from hbe) hke hoe he1 h0 ho' ob' hb'
 ·intro σ hσ
  refine Holds.from hσ ?_
  refine zs0 ?_
  exact Holds.ret (RetOk.vs rfl (by exact ⟨⟨rfl, id⟩, trivial⟩) rfl)
theorem rTen_ok (k : Nat) (hk : k < 50000) : FnOk Tryz.prog 169 [.v (.int .i64 k)] [.v true (words (digs (10 ^ k)))] := by
 have e10 : digs 10 = [10] := by decide
 have h0 : FnOk Tryz.prog 78 [.v (.int .u64 10)] [.v true (words [10])] := by
  have := FromWord_ok 10 (by decide)
  rw [e10] at this
  exact this
 have h1 := rPow_ok [10] k 4 (by intro n hn; simp at hn; omega) (by simp) (by decide) (by omega) (by omega)
 rw [show val [(10 : Int)] = 10 from by decide] at h1
 obtain ⟨W, hW⟩ : ∃ W, W = [(10 : Int)] := ⟨_, rfl⟩
 obtain ⟨T, hT⟩ : ∃ T, T = digs (10 ^ k) := ⟨_, rfl⟩
 rw [← hW] at h0 h1
 rw [← hT] at h1 ⊢
 refine FnOk.of Tryz.func169 rfl rfl fun cx w0 => ?_
 rw [show Tryz.f169.ntmps = 6 from rfl]
 refine zs0 ?_
 refine zs2 (ρ := fun d => if d = 3 then [.v true (words W)] else [.v true (words T)]) (o := by repeat' first|exact h0|exact h1|trivial|constructor) (k := ?_)
 exact Holds.ret (RetOk.vs rfl (by exact ⟨⟨rfl, id⟩, trivial⟩) rfl)
theorem upN_le (r : Nat) (neg : Bool) (q : Nat) (x : Int) : q ≤ upN r neg q x ∧ upN r neg q x ≤ q + 1 := by
 unfold upN; split <;> omega
theorem half_split (m d : Nat) (hd : 0 < d) : 2 * m / d / 2 = m / d ∧ (rstN (m % d) d = 0 ↔ (2 * m / d % 2 = 0 ∧ 2 * m % d = 0)) ∧ (rstN (m % d) d = 1 ↔ (2 * m / d % 2 = 0 ∧ 2 * m % d ≠ 0)) ∧ (rstN (m % d) d = 2 ↔ (2 * m / d % 2 = 1 ∧ 2 * m % d = 0)) ∧ (rstN (m % d) d = 3 ↔ (2 * m / d % 2 = 1 ∧ 2 * m % d ≠ 0)) := by
 have e1 := Nat.div_add_mod m d
 obtain ⟨q, hq⟩ : ∃ q, q = m / d := ⟨_, rfl⟩
 obtain ⟨l, hl⟩ : ∃ l, l = m % d := ⟨_, rfl⟩
 have hl2 : l < d := by rw [hl]; exact Nat.mod_lt _ hd
 rw [← hq, ← hl] at e1 ⊢
 have e2 : 2 * m = 2 * l + d * (2 * q) := by rw [← e1, Nat.mul_add, Nat.mul_left_comm]; omega
 rw [e2, Nat.add_mul_div_left _ _ hd, Nat.add_mul_mod_self_left (2 * l) d (2 * q)]
 rcases Nat.lt_or_ge (2 * l) d with h | h
 ·rw [Nat.div_eq_of_lt h, Nat.mod_eq_of_lt h]
  unfold rstN cmpN
  rcases Nat.eq_zero_or_pos l with h0 | h0
  ·rw [if_pos h0]; omega
  ·rw [if_neg (by omega), if_pos (by omega)]; omega
 ·have h3 : 2 * l / d = 1 := by rw [Nat.div_eq_iff hd]; omega
  have h4 : 2 * l % d = 2 * l - d := by rw [Nat.mod_eq_sub_mod h, Nat.mod_eq_of_lt (by omega)]
  rw [h3, h4]
  unfold rstN cmpN
  rw [if_neg (by omega), if_neg (by omega)]
  split <;> omega
def rrU (r : Nat) (neg : Bool) (N : Nat) (h s : Bool) : Bool := match r with
 | 0 => h && (s || bitN N 0)
 | 1 => h
 | 2 => false
 | 3 => !neg
 | _ => neg
def rrN (r : Nat) (neg : Bool) (N : Nat) (h s : Bool) : Nat := if h = false ∧ s = false then N else if rrU r neg N h s = true then N + 1 else N
theorem rr_eq {r : Nat} {neg : Bool} {m d : Nat} (hd : 0 < d) : rrN r neg (2 * m / d / 2) (decide (2 * m / d % 2 = 1)) (decide (2 * m % d ≠ 0)) = upN r neg (m / d) (rstN (m % d) d) ∧
 (decide (2 * m / d % 2 = 1) = false ∧ decide (2 * m % d ≠ 0) = false ↔ m % d = 0) := by
 obtain ⟨h1, h2, h3, h4, h5⟩ := half_split m d hd
 rw [h1]
 have hb := rstN_bd (m % d) d
 have hz : rstN (m % d) d = 0 ↔ m % d = 0 := by
  unfold rstN cmpN
  split
  ·next h => simp [h]
  ·next h =>
   constructor
   ·intro h'; split at h' <;> first | omega | (split at h' <;> omega)
   ·intro h'; exact absurd h' h
 obtain ⟨x, hx⟩ : ∃ x, x = rstN (m % d) d := ⟨_, rfl⟩
 obtain ⟨N, hN⟩ : ∃ N, N = m / d := ⟨_, rfl⟩
 obtain ⟨b, hb'⟩ : ∃ b, b = bitN N 0 := ⟨_, rfl⟩
 rw [← hx] at h2 h3 h4 h5 hb hz ⊢
 rw [← hN]
 obtain ⟨u, hu⟩ : ∃ u, u = 2 * m / d % 2 := ⟨_, rfl⟩
 obtain ⟨v, hv⟩ : ∃ v, v = 2 * m % d := ⟨_, rfl⟩
 rw [← hu, ← hv] at h2 h3 h4 h5 ⊢
 unfold rrN upN rrU
 rw [← hb']
 have hc : x = 0 ∨ x = 1 ∨ x = 2 ∨ x = 3 := by omega
 refine ⟨?_, ?_⟩
 ·rcases hc with e | e | e | e
  ·obtain ⟨e1, e2⟩ := h2.1 e
   rw [e1, e2, e]
   match r with
   | 0 => simp [mrN]
   | 1 => simp [mrN]
   | 2 => simp [mrN]
   | 3 => simp [mrN]
   | _ + 4 => simp [mrN]
  ·obtain ⟨e1, e2⟩ := h3.1 e
   rw [e1, decide_eq_true e2, e]
   match r with
   | 0 => simp [mrN]
   | 1 => simp [mrN]
   | 2 => simp [mrN]
   | 3 => simp [mrN]
   | _ + 4 => simp [mrN]
  ·obtain ⟨e1, e2⟩ := h4.1 e
   rw [e1, e2, e]
   match r with
   | 0 => simp [mrN]
   | 1 => simp [mrN]
   | 2 => simp [mrN]
   | 3 => simp [mrN]
   | _ + 4 => simp [mrN]
  ·obtain ⟨e1, e2⟩ := h5.1 e
   rw [e1, decide_eq_true e2, e]
   match r with
   | 0 => simp [mrN]
   | 1 => simp [mrN]
   | 2 => simp [mrN]
   | 3 => simp [mrN]
   | _ + 4 => simp [mrN]
 ·rw [← hz, h2, decide_eq_false_iff_not, decide_eq_false_iff_not]
  omega
def trF : Nat → Nat → Nat
 | 0, _ => 0
 | f + 1, v => if v % 2 = 0 then trF f (v / 2) + 1 else 0
def trN (v : Nat) : Nat := trF v v
theorem trF_ok : ∀ (f v : Nat), 0 < v → v ≤ f → ∃ c, v = (2 * c + 1) * 2 ^ trF f v
 | 0, v, h, hf => by omega
 | f + 1, v, h, hf => by
   rw [trF]
   by_cases h0 : v % 2 = 0
   ·obtain ⟨c, hc⟩ := trF_ok f (v / 2) (by omega) (by omega)
    refine ⟨c, ?_⟩
    rw [if_pos h0, Nat.pow_succ, ← Nat.mul_assoc, ← hc]
    omega
   ·rw [if_neg h0]
    exact ⟨v / 2, by rw [Nat.pow_zero]; omega⟩
theorem trN_ok {v : Nat} (h : 0 < v) : ∃ c, v = (2 * c + 1) * 2 ^ trN v := trF_ok v v h (Nat.le_refl _)
theorem odd_uniq {c d : Nat} : ∀ {s t : Nat}, (2 * c + 1) * 2 ^ s = (2 * d + 1) * 2 ^ t → s = t
 | 0, 0, _ => rfl
 | 0, t + 1, h => by rw [Nat.pow_zero, Nat.pow_succ, ← Nat.mul_assoc] at h; omega
 | s + 1, 0, h => by rw [Nat.pow_zero, Nat.pow_succ, ← Nat.mul_assoc] at h; omega
 | s + 1, t + 1, h => by
   rw [Nat.pow_succ, Nat.pow_succ, ← Nat.mul_assoc, ← Nat.mul_assoc] at h
   rw [odd_uniq (Nat.eq_of_mul_eq_mul_right (by decide) h)]
theorem trN_of {v c t : Nat} (h : v = (2 * c + 1) * 2 ^ t) : trN v = t := by
 have hp : 0 < v := by rw [h]; exact Nat.mul_pos (by omega) (Nat.pow_pos (by decide))
 obtain ⟨d, hd⟩ := trN_ok hp
 exact odd_uniq (hd.symm.trans h)
theorem trN_le {v k : Nat} (h : 0 < v) (hk : v < 2 ^ k) : trN v < k := by
 obtain ⟨c, hc⟩ := trN_ok h
 rcases Nat.lt_or_ge (trN v) k with h1 | h1
 ·exact h1
 ·have h2 := Nat.pow_le_pow_right (n := 2) (by decide) h1
  have h3 : 2 ^ trN v ≤ (2 * c + 1) * 2 ^ trN v := Nat.le_mul_of_pos_left _ (by omega)
  omega
theorem land_rec (a b : Nat) : a &&& b = 2 * (a / 2 &&& b / 2) + a % 2 * (b % 2) := by
 have h1 := Nat.div_add_mod (a &&& b) 2
 have h2 : (a &&& b) % 2 = a % 2 * (b % 2) := by
  have := Nat.and_mod_two_pow (a := a) (b := b) (n := 1)
  rw [Nat.pow_one] at this
  rw [this]
  rcases Nat.mod_two_eq_zero_or_one a with h | h <;> rcases Nat.mod_two_eq_zero_or_one b with h' | h' <;> rw [h, h'] <;> rfl
 rw [Nat.and_div_two, h2] at h1
 exact h1.symm
theorem land_compl : ∀ (n c d : Nat), c + d + 1 = 2 ^ n → c &&& d = 0
 | 0, c, d, h => by
   rw [Nat.pow_zero] at h
   rw [show c = 0 from by omega, show d = 0 from by omega]
   rfl
 | n + 1, c, d, h => by
   rw [Nat.pow_succ] at h
   rw [land_rec, land_compl n (c / 2) (d / 2) (by omega)]
   rcases Nat.mod_two_eq_zero_or_one c with e | e
   ·rw [e, Nat.zero_mul]
   ·simp [show d % 2 = 0 from by omega]
theorem land_neg : ∀ (n x y : Nat), 0 < x → x + y = 2 ^ n → x < 2 ^ n → x &&& y = 2 ^ trN x
 | 0, x, y, h0, h, h1 => by rw [Nat.pow_zero] at h1; omega
 | n + 1, x, y, h0, h, h1 => by
   rw [Nat.pow_succ] at h h1
   rw [land_rec]
   rcases Nat.mod_two_eq_zero_or_one x with e | e
   ·obtain ⟨c, hc⟩ := trN_ok (v := x / 2) (by omega)
    have ht : trN x = trN (x / 2) + 1 := trN_of (c := c) (by rw [Nat.pow_succ, ← Nat.mul_assoc, ← hc]; omega)
    rw [land_neg n (x / 2) (y / 2) (by omega) (by omega) (by omega), e, Nat.zero_mul, ht, Nat.pow_succ]
    omega
   ·have ht : trN x = 0 := trN_of (c := x / 2) (by rw [Nat.pow_zero]; omega)
    rw [land_compl n (x / 2) (y / 2) (by omega), e, show y % 2 = 1 from by omega, ht]
theorem and_neg64 {x : Nat} (h0 : 0 < x) (hx : x < 18446744073709551616) : bitI .and .u64 (x : Int) ((18446744073709551616 - x : Nat) : Int) = ((2 ^ trN x : Nat) : Int) := by
 show IntKind.u64.wrap ((BitVec.ofInt IntKind.u64.bits (x : Int) &&& BitVec.ofInt IntKind.u64.bits ((18446744073709551616 - x : Nat) : Int)).toNat : Int) = _
 have h1 : (BitVec.ofInt IntKind.u64.bits (x : Int) &&& BitVec.ofInt IntKind.u64.bits ((18446744073709551616 - x : Nat) : Int)).toNat = 2 ^ trN x := by
  rw [BitVec.toNat_and, BitVec.toNat_ofInt, BitVec.toNat_ofInt]
  have e1 : ((x : Int) % ((2 ^ IntKind.u64.bits : Nat) : Int)).toNat = x := by
   show ((x : Int) % 18446744073709551616).toNat = _
   omega
  have e2 : (((18446744073709551616 - x : Nat) : Int) % ((2 ^ IntKind.u64.bits : Nat) : Int)).toNat = 18446744073709551616 - x := by
   show (((18446744073709551616 - x : Nat) : Int) % 18446744073709551616).toNat = _
   omega
  rw [e1, e2]
  exact land_neg 64 x _ h0 (show _ = 18446744073709551616 by omega) hx
 rw [h1]
 have := trN_le (k := 64) h0 hx
 exact wrapN _ (Nat.pow_lt_pow_right (a := 2) (by decide) this)
def bruijnL : List V := match bruijnV with | .agg l => l | _ => []
def u8N : V → Nat
 | .int .u8 (.ofNat n) => n
 | _ => 999
def brN : List Nat := bruijnL.map u8N
def brI (t : Nat) : Nat := 2 ^ t * 285870213051353865 % 18446744073709551616 / 288230376151711744
theorem br_map : brN.map (fun n => V.int .u8 (n : Nat)) = bruijnL := by kernel_rfl
theorem br_all : ((List.range 64).map fun t => brN.getD (brI t) 99) = List.range 64 := by kernel_rfl
theorem br_get {t : Nat} (h : t < 64) : bruijnL[2 ^ t * 285870213051353865 % 18446744073709551616 / 2 ^ 58]? = some (.int .u8 t) := by
 have h1 : ((List.range 64).map fun t => brN.getD (brI t) 99)[t]? = some t := by rw [br_all, List.getElem?_range h]
 rw [List.getElem?_map, List.getElem?_range h, Option.map_some, List.getD_eq_getElem?_getD] at h1
 have h2 : brN[brI t]?.getD 99 = t := Option.some.inj h1
 rw [← br_map, List.getElem?_map, show 2 ^ t * 285870213051353865 % 18446744073709551616 / 2 ^ 58 = brI t from rfl]
 cases hg : brN[brI t]? with
 | none => rw [hg] at h2; simp at h2; omega
 | some n => rw [hg] at h2; simp at h2; rw [h2]; rfl
def isU8 : V → Bool
 | .int .u8 _ => true
 | _ => false
theorem br_u8 : bruijnL.all isU8 = true := by kernel_rfl
theorem br_off {k : Nat} (h : k ≤ bruijnL.length) : V.off bruijnL k = k := by
 rw [off_all (z := 1) (fun x hx => by
  have := List.all_eq_true.1 br_u8 x hx
  match x, this with
  | .int .u8 _, _ => rfl) h, Nat.mul_one]
theorem tz64_ok (x : Nat) (h0 : 0 < x) (hx : x < 18446744073709551616) : FnOk Tryz.prog 242 [.v (.int .u64 x)] [.v true (.int .i64 (trN x))] := by
 have ht := trN_le (k := 64) h0 hx
 have ha := and_neg64 h0 hx
 have wn : IntKind.u64.wrap (0 - (x : Int)) = ((18446744073709551616 - x : Nat) : Int) := by rw [wrap_u64]; omega
 obtain ⟨t, ht'⟩ : ∃ t, t = trN x := ⟨_, rfl⟩
 rw [← ht'] at ht ha ⊢
 have hg := br_get ht
 obtain ⟨a, ha'⟩ : ∃ a, a = 2 ^ t := ⟨_, rfl⟩
 rw [← ha'] at ha hg
 have wm : IntKind.u64.wrap ((a : Int) * 285870213051353865) = ((a * 285870213051353865 % 18446744073709551616 : Nat) : Int) := by
  rw [show ((a : Int) * 285870213051353865) = ((a * 285870213051353865 : Nat) : Int) from by omega]
  exact wrapM _
 obtain ⟨m, hm⟩ : ∃ m, m = a * 285870213051353865 % 18446744073709551616 := ⟨_, rfl⟩
 have hml : m < 18446744073709551616 := by rw [hm]; exact Nat.mod_lt _ (by decide)
 rw [← hm] at wm hg
 have hs := shrG m 58 (by decide)
 obtain ⟨i, hi⟩ : ∃ i, i = m / 2 ^ 58 := ⟨_, rfl⟩
 have hil : i < 64 := by rw [hi, Nat.div_lt_iff_lt_mul (by decide)]; exact hml
 rw [← hi] at hs hg
 have hoff : V.off bruijnL i = i := br_off (by rw [show bruijnL.length = 64 from rfl]; omega)
 have hG : lookG GLOB 3 = some (.agg bruijnL) := rfl
 have hl : bruijnL.length = 64 := rfl
 obtain ⟨fs, hfs⟩ : ∃ fs, fs = bruijnL := ⟨_, rfl⟩
 rw [← hfs] at hg hoff hG hl
 have g0 : ¬ (x : Int) = 0 := by omega
 have wi : IntKind.u64.wrap (i : Int) = (i : Int) := wrapN i (by omega)
 have g1 : (0 : Int) ≤ (i : Int) := by omega
 have g2 : (i : Int) < 64 := by omega
 refine FnOk.of Tryz.func242 rfl rfl fun cx w0 => ?_
 rw [show Tryz.f242.ntmps = 14 from rfl]
 refine zs0 ?_
 refine Holds.seq ?_
 refine zs1 g0 ?_
 refine Holds.condF rfl (Holds.skip ?_)
 obtain ⟨sA, hA⟩ : ∃ s, arrT Tryz.prog 280 = some (64, 1, s) := ⟨_, rfl⟩
 have wt : IntKind.i64.wrap (t : Int) = (t : Int) := by rw [wrap_i64] <;> omega
 refine zs1 (an wn <| an ha <| an wm <| an hs <| an wi <| an hG <| an hg <| an hoff <| an hl <| an g1 <| an g2 <| an hA <| wt) ?_
 exact Holds.ret (RetOk.vs rfl (by exact ⟨⟨rfl, id⟩, trivial⟩) rfl)
theorem tr_words {X : List Int} {i w : Nat} (hz : val (X.take i) = 0) (hi : i < X.length) (hw : X.getD i 0 = (w : Int)) (h0 : 0 < w) (h64 : w < 18446744073709551616) : trN (val X) = 64 * i + trN w := by
 have h1 := val_cut X i (by omega)
 have h2 := val_cut X (i + 1) (by omega)
 rw [val_takeN, hz, hw, Int.toNat_natCast, Nat.zero_add] at h2
 obtain ⟨R, hR⟩ : ∃ R, R = val (X.drop (i + 1)) := ⟨_, rfl⟩
 rw [← hR] at h2
 obtain ⟨c, hc⟩ := trN_ok h0
 have ht := trN_le (k := 64) h0 h64
 obtain ⟨t, ht'⟩ : ∃ t, t = trN w := ⟨_, rfl⟩
 rw [← ht'] at hc ht ⊢
 have hP : (18446744073709551616 : Nat) ^ i = 2 ^ (64 * i) := by rw [Nat.pow_mul]
 have hB : (18446744073709551616 : Nat) = 2 * 2 ^ (63 - t) * 2 ^ t := by
  rw [Nat.mul_comm 2, ← Nat.pow_succ, ← Nat.pow_add, show (63 - t).succ + t = 64 from by omega]
 refine trN_of (c := c + 2 ^ (63 - t) * R) ?_
 rw [h2, Nat.pow_succ, Nat.pow_add, hP]
 obtain ⟨P, hP'⟩ : ∃ P, P = 2 ^ (64 * i) := ⟨_, rfl⟩
 rw [← hP', hc]
 obtain ⟨T, hT⟩ : ∃ T, T = 2 ^ t := ⟨_, rfl⟩
 obtain ⟨S, hS⟩ : ∃ S, S = 2 ^ (63 - t) := ⟨_, rfl⟩
 rw [← hT, ← hS] at hB
 rw [← hT, ← hS]
 obtain ⟨B, hB'⟩ : ∃ B, B = (18446744073709551616 : Nat) := ⟨_, rfl⟩
 rw [← hB'] at hB ⊢
 rw [hB]
 grind
theorem wTrailing_ok (x : List Int) (hx : x.length < 100000) (ox : okW x) : FnOk Tryz.prog 186 [.v (words x)] [.v true (.int .i64 (trN (val x)))] := by
 obtain ⟨T, hT⟩ : ∃ T, T = trN (val x) := ⟨_, rfl⟩
 rw [← hT]
 refine FnOk.of Tryz.func186 rfl rfl fun cx w0 => ?_
 rw [show Tryz.f186.ntmps = 20 from rfl]
 refine zs0 ?_
 refine Holds.next (fun σ => T = 0 ∧ ∀ a w, Rel cx w0 σ a w → Rel cx w0 { nt := 20, env := [], mem := [] } a w) ?_ ?_
 ·refine zs0 ?_
  refine Holds.loopB (fun i : Nat => { nt := 20, env := [(7, .v true (.int .i64 (i : Nat))), (6, .v true (.int .i64 (x.length : Nat))), (5, .v false (words x))], mem := [] })
   (fun i => i ≤ x.length ∧ val (x.take i) = 0) (fun i => x.length - i) 0 ⟨Nat.zero_le _, rfl⟩ (fun a w h => Rel.keep [7, 6, 5] [] h) ?_
  rintro i ⟨hi, hz⟩
  by_cases hend : i = x.length
  ·have g : ¬ (i : Int) < x.length := by omega
   refine zs1 g ?_
   refine Holds.seq (Holds.condF rfl (Holds.exit ⟨rfl, by rw [hend, List.take_length] at hz; rw [hT, hz]; rfl, fun a w h => Rel.keep [] [] h⟩))
  ·have g : (i : Int) < x.length := by omega
   obtain ⟨u, hu, hu64⟩ := natW (okW_getD ox i)
   have gX : x[i]? = some (u : Int) := by rw [get_map (by omega), hu]
   have wk : IntKind.i64.wrap ((i : Int) + 1) = ((i + 1 : Nat) : Int) := by rw [wrap_i64] <;> omega
   refine zs1 g ?_
   refine Holds.seq (Holds.condT rfl (Holds.skip ?_))
   show Holds _ _ _ _ _ _ _
   refine Holds.next (fun σ => u = 0 ∧ ∀ a w, Rel cx w0 σ a w → Rel cx w0 { nt := 20, env := [(7, .v true (.int .i64 (i : Nat))), (6, .v true (.int .i64 (x.length : Nat))), (5, .v false (words x))], mem := [] } a w) ?_ ?_
   ·refine Holds.blockN ?_
    refine zs1 gX ?_
    rcases Nat.eq_zero_or_pos u with h0 | h0
    ·subst h0
     refine zs0 ?_
     exact Holds.condF rfl (Holds.skip ⟨rfl, fun a w h => Rel.keep [7, 6, 5] [] h⟩)
    ·have g0 : ¬ (u : Int) = 0 := by omega
     have hZ := tz64_ok u h0 hu64
     have hw := tr_words hz (by omega) hu h0 hu64
     have htl := trN_le (k := 64) h0 hu64
     rw [← hT] at hw
     have w1 : IntKind.i64.wrap (64 * (i : Int) + (trN u : Nat)) = (T : Int) := by rw [wrap_i64] <;> omega
     obtain ⟨z, hz'⟩ : ∃ z, z = trN u := ⟨_, rfl⟩
     rw [← hz'] at hZ w1
     refine zs1 g0 ?_
     refine Holds.condT rfl ?_
     refine zs3 (ρ := fun _ => [.v true (.int .i64 z)]) w1 (o := by repeat' first|exact hZ|trivial|constructor) (k := ?_)
     exact Holds.ret (RetOk.vs rfl (by exact ⟨⟨rfl, id⟩, trivial⟩) rfl)
   ·rintro σ ⟨h0, hσ⟩
    refine Holds.from hσ ?_
    refine zr1 wk ?_
    refine ⟨i + 1, ⟨by show i + 1 ≤ x.length; omega, ?_⟩, (show x.length - (i + 1) < x.length - i by omega), fun a w h => Rel.keep [7, 6, 5] [] h⟩
    rw [val_takeN, hz, hu, h0]
    simp
 ·rintro σ ⟨h0, hσ⟩
  refine Holds.from hσ ?_
  rw [h0]
  refine zs0 ?_
  exact Holds.ret (RetOk.vs rfl (by exact ⟨⟨rfl, id⟩, trivial⟩) rfl)
theorem ten_len {k : Nat} : (digs (10 ^ k)).length ≤ k / 16 + 1 := by
 have h5 : (10 : Nat) ^ k ≤ 16 ^ k := Nat.pow_le_pow_left (by decide) k
 exact digs_len (v := 10 ^ k) (m := k / 16 + 1) (Nat.lt_of_le_of_lt h5 (by
  rw [show (18446744073709551616 : Nat) = 16 ^ 16 from rfl, ← Nat.pow_mul]
  exact Nat.pow_lt_pow_right (by decide) (by omega)))
theorem digs_mono {a b : Nat} (h : a ≤ b) : (digs a).length ≤ (digs b).length := by
 have h1 := val_lt (digs_ok b).1
 rw [(digs_ok b).2.2] at h1
 exact digs_len (Nat.lt_of_le_of_lt h h1)
def rfN (s : Nat) (h : Nat) : Nat := if s = 0 then 0 else h * 2 ^ (64 - s) % 18446744073709551616
theorem shr_rf (s a h : Nat) : shr1 s a h = a / 2 ^ s + rfN s h := by
 unfold shr1 rfN
 by_cases h0 : s = 0
 ·rw [if_pos h0, h0, Nat.sub_zero, show (2 : Nat) ^ 64 = 18446744073709551616 from rfl, Nat.mul_mod_left]
 ·rw [if_neg h0]
set_option maxHeartbeats 2000000 in
theorem WRight_ok (x : List Int) (s : Nat) (hs : s < 64) (hx : x.length < 100000) (ox : okW x) : FnOk Tryz.prog 223 [.v (words x), .v (.int .i64 s)] [.v true (words (shrL s x)), .v true (.int .u64 (rfN s (x.getD 0 0).toNat : Nat))] := by
 obtain ⟨oR, lR, _⟩ := shrL_ok hs ox
 have hget := fun i h => shrL_get (r := s) x i h
 obtain ⟨S, hS⟩ : ∃ S, S = shrL s x := ⟨_, rfl⟩
 rw [← hS] at oR lR hget ⊢
 obtain ⟨F, hF⟩ : ∃ F, F = rfN s (x.getD 0 0).toNat := ⟨_, rfl⟩
 rw [← hF]
 clear hS
 refine FnOk.of Tryz.func223 rfl rfl fun cx w0 => ?_
 rw [show Tryz.f223.ntmps = 41 from rfl]
 refine zs0 ?_
 refine zs1 tby76 ?_
 refine zs0 ?_
 refine Holds.next (fun σ => ∀ a w, Rel cx w0 σ a w → Rel cx w0 { nt := 41, env := [(6, .own 11 0 x.length), (7, .v true (.int .u64 F))], mem := [(11, .buf 91 1 true (S.map fun n => .int .u64 n))] } a w) ?_ ?_
 ·refine zs0 ?_
  refine Holds.loopB (fun q : Nat × List Int => { nt := 41, env := [(8, .v true (.int .i64 ((q.1 : Int) - 1))), (7, .v true (.int .u64 (rfN s (x.getD q.1 0).toNat : Nat))), (6, .own 11 0 x.length), (0, .v false (words x)), (1, .v true (.int .i64 s))], mem := [(11, .buf 91 1 true (q.2.map fun n => .int .u64 n))] })
   (fun q => q.1 ≤ x.length ∧ q.2.length = x.length ∧ ∀ k, q.1 ≤ k → q.2.getD k 0 = S.getD k 0) (fun q => q.1) (x.length, List.replicate x.length 0) ⟨Nat.le_refl _, List.length_replicate, fun k hk => by rw [getD_far (by rw [List.length_replicate]; exact hk), getD_far (by rw [lR]; exact hk)]⟩ (fun a w h => by
     have := Rel.keep [8, 7, 6, 0, 1] [11] h
     have e0 : rfN s (0 : Int).toNat = 0 := by unfold rfN; rw [Int.toNat_zero, Nat.zero_mul, Nat.zero_mod]; split <;> rfl
     have e1 : (List.replicate x.length (0 : Int)).map (fun n => V.int .u64 n) = List.replicate x.length (V.int .u64 0) := List.map_replicate
     show Rel cx w0 { nt := 41, env := [(8, .v true (.int .i64 ((x.length : Int) - 1))), (7, .v true (.int .u64 (rfN s (x.getD x.length 0).toNat : Nat))), (6, .own 11 0 x.length), (0, .v false (words x)), (1, .v true (.int .i64 s))], mem := [(11, .buf 91 1 true ((List.replicate x.length (0 : Int)).map fun n => .int .u64 n))] } a w
     rw [getD_far (Nat.le_refl _), e0, e1]
     exact this) ?_
  rintro ⟨j, L⟩ ⟨hj, hL, hk⟩
  simp only at hj hL hk ⊢
  rcases j with _ | i
  ·refine Holds.seq ?_
   refine zs0 ?_
   refine Holds.condF rfl (Holds.exit ⟨rfl, fun a w h => ?_⟩)
   have hLS : L = S := List.ext_getElem (by rw [hL, lR]) fun k h1 h2 => by
    have := hk k (Nat.zero_le _)
    rw [List.getD_eq_getElem?_getD, List.getD_eq_getElem?_getD, List.getElem?_eq_getElem h1, List.getElem?_eq_getElem h2] at this
    exact this
   have := Rel.keep [6, 7] [11] h
   rw [hLS] at this
   rw [hF]
   exact this
  ·obtain ⟨u, hu, hu64⟩ := natW (okW_getD ox i)
   obtain ⟨v, hv, hv64⟩ := natW (okW_getD ox (i + 1))
   have gX : x[i]? = some (u : Int) := by rw [get_map (by omega), hu]
   have gL := get_map (l := L) (i := i) (by omega)
   have gS := hget i (by omega)
   rw [hu, hv, Int.toNat_natCast, Int.toNat_natCast, shr_rf] at gS
   have hlt := (shr1_ok (r := s) (h := v) hs hu64).1
   rw [shr_rf] at hlt
   rw [hv, Int.toNat_natCast]
   have ws := shrG u s (by omega)
   have whi : u / 2 ^ s ≤ u := Nat.div_le_self _ _
   have ws2 : IntKind.u64.wrap ((u / 2 ^ s : Nat) : Int) = ((u / 2 ^ s : Nat) : Int) := wrapN _ (by omega)
   have w0' : rfN s u = if s = 0 then 0 else u * 2 ^ (64 - s) % 18446744073709551616 := rfl
   obtain ⟨f, hf⟩ : ∃ f, f = rfN s v := ⟨_, rfl⟩
   obtain ⟨a, ha⟩ : ∃ a, a = u / 2 ^ s := ⟨_, rfl⟩
   rw [← hf, ← ha] at gS hlt
   rw [← ha] at ws ws2
   rw [← hf]
   have wa : IntKind.u64.wrap ((f : Int) + (a : Int)) = ((a + f : Nat) : Int) := by rw [wrap_u64]; omega
   have e1 : (((i + 1 : Nat) : Int) - 1) = (i : Int) := by omega
   rw [e1]
   have wk : IntKind.i64.wrap ((i : Int) - 1) = (i : Int) - 1 := by rw [wrap_i64] <;> omega
   have gi : (i : Int) < x.length := by omega
   have g0 : (0 : Int) ≤ (i : Int) := by omega
   obtain ⟨y, hy⟩ : ∃ y, y = a + f := ⟨_, rfl⟩
   rw [← hy] at wa gS
   refine Holds.seq ?_
   refine zs0 ?_
   refine Holds.condT rfl (Holds.skip ?_)
   refine Holds.next (fun σ => ∀ a w, Rel cx w0 σ a w → Rel cx w0 { nt := 41, env := [(8, .v true (.int .i64 (i : Int))), (7, .v true (.int .u64 (rfN s u : Nat))), (6, .own 11 0 x.length), (0, .v false (words x)), (1, .v true (.int .i64 s))], mem := [(11, .buf 91 1 true ((L.set i (y : Int)).map fun n => .int .u64 n))] } a w) ?_ ?_
   ·refine Holds.blockN ?_
    refine zs1 (an gX <| an gi <| an g0 <| an ws <| an ws2 <| an wa <| an hL <| gL) ?_
    refine zs0 ?_
    by_cases h0 : s = 0
    ·have g1 : ¬ (0 : Int) < (s : Int) := by omega
     rw [if_pos h0] at w0'
     refine zs1 g1 ?_
     exact Holds.condF rfl (Holds.skip fun a w h => by
      have := Rel.keep [8, 7, 6, 0, 1] [11] h
      rw [List.map_set, w0']
      exact this)
    ·have g1 : (0 : Int) < (s : Int) := by omega
     rw [if_neg h0] at w0'
     have w64 : (64 : Int) - (s : Int) = ((64 - s : Nat) : Int) := by omega
     have wl := shlN u (64 - s) (by omega)
     obtain ⟨z, hz⟩ : ∃ z, z = u * 2 ^ (64 - s) % 18446744073709551616 := ⟨_, rfl⟩
     rw [← hz] at wl w0'
     refine zs1 g1 ?_
     refine Holds.condT rfl ?_
     refine zr1 (an gX <| an gi <| an g0 <| an w64 <| wl) ?_
     intro a w h
     have := Rel.keep [8, 7, 6, 0, 1] [11] h
     rw [List.map_set, w0']
     exact this
   ·intro σ hσ
    refine Holds.from hσ ?_
    refine zr1 wk ?_
    refine ⟨(i, L.set i (y : Int)), ⟨by show i ≤ x.length; omega, by show (L.set i (y : Int)).length = x.length; rw [List.length_set, hL], fun k hk' => ?_⟩, (show i < i + 1 by omega), fun a w h => ?_⟩
    ·show (L.set i (y : Int)).getD k 0 = S.getD k 0
     rw [getD_set (by omega)]
     by_cases hki : i = k
     ·rw [if_pos hki, ← hki, gS]
     ·rw [if_neg hki]
      exact hk k (by omega)
    ·have := Rel.keep [8, 7, 6, 0, 1] [11] h
     simp only
     rw [hu, Int.toNat_natCast]
     exact this
 ·intro σ hσ
  refine Holds.from hσ ?_
  have htk : List.take x.length (List.map (fun n => V.int .u64 n) S) = List.map (fun n => V.int .u64 n) S := List.take_of_length_le (by rw [List.length_map, lR]; exact Nat.le_refl _)
  refine zs1 htk ?_
  exact Holds.ret (RetOk.vs rfl (by exact ⟨⟨rfl, by rw [List.drop_zero, htk], id, rfl⟩, ⟨rfl, id⟩, trivial⟩) rfl)
theorem rRight1_ok (x : List Int) (s : Nat) (hx : x.length < 40000) (hs : s < 1000000) (ox : okW x) : FnOk Tryz.prog 158 [.v (words x), .v (.int .i64 s)] [.v true (words (digs (val x / 2 ^ s)))] := by
 obtain ⟨m, hm⟩ : ∃ m, m = s / 64 := ⟨_, rfl⟩
 obtain ⟨r, hr⟩ : ∃ r, r = s % 64 := ⟨_, rfl⟩
 have hqm : (s : Int).tdiv 64 = m := by rw [hm]; exact quoN s 64
 have hrm : (s : Int).tmod 64 = r := by rw [hr]; exact remN s 64
 have hpow : (2 : Nat) ^ s = 18446744073709551616 ^ m * 2 ^ r := by
  have hs' : s = 64 * m + r := by omega
  rw [hs', Nat.pow_add, Nat.pow_mul, show (2 : Nat) ^ 64 = 18446744073709551616 from rfl]
 have hrl : r < 64 := by omega
 have hml : m < 20000 := by omega
 rw [hpow]
 clear hpow hm hr
 refine FnOk.of Tryz.func158 rfl rfl fun cx w0 => ?_
 rw [show Tryz.f158.ntmps = 24 from rfl]
 refine zs0 ?_
 refine Holds.seq ?_
 by_cases hmX : x.length ≤ m
 ·have : val x / (18446744073709551616 ^ m * 2 ^ r) = 0 := by
   refine Nat.div_eq_of_lt ?_
   have h2 := val_lt ox
   have h3 : 18446744073709551616 ^ x.length ≤ 18446744073709551616 ^ m := Nat.pow_le_pow_right (by decide) hmX
   have h4 : 18446744073709551616 ^ m * 1 ≤ 18446744073709551616 ^ m * 2 ^ r := Nat.mul_le_mul_left _ (Nat.pow_pos (by decide))
   omega
  rw [this]
  have g : (x.length : Int) ≤ m := by omega
  refine zs1 (an hqm <| g) ?_
  refine Holds.condT rfl ?_
  refine zs0 ?_
  exact Holds.ret ⟨_, [], rfl, ⟨rfl, trivial⟩, by simp [R.names, R.mems, R.blks], by simp, rfl⟩
 have g : ¬ (x.length : Int) ≤ m := by omega
 have hcut : val x / (18446744073709551616 ^ m * 2 ^ r) = val (shrL r (x.drop m)) := by
  rw [shrL_val hrl (okW_dropN ox m), ← Nat.div_div_eq_div_mul]
  congr 1
  have e : val x = val (x.take m) + 18446744073709551616 ^ m * val (x.drop m) := by
   have := val_append (x.take m) (x.drop m)
   rw [List.take_append_drop, List.length_take, Nat.min_eq_left (by omega)] at this
   exact this
  have h2 := val_lt (okW_take ox m)
  rw [List.length_take, Nat.min_eq_left (by omega)] at h2
  rw [e, Nat.add_comm, Nat.mul_add_div (Nat.pow_pos (by decide)), Nat.div_eq_of_lt h2, Nat.add_zero]
 rw [hcut]
 have oY := okW_dropN ox m
 have lY : (x.drop m).length = x.length - m := List.length_drop
 have hW := WRight_ok (x.drop m) r hrl (by omega) oY
 obtain ⟨oR, lR, _⟩ := shrL_ok hrl oY
 have hT := rTrim_ok (shrL r (x.drop m)) (by omega) oR
 have hdr : List.drop m (List.map (fun n => V.int .u64 n) x) = List.map (fun n => V.int .u64 n) (x.drop m) := List.map_drop.symm
 have htk0 : List.take x.length (List.map (fun n => V.int .u64 n) x) = List.map (fun n => V.int .u64 n) x := List.take_of_length_le (by rw [List.length_map]; exact Nat.le_refl _)
 have gm : (0 : Int) ≤ m := by omega
 have gm2 : (m : Int) ≤ x.length := by omega
 obtain ⟨Y, hY⟩ : ∃ Y, Y = x.drop m := ⟨_, rfl⟩
 rw [← hY] at hW hdr hT ⊢
 obtain ⟨S, hS⟩ : ∃ S, S = shrL r Y := ⟨_, rfl⟩
 rw [← hS] at hW hT ⊢
 obtain ⟨D, hD⟩ : ∃ D, D = digs (val S) := ⟨_, rfl⟩
 rw [← hD] at hT ⊢
 obtain ⟨F, hF⟩ : ∃ F, F = rfN r (Y.getD 0 0).toNat := ⟨_, rfl⟩
 rw [← hF] at hW
 clear hcut oY lY lR oR hF hY hS hD
 refine zs1 (an hqm <| g) ?_
 refine Holds.condF rfl (Holds.skip ?_)
 refine zs3 (ρ := fun _ => [.v true (words S), .v true (.int .u64 F)]) (an hqm <| an hrm <| an gm <| an gm2 <| an hdr <| htk0) (o := by repeat' first|exact hW|trivial|constructor) (k := ?_)
 refine zs2 (ρ := fun _ => [.v true (words D)]) (o := by repeat' first|exact hT|trivial|constructor) (k := ?_)
 exact Holds.ret (RetOk.vs rfl (by exact ⟨⟨rfl, id⟩, trivial⟩) rfl)
theorem cntS_top (u : Nat) : ∀ j, u % 2 ^ j ≠ 0 → (cntS u j).1 = 64 - (blN (u % 2 ^ j) : Int)
 | 0, h => absurd (Nat.mod_one u) h
 | j + 1, h => by
   have hm : u % 2 ^ (j + 1) = u % 2 ^ j + 2 ^ j * (u / 2 ^ j % 2) := by rw [Nat.pow_succ, Nat.mod_mul]
   rw [cntS]
   by_cases hb : u / 2 ^ j % 2 = 1
   ·rw [if_pos hb]
    have hlt := Nat.mod_lt u (Nat.pow_pos (a := 2) (n := j) (by decide))
    have : blN (u % 2 ^ (j + 1)) = j + 1 := by
     refine bl_of ?_ (Nat.mod_lt _ (Nat.pow_pos (by decide)))
     rw [hm, hb]; omega
    rw [this]
    show 63 - (j : Int) = _
    omega
   ·rw [if_neg hb]
    have e : u % 2 ^ (j + 1) = u % 2 ^ j := by rw [hm, show u / 2 ^ j % 2 = 0 from by omega, Nat.mul_zero, Nat.add_zero]
    rw [e] at h ⊢
    exact cntS_top u j h
theorem lenR_eq {x : List Int} (ox : okW x) : lenR x = (blN (val x) : Nat) := by
 rw [lenR]
 cases h : trimW x x.length with
 | zero =>
   have : val x = 0 := by rw [← val_trim x, trimL, h]; simp [val]
   rw [this]
   rfl
 | succ m =>
   obtain ⟨h1, h2⟩ := trimW_last x _ _ h
   obtain ⟨u, hu, hu64⟩ := natW (okW_getD ox m)
   have hu0 : 0 < u := by rw [hu] at h1; omega
   have hc := cntS_top u 64 (by rw [Nat.mod_eq_of_lt (show u < 2 ^ 64 from hu64)]; omega)
   rw [Nat.mod_eq_of_lt (show u < 2 ^ 64 from hu64)] at hc
   obtain ⟨b1, b2⟩ := bl_le hu0
   have hb := bl_words (Y := x.take (m + 1)) (n := m) (top := u) (l := blN u) (okW_take ox _) (by rw [List.length_take]; omega) (by
    rw [← hu, List.getD_eq_getElem?_getD, List.getD_eq_getElem?_getD, List.getElem?_take, if_pos (by omega)]) b2 b1 (by
    unfold blN; rw [if_neg (by omega)]; exact Nat.lt_log2_self)
   have hv : val (x.take (m + 1)) = val x := by rw [← val_trim x, trimL, h]
   rw [hv] at hb
   show 64 * (m : Int) + 64 - (cntS (x.getD m 0).toNat 64).1 = _
   rw [hu, Int.toNat_natCast, hc, hb]
   omega
theorem floor1_ok (a : Int) (ha : -4611686018427387904 < a ∧ a < 4611686018427387904) : FnOk Tryz.prog 171 [.v (.int .i64 a), .v (.int .i64 1)] [.v true (.int .i64 a)] := by
 have h1 : a.tdiv 1 = a := Int.tdiv_one a
 have h2 : a.tmod 1 = 0 := Int.tmod_one a
 have w1 : IntKind.i64.wrap a = a := by rw [wrap_i64] <;> omega
 refine FnOk.of Tryz.func171 rfl rfl fun cx w0 => ?_
 rw [show Tryz.f171.ntmps = 16 from rfl]
 refine zs0 ?_
 refine zs1 (an h1 <| w1) ?_
 refine Holds.seq ?_
 refine zs1 h2 ?_
 refine Holds.condF rfl (Holds.skip ?_)
 refine zs0 ?_
 exact Holds.ret (RetOk.vs rfl (by exact ⟨⟨rfl, id⟩, trivial⟩) rfl)
def partV (N : Nat) (h s : Bool) : V := .agg [words (digs N), .bool h, .bool s]
set_option maxHeartbeats 4000000 in
theorem rRounded_ok (r : Nat) (hr : r ≤ 4) (neg : Bool) (N : Nat) (h s : Bool) (hN : (digs N).length < 30000) : FnOk Tryz.prog 94 [.v (.int .i64 r), .v (.bool neg), .v (partV N h s)] [.v false (words (digs (rrN r neg N h s))), .v true (.bool (decide (h = false ∧ s = false)))] := by
 have hB := rBit_ok (digs N) 0 (by omega) (by omega) (digs_ok _).1
 rw [(digs_ok _).2.2] at hB
 have hB : FnOk Tryz.prog 173 [.v (words (digs N)), .v (.int .i64 0)] [.v true (.bool (bitN N 0))] := hB
 have o1 : okW [(1 : Int)] := by intro n hn; simp at hn; omega
 have h1w : FnOk Tryz.prog 78 [.v (.int .u64 1)] [.v true (words [1])] := by
  have := FromWord_ok 1 (by decide)
  rw [show digs 1 = [1] from by decide] at this
  exact this
 have hA := rAdd_ok (digs N) [1] (by omega) (by simp) (digs_ok _).1 o1
 rw [(digs_ok _).2.2, show val [(1 : Int)] = 1 from by decide] at hA
 have hu : rrN r neg N h s = if h = false ∧ s = false then N else if rrU r neg N h s = true then N + 1 else N := rfl
 have hu2 : r = 0 → rrU r neg N h s = (h && (s || bitN N 0)) := fun e => by rw [e]; rfl
 have hu3 : r = 1 → rrU r neg N h s = h := fun e => by rw [e]; rfl
 have hu4 : r = 2 → rrU r neg N h s = false := fun e => by rw [e]; rfl
 have hu5 : r = 3 → rrU r neg N h s = !neg := fun e => by rw [e]; rfl
 have hu6 : r = 4 → rrU r neg N h s = neg := fun e => by rw [e]; rfl
 rw [hu]
 obtain ⟨u, hu'⟩ : ∃ u, u = rrU r neg N h s := ⟨_, rfl⟩
 rw [← hu'] at hu2 hu3 hu4 hu5 hu6 ⊢
 obtain ⟨O, hO⟩ : ∃ O, O = [(1 : Int)] := ⟨_, rfl⟩
 rw [← hO] at h1w hA
 obtain ⟨L, hL⟩ : ∃ L, L = digs N := ⟨_, rfl⟩
 obtain ⟨L1, hL1⟩ : ∃ L, L = digs (N + 1) := ⟨_, rfl⟩
 obtain ⟨b, hb⟩ : ∃ b, b = bitN N 0 := ⟨_, rfl⟩
 rw [← hb] at hu2
 rw [← hL, ← hb] at hB
 rw [← hL, ← hL1] at hA
 clear hu hu' hb hO o1 hN
 unfold partV
 rw [← hL]
 refine FnOk.of Tryz.func94 rfl rfl fun cx w0 => ?_
 rw [show Tryz.f94.ntmps = 51 from rfl]
 refine zs0 ?_
 refine zs0 ?_
 refine Holds.next (fun σ => ∀ a w, Rel cx w0 σ a w → Rel cx w0 { nt := 51, env := [(8, .v true (.bool u)), (5, .ptr 5 0 [] 0)], mem := [(5, .box 129 (.v false (.agg [words L, .bool h, .bool s])))] } a w) ?_ ?_
 ·refine zs0 ?_
  refine Holds.blockN ?_
  match r, hr with
  | 0, _ =>
    have hu2 := hu2 rfl
    refine zs0 ?_
    refine Holds.condT rfl ?_
    cases h with
    | false =>
      rw [Bool.false_and] at hu2
      subst hu2
      refine zr0 ?_
      exact fun a w h => Rel.keep [8, 5] [5] h
    | true =>
      cases s with
      | true =>
        rw [Bool.true_and, Bool.true_or] at hu2
        subst hu2
        refine zr0 ?_
        exact fun a w h => Rel.keep [8, 5] [5] h
      | false =>
        rw [Bool.true_and, Bool.false_or] at hu2
        subst hu2
        refine zr2 (ρ := fun _ => [.v true (.bool u)]) (o := by repeat' first|exact hB|trivial|constructor) (k := ?_)
        exact fun a w h => Rel.keep [8, 5] [5] h
  | 1, _ =>
    have hu3 := hu3 rfl
    subst hu3
    refine zs0 ?_
    refine Holds.condF rfl ?_
    refine zs0 ?_
    refine Holds.condT rfl ?_
    refine zr0 ?_
    exact fun a w h => Rel.keep [8, 5] [5] h
  | 2, _ =>
    have hu4 := hu4 rfl
    subst hu4
    refine zs0 ?_
    refine Holds.condF rfl ?_
    refine zs0 ?_
    refine Holds.condF rfl ?_
    refine zs0 ?_
    refine Holds.condF rfl ?_
    refine zs0 ?_
    exact Holds.condF rfl (Holds.skip fun a w h => Rel.keep [8, 5] [5] h)
  | 3, _ =>
    have hu5 := hu5 rfl
    subst hu5
    refine zs0 ?_
    refine Holds.condF rfl ?_
    refine zs0 ?_
    refine Holds.condF rfl ?_
    refine zs0 ?_
    refine Holds.condT rfl ?_
    refine zr0 ?_
    exact fun a w h => Rel.keep [8, 5] [5] h
  | 4, _ =>
    have hu6 := hu6 rfl
    subst hu6
    refine zs0 ?_
    refine Holds.condF rfl ?_
    refine zs0 ?_
    refine Holds.condF rfl ?_
    refine zs0 ?_
    refine Holds.condF rfl ?_
    refine zs0 ?_
    refine Holds.condT rfl ?_
    refine zr0 ?_
    exact fun a w h => Rel.keep [8, 5] [5] h
 ·intro σ hσ
  refine Holds.from hσ ?_
  have tail : (h = true ∨ s = true) → Holds Tryz.prog none cx w0 (codeAt Tryz.f94 [1, 1, 1]) { nt := 51, env := [(8, .v true (.bool u)), (5, .ptr 5 0 [] 0)], mem := [(5, .box 129 (.v false (.agg [words L, .bool h, .bool s])))] } (fnQ Tryz.prog Tryz.f94 [.v false (words (digs (if u = true then N + 1 else N))), .v true (.bool false)]) := fun hhs => by
   cases h with
   | true =>
     refine Holds.seq ?_
     refine zs0 ?_
     refine Holds.condF rfl (Holds.skip ?_)
     cases u with
     | true =>
       rw [if_pos rfl, ← hL1]
       refine Holds.seq ?_
       refine zs0 ?_
       refine Holds.condT rfl ?_
       refine zd2 [] (ρ := fun d => if d = 47 then [.v true (words O)] else [.v true (words L1)]) (o := by repeat' first|exact h1w|exact hA|trivial|constructor) (k := ?_)
       exact Holds.ret (RetOk.vs rfl (by exact ⟨⟨rfl, by simp⟩, ⟨rfl, id⟩, trivial⟩) rfl)
     | false =>
       rw [if_neg (by simp), ← hL]
       refine Holds.seq ?_
       refine zs0 ?_
       refine Holds.condF rfl (Holds.skip ?_)
       refine zs0 ?_
       exact Holds.ret (RetOk.vs rfl (by exact ⟨⟨rfl, by simp⟩, ⟨rfl, id⟩, trivial⟩) rfl)
   | false =>
     have hs : s = true := by rcases hhs with h | h; · cases h
                              ·exact h
     subst hs
     refine Holds.seq ?_
     refine zs0 ?_
     refine Holds.condF rfl (Holds.skip ?_)
     cases u with
     | true =>
       rw [if_pos rfl, ← hL1]
       refine Holds.seq ?_
       refine zs0 ?_
       refine Holds.condT rfl ?_
       refine zd2 [] (ρ := fun d => if d = 47 then [.v true (words O)] else [.v true (words L1)]) (o := by repeat' first|exact h1w|exact hA|trivial|constructor) (k := ?_)
       exact Holds.ret (RetOk.vs rfl (by exact ⟨⟨rfl, by simp⟩, ⟨rfl, id⟩, trivial⟩) rfl)
     | false =>
       rw [if_neg (by simp), ← hL]
       refine Holds.seq ?_
       refine zs0 ?_
       refine Holds.condF rfl (Holds.skip ?_)
       refine zs0 ?_
       exact Holds.ret (RetOk.vs rfl (by exact ⟨⟨rfl, by simp⟩, ⟨rfl, id⟩, trivial⟩) rfl)
  by_cases hhs : h = false ∧ s = false
  ·obtain ⟨e1, e2⟩ := hhs
   subst e1; subst e2
   rw [if_pos ⟨rfl, rfl⟩, decide_eq_true ⟨rfl, rfl⟩, ← hL]
   refine Holds.seq ?_
   refine zs0 ?_
   refine Holds.condT rfl ?_
   refine zs0 ?_
   exact Holds.ret (RetOk.vs rfl (by exact ⟨⟨rfl, by simp⟩, ⟨rfl, id⟩, trivial⟩) rfl)
  ·rw [if_neg hhs, decide_eq_false hhs]
   refine tail ?_
   cases h
   ·cases s
    ·exact absurd ⟨rfl, rfl⟩ hhs
    ·exact .inr rfl
   ·exact .inl rfl
theorem cmpN_mul {a b c : Nat} (hc : 0 < c) : cmpN (a * c) (b * c) = cmpN a b := by
 unfold cmpN
 simp only [Nat.mul_lt_mul_right hc]
theorem rstN_mul {x d c : Nat} (hc : 0 < c) : rstN (x * c) (d * c) = rstN x d := by
 unfold rstN
 have e : x * c = 0 ↔ x = 0 := ⟨fun h => by rcases Nat.mul_eq_zero.1 h with h | h <;> omega, fun h => by rw [h, Nat.zero_mul]⟩
 rw [show x * c * 2 = x * 2 * c from by rw [Nat.mul_right_comm], cmpN_mul hc]
 by_cases h : x = 0
 ·rw [if_pos h, if_pos (e.2 h)]
 ·rw [if_neg h, if_neg (fun h' => h (e.1 h'))]
def fU (P g e : Int) : Int := max e (1 - g) - P + 1
def fmtV (k P : Int) : V := .agg [.int .i64 k, .int .i64 P]
def fltV (k : Nat) (neg : Bool) (e : Int) (m : Nat) : V := .agg [.int .i64 (k : Nat), .bool neg, .int .i64 e, words (digs m)]
theorem fltV_zero (k : Nat) (neg : Bool) (e : Int) : fltV k neg e 0 = .agg [.int .i64 (k : Nat), .bool neg, .int .i64 e, .sl 1 []] := rfl
def FmtOk (k P : Int) : Prop := (2 ≤ k ∧ k ≤ 15) ∧ 2 ≤ P ∧ P ≤ 256
def gK (K : Nat) : Int := ((2 ^ K : Nat) : Int) - 1
theorem gK_bd {K : Nat} (h : 1 ≤ K ∧ K ≤ 14) : 1 ≤ gK K ∧ gK K ≤ 16383 := by
 unfold gK
 have h1 := Nat.pow_le_pow_right (n := 2) (by decide) h.1
 have h2 := Nat.pow_le_pow_right (n := 2) (by decide) h.2
 omega
theorem wrap_pow {K : Nat} (h : K ≤ 14) : IntKind.i64.wrap (1 * 2 ^ min K 64) = ((2 ^ K : Nat) : Int) := by
 have h2 : 2 ^ K ≤ 16384 := Nat.pow_le_pow_right (n := 2) (by decide) h
 have e : (1 : Int) * 2 ^ min K 64 = ((2 ^ K : Nat) : Int) := by rw [Nat.min_eq_left (by omega), Int.one_mul]; exact (Int.natCast_pow 2 K).symm
 rw [e]
 obtain ⟨B, hB⟩ : ∃ B, B = 2 ^ K := ⟨_, rfl⟩
 rw [← hB] at h2 ⊢
 exact wrap_i64 (by omega) (by omega)
theorem fCheck_ok (k P : Int) : FnOk Tryz.prog 106 [.v (fmtV k P)] [.v true (.int .i64 (if (2 ≤ k ∧ k ≤ 15) ∧ 2 ≤ P ∧ P ≤ 256 then 0 else 150))] := by
 unfold fmtV
 refine FnOk.of Tryz.func106 rfl rfl fun cx w0 => ?_
 rw [show Tryz.f106.ntmps = 21 from rfl]
 refine zs0 ?_
 refine Holds.seq ?_
 by_cases h1 : k < 2
 ·rw [if_neg (by omega)]
  refine zs1 h1 ?_
  refine Holds.condT rfl ?_
  refine zs0 ?_
  exact Holds.ret (RetOk.vs rfl (by exact ⟨⟨rfl, id⟩, trivial⟩) rfl)
 by_cases h2 : 15 < k
 ·rw [if_neg (by omega)]
  refine zs1 (an h1 <| h2) ?_
  refine Holds.condT rfl ?_
  refine zs0 ?_
  exact Holds.ret (RetOk.vs rfl (by exact ⟨⟨rfl, id⟩, trivial⟩) rfl)
 by_cases h3 : P < 2
 ·rw [if_neg (by omega)]
  refine zs1 (an h1 <| an h2 <| h3) ?_
  refine Holds.condT rfl ?_
  refine zs0 ?_
  exact Holds.ret (RetOk.vs rfl (by exact ⟨⟨rfl, id⟩, trivial⟩) rfl)
 by_cases h4 : 256 < P
 ·rw [if_neg (by omega)]
  refine zs1 (an h1 <| an h2 <| an h3 <| h4) ?_
  refine Holds.condT rfl ?_
  refine zs0 ?_
  exact Holds.ret (RetOk.vs rfl (by exact ⟨⟨rfl, id⟩, trivial⟩) rfl)
 rw [if_pos (by omega)]
 refine zs1 (an h1 <| an h2 <| an h3 <| h4) ?_
 refine Holds.condF rfl (Holds.skip ?_)
 refine zs0 ?_
 exact Holds.ret (RetOk.vs rfl (by exact ⟨⟨rfl, id⟩, trivial⟩) rfl)
theorem fRange_ok (K : Nat) (P : Int) (hK : 1 ≤ K ∧ K ≤ 14) (hP : 2 ≤ P ∧ P ≤ 256) : FnOk Tryz.prog 180 [.v (fmtV ((K + 1 : Nat) : Int) P)] [.v true (.int .i64 (1 - gK K)), .v true (.int .i64 (gK K)), .v true (.int .i64 (1 - gK K - (P - 1))), .v true (.int .i64 0)] := by
 have hC := fCheck_ok ((K + 1 : Nat) : Int) P
 rw [if_pos (by omega)] at hC
 have hG := gK_bd hK
 have hw := wrap_pow hK.2
 have hg : ((2 ^ K : Nat) : Int) - 1 = gK K := rfl
 have wg : IntKind.i64.wrap (gK K) = gK K := by rw [wrap_i64] <;> omega
 obtain ⟨G, hG'⟩ : ∃ G, G = gK K := ⟨_, rfl⟩
 obtain ⟨B, hB⟩ : ∃ B : Int, B = ((2 ^ K : Nat) : Int) := ⟨_, rfl⟩
 rw [← hB] at hw hg
 rw [← hG'] at hG hg wg ⊢
 have wB : IntKind.i64.wrap (B - 1) = G := by rw [hg]; exact wg
 have w1 : IntKind.i64.wrap (1 - G) = 1 - G := by rw [wrap_i64] <;> omega
 have w2 : IntKind.i64.wrap (P - 1) = P - 1 := by rw [wrap_i64] <;> omega
 have w3 : IntKind.i64.wrap (1 - G - (P - 1)) = 1 - G - (P - 1) := by rw [wrap_i64] <;> omega
 have g0 : (0 : Int) ≤ (K : Int) := by omega
 have wk : IntKind.i64.wrap (((K : Nat) : Int) + 1 - 1) = (K : Int) := by rw [wrap_i64] <;> omega
 clear hG' hB hg
 unfold fmtV at hC ⊢
 refine FnOk.of Tryz.func180 rfl rfl fun cx w0 => ?_
 rw [show Tryz.f180.ntmps = 25 from rfl]
 refine zs0 ?_
 refine Holds.seq ?_
 refine zs2 (ρ := fun _ => [.v true (.int .i64 0)]) (o := by repeat' first|exact hC|trivial|constructor) (k := ?_)
 refine zs0 ?_
 refine Holds.condF rfl (Holds.skip ?_)
 refine zs1 (an wk <| an g0 <| an hw <| wB) ?_
 refine zs1 w1 ?_
 refine zd1 [] (an w2 <| w3) ?_
 exact Holds.ret (RetOk.vs rfl (by exact ⟨⟨rfl, id⟩, ⟨rfl, id⟩, ⟨rfl, id⟩, ⟨rfl, id⟩, trivial⟩) rfl)
theorem val_bl {x : List Int} (ox : okW x) : val x < 2 ^ (64 * x.length) := by
 rw [Nat.pow_mul]; exact val_lt ox
theorem wBit_far (x : List Int) (i : Nat) (hx : x.length < 100000) (hi : 64 * x.length ≤ i) (hi2 : i < 4611686018427387904) : FnOk Tryz.prog 60 [.v (words x), .v (.int .i64 i)] [.v true (.bool false)] := by
 have hq : (i : Int).tdiv 64 = ((i / 64 : Nat) : Int) := quoN i 64
 have g0 : (0 : Int) ≤ (i : Int) := by omega
 have g1 : ¬ ((i / 64 : Nat) : Int) < x.length := by omega
 have wq : IntKind.i64.wrap ((i / 64 : Nat) : Int) = ((i / 64 : Nat) : Int) := by rw [wrap_i64] <;> omega
 obtain ⟨m, hm⟩ : ∃ m, m = i / 64 := ⟨_, rfl⟩
 rw [← hm] at hq g1 wq
 refine FnOk.of Tryz.func60 rfl rfl fun cx w0 => ?_
 rw [show Tryz.f60.ntmps = 26 from rfl]
 refine zs0 ?_
 refine zs1 (an g0 <| an hq <| an g1 <| wq) ?_
 exact Holds.ret (RetOk.vs rfl (by exact ⟨⟨rfl, id⟩, trivial⟩) rfl)
theorem wBitG_ok (x : List Int) (i : Nat) (hx : x.length < 100000) (ox : okW x) (hi2 : i < 4611686018427387904) : FnOk Tryz.prog 60 [.v (words x), .v (.int .i64 i)] [.v true (.bool (bitN (val x) i))] := by
 by_cases h : 64 * x.length ≤ i
 ·have : bitN (val x) i = false := by
   unfold bitN
   have h1 := val_bl ox
   have h2 : 2 ^ (64 * x.length) ≤ 2 ^ i := Nat.pow_le_pow_right (by decide) h
   rw [Nat.div_eq_of_lt (by omega)]
   rfl
  rw [this]
  exact wBit_far x i hx h hi2
 ·exact wBit_ok x i hx (by omega) ox
theorem wShr_far (x : List Int) (s : Nat) (hx : x.length < 10000) (ox : okW x) (hs : 64 * x.length ≤ s) (hs2 : s < 4611686018427387904) : FnOk Tryz.prog 187 [.v (words x), .v (.int .i64 s)] [.v true (words (digs 0))] := by
 have h1 := view_ok x (by omega)
 have lx := trimL_len x
 have hq : (s : Int).tdiv 64 = ((s / 64 : Nat) : Int) := quoN s 64
 obtain ⟨X, hX⟩ : ∃ X, X = trimL x := ⟨_, rfl⟩
 rw [← hX] at h1 lx
 have g : (X.length : Int) ≤ ((s / 64 : Nat) : Int) := by omega
 have wq : IntKind.i64.wrap ((s / 64 : Nat) : Int) = ((s / 64 : Nat) : Int) := by rw [wrap_i64] <;> omega
 obtain ⟨m, hm⟩ : ∃ m, m = s / 64 := ⟨_, rfl⟩
 rw [← hm] at hq g wq
 refine FnOk.of Tryz.func187 rfl rfl fun cx w0 => ?_
 rw [show Tryz.f187.ntmps = 64 from rfl]
 refine zs0 ?_
 refine zs2 (ρ := fun _ => [.v false (words X)]) (o := by repeat' first|exact h1|trivial|constructor) (k := ?_)
 refine Holds.seq ?_
 refine zs1 (an hq <| an g <| wq) ?_
 refine Holds.condT rfl ?_
 refine zs0 ?_
 exact Holds.ret ⟨_, [], rfl, ⟨rfl, trivial⟩, by simp [R.names, R.mems, R.blks], by simp, rfl⟩
theorem wShrG_ok (x : List Int) (s : Nat) (hx : x.length < 10000) (ox : okW x) (hs2 : s < 4611686018427387904) : FnOk Tryz.prog 187 [.v (words x), .v (.int .i64 s)] [.v true (words (digs (val x / 2 ^ s)))] := by
 by_cases h : 64 * x.length ≤ s
 ·have h1 := val_bl ox
  have h2 : 2 ^ (64 * x.length) ≤ 2 ^ s := Nat.pow_le_pow_right (by decide) h
  rw [Nat.div_eq_of_lt (by omega)]
  exact wShr_far x s hx ox h hs2
 ·exact wShr_ok x s hx (by omega) ox
theorem Greatest_ok (K : Nat) (P : Int) (hK : 1 ≤ K ∧ K ≤ 14) : FnOk Tryz.prog 145 [.v (fmtV ((K + 1 : Nat) : Int) P)] [.v true (.int .i64 (gK K))] := by
 have hG := gK_bd hK
 have hw := wrap_pow hK.2
 have hg : ((2 ^ K : Nat) : Int) - 1 = gK K := rfl
 have wg : IntKind.i64.wrap (gK K) = gK K := by rw [wrap_i64] <;> omega
 obtain ⟨G, hG'⟩ : ∃ G, G = gK K := ⟨_, rfl⟩
 obtain ⟨B, hB⟩ : ∃ B : Int, B = ((2 ^ K : Nat) : Int) := ⟨_, rfl⟩
 rw [← hB] at hw hg
 rw [← hG'] at hG hg wg ⊢
 have wB : IntKind.i64.wrap (B - 1) = G := by rw [hg]; exact wg
 have g0 : (0 : Int) ≤ (K : Int) := by omega
 have wk : IntKind.i64.wrap (((K : Nat) : Int) + 1 - 1) = (K : Int) := by rw [wrap_i64] <;> omega
 clear hG' hB hg
 unfold fmtV
 refine FnOk.of Tryz.func145 rfl rfl fun cx w0 => ?_
 rw [show Tryz.f145.ntmps = 8 from rfl]
 refine zs0 ?_
 refine zs1 (an wk <| an g0 <| an hw <| wB) ?_
 exact Holds.ret (RetOk.vs rfl (by exact ⟨⟨rfl, id⟩, trivial⟩) rfl)
theorem fLeast_ok (K : Nat) (P : Int) (hK : 1 ≤ K ∧ K ≤ 14) : FnOk Tryz.prog 219 [.v (fmtV ((K + 1 : Nat) : Int) P)] [.v true (.int .i64 (1 - gK K))] := by
 have hG := gK_bd hK
 have h1 := Greatest_ok K P hK
 obtain ⟨G, hG'⟩ : ∃ G, G = gK K := ⟨_, rfl⟩
 obtain ⟨k, hk⟩ : ∃ k : Int, k = ((K + 1 : Nat) : Int) := ⟨_, rfl⟩
 rw [← hG'] at hG h1 ⊢
 rw [← hk] at h1 ⊢
 have w1 : IntKind.i64.wrap (1 - G) = 1 - G := by rw [wrap_i64] <;> omega
 unfold fmtV at h1 ⊢
 refine FnOk.of Tryz.func219 rfl rfl fun cx w0 => ?_
 rw [show Tryz.f219.ntmps = 6 from rfl]
 refine zs0 ?_
 refine zs3 (ρ := fun _ => [.v true (.int .i64 G)]) w1 (o := by repeat' first|exact h1|trivial|constructor) (k := ?_)
 exact Holds.ret (RetOk.vs rfl (by exact ⟨⟨rfl, id⟩, trivial⟩) rfl)
theorem fRight_ok (k P : Int) : FnOk Tryz.prog 66 [.v (fmtV k P)] [.v true (.bool (decide ((2 ≤ k ∧ k ≤ 15) ∧ 2 ≤ P ∧ P ≤ 256)))] := by
 unfold fmtV
 refine FnOk.of Tryz.func66 rfl rfl fun cx w0 => ?_
 rw [show Tryz.f66.ntmps = 21 from rfl]
 refine zs0 ?_
 by_cases h1 : 2 ≤ k
 ·by_cases h2 : k ≤ 15
  ·by_cases h3 : 2 ≤ P
   ·by_cases h4 : P ≤ 256
    ·rw [decide_eq_true ⟨⟨h1, h2⟩, h3, h4⟩]
     refine zs1 (an h1 <| an h2 <| an h3 <| h4) ?_
     exact Holds.ret (RetOk.vs rfl (by exact ⟨⟨rfl, id⟩, trivial⟩) rfl)
    ·rw [decide_eq_false (fun h => h4 h.2.2)]
     refine zs1 (an h1 <| an h2 <| an h3 <| h4) ?_
     exact Holds.ret (RetOk.vs rfl (by exact ⟨⟨rfl, id⟩, trivial⟩) rfl)
   ·rw [decide_eq_false (fun h => h3 h.2.1)]
    refine zs1 (an h1 <| an h2 <| h3) ?_
    exact Holds.ret (RetOk.vs rfl (by exact ⟨⟨rfl, id⟩, trivial⟩) rfl)
  ·rw [decide_eq_false (fun h => h2 h.1.2)]
   refine zs1 (an h1 <| h2) ?_
   exact Holds.ret (RetOk.vs rfl (by exact ⟨⟨rfl, id⟩, trivial⟩) rfl)
 ·rw [decide_eq_false (fun h => h1 h.1.1)]
  refine zs1 h1 ?_
  exact Holds.ret (RetOk.vs rfl (by exact ⟨⟨rfl, id⟩, trivial⟩) rfl)
theorem Fmt_ok (k P : Int) : FnOk Tryz.prog 18 [.v (fmtV k P)] [.v true (fmtV k P)] := by
 unfold fmtV
 refine FnOk.of Tryz.func18 rfl rfl fun cx w0 => ?_
 rw [show Tryz.f18.ntmps = 8 from rfl]
 refine zs0 ?_
 refine zs0 ?_
 exact Holds.ret (RetOk.vs rfl (by exact ⟨⟨rfl, id⟩, trivial⟩) rfl)
theorem tr_down {v i : Nat} (h : v / 2 ^ i % 2 = 1) : trN (v / 2 ^ i) = 0 := trN_of (c := v / 2 ^ i / 2) (by rw [Nat.pow_zero]; omega)
theorem tr_up {v i : Nat} (h : v / 2 ^ i % 2 = 0) (h0 : v / 2 ^ (i + 1) ≠ 0) : trN (v / 2 ^ i) = trN (v / 2 ^ (i + 1)) + 1 := by
 rw [Nat.pow_succ, ← Nat.div_div_eq_div_mul] at h0 ⊢
 obtain ⟨w, hw⟩ : ∃ w, w = v / 2 ^ i := ⟨_, rfl⟩
 rw [← hw] at h h0 ⊢
 obtain ⟨c, hc⟩ := trN_ok (v := w / 2) (by omega)
 exact trN_of (c := c) (by rw [Nat.pow_succ, ← Nat.mul_assoc, ← hc]; omega)
set_option maxHeartbeats 2000000 in
theorem Bits_ok (x : List Int) (hx : x.length < 10000) (ox : okW x) : ∃ o : Int, FnOk Tryz.prog 190 [.v (words x)] [.v true (.int .i64 (trN (val x))), .v true (.int .i64 o)] := by
 have hL := rLen_ok x (by omega) ox
 rw [lenR_eq ox] at hL
 have hbl : blN (val x) ≤ 64 * x.length := bl_lt (val_bl ox)
 have hvb : val x < 2 ^ blN (val x) := by
  unfold blN
  split
  ·next h => rw [h]; decide
  ·exact Nat.lt_log2_self
 have hB := fun i (hi : i < 10000000) => rBit_ok x i (by omega) hi ox
 obtain ⟨v, hv⟩ : ∃ v, v = val x := ⟨_, rfl⟩
 rw [← hv] at hL hbl hvb ⊢
 have hB : ∀ i, i < 10000000 → FnOk Tryz.prog 173 [.v (words x), .v (.int .i64 (i : Nat))] [.v true (.bool (bitN v i))] := fun i hi => by rw [hv]; exact hB i hi
 obtain ⟨b, hb⟩ : ∃ b, b = blN v := ⟨_, rfl⟩
 rw [← hb] at hL hbl hvb
 obtain ⟨cnt, hcnt⟩ : ∃ cnt : Nat → Nat, (∀ i, cnt i = (if bitN v i = true then 1 else 0) + cnt (i + 1) ∨ b ≤ i) ∧ cnt b = 0 := by
  refine ⟨fun i => ((List.range b).filter fun j => decide (i ≤ j) && bitN v j).length, ?_, ?_⟩
  ·intro i
   by_cases h : b ≤ i
   ·exact .inr h
   ·left
    have key : ∀ n, i < n → ((List.range n).filter fun j => decide (i ≤ j) && bitN v j).length = (if bitN v i = true then 1 else 0) + ((List.range n).filter fun j => decide (i + 1 ≤ j) && bitN v j).length := fun n => by
     induction n with
     | zero => intro h; omega
     | succ n ih =>
       intro hn
       rw [List.range_succ, List.filter_append, List.filter_append, List.length_append, List.length_append]
       by_cases hin : i = n
       ·subst hin
        have z1 : ∀ k, ((List.range i).filter fun j => decide (i + k ≤ j) && bitN v j) = [] := fun k => List.filter_eq_nil_iff.2 fun j hj => by
         have := List.mem_range.1 hj
         simp; omega
        have z0 := z1 0
        rw [Nat.add_zero] at z0
        rw [z0, z1 1]
        by_cases hbt : bitN v i = true
        ·simp [hbt]
        ·simp [hbt]
       ·rw [ih (by omega)]
        have e1 : decide (i ≤ n) = true := decide_eq_true (by omega)
        have e2 : decide (i + 1 ≤ n) = true := decide_eq_true (by omega)
        simp [List.filter_cons, e1, e2]
        omega
    exact key b (by omega)
  ·simp only
   rw [List.length_eq_zero_iff]
   exact List.filter_eq_nil_iff.2 fun j hj => by
    have := List.mem_range.1 hj
    simp; omega
 refine ⟨(cnt 0 : Nat), ?_⟩
 have hcb : ∀ i, i ≤ b → cnt i ≤ b - i := fun i => by
  have key : ∀ n, n ≤ b → cnt (b - n) ≤ n := fun n => by
   induction n with
   | zero => intro _; rw [Nat.sub_zero, hcnt.2]; exact Nat.le_refl _
   | succ n ih =>
     intro hn
     have h1 := ih (by omega)
     rcases hcnt.1 (b - (n + 1)) with h2 | h2
     ·rw [h2, show b - (n + 1) + 1 = b - n from by omega]
      split <;> omega
     ·omega
  intro hi
  have := key (b - i) (by omega)
  rw [show b - (b - i) = i from by omega] at this
  exact this
 refine FnOk.of Tryz.func190 rfl rfl fun cx w0 => ?_
 rw [show Tryz.f190.ntmps = 22 from rfl]
 refine zs0 ?_
 refine zs0 ?_
 refine Holds.next (fun σ => ∀ a w, Rel cx w0 σ a w → Rel cx w0 { nt := 22, env := [(4, .v true (.int .i64 (trN v : Nat))), (5, .v true (.int .i64 (cnt 0 : Nat)))], mem := [] } a w) ?_ ?_
 ·have w1 : IntKind.i64.wrap ((b : Int) - 1) = (b : Int) - 1 := by rw [wrap_i64] <;> omega
  refine zs3 (ρ := fun _ => [.v true (.int .i64 b)]) w1 (o := by repeat' first|exact hL|trivial|constructor) (k := ?_)
  refine Holds.loopB (fun i : Nat => { nt := 22, env := [(0, .v false (words x)), (6, .v true (.int .i64 ((i : Int) - 1))), (4, .v true (.int .i64 ((if v / 2 ^ i = 0 then 0 else i + trN (v / 2 ^ i) : Nat) : Int))), (5, .v true (.int .i64 (cnt i : Nat)))], mem := [] }) (fun i => i ≤ b) (fun i => i) b (Nat.le_refl _) (fun a w h => by
   have := Rel.keep [0, 6, 4, 5] [] h
   rw [Nat.div_eq_of_lt hvb, if_pos rfl, hcnt.2]
   exact this) ?_
  intro i hi
  refine Holds.seq ?_
  rcases i with _ | i
  ·rw [Nat.pow_zero, Nat.div_one, Nat.zero_add]
   refine zs0 ?_
   refine Holds.condF rfl (Holds.exit ⟨rfl, fun a w h => ?_⟩)
   have := Rel.keep [4, 5] [] h
   have e : (if v = 0 then 0 else trN v) = trN v := by
    split
    ·next h => rw [h]; rfl
    ·rfl
   rw [← e]
   exact this
  ·have e1 : (((i + 1 : Nat) : Int) - 1) = (i : Int) := by omega
   rw [e1]
   have hBi := hB i (by omega)
   have hci := hcb (i + 1) (by omega)
   have hc1 : cnt i = (if bitN v i = true then 1 else 0) + cnt (i + 1) := by rcases hcnt.1 i with h | h; exact h; omega
   have wk : IntKind.i64.wrap ((i : Int) - 1) = (i : Int) - 1 := by rw [wrap_i64] <;> omega
   have wc : IntKind.i64.wrap ((cnt (i + 1) : Int) + 1) = ((cnt (i + 1) + 1 : Nat) : Int) := by rw [wrap_i64] <;> omega
   refine zs0 ?_
   refine Holds.condT rfl (Holds.skip ?_)
   refine Holds.next (fun σ => ∀ a w, Rel cx w0 σ a w → Rel cx w0 { nt := 22, env := [(0, .v false (words x)), (6, .v true (.int .i64 (i : Int))), (4, .v true (.int .i64 ((if v / 2 ^ i = 0 then 0 else i + trN (v / 2 ^ i) : Nat) : Int))), (5, .v true (.int .i64 (cnt i : Nat)))], mem := [] } a w) ?_ ?_
   ·refine Holds.blockN ?_
    cases hbt : bitN v i with
    | true =>
      rw [hbt] at hBi
      rw [hbt, if_pos rfl] at hc1
      have hbit : v / 2 ^ i % 2 = 1 := of_decide_eq_true hbt
      have e2 : (if v / 2 ^ i = 0 then 0 else i + trN (v / 2 ^ i)) = i := by rw [if_neg (by omega), tr_down hbit, Nat.add_zero]
      rw [e2, hc1, Nat.add_comm 1]
      refine zs2 (ρ := fun _ => [.v true (.bool true)]) (o := by repeat' first|exact hBi|trivial|constructor) (k := ?_)
      refine Holds.condT rfl ?_
      refine zs0 ?_
      refine zr1 wc ?_
      exact fun a w h => Rel.keep [0, 6, 4, 5] [] h
    | false =>
      rw [hbt] at hBi
      rw [hbt, if_neg (by simp), Nat.zero_add] at hc1
      have hbit : v / 2 ^ i % 2 = 0 := by have := of_decide_eq_false hbt; omega
      have e2 : (if v / 2 ^ i = 0 then 0 else i + trN (v / 2 ^ i)) = (if v / 2 ^ (i + 1) = 0 then 0 else i + 1 + trN (v / 2 ^ (i + 1))) := by
       have hs : v / 2 ^ (i + 1) = v / 2 ^ i / 2 := by rw [Nat.pow_succ, Nat.div_div_eq_div_mul]
       by_cases h0 : v / 2 ^ (i + 1) = 0
       ·rw [if_pos h0, if_pos (by omega)]
       ·rw [if_neg h0, if_neg (by omega), tr_up hbit h0]; omega
      rw [e2, hc1]
      refine zs2 (ρ := fun _ => [.v true (.bool false)]) (o := by repeat' first|exact hBi|trivial|constructor) (k := ?_)
      exact Holds.condF rfl (Holds.skip fun a w h => Rel.keep [0, 6, 4, 5] [] h)
   ·intro σ hσ
    refine Holds.from hσ ?_
    refine zr1 wk ?_
    exact ⟨i, (by show i ≤ b; omega), (show i < i + 1 by omega), fun a w h => Rel.keep [0, 6, 4, 5] [] h⟩
 ·intro σ hσ
  refine Holds.from hσ ?_
  refine zs0 ?_
  exact Holds.ret (RetOk.vs rfl (by exact ⟨⟨rfl, id⟩, ⟨rfl, id⟩, trivial⟩) rfl)
theorem B_pow (k : Nat) : (18446744073709551616 : Nat) ^ k = 2 ^ (64 * k) := by rw [Nat.pow_mul]
def dsV (l : List Nat) : List V := l.map fun n => .int .u8 (n : Nat)
def dsA (l : List Nat) : AV := if l = [] then .nil else .own 300 0 l.length
def dsB (l : List Nat) : List (Nat × Blk) := if l = [] then [] else [(300, .buf 5 1 true (dsV l))]
theorem dsA_n : dsA [] = .nil := rfl
theorem dsB_n : dsB [] = [] := rfl
theorem dsA_c {l : List Nat} (h : l ≠ []) : dsA l = .own 300 0 l.length := if_neg h
theorem dsB_c {l : List Nat} (h : l ≠ []) : dsB l = [(300, .buf 5 1 true (dsV l))] := if_neg h
theorem dsV_len (l : List Nat) : (dsV l).length = l.length := by simp [dsV]
theorem dsV_s (l : List Nat) (c : Nat) : dsV (l ++ [c]) = dsV l ++ [.int .u8 c] := by simp [dsV]
end Go.Proofs.YtlpolbeikangpaaGreatDoor.L
