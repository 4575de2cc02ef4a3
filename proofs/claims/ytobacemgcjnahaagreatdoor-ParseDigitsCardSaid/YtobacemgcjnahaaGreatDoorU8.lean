/-
  Ha Hb Hc Hd He Hf Hg Hh Hi Hj Hk Hl Hm Hn Ho Ia Ib Ic Id Ie If Ig Ih Ii Ij Io Ip Ka
-/
import Derived.Test.YtobacemgcjnahaaGreatDoorU4
import Derived.Test.YtobacemgcjnahaaGreatDoorU7
import Derived.Test.YtobacemgcjnahaaGreatDoorU6
set_option linter.unusedSimpArgs false
set_option linter.unusedVariables false
set_option maxRecDepth 100000
namespace Go.Proofs.YtobacemgcjnahaaGreatDoor.L
open Go Go.RowKit Go.Proofs
attribute [local go_sem] evalOps_nil evalOps_cons runW_t runW_f runE_s runP_s wantA evalOp effOp letters okDst coreA St.opv St.get St.at look constA St.put St.upd St.set decide_true List.all_nil List.all_cons Bool.and_true Bool.true_and and_self and_true true_and if_true if_false true_or Int.sub_zero List.nil_append List.cons_append List.append_nil Option.isSome_some List.getElem?_toArray List.getElem?_cons_succ List.getElem?_cons_zero Option.bind_some Option.map_some Option.map_none beq_self_eq_true Bool.false_beq Bool.true_beq Bool.not_true Bool.not_false Bool.false_eq_true cond_true cond_false binA binI List.map_cons List.map_nil boundA List.length_nil List.length_cons Nat.zero_mul Nat.one_mul Nat.mul_one Nat.zero_add Nat.add_zero Nat.zero_le Option.toList St.freshB AV.ment AV.ments Blk.ment V.sizes Nat.lt_add_one Bool.or_true Bool.true_or Bool.or_false Bool.false_or Bool.or_self if_pos if_neg decide_false decide_eq_true decide_eq_false wrap_i64 Int.toNat_natCast minA maxA Int.natCast_add Int.cast_ofNat_Int Option.isSome_none false_implies true_implies forall_const List.drop_zero Int.toNat_zero Int.add_sub_cancel lenA sliceA loadA indexAddrA partA fitsT V.atP V.offP V.size List.length_map List.getElem?_map Int.toNat_natCast_add_one Int.ofNat_eq_natCast TY calleeA capArg knotA capArgs toArgs toArg callA R.res R.mems R.blks R.av R.names R.nw invokeA storeA storeV fieldAddrA liveB V.off V.offs V.setP List.set_cons_zero List.set_cons_succ buildA buildP partsA appendA srcA copyA boxOk makeA AV.pure List.take_succ_cons List.take_zero nilA words unA entry List.zipIdx_cons List.zipIdx_nil Arg.av Arg.avs
theorem and_one (k : Nat) (hk : k < 9223372036854775808) : bitI .and .i64 (k : Int) 1 = ((k % 2 : Nat) : Int) := by
 show IntKind.i64.wrap ((BitVec.ofInt IntKind.i64.bits (k : Int) &&& BitVec.ofInt IntKind.i64.bits 1).toNat : Int) = _
 have h1 : (BitVec.ofInt IntKind.i64.bits (k : Int) &&& BitVec.ofInt IntKind.i64.bits 1).toNat = k % 2 := by
  rw [BitVec.toNat_and, BitVec.toNat_ofInt, BitVec.toNat_ofInt]
  have e1 : ((k : Int) % ((2 ^ IntKind.i64.bits : Nat) : Int)).toNat = k := by
   show ((k : Int) % 18446744073709551616).toNat = _
   omega
  have e2 : ((1 : Int) % ((2 ^ IntKind.i64.bits : Nat) : Int)).toNat = 1 := by
   show ((1 : Int) % 18446744073709551616).toNat = _
   decide
  rw [e1, e2, Nat.and_one_is_mod]
 rw [h1]
 exact wrap_i64 (by omega) (by omega)
theorem pow_half {b k : Nat} : b ^ k = b ^ (k % 2) * (b * b) ^ (k / 2) := by
 rw [← Nat.pow_two, ← Nat.pow_mul, ← Nat.pow_add]
 congr 1
 omega
theorem pow_inv {B e k o o' b : Nat} {b' : List Int} (hbe : b < 2 ^ e) (hke : k * e ≤ B) (hoe : o < 2 ^ (B - k * e + 1)) (he1 : 1 ≤ e) (h0 : 0 < k) (ho' : o' = o * b ^ (k % 2)) (ob' : okW b') (hb' : k / 2 = 0 ∨ val b' = b * b) :
 ∃ e', 1 ≤ e' ∧ val b' < 2 ^ e' ∧ k / 2 * e' ≤ B ∧ o' < 2 ^ (B - k / 2 * e' + 1) ∧ (k / 2 = 0 ∨ e' ≤ B) := by
 have hkk : k * e = k / 2 * (e + e) + k % 2 * e := by
  have := Nat.div_add_mod k 2
  rw [← Nat.two_mul e, ← Nat.mul_assoc, Nat.mul_comm (k / 2) 2, ← Nat.add_mul, this]
 have hob : o' < 2 ^ (B - k * e + 1 + k % 2 * e) := by
  rw [ho', Nat.pow_add]
  rcases Nat.mod_two_eq_zero_or_one k with h | h
  ·rw [h, Nat.pow_zero, Nat.zero_mul, Nat.pow_zero, Nat.mul_one, Nat.mul_one]; exact hoe
  ·rw [h, Nat.pow_one, Nat.one_mul]; exact Nat.mul_lt_mul'' hoe hbe
 rcases Nat.eq_zero_or_pos (k / 2) with h | h
 ·refine ⟨64 * b'.length + 1, by omega, ?_, by rw [h, Nat.zero_mul]; exact Nat.zero_le _, ?_, .inl h⟩
  ·have := val_lt ob'
   rw [show (18446744073709551616 : Nat) = 2 ^ 64 from rfl, ← Nat.pow_mul] at this
   exact Nat.lt_of_lt_of_le this (Nat.pow_le_pow_right (by decide) (by omega))
  ·rw [h, Nat.zero_mul, Nat.zero_add] at hkk
   rw [h, Nat.zero_mul]
   exact Nat.lt_of_lt_of_le hob (Nat.pow_le_pow_right (by decide) (by omega))
 ·rcases hb' with hb' | hb'
  ·omega
  ·have h2 : 1 * (e + e) ≤ k / 2 * (e + e) := Nat.mul_le_mul_right _ h
   refine ⟨e + e, by omega, by rw [hb', Nat.pow_add]; exact Nat.mul_lt_mul'' hbe hbe, by omega, ?_, .inr (by omega)⟩
   exact Nat.lt_of_lt_of_le hob (Nat.pow_le_pow_right (by decide) (by omega))
set_option maxHeartbeats 2000000 in
theorem wPow_ok (x : List Int) (K c : Nat) (ox : okW x) (hx : x.length < 1000) (hc : val x < 2 ^ c) (hK : K * c < 1000000) (hc1 : 1 ≤ c) : FnOk Tryz.prog 93 [.v (words x), .v (.int .i64 K)] [.v true (words (digs (val x ^ K)))] := by
 have hKl : K < 1000000 := Nat.lt_of_le_of_lt (Nat.le_mul_of_pos_right K hc1) hK
 have len : ∀ {m e : Nat}, m < 2 ^ e → e ≤ 2000000 → (digs m).length < 100000 := fun {m e} h1 h2 => by
  have : m < 18446744073709551616 ^ (e / 64 + 1) := by
   rw [show (18446744073709551616 : Nat) = 2 ^ 64 from rfl, ← Nat.pow_mul]
   exact Nat.lt_of_lt_of_le h1 (Nat.pow_le_pow_right (by decide) (by omega))
  have := digs_len this
  omega
 obtain ⟨T, hT⟩ : ∃ T, T = val x ^ K := ⟨_, rfl⟩
 rw [← hT]
 refine FnOk.of Tryz.func93 rfl rfl fun cx w0 => ?_
 rw [show Tryz.f93.ntmps = 25 from rfl]
 refine zs0 ?_
 refine zs0 ?_
 refine Holds.next (fun σ => ∀ a w, Rel cx w0 σ a w → Rel cx w0 { nt := 25, env := [(5, .v true (words (digs T)))], mem := [] } a w) ?_ ?_
 ·refine zs0 ?_
  refine Holds.loopB (fun s : Nat × Nat × List Int × Bool => { nt := 25, env := [(1, .v true (.int .i64 (s.1 : Nat))), (5, .v true (words (digs s.2.1))), (6, .v s.2.2.2 (words s.2.2.1))], mem := [] })
   (fun s => s.1 ≤ K ∧ okW s.2.2.1 ∧ s.2.2.1.length < 100000 ∧ s.2.1 * val s.2.2.1 ^ s.1 = T ∧ ∃ e, 1 ≤ e ∧ val s.2.2.1 < 2 ^ e ∧ s.1 * e ≤ K * c ∧ s.2.1 < 2 ^ (K * c - s.1 * e + 1) ∧ (s.1 = 0 ∨ e ≤ K * c)) (fun s => s.1) (K, 1, x, false)
   ⟨Nat.le_refl _, ox, by show x.length < 100000; omega, by show 1 * val x ^ K = T; rw [Nat.one_mul, hT], c, hc1, hc, Nat.le_refl _, by show 1 < 2 ^ (K * c - K * c + 1); rw [Nat.sub_self]; decide, by
     rcases Nat.eq_zero_or_pos K with h | h
     ·exact .inl h
     ·exact .inr (Nat.le_mul_of_pos_left c h)⟩ (fun a w h => ?_) ?_
  ·have := Rel.keep [1, 5, 6] [] (Rel.freeze (s := 7) (e := 76) (z := 1) (nw := true) (xs := [V.int .u64 1]) h rfl)
   show Rel cx w0 { nt := 25, env := [(1, .v true (.int .i64 (K : Nat))), (5, .v true (words (digs 1))), (6, .v false (words x))], mem := [] } a w
   rw [show digs 1 = [1] from by decide]
   exact this
  rintro ⟨k, o, b, nb⟩ ⟨hk, ob, lb, hv, e, he1, hbe, hke, hoe, hle⟩
  simp only at hk ob lb hv hbe hke hoe hle ⊢
  rcases Nat.eq_zero_or_pos k with h0 | h0
  ·subst h0
   rw [Nat.pow_zero, Nat.mul_one] at hv
   rw [hv]
   refine Holds.seq ?_
   refine zs0 ?_
   exact Holds.condF rfl (Holds.exit ⟨rfl, fun a w h => Rel.keep [5] [] h⟩)
  ·have g : (0 : Int) < k := by omega
   have heK : e ≤ K * c := by omega
   have hol : (digs o).length < 100000 := len hoe (by omega)
   have ha1 := and_one k (by omega)
   have hM := wMul_ok (digs o) b (by omega) (by omega) (digs_ok o).1 ob
   rw [(digs_ok o).2.2] at hM
   have hS := wMul_ok b b (by omega) (by omega) ob ob
   have hlen2 : (digs (val b * val b)).length < 100000 := len (e := e + e) (by rw [Nat.pow_add]; exact Nat.mul_lt_mul'' hbe hbe) (by omega)
   have hh := pow_half (b := val b) (k := k)
   have hfd : Int.fdiv (k : Int) (2 ^ min 1 64) = ((k / 2 : Nat) : Int) := by
    have := shrG k 1 (by omega)
    exact this
   have wk : IntKind.i64.wrap ((k / 2 : Nat) : Int) = ((k / 2 : Nat) : Int) := wrap_i64 (by omega) (by omega)
   obtain ⟨o', ho'⟩ : ∃ o', o' = o * val b ^ (k % 2) := ⟨_, rfl⟩
   refine Holds.seq ?_
   refine zs1 g ?_
   refine Holds.condT rfl (Holds.skip ?_)
   refine Holds.next (fun σ => ∃ b' nb', okW b' ∧ b'.length < 100000 ∧ (k / 2 = 0 ∨ val b' = val b * val b) ∧ ∀ a w, Rel cx w0 σ a w → Rel cx w0 { nt := 25, env := [(1, .v true (.int .i64 (k : Nat))), (5, .v true (words (digs o'))), (6, .v nb' (words b'))], mem := [] } a w) ?_ ?_
   ·refine Holds.blockN ?_
    refine Holds.next (fun σ => ∀ a w, Rel cx w0 σ a w → Rel cx w0 { nt := 25, env := [(1, .v true (.int .i64 (k : Nat))), (5, .v true (words (digs o'))), (6, .v nb (words b))], mem := [] } a w) ?_ ?_
    ·rcases Nat.mod_two_eq_zero_or_one k with h2 | h2
     ·rw [h2, Nat.pow_zero, Nat.mul_one] at ho'
      rw [h2] at ha1
      rw [ho']
      refine zs1 ha1 ?_
      exact Holds.condF rfl (Holds.skip fun a w h => Rel.keep [1, 5, 6] [] h)
     ·rw [h2, Nat.pow_one] at ho'
      rw [h2] at ha1
      rw [← ho'] at hM
      refine zs1 ha1 ?_
      refine Holds.condT rfl ?_
      refine zr2 (ρ := fun _ => [.v true (words (digs o'))]) (o := by repeat' first|exact hM|trivial|constructor) (k := ?_)
      exact fun a w h => Rel.keep [1, 5, 6] [] h
    ·intro σ hσ
     refine Holds.from hσ ?_
     clear hσ
     by_cases hk1 : 1 < k
     ·have g2 : (1 : Int) < k := by omega
      obtain ⟨D, hD⟩ : ∃ D, D = digs (val b * val b) := ⟨_, rfl⟩
      rw [← hD] at hS hlen2
      refine zs1 g2 ?_
      refine Holds.condT rfl ?_
      refine zr2 (ρ := fun _ => [.v true (words D)]) (o := by repeat' first|exact hS|trivial|constructor) (k := ?_)
      exact ⟨D, true, by rw [hD]; exact (digs_ok _).1, hlen2, .inr (by rw [hD, (digs_ok _).2.2]), fun a w h => Rel.keep [1, 5, 6] [] h⟩
     ·have g2 : ¬ (1 : Int) < k := by omega
      refine zs1 g2 ?_
      exact Holds.condF rfl (Holds.skip ⟨b, nb, ob, lb, .inl (by omega), fun a w h => Rel.keep [1, 5, 6] [] h⟩)
   ·rintro σ ⟨b', nb', ob', lb', hb', hσ⟩
    refine Holds.from hσ ?_
    refine zr1 (an hfd <| wk) ?_
    refine ⟨(k / 2, o', b', nb'), ⟨by show k / 2 ≤ K; omega, ob', lb', ?_, ?_⟩, (show k / 2 < k by omega), fun a w h => Rel.keep [1, 5, 6] [] h⟩
    ·show o' * val b' ^ (k / 2) = T
     rw [ho', Nat.mul_assoc, ← hv]
     rcases hb' with h | h
     ·rw [h, Nat.pow_zero, Nat.mul_one]
      have : k = 1 := by omega
      rw [this]
     ·rw [h, ← hh]
    ·exact pow_inv (show val b < 2 ^ e from hbe) hke hoe he1 h0 ho' ob' hb'
 ·intro σ hσ
  refine Holds.from hσ ?_
  refine zs0 ?_
  exact Holds.ret (RetOk.vs rfl (by exact ⟨⟨rfl, id⟩, trivial⟩) rfl)
theorem wTen_ok (k : Nat) (hk : k < 100000) : FnOk Tryz.prog 41 [.v (.int .i64 k)] [.v true (words (digs (10 ^ k)))] := by
 have o5 : okW [(5 : Int)] := by intro n hn; simp at hn; omega
 have v5 : val [(5 : Int)] = 5 := by decide
 have h1 := wPow_ok [5] k 3 o5 (by simp) (by rw [v5]; decide) (by omega) (by omega)
 rw [v5] at h1
 have hl : (digs (5 ^ k)).length < 10000 := by
  have h5 : (5 : Nat) ^ k ≤ 8 ^ k := Nat.pow_le_pow_left (by decide) k
  rw [show (8 : Nat) = 2 ^ 3 from rfl, ← Nat.pow_mul] at h5
  have h6 : (2 : Nat) ^ (3 * k) < 18446744073709551616 ^ (3 * k / 64 + 1) := by
   rw [show (18446744073709551616 : Nat) = 2 ^ 64 from rfl, ← Nat.pow_mul]
   exact Nat.pow_lt_pow_right (by decide) (by omega)
  have := digs_len (Nat.lt_of_le_of_lt h5 h6)
  omega
 have h2 := wShl_ok (digs (5 ^ k)) k hl (by omega) (digs_ok _).1
 rw [(digs_ok (5 ^ k)).2.2, ← Nat.mul_pow] at h2
 have h2 : FnOk Tryz.prog 88 [.v (words (digs (5 ^ k))), .v (.int .i64 k)] [.v true (words (digs (10 ^ k)))] := h2
 have h1 : FnOk Tryz.prog 93 [.v (.sl 1 [.int .u64 5]), .v (.int .i64 k)] [.v true (words (digs (5 ^ k)))] := h1
 obtain ⟨P, hP⟩ : ∃ P, P = digs (5 ^ k) := ⟨_, rfl⟩
 obtain ⟨T, hT⟩ : ∃ T, T = digs (10 ^ k) := ⟨_, rfl⟩
 rw [← hP] at h1 h2
 rw [← hT] at h2 ⊢
 refine FnOk.of Tryz.func41 rfl rfl fun cx w0 => ?_
 rw [show Tryz.f41.ntmps = 8 from rfl]
 refine zs0 ?_
 refine zs2 (ρ := fun d => if d = 5 then [.v true (words P)] else [.v true (words T)]) (o := by repeat' first|exact h1|exact h2|trivial|constructor) (k := ?_)
 exact Holds.ret (RetOk.vs rfl (by exact ⟨⟨rfl, id⟩, trivial⟩) rfl)
def blN (v : Nat) : Nat := if v = 0 then 0 else v.log2 + 1
theorem bl_of {v k : Nat} (h1 : 2 ^ k ≤ v) (h2 : v < 2 ^ (k + 1)) : blN v = k + 1 := by
 have hp : 0 < 2 ^ k := Nat.pow_pos (by decide)
 have h0 : v ≠ 0 := by omega
 rw [blN, if_neg h0]
 have a1 : v.log2 < k + 1 := (Nat.log2_lt h0).2 h2
 have a2 : k ≤ v.log2 := (Nat.le_log2 h0).2 h1
 omega
theorem bl_words {Y : List Int} {n top l : Nat} (oY : okW Y) (hn : Y.length = n + 1) (ht : Y.getD n 0 = (top : Int)) (hl0 : 0 < l) (hl1 : 2 ^ (l - 1) ≤ top) (hl2 : top < 2 ^ l) : blN (val Y) = 64 * n + l := by
 have hv := val_takeN (l := Y) n
 rw [← hn, List.take_length, ht, Int.toNat_natCast] at hv
 have h0 := val_lt (okW_take oY n)
 rw [List.length_take, Nat.min_eq_left (by omega)] at h0
 have hP : (18446744073709551616 : Nat) ^ n = 2 ^ (64 * n) := by rw [Nat.pow_mul]
 rw [hP] at hv h0
 have e : 64 * n + l = (64 * n + (l - 1)) + 1 := by omega
 rw [e]
 refine bl_of ?_ ?_
 ·have := Nat.mul_le_mul_left (2 ^ (64 * n)) hl1
  rw [← Nat.pow_add] at this
  omega
 ·have := Nat.mul_le_mul_left (2 ^ (64 * n)) (Nat.succ_le_of_lt hl2)
  rw [← Nat.pow_add, Nat.succ_eq_add_one, Nat.mul_add, Nat.mul_one, e] at this
  omega
theorem wLen_ok (x : List Int) (hx : x.length < 100000) (ox : okW x) : FnOk Tryz.prog 80 [.v (words x)] [.v true (.int .i64 (blN (val x) : Nat))] := by
 have h1 := view_ok x (by omega)
 have lx := trimL_len x
 have o1 := trimL_ok ox
 have t1 := trim_self ox
 rw [← val_trim x]
 obtain ⟨X, hX⟩ : ∃ X, X = trimL x := ⟨_, rfl⟩
 rw [← hX] at h1 lx o1 t1 ⊢
 clear hX ox
 refine FnOk.of Tryz.func80 rfl rfl fun cx w0 => ?_
 rw [show Tryz.f80.ntmps = 20 from rfl]
 refine zs0 ?_
 refine zs2 (ρ := fun _ => [.v false (words X)]) (o := by repeat' first|exact h1|trivial|constructor) (k := ?_)
 refine Holds.from (σ' := { nt := 20, env := [(0, .v false (words X))], mem := [] }) (fun a w h => Rel.keep [0] [] h) ?_
 refine Holds.seq ?_
 by_cases h0 : X.length = 0
 ·have : X = [] := List.length_eq_zero_iff.1 h0
  subst this
  refine zs0 ?_
  refine Holds.condT rfl ?_
  refine zs0 ?_
  exact Holds.ret (RetOk.vs rfl (by exact ⟨⟨rfl, id⟩, trivial⟩) rfl)
 ·obtain ⟨n, hn⟩ : ∃ n, X.length = n + 1 := ⟨X.length - 1, by omega⟩
  obtain ⟨top, ht, ht64⟩ := natW (okW_getD o1 n)
  have gt := get_map (l := X) (i := n) (by omega)
  rw [ht] at gt
  have htp : 0 < top := by
   have := noZ_top (m := val X) (n := n) (by rw [← trim_digs o1, t1]; exact hn)
   rw [← trim_digs o1, t1, ht] at this
   omega
  obtain ⟨l1, l2, l3⟩ := len64_spec ht64 htp
  have hb := bl_words o1 hn ht l1 l2 l3
  have hL := len64_ok top ht64
  have hl64 : len64 top ≤ 64 := by
   rcases Nat.lt_or_ge 64 (len64 top) with h | h
   ·have := Nat.pow_le_pow_right (n := 2) (by decide) (show 64 ≤ len64 top - 1 by omega)
    rw [show (2 : Nat) ^ 64 = 18446744073709551616 from rfl] at this
    omega
   ·exact h
  obtain ⟨l, hl⟩ : ∃ l, l = len64 top := ⟨_, rfl⟩
  rw [← hl] at hb hL hl64
  rw [hb]
  have g0 : ¬ (X.length : Int) = 0 := by omega
  have e1 : (((n + 1 : Nat) : Int) - 1) = (n : Int) := by omega
  have w1 : IntKind.i64.wrap (64 * (n : Int)) = ((64 * n : Nat) : Int) := by rw [wrap_i64] <;> omega
  have w2 : IntKind.i64.wrap (((64 * n : Nat) : Int) + (l : Int)) = ((64 * n + l : Nat) : Int) := by rw [wrap_i64] <;> omega
  refine zs1 g0 ?_
  refine Holds.condF rfl (Holds.skip ?_)
  refine zs3 (ρ := fun _ => [.v true (.int .i64 (l : Nat))]) (an hn <| an e1 <| an gt <| an w1 <| w2) (o := by repeat' first|exact hL|trivial|constructor) (k := ?_)
  exact Holds.ret (RetOk.vs rfl (by exact ⟨⟨rfl, id⟩, trivial⟩) rfl)
def HasD (v D : Nat) : Prop := 1 ≤ D ∧ 10 ^ (D - 1) ≤ v ∧ v < 10 ^ D
theorem hasD_ex : ∀ (v : Nat), 0 < v → ∃ D, HasD v D := fun v hv => by
 have key : ∀ n, v < 10 ^ n → ∃ D, HasD v D := fun n => by
  induction n with
  | zero => intro h; simp at h; omega
  | succ n ih =>
    intro h
    rcases Nat.lt_or_ge v (10 ^ n) with h1 | h1
    ·exact ih h1
    ·exact ⟨n + 1, by omega, h1, h⟩
 exact key v (Nat.lt_pow_self (by decide))
theorem hasD_lt {v D n : Nat} (h : HasD v D) (hn : 10 ^ n ≤ v) : n < D := by
 rcases Nat.lt_or_ge n D with h1 | h1
 ·exact h1
 ·have := Nat.pow_le_pow_right (n := 10) (by decide) h1
  have := h.2.2
  omega
theorem hasD_le {v D n : Nat} (h : HasD v D) (hn : v < 10 ^ n) : D ≤ n := by
 rcases Nat.lt_or_ge n D with h1 | h1
 ·have := Nat.pow_le_pow_right (n := 10) (by decide) (show n ≤ D - 1 by omega)
  have := h.2.1
  omega
 ·exact h1
theorem dig_tab : ((List.range 2200).all fun m => decide (10 ^ (m * 30103 / 100000) ≤ 2 ^ m)) = true := by kernel_rfl
theorem dig_start {m : Nat} (h : m < 2200) : 10 ^ (m * 30103 / 100000) ≤ 2 ^ m := of_decide_eq_true (List.all_eq_true.1 dig_tab m (List.mem_range.2 h))
theorem bl_le {v : Nat} (h : 0 < v) : 2 ^ (blN v - 1) ≤ v ∧ 1 ≤ blN v := by
 rw [blN, if_neg (by omega), Nat.add_sub_cancel]
 exact ⟨Nat.log2_self_le (by omega), by omega⟩
theorem bl_lt {v k : Nat} (h : v < 2 ^ k) : blN v ≤ k := by
 unfold blN
 split
 ·exact Nat.zero_le _
 ·next h0 => exact (Nat.log2_lt h0).2 h
theorem wDigits_ok (x : List Int) (D : Nat) (hx : x.length < 10000) (ox : okW x) (hD : HasD (val x) D) (hb : blN (val x) ≤ 2200) (hDl : D < 3000) : FnOk Tryz.prog 38 [.v (words x)] [.v true (.int .i64 D)] := by
 have hpos : 0 < val x := by
  have := Nat.pow_pos (a := 10) (n := D - 1) (by decide)
  have := hD.2.1
  omega
 have hZ := wZero_ok x (by omega) ox
 rw [decide_eq_false (by omega)] at hZ
 have hL := wLen_ok x (by omega) ox
 obtain ⟨b1, b2⟩ := bl_le hpos
 obtain ⟨B, hB⟩ : ∃ B, B = blN (val x) := ⟨_, rfl⟩
 rw [← hB] at hL b1 b2 hb
 have hs := dig_start (m := B - 1) (by omega)
 have hn0 : (B - 1) * 30103 / 100000 ≤ D := Nat.le_of_lt (hasD_lt hD (Nat.le_trans hs b1))
 refine FnOk.of Tryz.func38 rfl rfl fun cx w0 => ?_
 rw [show Tryz.f38.ntmps = 19 from rfl]
 obtain ⟨n0, hn0'⟩ : ∃ n0, n0 = (B - 1) * 30103 / 100000 := ⟨_, rfl⟩
 rw [← hn0'] at hn0
 have w1 : (B : Int) - 1 = ((B - 1 : Nat) : Int) := by omega
 have w2 : IntKind.i64.wrap (((B - 1 : Nat) : Int) * 30103) = (((B - 1) * 30103 : Nat) : Int) := by rw [wrap_i64] <;> omega
 have w3 : (((B - 1) * 30103 : Nat) : Int).tdiv 100000 = (n0 : Int) := by rw [hn0']; exact quoN _ 100000
 have w4 : IntKind.i64.wrap (n0 : Int) = (n0 : Int) := by rw [wrap_i64] <;> omega
 obtain ⟨B1, hB1⟩ : ∃ B1, B1 = B - 1 := ⟨_, rfl⟩
 rw [← hB1] at w1 w2 w3
 obtain ⟨p, hp⟩ : ∃ p, p = B1 * 30103 := ⟨_, rfl⟩
 rw [← hp] at w2 w3
 clear hs b1 hn0' hp hB1 hB
 refine zs0 ?_
 refine Holds.seq ?_
 refine zs2 (ρ := fun _ => [.v true (.bool false)]) (o := by repeat' first|exact hZ|trivial|constructor) (k := ?_)
 refine Holds.condF rfl (Holds.skip ?_)
 refine zs3 (ρ := fun _ => [.v true (.int .i64 (B : Nat))]) (an w1 <| an w2 <| an w3 <| w4) (o := by repeat' first|exact hL|trivial|constructor) (k := ?_)
 refine Holds.next (fun σ => ∀ a w, Rel cx w0 σ a w → Rel cx w0 { nt := 19, env := [(3, .v true (.int .i64 D))], mem := [] } a w) ?_ ?_
 ·refine Holds.loopB (fun n : Nat => { nt := 19, env := [(3, .v true (.int .i64 (n : Nat))), (0, .v false (words x))], mem := [] }) (fun n => n ≤ D) (fun n => D - n) n0 hn0 (fun a w h => Rel.keep [3, 0] [] h) ?_
  intro n hn
  have hT := wTen_ok n (by omega)
  have hl : (digs (10 ^ n)).length < 100000 := by
   have h5 : (10 : Nat) ^ n ≤ 16 ^ n := Nat.pow_le_pow_left (by decide) n
   have := digs_len (v := 10 ^ n) (m := n / 16 + 1) (Nat.lt_of_le_of_lt h5 (by
    rw [show (18446744073709551616 : Nat) = 16 ^ 16 from rfl, ← Nat.pow_mul]
    exact Nat.pow_lt_pow_right (by decide) (by omega)))
   omega
  have hC := wCmp_ok x (digs (10 ^ n)) (by omega) hl ox (digs_ok _).1
  rw [(digs_ok (10 ^ n)).2.2] at hC
  obtain ⟨T, hT'⟩ : ∃ T, T = digs (10 ^ n) := ⟨_, rfl⟩
  obtain ⟨c, hc⟩ : ∃ c, c = cmpN (val x) (10 ^ n) := ⟨_, rfl⟩
  rw [← hT'] at hT hC
  rw [← hc] at hC
  refine Holds.seq ?_
  rcases Nat.lt_or_ge (val x) (10 ^ n) with h | h
  ·have hDn : n = D := Nat.le_antisymm hn (hasD_le hD h)
   have g : ¬ 0 ≤ c := by rw [hc, cmpN, if_pos h]; omega
   refine zs3 (ρ := fun d => if d = 13 then [.v true (words T)] else [.v true (.int .i64 c)]) g (o := by repeat' first|exact hT|exact hC|trivial|constructor) (k := ?_)
   refine Holds.condF rfl (Holds.exit ⟨rfl, fun a w h => ?_⟩)
   have := Rel.keep [3] [] h
   rw [hDn] at this
   exact this
  ·have hlt := hasD_lt hD h
   have g : 0 ≤ c := by rw [hc, cmpN, if_neg (by omega)]; split <;> omega
   have wk : IntKind.i64.wrap ((n : Int) + 1) = ((n + 1 : Nat) : Int) := by rw [wrap_i64] <;> omega
   refine zs3 (ρ := fun d => if d = 13 then [.v true (words T)] else [.v true (.int .i64 c)]) g (o := by repeat' first|exact hT|exact hC|trivial|constructor) (k := ?_)
   refine Holds.condT rfl (Holds.skip ?_)
   refine Holds.block ?_
   refine zr1 wk ?_
   exact ⟨n + 1, (by show n + 1 ≤ D; omega), (show D - (n + 1) < D - n by omega), fun a w h => Rel.keep [3, 0] [] h⟩
 ·intro σ hσ
  refine Holds.from hσ ?_
  refine zs0 ?_
  exact Holds.ret (RetOk.vs rfl (by exact ⟨⟨rfl, id⟩, trivial⟩) rfl)
def bitN (v i : Nat) : Bool := decide (v / 2 ^ i % 2 = 1)
theorem bit_word {x : List Int} (ox : okW x) (i : Nat) : val x / 2 ^ i % 2 = (x.getD (i / 64) 0).toNat / 2 ^ (i % 64) % 2 := by
 obtain ⟨m, hm⟩ : ∃ m, m = i / 64 := ⟨_, rfl⟩
 obtain ⟨r, hr⟩ : ∃ r, r = i % 64 := ⟨_, rfl⟩
 rw [← hm, ← hr]
 have hi : i = 64 * m + r := by omega
 have hP : (2 : Nat) ^ i = 18446744073709551616 ^ m * 2 ^ r := by rw [hi, Nat.pow_add, Nat.pow_mul, show (2 : Nat) ^ 64 = 18446744073709551616 from rfl]
 rw [hP, ← Nat.div_div_eq_div_mul]
 rcases Nat.lt_or_ge m x.length with h | h
 ·have hc := val_cut x m (by omega)
  have hl := val_lt (okW_take ox m)
  rw [List.length_take, Nat.min_eq_left (by omega)] at hl
  have hd : val x / 18446744073709551616 ^ m = val (x.drop m) := by
   rw [hc, Nat.add_comm, Nat.mul_add_div (Nat.pow_pos (by decide)), Nat.div_eq_of_lt hl, Nat.add_zero]
  rw [hd, List.drop_eq_getElem_cons h, val, List.getD_eq_getElem?_getD, List.getElem?_eq_getElem h]
  show (x[m].toNat + 18446744073709551616 * val (x.drop (m + 1))) / 2 ^ r % 2 = x[m].toNat / 2 ^ r % 2
  obtain ⟨k, hk⟩ : ∃ k, 64 - r = k + 1 := ⟨63 - r, by omega⟩
  have hB : 18446744073709551616 = 2 ^ r * (2 * 2 ^ k) := by rw [← Nat.pow_succ', ← Nat.pow_add, show r + (k + 1) = 64 from by omega]
  rw [hB, Nat.mul_assoc, Nat.add_comm, Nat.mul_add_div (Nat.pow_pos (by decide)), Nat.mul_assoc]
  omega
 ·have h0 : val x / 18446744073709551616 ^ m = 0 := by
   refine Nat.div_eq_of_lt (Nat.lt_of_lt_of_le (val_lt ox) (Nat.pow_le_pow_right (by decide) h))
  rw [h0, List.getD_eq_getElem?_getD, List.getElem?_eq_none h]
  simp
theorem and_one64 (k : Nat) (hk : k < 18446744073709551616) : bitI .and .u64 (k : Int) 1 = ((k % 2 : Nat) : Int) := by
 show IntKind.u64.wrap ((BitVec.ofInt IntKind.u64.bits (k : Int) &&& BitVec.ofInt IntKind.u64.bits 1).toNat : Int) = _
 have h1 : (BitVec.ofInt IntKind.u64.bits (k : Int) &&& BitVec.ofInt IntKind.u64.bits 1).toNat = k % 2 := by
  rw [BitVec.toNat_and, BitVec.toNat_ofInt, BitVec.toNat_ofInt]
  have e1 : ((k : Int) % ((2 ^ IntKind.u64.bits : Nat) : Int)).toNat = k := by
   show ((k : Int) % 18446744073709551616).toNat = _
   omega
  have e2 : ((1 : Int) % ((2 ^ IntKind.u64.bits : Nat) : Int)).toNat = 1 := by
   show ((1 : Int) % 18446744073709551616).toNat = _
   decide
  rw [e1, e2, Nat.and_one_is_mod]
 rw [h1]
 exact wrapN _ (by omega)
theorem wBit_ok (x : List Int) (i : Nat) (hx : x.length < 100000) (hi : i < 10000000) (ox : okW x) : FnOk Tryz.prog 140 [.v (words x), .v (.int .i64 i)] [.v true (.bool (bitN (val x) i))] := by
 have hb := bit_word ox i
 have hq : (i : Int).tdiv 64 = ((i / 64 : Nat) : Int) := quoN i 64
 have hr : (i : Int).tmod 64 = ((i % 64 : Nat) : Int) := remN i 64
 obtain ⟨w, hw, hw64⟩ := natW (okW_getD ox (i / 64))
 rw [hw, Int.toNat_natCast] at hb
 unfold bitN
 rw [hb]
 have hs := shrG w (i % 64) (by omega)
 have hle : w / 2 ^ (i % 64) ≤ w := Nat.div_le_self _ _
 have hwr := wrapN (w / 2 ^ (i % 64)) (by omega)
 have ha := and_one64 (w / 2 ^ (i % 64)) (by omega)
 obtain ⟨m, hm⟩ : ∃ m, m = i / 64 := ⟨_, rfl⟩
 obtain ⟨r, hr'⟩ : ∃ r, r = i % 64 := ⟨_, rfl⟩
 obtain ⟨u, hu⟩ : ∃ u, u = w / 2 ^ r := ⟨_, rfl⟩
 have hml : m < 10000000 := by omega
 rw [← hm] at hq hw
 rw [← hr'] at hr hs hwr ha ⊢
 rw [← hu] at hs hwr ha ⊢
 have g0 : (0 : Int) ≤ (i : Int) := by omega
 refine FnOk.of Tryz.func140 rfl rfl fun cx w0 => ?_
 rw [show Tryz.f140.ntmps = 26 from rfl]
 refine zs0 ?_
 by_cases hlt : m < x.length
 ·have g1 : (m : Int) < x.length := by omega
  have gx : x[m]? = some (w : Int) := by rw [get_map hlt, hw]
  rcases Nat.mod_two_eq_zero_or_one u with h | h
  ·rw [h] at ha ⊢
   rw [decide_eq_false (by decide)]
   refine zs1 (an g0 <| an hq <| an hr <| an g1 <| an gx <| an hs <| an hwr <| ha) ?_
   exact Holds.ret (RetOk.vs rfl (by exact ⟨⟨rfl, id⟩, trivial⟩) rfl)
  ·rw [h] at ha ⊢
   rw [decide_eq_true rfl]
   refine zs1 (an g0 <| an hq <| an hr <| an g1 <| an gx <| an hs <| an hwr <| ha) ?_
   exact Holds.ret (RetOk.vs rfl (by exact ⟨⟨rfl, id⟩, trivial⟩) rfl)
 ·have g1 : ¬ (m : Int) < x.length := by omega
  have hw0 : w = 0 := by
   have : x.getD m 0 = 0 := by rw [List.getD_eq_getElem?_getD, List.getElem?_eq_none (by omega)]; rfl
   omega
  rw [show u = 0 from by rw [hu, hw0, Nat.zero_div]]
  rw [decide_eq_false (by decide)]
  refine zs1 (an g0 <| an hq <| an hr <| g1) ?_
  exact Holds.ret (RetOk.vs rfl (by exact ⟨⟨rfl, id⟩, trivial⟩) rfl)
def rstN (x d : Nat) : Int := if x = 0 then 0 else 2 + cmpN (x * 2) d
theorem compare_ok (x d : List Int) (hx : x.length < 2000) (hd : d.length < 2000) (ox : okW x) (od : okW d) : FnOk Tryz.prog 165 [.v (words x), .v (words d)] [.v true (.int .i64 (rstN (val x) (val d)))] := by
 have hZ := wZero_ok x (by omega) ox
 have hS := wShl_ok x 1 (by omega) (by omega) ox
 rw [Nat.pow_one] at hS
 have hl : (digs (val x * 2)).length < 100000 := by
  have h1 := val_lt ox
  have h2 : val x * 2 < 18446744073709551616 ^ (x.length + 1) := by
   rw [Nat.pow_succ]
   have := Nat.mul_lt_mul_of_lt_of_le h1 (show 2 ≤ 18446744073709551616 by decide) (by decide)
   exact this
  have := digs_len h2
  omega
 have hC := wCmp_ok (digs (val x * 2)) d hl (by omega) (digs_ok _).1 od
 rw [(digs_ok (val x * 2)).2.2] at hC
 unfold rstN
 obtain ⟨c, hc⟩ : ∃ c, c = cmpN (val x * 2) (val d) := ⟨_, rfl⟩
 have hcb : -1 ≤ c ∧ c ≤ 1 := by
  rw [hc]; unfold cmpN
  split
  ·omega
  ·split <;> omega
 rw [← hc] at hC ⊢
 obtain ⟨D, hD⟩ : ∃ D, D = digs (val x * 2) := ⟨_, rfl⟩
 rw [← hD] at hS hC
 have hS : FnOk Tryz.prog 88 [.v (words x), .v (.int .i64 1)] [.v true (words D)] := hS
 refine FnOk.of Tryz.func165 rfl rfl fun cx w0 => ?_
 rw [show Tryz.f165.ntmps = 12 from rfl]
 refine zs0 ?_
 refine Holds.seq ?_
 by_cases h0 : val x = 0
 ·rw [decide_eq_true h0] at hZ
  rw [if_pos h0]
  refine zs2 (ρ := fun _ => [.v true (.bool true)]) (o := by repeat' first|exact hZ|trivial|constructor) (k := ?_)
  refine Holds.condT rfl ?_
  refine zs0 ?_
  exact Holds.ret (RetOk.vs rfl (by exact ⟨⟨rfl, id⟩, trivial⟩) rfl)
 ·rw [decide_eq_false h0] at hZ
  rw [if_neg h0]
  have w1 : IntKind.i64.wrap (2 + c) = 2 + c := by rw [wrap_i64] <;> omega
  refine zs2 (ρ := fun _ => [.v true (.bool false)]) (o := by repeat' first|exact hZ|trivial|constructor) (k := ?_)
  refine Holds.condF rfl (Holds.skip ?_)
  refine zs3 (ρ := fun d => if d = 8 then [.v true (words D)] else [.v true (.int .i64 c)]) w1 (o := by repeat' first|exact hS|exact hC|trivial|constructor) (k := ?_)
  exact Holds.ret (RetOk.vs rfl (by exact ⟨⟨rfl, id⟩, trivial⟩) rfl)
def mrN (r : Nat) (neg odd : Bool) (x : Int) : Bool := match r with
 | 0 => decide (x = 3) || (decide (x = 2) && odd)
 | 1 => decide (2 ≤ x)
 | 2 => false
 | 3 => decide (0 < x) && !neg
 | _ => decide (0 < x) && neg
theorem more0_ok (neg odd : Bool) (x : Int) : FnOk Tryz.prog 209 [.v (.bool neg), .v (.bool odd), .v (.int .i64 x)] [.v true (.bool (mrN 0 neg odd x))] := by
 unfold mrN
 refine FnOk.of Tryz.func209 rfl rfl fun cx w0 => ?_
 rw [show Tryz.f209.ntmps = 16 from rfl]
 refine zs0 ?_
 by_cases h3 : x = 3
 ·subst h3
  refine zs0 ?_
  exact Holds.ret (RetOk.vs rfl (by exact ⟨⟨rfl, id⟩, trivial⟩) rfl)
 ·by_cases h2 : x = 2
  ·subst h2
   refine zs0 ?_
   exact Holds.ret (RetOk.vs rfl (by exact ⟨⟨rfl, id⟩, trivial⟩) rfl)
  ·rw [decide_eq_false h3, decide_eq_false h2]
   refine zs1 (an h3 <| h2) ?_
   exact Holds.ret (RetOk.vs rfl (by exact ⟨⟨rfl, id⟩, trivial⟩) rfl)
theorem more1_ok (neg odd : Bool) (x : Int) : FnOk Tryz.prog 210 [.v (.bool neg), .v (.bool odd), .v (.int .i64 x)] [.v true (.bool (mrN 1 neg odd x))] := by
 unfold mrN
 refine FnOk.of Tryz.func210 rfl rfl fun cx w0 => ?_
 rw [show Tryz.f210.ntmps = 9 from rfl]
 refine zs0 ?_
 refine zs0 ?_
 exact Holds.ret (RetOk.vs rfl (by exact ⟨⟨rfl, id⟩, trivial⟩) rfl)
theorem more2_ok (neg odd : Bool) (x : Int) : FnOk Tryz.prog 211 [.v (.bool neg), .v (.bool odd), .v (.int .i64 x)] [.v true (.bool (mrN 2 neg odd x))] := by
 unfold mrN
 refine FnOk.of Tryz.func211 rfl rfl fun cx w0 => ?_
 rw [show Tryz.f211.ntmps = 7 from rfl]
 refine zs0 ?_
 refine zs0 ?_
 exact Holds.ret (RetOk.vs rfl (by exact ⟨⟨rfl, id⟩, trivial⟩) rfl)
theorem more3_ok (neg odd : Bool) (x : Int) : FnOk Tryz.prog 212 [.v (.bool neg), .v (.bool odd), .v (.int .i64 x)] [.v true (.bool (mrN 3 neg odd x))] := by
 unfold mrN
 refine FnOk.of Tryz.func212 rfl rfl fun cx w0 => ?_
 rw [show Tryz.f212.ntmps = 13 from rfl]
 refine zs0 ?_
 by_cases h : 0 < x
 ·rw [decide_eq_true h]
  cases neg
  ·refine zs1 h ?_
   exact Holds.ret (RetOk.vs rfl (by exact ⟨⟨rfl, id⟩, trivial⟩) rfl)
  ·refine zs1 h ?_
   exact Holds.ret (RetOk.vs rfl (by exact ⟨⟨rfl, id⟩, trivial⟩) rfl)
 ·rw [decide_eq_false h]
  refine zs1 h ?_
  exact Holds.ret (RetOk.vs rfl (by exact ⟨⟨rfl, id⟩, trivial⟩) rfl)
theorem more4_ok (neg odd : Bool) (x : Int) : FnOk Tryz.prog 213 [.v (.bool neg), .v (.bool odd), .v (.int .i64 x)] [.v true (.bool (mrN 4 neg odd x))] := by
 unfold mrN
 refine FnOk.of Tryz.func213 rfl rfl fun cx w0 => ?_
 rw [show Tryz.f213.ntmps = 12 from rfl]
 refine zs0 ?_
 by_cases h : 0 < x
 ·rw [decide_eq_true h]
  refine zs1 h ?_
  exact Holds.ret (RetOk.vs rfl (by exact ⟨⟨rfl, id⟩, trivial⟩) rfl)
 ·rw [decide_eq_false h]
  refine zs1 h ?_
  exact Holds.ret (RetOk.vs rfl (by exact ⟨⟨rfl, id⟩, trivial⟩) rfl)
theorem Right_ok (r : Int) : FnOk Tryz.prog 33 [.v (.int .i64 r)] [.v true (.bool (decide (0 ≤ r ∧ r ≤ 4)))] := by
 refine FnOk.of Tryz.func33 rfl rfl fun cx w0 => ?_
 rw [show Tryz.f33.ntmps = 9 from rfl]
 refine zs0 ?_
 by_cases h1 : 0 ≤ r
 ·by_cases h2 : r ≤ 4
  ·rw [decide_eq_true ⟨h1, h2⟩]
   refine zs1 (an h1 <| h2) ?_
   exact Holds.ret (RetOk.vs rfl (by exact ⟨⟨rfl, id⟩, trivial⟩) rfl)
  ·rw [decide_eq_false (fun h => h2 h.2)]
   refine zs1 (an h1 <| h2) ?_
   exact Holds.ret (RetOk.vs rfl (by exact ⟨⟨rfl, id⟩, trivial⟩) rfl)
 ·rw [decide_eq_false (fun h => h1 h.1)]
  refine zs1 h1 ?_
  exact Holds.ret (RetOk.vs rfl (by exact ⟨⟨rfl, id⟩, trivial⟩) rfl)
def upN (r : Nat) (neg : Bool) (q : Nat) (x : Int) : Nat := if mrN r neg (bitN q 0) x = true then q + 1 else q
theorem more_ok (r : Nat) (hr : r ≤ 4) (neg odd : Bool) (x : Int) : FnOk Tryz.prog (209 + r) [.v (.bool neg), .v (.bool odd), .v (.int .i64 x)] [.v true (.bool (mrN r neg odd x))] := by
 match r, hr with
 | 0, _ => exact more0_ok neg odd x
 | 1, _ => exact more1_ok neg odd x
 | 2, _ => exact more2_ok neg odd x
 | 3, _ => exact more3_ok neg odd x
 | 4, _ => exact more4_ok neg odd x
theorem up_ok (r : Nat) (hr : r ≤ 4) (neg : Bool) (q : List Int) (x : Int) (hq : q.length < 10000) (oq : okW q) : FnOk Tryz.prog 83 [.v (.int .i64 r), .v (.bool neg), .v (words q), .v (.int .i64 x)] [.v true (words (digs (upN r neg (val q) x)))] := by
 have hB := wBit_ok q 0 (by omega) (by omega) oq
 have hM := more_ok r hr neg (bitN (val q) 0) x
 have hA := wAdd_ok q [1] (by omega) (by simp) oq (by intro n hn; simp at hn; omega)
 rw [show val [(1 : Int)] = 1 from by decide] at hA
 have hA : FnOk Tryz.prog 137 [.v (words q), .v (.sl 1 [.int .u64 1])] [.v true (words (digs (val q + 1)))] := hA
 have hT := wTrim_ok q (by omega) oq
 unfold upN
 obtain ⟨b, hb⟩ : ∃ b, b = bitN (val q) 0 := ⟨_, rfl⟩
 rw [← hb] at hB hM ⊢
 obtain ⟨m, hm⟩ : ∃ m, m = mrN r neg b x := ⟨_, rfl⟩
 rw [← hm] at hM ⊢
 have g0 : (0 : Int) ≤ (r : Int) := by omega
 have g1 : (r : Int) < 5 := by omega
 have hB : FnOk Tryz.prog 140 [.v (words q), .v (.int .i64 0)] [.v true (.bool b)] := hB
 have gf : ([V.fnv 209, V.fnv 210, V.fnv 211, V.fnv 212, V.fnv 213] : List V)[r]? = some (V.fnv (209 + r)) := by
  match r, hr with
  | 0, _ => rfl
  | 1, _ => rfl
  | 2, _ => rfl
  | 3, _ => rfl
  | 4, _ => rfl
 have hoff : V.off ([V.fnv 209, V.fnv 210, V.fnv 211, V.fnv 212, V.fnv 213] : List V) r = r := by
  match r, hr with
  | 0, _ => rfl
  | 1, _ => rfl
  | 2, _ => rfl
  | 3, _ => rfl
  | 4, _ => rfl
 have hG0 : lookG GLOB 0 = some (.agg [V.fnv 209, V.fnv 210, V.fnv 211, V.fnv 212, V.fnv 213]) := rfl
 obtain ⟨fs, hfs⟩ : ∃ fs, fs = ([V.fnv 209, V.fnv 210, V.fnv 211, V.fnv 212, V.fnv 213] : List V) := ⟨_, rfl⟩
 rw [← hfs] at gf hoff hG0
 obtain ⟨f, hf⟩ : ∃ f, f = 209 + r := ⟨_, rfl⟩
 rw [← hf] at gf hM
 refine FnOk.of Tryz.func83 rfl rfl fun cx w0 => ?_
 rw [show Tryz.f83.ntmps = 22 from rfl]
 refine zs0 ?_
 refine Holds.seq ?_
 refine zd3 [] (ρ := fun d => if d = 14 then [.v true (.bool b)] else [.v true (.bool m)]) (an g0 <| an g1 <| an gf <| an hG0 <| hoff) (o := by repeat' first|exact hB|exact hM|trivial|constructor) (k := ?_)
 cases m with
 | true =>
   rw [if_pos rfl]
   refine Holds.condT rfl ?_
   refine zs2 (ρ := fun _ => [.v true (words (digs (val q + 1)))]) (o := by repeat' first|exact hA|trivial|constructor) (k := ?_)
   exact Holds.ret (RetOk.vs rfl (by exact ⟨⟨rfl, id⟩, trivial⟩) rfl)
 | false =>
   rw [if_neg (by simp)]
   refine Holds.condF rfl (Holds.skip ?_)
   refine zs2 (ρ := fun _ => [.v true (words (digs (val q)))]) (o := by repeat' first|exact hT|trivial|constructor) (k := ?_)
   exact Holds.ret (RetOk.vs rfl (by exact ⟨⟨rfl, id⟩, trivial⟩) rfl)
def grB (r : Nat) (neg : Bool) : Bool := match r with
 | 2 => true
 | 3 => neg
 | 4 => !neg
 | _ => false
theorem greatest_ok (r : Nat) (hr : r ≤ 4) (neg : Bool) : FnOk Tryz.prog 84 [.v (.int .i64 r), .v (.bool neg)] [.v true (.bool (grB r neg))] := by
 refine FnOk.of Tryz.func84 rfl rfl fun cx w0 => ?_
 rw [show Tryz.f84.ntmps = 22 from rfl]
 match r, hr with
 | 0, _ =>
   refine zs0 ?_
   refine zs0 ?_
   exact Holds.ret (RetOk.vs rfl (by exact ⟨⟨rfl, id⟩, trivial⟩) rfl)
 | 1, _ =>
   refine zs0 ?_
   refine zs0 ?_
   exact Holds.ret (RetOk.vs rfl (by exact ⟨⟨rfl, id⟩, trivial⟩) rfl)
 | 2, _ =>
   refine zs0 ?_
   refine zs0 ?_
   exact Holds.ret (RetOk.vs rfl (by exact ⟨⟨rfl, id⟩, trivial⟩) rfl)
 | 3, _ =>
   cases neg
   ·refine zs0 ?_
    refine zs0 ?_
    exact Holds.ret (RetOk.vs rfl (by exact ⟨⟨rfl, id⟩, trivial⟩) rfl)
   ·refine zs0 ?_
    refine zs0 ?_
    exact Holds.ret (RetOk.vs rfl (by exact ⟨⟨rfl, id⟩, trivial⟩) rfl)
 | 4, _ =>
   refine zs0 ?_
   refine zs0 ?_
   exact Holds.ret (RetOk.vs rfl (by exact ⟨⟨rfl, id⟩, trivial⟩) rfl)
def ctxV (p g r : Int) : V := .agg [.int .i64 p, .int .i64 g, .int .i64 r]
def CtxOk (p g r : Int) : Prop := (1 ≤ p ∧ p ≤ 400) ∧ (1 ≤ g ∧ g ≤ 6000) ∧ 0 ≤ r ∧ r ≤ 4
theorem tiny_ok (p g r : Int) (h : CtxOk p g r) : FnOk Tryz.prog 111 [.v (ctxV p g r)] [.v true (.int .i64 (1 - g - (p - 1)))] := by
 obtain ⟨⟨h1, h2⟩, ⟨h3, h4⟩, _⟩ := h
 have w1 : IntKind.i64.wrap (1 - g) = 1 - g := by rw [wrap_i64] <;> omega
 have w2 : IntKind.i64.wrap (p - 1) = p - 1 := by rw [wrap_i64] <;> omega
 have w3 : IntKind.i64.wrap (1 - g - (p - 1)) = 1 - g - (p - 1) := by rw [wrap_i64] <;> omega
 unfold ctxV
 refine FnOk.of Tryz.func111 rfl rfl fun cx w0 => ?_
 rw [show Tryz.f111.ntmps = 10 from rfl]
 refine zs0 ?_
 refine zs1 (an w1 <| an w2 <| w3) ?_
 exact Holds.ret (RetOk.vs rfl (by exact ⟨⟨rfl, id⟩, trivial⟩) rfl)
set_option maxHeartbeats 2000000 in
theorem dCheck_ok (p g r : Int) : FnOk Tryz.prog 54 [.v (ctxV p g r)] [.v true (.int .i64 (if (1 ≤ p ∧ p ≤ 400) ∧ (1 ≤ g ∧ g ≤ 6000) ∧ 0 ≤ r ∧ r ≤ 4 then 0 else 220))] := by
 have hR := Right_ok r
 obtain ⟨b, hb⟩ : ∃ b, b = decide (0 ≤ r ∧ r ≤ 4) := ⟨_, rfl⟩
 rw [← hb] at hR
 have hbi : b = true ↔ (0 ≤ r ∧ r ≤ 4) := by rw [hb]; exact decide_eq_true_iff
 unfold ctxV
 refine FnOk.of Tryz.func54 rfl rfl fun cx w0 => ?_
 rw [show Tryz.f54.ntmps = 27 from rfl]
 refine zs0 ?_
 refine Holds.seq ?_
 by_cases h1 : p < 1
 ·rw [if_neg (by omega)]
  refine zs1 h1 ?_
  refine Holds.condT rfl ?_
  refine zs0 ?_
  exact Holds.ret (RetOk.vs rfl (by exact ⟨⟨rfl, id⟩, trivial⟩) rfl)
 by_cases h2 : 400 < p
 ·rw [if_neg (by omega)]
  refine zs1 (an h1 <| h2) ?_
  refine Holds.condT rfl ?_
  refine zs0 ?_
  exact Holds.ret (RetOk.vs rfl (by exact ⟨⟨rfl, id⟩, trivial⟩) rfl)
 by_cases h3 : g < 1
 ·rw [if_neg (by omega)]
  refine zs1 (an h1 <| an h2 <| h3) ?_
  refine Holds.condT rfl ?_
  refine zs0 ?_
  exact Holds.ret (RetOk.vs rfl (by exact ⟨⟨rfl, id⟩, trivial⟩) rfl)
 by_cases h4 : 6000 < g
 ·rw [if_neg (by omega)]
  refine zs1 (an h1 <| an h2 <| an h3 <| h4) ?_
  refine Holds.condT rfl ?_
  refine zs0 ?_
  exact Holds.ret (RetOk.vs rfl (by exact ⟨⟨rfl, id⟩, trivial⟩) rfl)
 cases b with
 | true =>
   have := hbi.1 rfl
   rw [if_pos ⟨⟨by omega, by omega⟩, ⟨by omega, by omega⟩, this⟩]
   refine zs3 (ρ := fun _ => [.v true (.bool true)]) (an h1 <| an h2 <| an h3 <| h4) (o := by repeat' first|exact hR|trivial|constructor) (k := ?_)
   refine Holds.condF rfl (Holds.skip ?_)
   refine zs0 ?_
   exact Holds.ret (RetOk.vs rfl (by exact ⟨⟨rfl, id⟩, trivial⟩) rfl)
 | false =>
   rw [if_neg (fun h => by have := hbi.2 h.2.2; cases this)]
   refine zs3 (ρ := fun _ => [.v true (.bool false)]) (an h1 <| an h2 <| an h3 <| h4) (o := by repeat' first|exact hR|trivial|constructor) (k := ?_)
   refine Holds.condT rfl ?_
   refine zs0 ?_
   exact Holds.ret (RetOk.vs rfl (by exact ⟨⟨rfl, id⟩, trivial⟩) rfl)
structure SbI (X Y W : List Int) (bo : Nat) : Prop where
 le : W.length ≤ X.length
 ok : okW W
 b1 : bo ≤ 1
 all : val W + val (Y.take W.length) = val (X.take W.length) + 18446744073709551616 ^ W.length * bo
theorem SbI.step {X Y W : List Int} {bo k a b s d : Nat} (h : SbI X Y W bo) (hk : W.length = k) (hkX : k < X.length) (ha : X.getD k 0 = (a : Int)) (hb : Y.getD k 0 = (b : Int)) (hs : s + b + bo = a + 18446744073709551616 * d) (hs64 : s < 18446744073709551616) (hd : d ≤ 1) : SbI X Y (W ++ [(s : Int)]) d := by
 have hl : (W ++ [(s : Int)]).length = k + 1 := by rw [List.length_append, hk]; rfl
 have hall := h.all
 rw [hk] at hall
 refine ⟨by rw [hl]; exact hkX, okW_snoc h.ok hs64, hd, ?_⟩
 rw [hl, val_takeN, val_takeN, ha, hb, Int.toNat_natCast, Int.toNat_natCast, val_snoc, hk, Nat.pow_succ]
 obtain ⟨P, hP⟩ : ∃ P, P = 18446744073709551616 ^ k := ⟨_, rfl⟩
 rw [← hP] at hall ⊢
 have e := congrArg (P * ·) hs
 simp only [Nat.mul_add] at e
 rw [Nat.mul_assoc]
 omega
set_option maxHeartbeats 4000000 in
theorem wSub_ok (x y : List Int) (hx : x.length < 10000) (hy : y.length < 10000) (ox : okW x) (oy : okW y) (h : val y ≤ val x) : FnOk Tryz.prog 144 [.v (words x), .v (words y)] [.v true (words (digs (val x - val y)))] := by
 have h1 := view_ok x (by omega)
 have h2 := view_ok y (by omega)
 have lx := trimL_len x
 have ly := trimL_len y
 have o1 := trimL_ok ox
 have o2 := trimL_ok oy
 have hlen : (trimL y).length ≤ (trimL x).length := by
  rcases Nat.lt_or_ge (trimL x).length (trimL y).length with h3 | h3
  ·have := trim_less ox oy h3; omega
  ·exact h3
 rw [← val_trim x, ← val_trim y] at h ⊢
 obtain ⟨X, hX⟩ : ∃ X, X = trimL x := ⟨_, rfl⟩
 obtain ⟨Y, hY⟩ : ∃ Y, Y = trimL y := ⟨_, rfl⟩
 rw [← hX] at h1 lx o1 hlen h ⊢
 rw [← hY] at h2 ly o2 hlen h ⊢
 clear hX hY ox oy
 obtain ⟨D, hD⟩ : ∃ D, D = digs (val X - val Y) := ⟨_, rfl⟩
 rw [← hD]
 refine FnOk.of Tryz.func144 rfl rfl fun cx w0 => ?_
 rw [show Tryz.f144.ntmps = 45 from rfl]
 refine zs0 ?_
 refine zs2 (ρ := fun d => if d = 10 then [.v false (words X)] else [.v false (words Y)]) (o := by repeat' first|exact h1|exact h2|trivial|constructor) (k := ?_)
 refine Holds.from (σ' := { nt := 45, env := [(0, .v false (words X)), (1, .v false (words Y))], mem := [] }) (fun a w h => Rel.keep [0, 1] [] h) ?_
 refine zs1 tby76 ?_
 refine zs0 ?_
 refine Holds.next (fun σ => ∃ W, SbI X Y W 0 ∧ W.length = X.length ∧ ∀ a w, Rel cx w0 σ a w → Rel cx w0 { nt := 45, env := [(5, .own 15 0 X.length)], mem := [(15, .buf 76 1 true (W.map fun n => .int .u64 n))] } a w) ?_ ?_
 ·refine zs0 ?_
  refine Holds.loopB (fun q : List Int × Nat => { nt := 45, env := [(18, .v true (.int .i64 (q.1.length : Nat))), (17, .v true (.int .i64 (X.length : Nat))), (6, .v true (.int .u64 (q.2 : Nat))), (5, .own 15 0 X.length), (0, .v false (words X)), (1, .v false (words Y))], mem := [(15, .buf 76 1 true ((q.1 ++ List.replicate (X.length - q.1.length) 0).map fun n => .int .u64 n))] })
   (fun q => SbI X Y q.1 q.2) (fun q => X.length - q.1.length) ([], 0) ⟨Nat.zero_le _, (fun n hn => by cases hn), by show 0 ≤ 1; omega, by simp [val]⟩ (fun a w h => by
     have := Rel.keep [18, 17, 6, 5, 0, 1] [15] h
     simp only [List.nil_append, List.length_nil, Nat.sub_zero, List.map_replicate]
     exact this) ?_
  rintro ⟨W, bo⟩ hI
  simp only at hI ⊢
  obtain ⟨k, hk⟩ : ∃ k, k = W.length := ⟨_, rfl⟩
  have hle := hI.le
  rw [← hk]
  by_cases hend : k = X.length
  ·have g : ¬ (k : Int) < X.length := by omega
   have hbo : bo = 0 := by
    have hall := hI.all
    rw [← hk, hend, List.take_length, List.take_of_length_le hlen] at hall
    have hb := val_lt hI.ok
    rw [← hk, hend] at hb
    rcases Nat.eq_zero_or_pos bo with h0 | h0
    ·exact h0
    ·have := Nat.mul_le_mul_left (18446744073709551616 ^ X.length) h0
     omega
   subst hbo
   refine zs1 g ?_
   refine Holds.seq (Holds.condF rfl (Holds.exit ⟨rfl, W, hI, by omega, fun a w h => ?_⟩))
   have := Rel.keep [5] [15] h
   rw [hend, Nat.sub_self, List.replicate_zero, List.append_nil] at this
   exact this
  ·have g : (k : Int) < X.length := by omega
   obtain ⟨a, ha, ha64⟩ := natW (okW_getD o1 k)
   obtain ⟨b, hb, hb64⟩ := natW (okW_getD o2 k)
   have gX : X[k]? = some (a : Int) := by rw [get_map (by omega), ha]
   obtain ⟨s, d, hs, hs64, hd1, fS⟩ := sub64N a b bo ha64 hb64 hI.b1
   have hnext := hI.step hk.symm (by omega) ha hb hs hs64 hd1
   obtain ⟨C, hC⟩ : ∃ C, C = W ++ List.replicate (X.length - k) (0 : Int) := ⟨_, rfl⟩
   have lC : C.length = X.length := by rw [hC, List.length_append, List.length_replicate]; omega
   have gC := get_map (l := C) (i := k) (by omega)
   have hset : C.set k (s : Int) = (W ++ [(s : Int)]) ++ List.replicate (X.length - (k + 1)) (0 : Int) := by
    rw [hC, List.set_append_right _ _ (by omega), ← hk, Nat.sub_self, show X.length - k = (X.length - (k + 1)) + 1 from by omega, List.replicate_succ, List.set_cons_zero, List.append_assoc]; rfl
   have lN : (W ++ [(s : Int)]).length = k + 1 := by rw [List.length_append, ← hk]; rfl
   have wk : IntKind.i64.wrap ((k : Int) + 1) = ((k + 1 : Nat) : Int) := by rw [wrap_i64] <;> omega
   rw [← hC]
   clear hI hs
   refine zs1 g ?_
   refine Holds.seq (Holds.condT rfl (Holds.skip ?_))
   show Holds _ _ _ _ _ _ _
   refine Holds.next (fun σ => ∀ x w, Rel cx w0 σ x w → Rel cx w0 { nt := 45, env := [(18, .v true (.int .i64 (k : Nat))), (17, .v true (.int .i64 (X.length : Nat))), (6, .v true (.int .u64 (d : Nat))), (5, .own 15 0 X.length), (0, .v false (words X)), (1, .v false (words Y))], mem := [(15, .buf 76 1 true ((C.set k (s : Int)).map fun n => .int .u64 n))] } x w) ?_ ?_
   ·refine Holds.blockN ?_
    refine zs0 ?_
    refine zs0 ?_
    refine Holds.next (fun σ => ∀ x w, Rel cx w0 σ x w → Rel cx w0 { nt := 45, env := [(7, .v true (.int .i64 (k : Nat))), (8, .v true (.int .u64 (b : Nat))), (18, .v true (.int .i64 (k : Nat))), (17, .v true (.int .i64 (X.length : Nat))), (6, .v true (.int .u64 (bo : Nat))), (5, .own 15 0 X.length), (0, .v false (words X)), (1, .v false (words Y))], mem := [(15, .buf 76 1 true (C.map fun n => .int .u64 n))] } x w) ?_ ?_
    ·by_cases hkY : k < Y.length
     ·have g2 : (k : Int) < Y.length := by omega
      have gY : Y[k]? = some (b : Int) := by rw [get_map hkY, hb]
      refine zs1 g2 ?_
      refine Holds.condT rfl ?_
      refine zr1 (an gY <| g2) ?_
      exact fun x w h => Rel.keep [7, 8, 18, 17, 6, 5, 0, 1] [15] h
     ·have g2 : ¬ (k : Int) < Y.length := by omega
      have hb0 : b = 0 := by
       have : Y.getD k 0 = 0 := by rw [List.getD_eq_getElem?_getD, List.getElem?_eq_none (by omega)]; rfl
       omega
      subst hb0
      refine zs1 g2 ?_
      exact Holds.condF rfl (Holds.skip fun x w h => Rel.keep [7, 8, 18, 17, 6, 5, 0, 1] [15] h)
    ·intro σ hσ
     refine Holds.from hσ ?_
     refine zr3 (ρ := fun _ => [.v true (.int .u64 s), .v true (.int .u64 d)]) (an gX <| an gC <| lC) (o := by repeat' first|exact fS|trivial|constructor) (k := ?_)
     intro x w h
     have := Rel.keep [18, 17, 6, 5, 0, 1] [15] h
     rw [List.map_set]
     exact this
   ·intro σ hσ
    refine Holds.from hσ ?_
    rw [hset]
    refine zr1 wk ?_
    refine ⟨(W ++ [(s : Int)], d), hnext, (show X.length - (W ++ [(s : Int)]).length < X.length - W.length by rw [lN]; omega), fun x w h => ?_⟩
    have := Rel.keep [18, 17, 6, 5, 0, 1] [15] h
    simp only [lN]
    exact this
 ·rintro σ ⟨W, hI, hW, hσ⟩
  refine Holds.from hσ ?_
  have hall := hI.all
  rw [hW, List.take_length, List.take_of_length_le hlen, Nat.mul_zero, Nat.add_zero] at hall
  have hT := wTrim_ok W (by omega) hI.ok
  rw [show val W = val X - val Y from by omega, ← hD] at hT
  have htk : List.take X.length (List.map (fun n => V.int .u64 n) W) = List.map (fun n => V.int .u64 n) W := List.take_of_length_le (by rw [List.length_map]; omega)
  refine zs3 (ρ := fun _ => [.v true (words D)]) htk (o := by repeat' first|exact hT|trivial|constructor) (k := ?_)
  exact Holds.ret (RetOk.vs rfl (by exact ⟨⟨rfl, id⟩, trivial⟩) rfl)
theorem Least_ok (p g r : Int) (h : CtxOk p g r) : FnOk Tryz.prog 120 [.v (ctxV p g r)] [.v true (.int .i64 (1 - g))] := by
 obtain ⟨⟨h1, h2⟩, ⟨h3, h4⟩, _⟩ := h
 have w1 : IntKind.i64.wrap (1 - g) = 1 - g := by rw [wrap_i64] <;> omega
 unfold ctxV
 refine FnOk.of Tryz.func120 rfl rfl fun cx w0 => ?_
 rw [show Tryz.f120.ntmps = 6 from rfl]
 refine zs0 ?_
 refine zs1 w1 ?_
 exact Holds.ret (RetOk.vs rfl (by exact ⟨⟨rfl, id⟩, trivial⟩) rfl)
theorem rTiny_ok (p g r : Int) (h : CtxOk p g r) : FnOk Tryz.prog 67 [.v (ctxV p g r)] [.v true (.int .i64 (1 - g - (p - 1)))] := by
 have hL := Least_ok p g r h
 obtain ⟨⟨h1, h2⟩, ⟨h3, h4⟩, _⟩ := h
 have w2 : IntKind.i64.wrap (p - 1) = p - 1 := by rw [wrap_i64] <;> omega
 have w3 : IntKind.i64.wrap (1 - g - (p - 1)) = 1 - g - (p - 1) := by rw [wrap_i64] <;> omega
 unfold ctxV at hL ⊢
 refine FnOk.of Tryz.func67 rfl rfl fun cx w0 => ?_
 rw [show Tryz.f67.ntmps = 9 from rfl]
 refine zs0 ?_
 refine zd3 [] (ρ := fun _ => [.v true (.int .i64 (1 - g))]) (an w2 <| w3) (o := by repeat' first|exact hL|trivial|constructor) (k := ?_)
 exact Holds.ret (RetOk.vs rfl (by exact ⟨⟨rfl, id⟩, trivial⟩) rfl)
theorem Known_ok (r : Int) : FnOk Tryz.prog 43 [.v (.int .i64 r)] [.v true (.bool (decide (0 ≤ r ∧ r ≤ 4)))] := by
 refine FnOk.of Tryz.func43 rfl rfl fun cx w0 => ?_
 rw [show Tryz.f43.ntmps = 9 from rfl]
 refine zs0 ?_
 by_cases h1 : 0 ≤ r
 ·by_cases h2 : r ≤ 4
  ·rw [decide_eq_true ⟨h1, h2⟩]
   refine zs1 (an h1 <| h2) ?_
   exact Holds.ret (RetOk.vs rfl (by exact ⟨⟨rfl, id⟩, trivial⟩) rfl)
  ·rw [decide_eq_false (fun h => h2 h.2)]
   refine zs1 (an h1 <| h2) ?_
   exact Holds.ret (RetOk.vs rfl (by exact ⟨⟨rfl, id⟩, trivial⟩) rfl)
 ·rw [decide_eq_false (fun h => h1 h.1)]
  refine zs1 h1 ?_
  exact Holds.ret (RetOk.vs rfl (by exact ⟨⟨rfl, id⟩, trivial⟩) rfl)
def finV (inf : Bool) (m : Nat) (e : Int) : V := .agg [.bool inf, words (digs m), .int .i64 e]
def ovV (p g : Int) (r : Nat) (neg : Bool) : V := if grB r neg = true then finV false (10 ^ p.toNat - 1) (g - p + 1) else finV true 0 0
theorem over_ok (p g : Int) (r : Nat) (neg : Bool) (h : CtxOk p g r) : FnOk Tryz.prog 164 [.v (.int .i64 p), .v (.int .i64 g), .v (.int .i64 r), .v (.bool neg)] [.v true (ovV p g r neg), .v true (.int .i64 5)] := by
 obtain ⟨⟨h1, h2⟩, ⟨h3, h4⟩, h5, h6⟩ := h
 have hG := greatest_ok r (by omega) neg
 obtain ⟨P, rfl⟩ := Int.eq_ofNat_of_zero_le (show 0 ≤ p by omega)
 have hT := wTen_ok P (by omega)
 have hl : (digs (10 ^ P)).length < 1000 := by
  have h5 : (10 : Nat) ^ P ≤ 16 ^ P := Nat.pow_le_pow_left (by decide) P
  have := digs_len (v := 10 ^ P) (m := P / 16 + 1) (Nat.lt_of_le_of_lt h5 (by
   rw [show (18446744073709551616 : Nat) = 16 ^ 16 from rfl, ← Nat.pow_mul]
   exact Nat.pow_lt_pow_right (by decide) (by omega)))
  omega
 have hS := wSub_ok (digs (10 ^ P)) [1] (by omega) (by simp) (digs_ok _).1 (by intro n hn; simp at hn; omega) (by rw [(digs_ok _).2.2, show val [(1 : Int)] = 1 from by decide]; exact Nat.pow_pos (by decide))
 rw [(digs_ok _).2.2, show val [(1 : Int)] = 1 from by decide] at hS
 have hS : FnOk Tryz.prog 144 [.v (words (digs (10 ^ P))), .v (.sl 1 [.int .u64 1])] [.v true (words (digs (10 ^ P - 1)))] := hS
 have hT : FnOk Tryz.prog 41 [.v (.int .i64 (P : Int))] [.v true (words (digs (10 ^ P)))] := hT
 have w1 : IntKind.i64.wrap (g - (P : Int)) = g - (P : Int) := by rw [wrap_i64] <;> omega
 have w2 : IntKind.i64.wrap (g - (P : Int) + 1) = g - (P : Int) + 1 := by rw [wrap_i64] <;> omega
 unfold ovV finV
 rw [Int.toNat_natCast]
 obtain ⟨b, hb⟩ : ∃ b, b = grB r neg := ⟨_, rfl⟩
 obtain ⟨T, hT'⟩ : ∃ T, T = digs (10 ^ P) := ⟨_, rfl⟩
 obtain ⟨U, hU⟩ : ∃ U, U = digs (10 ^ P - 1) := ⟨_, rfl⟩
 rw [← hb] at hG ⊢
 rw [← hT'] at hT hS
 rw [← hU] at hS ⊢
 refine FnOk.of Tryz.func164 rfl rfl fun cx w0 => ?_
 rw [show Tryz.f164.ntmps = 23 from rfl]
 refine zs0 ?_
 refine Holds.seq ?_
 cases b with
 | true =>
   rw [if_pos rfl]
   refine zs2 (ρ := fun _ => [.v true (.bool true)]) (o := by repeat' first|exact hG|trivial|constructor) (k := ?_)
   refine Holds.condT rfl ?_
   refine zs3 (ρ := fun d => if d = 14 then [.v true (words T)] else [.v true (words U)]) (an w1 <| w2) (o := by repeat' first|exact hT|exact hS|trivial|constructor) (k := ?_)
   exact Holds.ret (RetOk.vs rfl (by exact ⟨⟨rfl, id⟩, ⟨rfl, id⟩, trivial⟩) rfl)
 | false =>
   rw [if_neg (by simp)]
   refine zs2 (ρ := fun _ => [.v true (.bool false)]) (o := by repeat' first|exact hG|trivial|constructor) (k := ?_)
   refine Holds.condF rfl (Holds.skip ?_)
   refine zs0 ?_
   exact Holds.ret (RetOk.vs rfl (by exact ⟨⟨rfl, id⟩, ⟨rfl, id⟩, trivial⟩) rfl)
set_option maxHeartbeats 2000000 in
theorem rRight_ok (p g r : Int) : FnOk Tryz.prog 113 [.v (ctxV p g r)] [.v true (.bool (decide ((1 ≤ p ∧ p ≤ 400) ∧ (1 ≤ g ∧ g ≤ 6000) ∧ 0 ≤ r ∧ r ≤ 4)))] := by
 have hR := Known_ok r
 obtain ⟨b, hb⟩ : ∃ b, b = decide (0 ≤ r ∧ r ≤ 4) := ⟨_, rfl⟩
 rw [← hb] at hR
 have hbi : b = true ↔ (0 ≤ r ∧ r ≤ 4) := by rw [hb]; exact decide_eq_true_iff
 unfold ctxV
 refine FnOk.of Tryz.func113 rfl rfl fun cx w0 => ?_
 rw [show Tryz.f113.ntmps = 26 from rfl]
 refine zs0 ?_
 by_cases h1 : 1 ≤ p
 ·by_cases h2 : p ≤ 400
  ·by_cases h3 : 1 ≤ g
   ·by_cases h4 : g ≤ 6000
    ·cases b with
     | true =>
       rw [decide_eq_true ⟨⟨h1, h2⟩, ⟨h3, h4⟩, hbi.1 rfl⟩]
       refine zs3 (ρ := fun _ => [.v true (.bool true)]) (an h1 <| an h2 <| an h3 <| h4) (o := by repeat' first|exact hR|trivial|constructor) (k := ?_)
       exact Holds.ret (RetOk.vs rfl (by exact ⟨⟨rfl, id⟩, trivial⟩) rfl)
     | false =>
       rw [decide_eq_false (fun h => by have := hbi.2 h.2.2; cases this)]
       refine zs3 (ρ := fun _ => [.v true (.bool false)]) (an h1 <| an h2 <| an h3 <| h4) (o := by repeat' first|exact hR|trivial|constructor) (k := ?_)
       exact Holds.ret (RetOk.vs rfl (by exact ⟨⟨rfl, id⟩, trivial⟩) rfl)
    ·rw [decide_eq_false (fun h => h4 h.2.1.2)]
     refine zs1 (an h1 <| an h2 <| an h3 <| h4) ?_
     exact Holds.ret (RetOk.vs rfl (by exact ⟨⟨rfl, id⟩, trivial⟩) rfl)
   ·rw [decide_eq_false (fun h => h3 h.2.1.1)]
    refine zs1 (an h1 <| an h2 <| h3) ?_
    exact Holds.ret (RetOk.vs rfl (by exact ⟨⟨rfl, id⟩, trivial⟩) rfl)
  ·rw [decide_eq_false (fun h => h2 h.1.2)]
   refine zs1 (an h1 <| h2) ?_
   exact Holds.ret (RetOk.vs rfl (by exact ⟨⟨rfl, id⟩, trivial⟩) rfl)
 ·rw [decide_eq_false (fun h => h1 h.1.1)]
  refine zs1 h1 ?_
  exact Holds.ret (RetOk.vs rfl (by exact ⟨⟨rfl, id⟩, trivial⟩) rfl)
theorem Ctx_ok (p g r : Int) : FnOk Tryz.prog 23 [.v (ctxV p g r)] [.v true (ctxV p g r)] := by
 unfold ctxV
 refine FnOk.of Tryz.func23 rfl rfl fun cx w0 => ?_
 rw [show Tryz.f23.ntmps = 10 from rfl]
 refine zs0 ?_
 refine zs0 ?_
 exact Holds.ret (RetOk.vs rfl (by exact ⟨⟨rfl, id⟩, trivial⟩) rfl)
set_option maxHeartbeats 2000000 in
theorem rPow_ok (x : List Int) (K c : Nat) (ox : okW x) (hx : x.length < 1000) (hc : val x < 2 ^ c) (hK : K * c < 300000) (hc1 : 1 ≤ c) : FnOk Tryz.prog 162 [.v (words x), .v (.int .i64 K)] [.v true (words (digs (val x ^ K)))] := by
 have hKl : K < 300000 := Nat.lt_of_le_of_lt (Nat.le_mul_of_pos_right K hc1) hK
 have len : ∀ {m e : Nat}, m < 2 ^ e → e ≤ 1000000 → (digs m).length < 30000 := fun {m e} h1 h2 => by
  have : m < 18446744073709551616 ^ (e / 64 + 1) := by
   rw [show (18446744073709551616 : Nat) = 2 ^ 64 from rfl, ← Nat.pow_mul]
   exact Nat.lt_of_lt_of_le h1 (Nat.pow_le_pow_right (by decide) (by omega))
  have := digs_len this
  omega
 have hTr := rTrim_ok x (by omega) ox
 have h1w : FnOk Tryz.prog 30 [.v (.int .u64 1)] [.v true (words [1])] := by
  have := FromWord_ok 1 (by decide)
  rw [show digs 1 = [1] from by decide] at this
  exact this
 obtain ⟨T, hT⟩ : ∃ T, T = val x ^ K := ⟨_, rfl⟩
 rw [← hT]
 refine FnOk.of Tryz.func162 rfl rfl fun cx w0 => ?_
 rw [show Tryz.f162.ntmps = 25 from rfl]
 refine zs0 ?_
 refine zs2 (ρ := fun _ => [.v true (words [1])]) (o := by repeat' first|exact h1w|trivial|constructor) (k := ?_)
 refine Holds.next (fun σ => ∀ a w, Rel cx w0 σ a w → Rel cx w0 { nt := 25, env := [(5, .v true (words (digs T)))], mem := [] } a w) ?_ ?_
 ·refine zs2 (ρ := fun _ => [.v true (words (digs (val x)))]) (o := by repeat' first|exact hTr|trivial|constructor) (k := ?_)
  refine Holds.loopB (fun s : Nat × Nat × List Int × Bool => { nt := 25, env := [(1, .v true (.int .i64 (s.1 : Nat))), (5, .v true (words (digs s.2.1))), (0, .v s.2.2.2 (words s.2.2.1))], mem := [] })
   (fun s => s.1 ≤ K ∧ okW s.2.2.1 ∧ s.2.2.1.length < 30000 ∧ s.2.1 * val s.2.2.1 ^ s.1 = T ∧ ∃ e, 1 ≤ e ∧ val s.2.2.1 < 2 ^ e ∧ s.1 * e ≤ K * c ∧ s.2.1 < 2 ^ (K * c - s.1 * e + 1) ∧ (s.1 = 0 ∨ e ≤ K * c)) (fun s => s.1) (K, 1, digs (val x), true)
   ⟨Nat.le_refl _, (digs_ok _).1, (by have := digs_len (val_lt ox); show (digs (val x)).length < 30000; omega), by show 1 * val (digs (val x)) ^ K = T; rw [(digs_ok _).2.2, Nat.one_mul, hT], c, hc1, by show val (digs (val x)) < 2 ^ c; rw [(digs_ok _).2.2]; exact hc, Nat.le_refl _, by show 1 < 2 ^ (K * c - K * c + 1); rw [Nat.sub_self]; decide, by
     rcases Nat.eq_zero_or_pos K with h | h
     ·exact .inl h
     ·exact .inr (Nat.le_mul_of_pos_left c h)⟩ (fun a w h => ?_) ?_
  ·have := Rel.keep [1, 5, 0] [] h
   show Rel cx w0 { nt := 25, env := [(1, .v true (.int .i64 (K : Nat))), (5, .v true (words (digs 1))), (0, .v true (words (digs (val x))))], mem := [] } a w
   rw [show digs 1 = [1] from by decide]
   exact this
  rintro ⟨k, o, b, nb⟩ ⟨hk, ob, lb, hv, e, he1, hbe, hke, hoe, hle⟩
  simp only at hk ob lb hv hbe hke hoe hle ⊢
  rcases Nat.eq_zero_or_pos k with h0 | h0
  ·subst h0
   rw [Nat.pow_zero, Nat.mul_one] at hv
   rw [hv]
   refine Holds.seq ?_
   refine zs0 ?_
   exact Holds.condF rfl (Holds.exit ⟨rfl, fun a w h => Rel.keep [5] [] h⟩)
  ·have g : (0 : Int) < k := by omega
   have heK : e ≤ K * c := by omega
   have hol : (digs o).length < 30000 := len hoe (by omega)
   have ha1 : (k : Int).tmod 2 = ((k % 2 : Nat) : Int) := remN k 2
   have hM := rMul_ok (digs o) b (by omega) (by omega) (digs_ok o).1 ob
   rw [(digs_ok o).2.2] at hM
   have hS := rMul_ok b b (by omega) (by omega) ob ob
   have hlen2 : (digs (val b * val b)).length < 30000 := len (e := e + e) (by rw [Nat.pow_add]; exact Nat.mul_lt_mul'' hbe hbe) (by omega)
   have hh := pow_half (b := val b) (k := k)
   have hfd : (k : Int).tdiv 2 = ((k / 2 : Nat) : Int) := quoN k 2
   have wk : IntKind.i64.wrap ((k / 2 : Nat) : Int) = ((k / 2 : Nat) : Int) := wrap_i64 (by omega) (by omega)
   obtain ⟨o', ho'⟩ : ∃ o', o' = o * val b ^ (k % 2) := ⟨_, rfl⟩
   refine Holds.seq ?_
   refine zs1 g ?_
   refine Holds.condT rfl (Holds.skip ?_)
   refine Holds.next (fun σ => ∃ b' nb', okW b' ∧ b'.length < 30000 ∧ (k / 2 = 0 ∨ val b' = val b * val b) ∧ ∀ a w, Rel cx w0 σ a w → Rel cx w0 { nt := 25, env := [(1, .v true (.int .i64 (k : Nat))), (5, .v true (words (digs o'))), (0, .v nb' (words b'))], mem := [] } a w) ?_ ?_
   ·refine Holds.blockN ?_
    refine Holds.next (fun σ => ∀ a w, Rel cx w0 σ a w → Rel cx w0 { nt := 25, env := [(1, .v true (.int .i64 (k : Nat))), (5, .v true (words (digs o'))), (0, .v nb (words b))], mem := [] } a w) ?_ ?_
    ·rcases Nat.mod_two_eq_zero_or_one k with h2 | h2
     ·rw [h2, Nat.pow_zero, Nat.mul_one] at ho'
      rw [h2] at ha1
      rw [ho']
      refine zs1 ha1 ?_
      exact Holds.condF rfl (Holds.skip fun a w h => Rel.keep [1, 5, 0] [] h)
     ·rw [h2, Nat.pow_one] at ho'
      rw [h2] at ha1
      rw [← ho'] at hM
      refine zs1 ha1 ?_
      refine Holds.condT rfl ?_
      refine zr2 (ρ := fun _ => [.v true (words (digs o'))]) (o := by repeat' first|exact hM|trivial|constructor) (k := ?_)
      exact fun a w h => Rel.keep [1, 5, 0] [] h
    ·intro σ hσ
     refine Holds.from hσ ?_
     clear hσ
     by_cases hk1 : 1 < k
     ·have g2 : (1 : Int) < k := by omega
      obtain ⟨D, hD⟩ : ∃ D, D = digs (val b * val b) := ⟨_, rfl⟩
      rw [← hD] at hS hlen2
      refine zs1 g2 ?_
      refine Holds.condT rfl ?_
      refine zr2 (ρ := fun _ => [.v true (words D)]) (o := by repeat' first|exact hS|trivial|constructor) (k := ?_)
      exact ⟨D, true, by rw [hD]; exact (digs_ok _).1, hlen2, .inr (by rw [hD, (digs_ok _).2.2]), fun a w h => Rel.keep [1, 5, 0] [] h⟩
     ·have g2 : ¬ (1 : Int) < k := by omega
      refine zs1 g2 ?_
      exact Holds.condF rfl (Holds.skip ⟨b, nb, ob, lb, .inl (by omega), fun a w h => Rel.keep [1, 5, 0] [] h⟩)
   ·rintro σ ⟨b', nb', ob', lb', hb', hσ⟩
    refine Holds.from hσ ?_
    refine zr1 (an hfd <| wk) ?_
    refine ⟨(k / 2, o', b', nb'), ⟨by show k / 2 ≤ K; omega, ob', lb', ?_, ?_⟩, (show k / 2 < k by omega), fun a w h => Rel.keep [1, 5, 0] [] h⟩
    ·show o' * val b' ^ (k / 2) = T
     rw [ho', Nat.mul_assoc, ← hv]
     rcases hb' with h | h
     ·rw [h, Nat.pow_zero, Nat.mul_one]
      have : k = 1 := by omega
      rw [this]
     ·rw [h, ← hh]
    ·exact pow_inv (show val b < 2 ^ e from hbe) hke hoe he1 h0 ho' ob' hb'
 ·intro σ hσ
  refine Holds.from hσ ?_
  refine zs0 ?_
  exact Holds.ret (RetOk.vs rfl (by exact ⟨⟨rfl, id⟩, trivial⟩) rfl)
theorem rTen_ok (k : Nat) (hk : k < 50000) : FnOk Tryz.prog 110 [.v (.int .i64 k)] [.v true (words (digs (10 ^ k)))] := by
 have e10 : digs 10 = [10] := by decide
 have h0 : FnOk Tryz.prog 30 [.v (.int .u64 10)] [.v true (words [10])] := by
  have := FromWord_ok 10 (by decide)
  rw [e10] at this
  exact this
 have h1 := rPow_ok [10] k 4 (by intro n hn; simp at hn; omega) (by simp) (by decide) (by omega) (by omega)
 rw [show val [(10 : Int)] = 10 from by decide] at h1
 obtain ⟨W, hW⟩ : ∃ W, W = [(10 : Int)] := ⟨_, rfl⟩
 obtain ⟨T, hT⟩ : ∃ T, T = digs (10 ^ k) := ⟨_, rfl⟩
 rw [← hW] at h0 h1
 rw [← hT] at h1 ⊢
 refine FnOk.of Tryz.func110 rfl rfl fun cx w0 => ?_
 rw [show Tryz.f110.ntmps = 6 from rfl]
 refine zs0 ?_
 refine zs2 (ρ := fun d => if d = 3 then [.v true (words W)] else [.v true (words T)]) (o := by repeat' first|exact h0|exact h1|trivial|constructor) (k := ?_)
 exact Holds.ret (RetOk.vs rfl (by exact ⟨⟨rfl, id⟩, trivial⟩) rfl)
def HasT (m t : Nat) : Prop := ∃ c, m = c * 10 ^ t ∧ c % 10 ≠ 0
theorem hasT_ex : ∀ (m : Nat), 0 < m → ∃ t, HasT m t := fun m => by
 induction m using Nat.strongRecOn with
 | ind m ih =>
   intro h
   by_cases h0 : m % 10 = 0
   ·obtain ⟨t, c, hc, hn⟩ := ih (m / 10) (by omega) (by omega)
    refine ⟨t + 1, c, ?_, hn⟩
    rw [Nat.pow_succ, ← Nat.mul_assoc, ← hc]
    omega
   ·exact ⟨0, m, by rw [Nat.pow_zero, Nat.mul_one], h0⟩
theorem hasT_dvd {m t k : Nat} (h : HasT m t) (hk : k ≤ t) : m % 10 ^ k = 0 := by
 obtain ⟨c, hc, _⟩ := h
 rw [hc, show t = (t - k) + k from by omega, Nat.pow_add, ← Nat.mul_assoc, Nat.mul_mod_left]
theorem hasT_not {m t k : Nat} (h : HasT m t) (hk : t < k) : m % 10 ^ k ≠ 0 := by
 obtain ⟨c, hc, hn⟩ := h
 intro h0
 obtain ⟨d, hd⟩ := Nat.dvd_of_mod_eq_zero h0
 have hp : 0 < 10 ^ t := Nat.pow_pos (by decide)
 have : c = 10 * (10 ^ (k - t - 1) * d) := by
  refine Nat.eq_of_mul_eq_mul_right hp ?_
  rw [← hc, hd, show k = (k - t - 1) + 1 + t from by omega, Nat.pow_add, Nat.pow_succ]
  simp only [Nat.add_sub_cancel, Nat.mul_comm, Nat.mul_left_comm, Nat.mul_assoc]
 omega
theorem hasT_le {m t D : Nat} (h : HasT m t) (hD : HasD m D) : t < D := by
 obtain ⟨c, hc, hn⟩ := h
 refine hasD_lt hD ?_
 rw [hc]
 exact Nat.le_mul_of_pos_left _ (by omega)
theorem hasD_strip {m t D : Nat} (h : HasT m t) (hD : HasD m D) : HasD (m / 10 ^ t) (D - t) := by
 have hl := hasT_le h hD
 obtain ⟨h1, h2, h3⟩ := hD
 have hp : 0 < 10 ^ t := Nat.pow_pos (by decide)
 refine ⟨by omega, ?_, ?_⟩
 ·rw [Nat.le_div_iff_mul_le hp, ← Nat.pow_add, show D - t - 1 + t = D - 1 from by omega]
  exact h2
 ·rw [Nat.div_lt_iff_lt_mul hp, ← Nat.pow_add, show D - t + t = D from by omega]
  exact h3
abbrev DRes := Bool × Nat × Int × Int
def ovR (p g : Int) (r : Nat) (neg : Bool) : DRes := if grB r neg = true then (false, 10 ^ p.toNat - 1, g - p + 1, 5) else (true, 0, 0, 5)
def dTiny (p g : Int) : Int := 1 - g - (p - 1)
def dAt (p g : Int) (D t : Nat) (e ideal : Int) : Int := min (e + t) (max (max ideal (dTiny p g)) (e + t - (p - ((D - t : Nat) : Int))))
def dU (p g : Int) (D : Nat) (e : Int) : Int := max (e + D - 1 - p + 1) (dTiny p g)
def dN (r : Nat) (neg : Bool) (m k : Nat) : Nat := upN r neg (m / 10 ^ k) (rstN (m % 10 ^ k) (10 ^ k))
def dFl (g : Int) (D : Nat) (e : Int) : Int := if e + D - 1 < 1 - g then 3 else 1
def dInex (p g : Int) (r : Nat) (neg : Bool) (m D : Nat) (e : Int) : DRes :=
 if 10 ^ (g + 1 - dU p g D e).toNat ≤ dN r neg m (dU p g D e - e).toNat then ovR p g r neg
 else if dN r neg m (dU p g D e - e).toNat = 10 ^ p.toNat then (false, 10 ^ (p.toNat - 1), dU p g D e + 1, dFl g D e)
 else (false, dN r neg m (dU p g D e - e).toNat, dU p g D e, dFl g D e)
def dFin (p g : Int) (r : Nat) (neg : Bool) (m D t : Nat) (e ideal : Int) : DRes :=
 if g < e + D - 1 then ovR p g r neg
 else if ((D - t : Nat) : Int) ≤ p ∧ dTiny p g ≤ e + t then (false, m / 10 ^ t * 10 ^ (e + t - dAt p g D t e ideal).toNat, dAt p g D t e ideal, 0)
 else dInex p g r neg m D e
theorem upN_le (r : Nat) (neg : Bool) (q : Nat) (x : Int) : q ≤ upN r neg q x ∧ upN r neg q x ≤ q + 1 := by
 unfold upN; split <;> omega
theorem dN_le {p g : Int} {r : Nat} {neg : Bool} {m D : Nat} {e : Int} (hp : 1 ≤ p) (hD : HasD m D) (hu : e ≤ dU p g D e) : dN r neg m (dU p g D e - e).toNat ≤ 10 ^ p.toNat := by
 have h1 : e + D - 1 - p + 1 ≤ dU p g D e := Int.le_max_left _ _
 obtain ⟨k, hk⟩ : ∃ k : Nat, (dU p g D e - e).toNat = k := ⟨_, rfl⟩
 have hk1 : D ≤ k + p.toNat := by omega
 rw [hk]
 have := (upN_le r neg (m / 10 ^ k) (rstN (m % 10 ^ k) (10 ^ k))).2
 have h2 : m / 10 ^ k < 10 ^ p.toNat := by
  rw [Nat.div_lt_iff_lt_mul (Nat.pow_pos (by decide)), ← Nat.pow_add, Nat.add_comm]
  exact Nat.lt_of_lt_of_le hD.2.2 (Nat.pow_le_pow_right (by decide) hk1)
 unfold dN
 omega
theorem dN_small {r : Nat} {neg : Bool} {m D k : Nat} (hD : HasD m D) (hk : D < k) : m / 10 ^ k = 0 ∧ rstN (m % 10 ^ k) (10 ^ k) = 1 := by
 have h1 : 10 ^ (D + 1) ≤ 10 ^ k := Nat.pow_le_pow_right (by decide) (by omega)
 rw [Nat.pow_succ] at h1
 have h2 := hD.2.2
 have h3 : 0 < m := Nat.lt_of_lt_of_le (Nat.pow_pos (by decide)) hD.2.1
 refine ⟨Nat.div_eq_of_lt (by omega), ?_⟩
 rw [Nat.mod_eq_of_lt (by omega), rstN, if_neg (by omega), cmpN, if_pos (by omega)]
 rfl
def trF : Nat → Nat → Nat
 | 0, _ => 0
 | f + 1, v => if v % 2 = 0 then trF f (v / 2) + 1 else 0
def trN (v : Nat) : Nat := trF v v
theorem trF_ok : ∀ (f v : Nat), 0 < v → v ≤ f → ∃ c, v = (2 * c + 1) * 2 ^ trF f v
 | 0, v, h, hf => by omega
 | f + 1, v, h, hf => by
   rw [trF]
   by_cases h0 : v % 2 = 0
   ·obtain ⟨c, hc⟩ := trF_ok f (v / 2) (by omega) (by omega)
    refine ⟨c, ?_⟩
    rw [if_pos h0, Nat.pow_succ, ← Nat.mul_assoc, ← hc]
    omega
   ·rw [if_neg h0]
    exact ⟨v / 2, by rw [Nat.pow_zero]; omega⟩
theorem trN_ok {v : Nat} (h : 0 < v) : ∃ c, v = (2 * c + 1) * 2 ^ trN v := trF_ok v v h (Nat.le_refl _)
theorem odd_uniq {c d : Nat} : ∀ {s t : Nat}, (2 * c + 1) * 2 ^ s = (2 * d + 1) * 2 ^ t → s = t
 | 0, 0, _ => rfl
 | 0, t + 1, h => by rw [Nat.pow_zero, Nat.pow_succ, ← Nat.mul_assoc] at h; omega
 | s + 1, 0, h => by rw [Nat.pow_zero, Nat.pow_succ, ← Nat.mul_assoc] at h; omega
 | s + 1, t + 1, h => by
   rw [Nat.pow_succ, Nat.pow_succ, ← Nat.mul_assoc, ← Nat.mul_assoc] at h
   rw [odd_uniq (Nat.eq_of_mul_eq_mul_right (by decide) h)]
theorem trN_of {v c t : Nat} (h : v = (2 * c + 1) * 2 ^ t) : trN v = t := by
 have hp : 0 < v := by rw [h]; exact Nat.mul_pos (by omega) (Nat.pow_pos (by decide))
 obtain ⟨d, hd⟩ := trN_ok hp
 exact odd_uniq (hd.symm.trans h)
theorem trN_le {v k : Nat} (h : 0 < v) (hk : v < 2 ^ k) : trN v < k := by
 obtain ⟨c, hc⟩ := trN_ok h
 rcases Nat.lt_or_ge (trN v) k with h1 | h1
 ·exact h1
 ·have h2 := Nat.pow_le_pow_right (n := 2) (by decide) h1
  have h3 : 2 ^ trN v ≤ (2 * c + 1) * 2 ^ trN v := Nat.le_mul_of_pos_left _ (by omega)
  omega
theorem trN_dvd {v k : Nat} (h : 0 < v) : v % 2 ^ k = 0 ↔ k ≤ trN v := by
 obtain ⟨c, hc⟩ := trN_ok h
 constructor
 ·intro h0
  obtain ⟨d, hd⟩ := Nat.dvd_of_mod_eq_zero h0
  have hd0 : 0 < d := by rcases Nat.eq_zero_or_pos d with h | h; · (rw [h] at hd; omega)
                         ·exact h
  obtain ⟨e, he⟩ := trN_ok hd0
  have : v = (2 * e + 1) * 2 ^ (trN d + k) := by rw [Nat.pow_add, ← Nat.mul_assoc, ← he, Nat.mul_comm]; exact hd
  rw [trN_of this]
  omega
 ·intro hk
  rw [hc, show trN v = (trN v - k) + k from by omega, Nat.pow_add, ← Nat.mul_assoc, Nat.mul_mod_left]
theorem land_rec (a b : Nat) : a &&& b = 2 * (a / 2 &&& b / 2) + a % 2 * (b % 2) := by
 have h1 := Nat.div_add_mod (a &&& b) 2
 have h2 : (a &&& b) % 2 = a % 2 * (b % 2) := by
  have := Nat.and_mod_two_pow (a := a) (b := b) (n := 1)
  rw [Nat.pow_one] at this
  rw [this]
  rcases Nat.mod_two_eq_zero_or_one a with h | h <;> rcases Nat.mod_two_eq_zero_or_one b with h' | h' <;> rw [h, h'] <;> rfl
 rw [Nat.and_div_two, h2] at h1
 exact h1.symm
theorem land_compl : ∀ (n c d : Nat), c + d + 1 = 2 ^ n → c &&& d = 0
 | 0, c, d, h => by
   rw [Nat.pow_zero] at h
   rw [show c = 0 from by omega, show d = 0 from by omega]
   rfl
 | n + 1, c, d, h => by
   rw [Nat.pow_succ] at h
   rw [land_rec, land_compl n (c / 2) (d / 2) (by omega)]
   rcases Nat.mod_two_eq_zero_or_one c with e | e
   ·rw [e, Nat.zero_mul]
   ·simp [show d % 2 = 0 from by omega]
theorem land_neg : ∀ (n x y : Nat), 0 < x → x + y = 2 ^ n → x < 2 ^ n → x &&& y = 2 ^ trN x
 | 0, x, y, h0, h, h1 => by rw [Nat.pow_zero] at h1; omega
 | n + 1, x, y, h0, h, h1 => by
   rw [Nat.pow_succ] at h h1
   rw [land_rec]
   rcases Nat.mod_two_eq_zero_or_one x with e | e
   ·obtain ⟨c, hc⟩ := trN_ok (v := x / 2) (by omega)
    have ht : trN x = trN (x / 2) + 1 := trN_of (c := c) (by rw [Nat.pow_succ, ← Nat.mul_assoc, ← hc]; omega)
    rw [land_neg n (x / 2) (y / 2) (by omega) (by omega) (by omega), e, Nat.zero_mul, ht, Nat.pow_succ]
    omega
   ·have ht : trN x = 0 := trN_of (c := x / 2) (by rw [Nat.pow_zero]; omega)
    rw [land_compl n (x / 2) (y / 2) (by omega), e, show y % 2 = 1 from by omega, ht]
theorem and_neg64 {x : Nat} (h0 : 0 < x) (hx : x < 18446744073709551616) : bitI .and .u64 (x : Int) ((18446744073709551616 - x : Nat) : Int) = ((2 ^ trN x : Nat) : Int) := by
 show IntKind.u64.wrap ((BitVec.ofInt IntKind.u64.bits (x : Int) &&& BitVec.ofInt IntKind.u64.bits ((18446744073709551616 - x : Nat) : Int)).toNat : Int) = _
 have h1 : (BitVec.ofInt IntKind.u64.bits (x : Int) &&& BitVec.ofInt IntKind.u64.bits ((18446744073709551616 - x : Nat) : Int)).toNat = 2 ^ trN x := by
  rw [BitVec.toNat_and, BitVec.toNat_ofInt, BitVec.toNat_ofInt]
  have e1 : ((x : Int) % ((2 ^ IntKind.u64.bits : Nat) : Int)).toNat = x := by
   show ((x : Int) % 18446744073709551616).toNat = _
   omega
  have e2 : (((18446744073709551616 - x : Nat) : Int) % ((2 ^ IntKind.u64.bits : Nat) : Int)).toNat = 18446744073709551616 - x := by
   show (((18446744073709551616 - x : Nat) : Int) % 18446744073709551616).toNat = _
   omega
  rw [e1, e2]
  exact land_neg 64 x _ h0 (show _ = 18446744073709551616 by omega) hx
 rw [h1]
 have := trN_le (k := 64) h0 hx
 exact wrapN _ (Nat.pow_lt_pow_right (a := 2) (by decide) this)
def bruijnL : List V := match bruijnV with | .agg l => l | _ => []
def u8N : V → Nat
 | .int .u8 (.ofNat n) => n
 | _ => 999
def brN : List Nat := bruijnL.map u8N
def brI (t : Nat) : Nat := 2 ^ t * 285870213051353865 % 18446744073709551616 / 288230376151711744
theorem br_map : brN.map (fun n => V.int .u8 (n : Nat)) = bruijnL := by kernel_rfl
theorem br_all : ((List.range 64).map fun t => brN.getD (brI t) 99) = List.range 64 := by kernel_rfl
theorem br_get {t : Nat} (h : t < 64) : bruijnL[2 ^ t * 285870213051353865 % 18446744073709551616 / 2 ^ 58]? = some (.int .u8 t) := by
 have h1 : ((List.range 64).map fun t => brN.getD (brI t) 99)[t]? = some t := by rw [br_all, List.getElem?_range h]
 rw [List.getElem?_map, List.getElem?_range h, Option.map_some, List.getD_eq_getElem?_getD] at h1
 have h2 : brN[brI t]?.getD 99 = t := Option.some.inj h1
 rw [← br_map, List.getElem?_map, show 2 ^ t * 285870213051353865 % 18446744073709551616 / 2 ^ 58 = brI t from rfl]
 cases hg : brN[brI t]? with
 | none => rw [hg] at h2; simp at h2; omega
 | some n => rw [hg] at h2; simp at h2; rw [h2]; rfl
def isU8 : V → Bool
 | .int .u8 _ => true
 | _ => false
theorem br_u8 : bruijnL.all isU8 = true := by kernel_rfl
theorem br_off {k : Nat} (h : k ≤ bruijnL.length) : V.off bruijnL k = k := by
 rw [off_all (z := 1) (fun x hx => by
  have := List.all_eq_true.1 br_u8 x hx
  match x, this with
  | .int .u8 _, _ => rfl) h, Nat.mul_one]
theorem tz64_ok (x : Nat) (h0 : 0 < x) (hx : x < 18446744073709551616) : FnOk Tryz.prog 178 [.v (.int .u64 x)] [.v true (.int .i64 (trN x))] := by
 have ht := trN_le (k := 64) h0 hx
 have ha := and_neg64 h0 hx
 have wn : IntKind.u64.wrap (0 - (x : Int)) = ((18446744073709551616 - x : Nat) : Int) := by rw [wrap_u64]; omega
 obtain ⟨t, ht'⟩ : ∃ t, t = trN x := ⟨_, rfl⟩
 rw [← ht'] at ht ha ⊢
 have hg := br_get ht
 obtain ⟨a, ha'⟩ : ∃ a, a = 2 ^ t := ⟨_, rfl⟩
 rw [← ha'] at ha hg
 have wm : IntKind.u64.wrap ((a : Int) * 285870213051353865) = ((a * 285870213051353865 % 18446744073709551616 : Nat) : Int) := by
  rw [show ((a : Int) * 285870213051353865) = ((a * 285870213051353865 : Nat) : Int) from by omega]
  exact wrapM _
 obtain ⟨m, hm⟩ : ∃ m, m = a * 285870213051353865 % 18446744073709551616 := ⟨_, rfl⟩
 have hml : m < 18446744073709551616 := by rw [hm]; exact Nat.mod_lt _ (by decide)
 rw [← hm] at wm hg
 have hs := shrG m 58 (by decide)
 obtain ⟨i, hi⟩ : ∃ i, i = m / 2 ^ 58 := ⟨_, rfl⟩
 have hil : i < 64 := by rw [hi, Nat.div_lt_iff_lt_mul (by decide)]; exact hml
 rw [← hi] at hs hg
 have hoff : V.off bruijnL i = i := br_off (by rw [show bruijnL.length = 64 from rfl]; omega)
 have hG : lookG GLOB 4 = some (.agg bruijnL) := rfl
 have hl : bruijnL.length = 64 := rfl
 obtain ⟨fs, hfs⟩ : ∃ fs, fs = bruijnL := ⟨_, rfl⟩
 rw [← hfs] at hg hoff hG hl
 have g0 : ¬ (x : Int) = 0 := by omega
 have wi : IntKind.u64.wrap (i : Int) = (i : Int) := wrapN i (by omega)
 have g1 : (0 : Int) ≤ (i : Int) := by omega
 have g2 : (i : Int) < 64 := by omega
 refine FnOk.of Tryz.func178 rfl rfl fun cx w0 => ?_
 rw [show Tryz.f178.ntmps = 14 from rfl]
 refine zs0 ?_
 refine Holds.seq ?_
 refine zs1 g0 ?_
 refine Holds.condF rfl (Holds.skip ?_)
 obtain ⟨sA, hA⟩ : ∃ s, arrT Tryz.prog 249 = some (64, 1, s) := ⟨_, rfl⟩
 have wt : IntKind.i64.wrap (t : Int) = (t : Int) := by rw [wrap_i64] <;> omega
 refine zs1 (an wn <| an ha <| an wm <| an hs <| an wi <| an hG <| an hg <| an hoff <| an hl <| an g1 <| an g2 <| an hA <| wt) ?_
 exact Holds.ret (RetOk.vs rfl (by exact ⟨⟨rfl, id⟩, trivial⟩) rfl)
theorem tr_words {X : List Int} {i w : Nat} (hz : val (X.take i) = 0) (hi : i < X.length) (hw : X.getD i 0 = (w : Int)) (h0 : 0 < w) (h64 : w < 18446744073709551616) : trN (val X) = 64 * i + trN w := by
 have h1 := val_cut X i (by omega)
 have h2 := val_cut X (i + 1) (by omega)
 rw [val_takeN, hz, hw, Int.toNat_natCast, Nat.zero_add] at h2
 obtain ⟨R, hR⟩ : ∃ R, R = val (X.drop (i + 1)) := ⟨_, rfl⟩
 rw [← hR] at h2
 obtain ⟨c, hc⟩ := trN_ok h0
 have ht := trN_le (k := 64) h0 h64
 obtain ⟨t, ht'⟩ : ∃ t, t = trN w := ⟨_, rfl⟩
 rw [← ht'] at hc ht ⊢
 have hP : (18446744073709551616 : Nat) ^ i = 2 ^ (64 * i) := by rw [Nat.pow_mul]
 have hB : (18446744073709551616 : Nat) = 2 * 2 ^ (63 - t) * 2 ^ t := by
  rw [Nat.mul_comm 2, ← Nat.pow_succ, ← Nat.pow_add, show (63 - t).succ + t = 64 from by omega]
 refine trN_of (c := c + 2 ^ (63 - t) * R) ?_
 rw [h2, Nat.pow_succ, Nat.pow_add, hP]
 obtain ⟨P, hP'⟩ : ∃ P, P = 2 ^ (64 * i) := ⟨_, rfl⟩
 rw [← hP', hc]
 obtain ⟨T, hT⟩ : ∃ T, T = 2 ^ t := ⟨_, rfl⟩
 obtain ⟨S, hS⟩ : ∃ S, S = 2 ^ (63 - t) := ⟨_, rfl⟩
 rw [← hT, ← hS] at hB
 rw [← hT, ← hS]
 obtain ⟨B, hB'⟩ : ∃ B, B = (18446744073709551616 : Nat) := ⟨_, rfl⟩
 rw [← hB'] at hB ⊢
 rw [hB]
 grind
theorem wTrailing_ok (x : List Int) (hx : x.length < 100000) (ox : okW x) : FnOk Tryz.prog 145 [.v (words x)] [.v true (.int .i64 (trN (val x)))] := by
 obtain ⟨T, hT⟩ : ∃ T, T = trN (val x) := ⟨_, rfl⟩
 rw [← hT]
 refine FnOk.of Tryz.func145 rfl rfl fun cx w0 => ?_
 rw [show Tryz.f145.ntmps = 20 from rfl]
 refine zs0 ?_
 refine Holds.next (fun σ => T = 0 ∧ ∀ a w, Rel cx w0 σ a w → Rel cx w0 { nt := 20, env := [], mem := [] } a w) ?_ ?_
 ·refine zs0 ?_
  refine Holds.loopB (fun i : Nat => { nt := 20, env := [(7, .v true (.int .i64 (i : Nat))), (6, .v true (.int .i64 (x.length : Nat))), (5, .v false (words x))], mem := [] })
   (fun i => i ≤ x.length ∧ val (x.take i) = 0) (fun i => x.length - i) 0 ⟨Nat.zero_le _, rfl⟩ (fun a w h => Rel.keep [7, 6, 5] [] h) ?_
  rintro i ⟨hi, hz⟩
  by_cases hend : i = x.length
  ·have g : ¬ (i : Int) < x.length := by omega
   refine zs1 g ?_
   refine Holds.seq (Holds.condF rfl (Holds.exit ⟨rfl, by rw [hend, List.take_length] at hz; rw [hT, hz]; rfl, fun a w h => Rel.keep [] [] h⟩))
  ·have g : (i : Int) < x.length := by omega
   obtain ⟨u, hu, hu64⟩ := natW (okW_getD ox i)
   have gX : x[i]? = some (u : Int) := by rw [get_map (by omega), hu]
   have wk : IntKind.i64.wrap ((i : Int) + 1) = ((i + 1 : Nat) : Int) := by rw [wrap_i64] <;> omega
   refine zs1 g ?_
   refine Holds.seq (Holds.condT rfl (Holds.skip ?_))
   show Holds _ _ _ _ _ _ _
   refine Holds.next (fun σ => u = 0 ∧ ∀ a w, Rel cx w0 σ a w → Rel cx w0 { nt := 20, env := [(7, .v true (.int .i64 (i : Nat))), (6, .v true (.int .i64 (x.length : Nat))), (5, .v false (words x))], mem := [] } a w) ?_ ?_
   ·refine Holds.blockN ?_
    refine zs1 gX ?_
    rcases Nat.eq_zero_or_pos u with h0 | h0
    ·subst h0
     refine zs0 ?_
     exact Holds.condF rfl (Holds.skip ⟨rfl, fun a w h => Rel.keep [7, 6, 5] [] h⟩)
    ·have g0 : ¬ (u : Int) = 0 := by omega
     have hZ := tz64_ok u h0 hu64
     have hw := tr_words hz (by omega) hu h0 hu64
     have htl := trN_le (k := 64) h0 hu64
     rw [← hT] at hw
     have w1 : IntKind.i64.wrap (64 * (i : Int) + (trN u : Nat)) = (T : Int) := by rw [wrap_i64] <;> omega
     obtain ⟨z, hz'⟩ : ∃ z, z = trN u := ⟨_, rfl⟩
     rw [← hz'] at hZ w1
     refine zs1 g0 ?_
     refine Holds.condT rfl ?_
     refine zs3 (ρ := fun _ => [.v true (.int .i64 z)]) w1 (o := by repeat' first|exact hZ|trivial|constructor) (k := ?_)
     exact Holds.ret (RetOk.vs rfl (by exact ⟨⟨rfl, id⟩, trivial⟩) rfl)
   ·rintro σ ⟨h0, hσ⟩
    refine Holds.from hσ ?_
    refine zr1 wk ?_
    refine ⟨i + 1, ⟨by show i + 1 ≤ x.length; omega, ?_⟩, (show x.length - (i + 1) < x.length - i by omega), fun a w h => Rel.keep [7, 6, 5] [] h⟩
    rw [val_takeN, hz, hu, h0]
    simp
 ·rintro σ ⟨h0, hσ⟩
  refine Holds.from hσ ?_
  rw [h0]
  refine zs0 ?_
  exact Holds.ret (RetOk.vs rfl (by exact ⟨⟨rfl, id⟩, trivial⟩) rfl)
theorem hasT_iff {m t k : Nat} (h : HasT m t) : m % 10 ^ k = 0 ↔ k ≤ t :=
 ⟨fun h0 => by
   rcases Nat.lt_or_ge t k with h1 | h1
   ·exact absurd h0 (hasT_not h h1)
   ·exact h1, hasT_dvd h⟩
theorem tr_ten {y k : Nat} (h : 0 < y) (hk : trN y < k) : y % 10 ^ k ≠ 0 := fun h0 => by
 obtain ⟨d, hd⟩ := Nat.dvd_of_mod_eq_zero h0
 have : y % 2 ^ k = 0 := by
  rw [hd, show (10 : Nat) = 2 * 5 from rfl, Nat.mul_pow, Nat.mul_assoc, Nat.mul_mod_right]
 have := (trN_dvd h).1 this
 omega
theorem blockQ_same {id : Nat} {Q : Exit → St → Prop} {σ : St} (h : Q .normal σ) : blockQ id Q (.exit id) σ := by
 unfold blockQ
 simp only [if_true]
 exact h
theorem Holds.cont {P : Program} {ro : Option Nat} {cx : Cx} {w0 : World} {σ : St} {y : Code} {id : Nat} {Q : Exit → St → Prop} (h : Q .normal σ) : Holds P ro cx w0 (.exit id) σ (seqQ P ro cx w0 y (blockQ id Q)) :=
 Holds.exit (show blockQ id Q (.exit id) σ from blockQ_same h)
structure StI (v t y n s : Nat) : Prop where
 tm : HasT y (t - n)
 nt : n ≤ t
 all : y * 10 ^ n = v
 s1 : 1 ≤ s
 s2 : s ≤ 2 * t + 1
theorem HasT.pos {m t : Nat} (h : HasT m t) : 0 < m := by
 obtain ⟨c, hc, hn⟩ := h
 rw [hc]
 exact Nat.mul_pos (by omega) (Nat.pow_pos (by decide))
theorem StI.done {v t y n : Nat} (h : StI v t y n 1) (h0 : y % 10 ^ 1 ≠ 0) : n = t ∧ y = v / 10 ^ t := by
 have h1 : n = t := by
  have := (not_congr (hasT_iff (k := 1) h.tm)).1 h0
  have := h.nt
  omega
 refine ⟨h1, ?_⟩
 rw [← h.all, h1, Nat.mul_div_cancel _ (Nat.pow_pos (by decide))]
theorem StI.less {v t y n s : Nat} (h : StI v t y n s) (hs : 2 ≤ s) : StI v t y n (s / 2) := ⟨h.tm, h.nt, h.all, by omega, by have := h.s2; omega⟩
theorem StI.more {v t y n s : Nat} (h : StI v t y n s) (h0 : y % 10 ^ s = 0) : StI v t (y / 10 ^ s) (n + s) (2 * s) ∧ s ≤ t - n := by
 have hs := (hasT_iff h.tm).1 h0
 have hnt := h.nt
 have hs1 := h.s1
 have hall := h.all
 have hp : 0 < 10 ^ s := Nat.pow_pos (by decide)
 obtain ⟨c, hc, hn⟩ := h.tm
 have e : y = c * 10 ^ (t - n - s) * 10 ^ s := by rw [hc, Nat.mul_assoc, ← Nat.pow_add, show t - n - s + s = t - n from by omega]
 have e2 : y / 10 ^ s = c * 10 ^ (t - n - s) := by rw [e, Nat.mul_div_cancel _ hp]
 refine ⟨⟨⟨c, by rw [e2, show t - (n + s) = t - n - s from by omega], hn⟩, by omega, ?_, by omega, by omega⟩, hs⟩
 rw [e2, ← hall, e, Nat.pow_add, Nat.mul_assoc (c * _), Nat.mul_comm (10 ^ s)]
theorem ten_len {k : Nat} : (digs (10 ^ k)).length ≤ k / 16 + 1 := by
 have h5 : (10 : Nat) ^ k ≤ 16 ^ k := Nat.pow_le_pow_left (by decide) k
 exact digs_len (v := 10 ^ k) (m := k / 16 + 1) (Nat.lt_of_le_of_lt h5 (by
  rw [show (18446744073709551616 : Nat) = 16 ^ 16 from rfl, ← Nat.pow_mul]
  exact Nat.pow_lt_pow_right (by decide) (by omega)))
theorem digs_mono {a b : Nat} (h : a ≤ b) : (digs a).length ≤ (digs b).length := by
 have h1 := val_lt (digs_ok b).1
 rw [(digs_ok b).2.2] at h1
 exact digs_len (Nat.lt_of_le_of_lt h h1)
set_option maxHeartbeats 2000000 in
theorem wStrip_ok (x : List Int) (t : Nat) (hx : x.length < 900) (ox : okW x) (hT : HasT (val x) t) (ht : t < 6000) : FnOk Tryz.prog 185 [.v (words x)] [.v true (words (digs (val x / 10 ^ t))), .v true (.int .i64 t)] := by
 have hTr := wTrim_ok x (by omega) ox
 have hvl := digs_len (val_lt ox)
 have hpos := hT.pos
 obtain ⟨v, hv⟩ : ∃ v, v = val x := ⟨_, rfl⟩
 rw [← hv] at hTr hT hvl hpos ⊢
 have hV0 : (digs v).length ≠ 0 := by
  intro h
  have := (digs_ok v).2.2
  rw [List.length_eq_zero_iff.1 h] at this
  simp [val] at this
  omega
 have hI0 : StI v t v 0 1 := ⟨hT, Nat.zero_le _, by rw [Nat.pow_zero, Nat.mul_one], by omega, by omega⟩
 obtain ⟨D, hD⟩ : ∃ D, D = digs (v / 10 ^ t) := ⟨_, rfl⟩
 rw [← hD]
 refine FnOk.of Tryz.func185 rfl rfl fun cx w0 => ?_
 rw [show Tryz.f185.ntmps = 44 from rfl]
 refine zs0 ?_
 have g0 : ¬ ((digs v).length : Int) = 0 := by omega
 have hs0 : ∀ W, W = digs v → FnOk Tryz.prog 92 [.v (words x)] [.v true (words W)] := fun W h => by rw [h]; exact hTr
 obtain ⟨W, hW⟩ : ∃ W, W = digs v := ⟨_, rfl⟩
 have hTr := hs0 W hW
 rw [← hW] at g0
 refine zs2 (ρ := fun _ => [.v true (words W)]) (o := by repeat' first|exact hTr|trivial|constructor) (k := ?_)
 refine Holds.seq ?_
 refine zs1 g0 ?_
 refine Holds.condF rfl (Holds.skip ?_)
 refine zs0 ?_
 have key : Holds Tryz.prog none cx w0 (codeAt Tryz.f185 [1, 1, 1, 1]) { nt := 44, env := [(0, .v true (words (digs v))), (4, .v true (.int .i64 (0 : Nat))), (5, .v true (.int .i64 (1 : Nat)))], mem := [] } (NR (fun _ => False) fun σ => fnQ Tryz.prog Tryz.f185 [.v true (words D), .v true (.int .i64 t)] .ret σ) := by
  refine Holds.loopB (fun q : Nat × Nat × Nat => { nt := 44, env := [(0, .v true (words (digs q.1))), (4, .v true (.int .i64 (q.2.1 : Nat))), (5, .v true (.int .i64 (q.2.2 : Nat)))], mem := [] })
   (fun q => StI v t q.1 q.2.1 q.2.2) (fun q => 4 * (t - q.2.1) + q.2.2) (v, 0, 1) hI0 (fun a w h => h) ?_
  rintro ⟨y, n, s⟩ hI
  simp only at hI ⊢
  have hyv : y ≤ v := by rw [← hI.all]; exact Nat.le_mul_of_pos_right _ (Nat.pow_pos (by decide))
  have hyl := digs_mono hyv
  have hy0 := hI.tm.pos
  have hs1 := hI.s1
  have hs2 := hI.s2
  have hTl := wTrailing_ok (digs y) (by omega) (digs_ok _).1
  rw [(digs_ok y).2.2] at hTl
  have hTen := wTen_ok s (by omega)
  have hTenl := ten_len (k := s)
  have hDM := wDivMod_ok (digs y) (digs (10 ^ s)) (by omega) (by omega) (digs_ok _).1 (digs_ok _).1 (by rw [(digs_ok _).2.2]; exact Nat.pow_pos (by decide))
  rw [(digs_ok y).2.2, (digs_ok (10 ^ s)).2.2] at hDM
  have hrl : (digs (y % 10 ^ s)).length < 1000 := by
   have := digs_mono (Nat.mod_le y (10 ^ s))
   omega
  have hZ := wZero_ok (digs (y % 10 ^ s)) (by omega) (digs_ok _).1
  rw [(digs_ok (y % 10 ^ s)).2.2] at hZ
  refine Holds.block ?_
  obtain ⟨z, hz⟩ : ∃ z, z = trN y := ⟨_, rfl⟩
  rw [← hz] at hTl
  obtain ⟨T, hT'⟩ : ∃ T, T = digs (10 ^ s) := ⟨_, rfl⟩
  rw [← hT'] at hTen hDM
  obtain ⟨qq, hqq⟩ : ∃ q, q = y / 10 ^ s := ⟨_, rfl⟩
  obtain ⟨rr, hrr⟩ : ∃ r, r = digs (y % 10 ^ s) := ⟨_, rfl⟩
  rw [← hqq, ← hrr] at hDM
  rw [← hrr] at hZ
  have w2 : IntKind.i64.wrap (2 * (s : Int)) = ((2 * s : Nat) : Int) := by rw [wrap_i64] <;> omega
  have w3 : IntKind.i64.wrap ((n : Int) + (s : Int)) = ((n + s : Nat) : Int) := by have := hI.nt; rw [wrap_i64] <;> omega
  have w4 : (s : Int).tdiv 2 = ((s / 2 : Nat) : Int) := quoN s 2
  have w5 : IntKind.i64.wrap ((s / 2 : Nat) : Int) = ((s / 2 : Nat) : Int) := by rw [wrap_i64] <;> omega
  by_cases h1 : trN y < s
  ·have g1 : (z : Int) < s := by omega
   have hnd := tr_ten hy0 h1
   refine Holds.seq ?_
   refine zs3 (ρ := fun _ => [.v true (.int .i64 z)]) g1 (o := by repeat' first|exact hTl|trivial|constructor) (k := ?_)
   refine Holds.condT rfl ?_
   refine Holds.seq ?_
   by_cases hs : s = 1
   ·subst hs
    obtain ⟨e1, e2⟩ := hI.done hnd
    subst e1
    rw [e2, ← hD]
    refine zs0 ?_
    refine Holds.condT rfl ?_
    refine zs0 ?_
    exact Holds.ret (RetOk.vs rfl (by exact ⟨⟨rfl, id⟩, ⟨rfl, id⟩, trivial⟩) rfl)
   ·have g2 : ¬ (s : Int) = 1 := by omega
    refine zs1 g2 ?_
    refine Holds.condF rfl (Holds.skip ?_)
    refine zs1 (an w4 <| w5) ?_
    refine Holds.cont ?_
    exact ⟨(y, n, s / 2), hI.less (by omega), (show 4 * (t - n) + s / 2 < 4 * (t - n) + s by omega), fun a w h => Rel.keep [0, 4, 5] [] h⟩
  ·have g1 : ¬ (z : Int) < s := by omega
   refine Holds.seq ?_
   refine zs3 (ρ := fun _ => [.v true (.int .i64 z)]) g1 (o := by repeat' first|exact hTl|trivial|constructor) (k := ?_)
   refine Holds.condF rfl (Holds.skip ?_)
   refine zs2 (ρ := fun d => if d = 26 then [.v true (words T)] else [.v true (words (digs qq)), .v true (words rr)]) (o := by repeat' first|exact hTen|exact hDM|trivial|constructor) (k := ?_)
   by_cases h2 : y % 10 ^ s = 0
   ·rw [decide_eq_true h2] at hZ
    obtain ⟨hI', hle⟩ := hI.more h2
    rw [← hqq] at hI'
    refine zs2 (ρ := fun _ => [.v true (.bool true)]) (o := by repeat' first|exact hZ|trivial|constructor) (k := ?_)
    refine Holds.condT rfl ?_
    refine zr1 (an w2 <| w3) ?_
    exact ⟨(qq, n + s, 2 * s), hI', (show 4 * (t - (n + s)) + 2 * s < 4 * (t - n) + s by omega), fun a w h => Rel.keep [0, 4, 5] [] h⟩
   ·rw [decide_eq_false h2] at hZ
    refine zs2 (ρ := fun _ => [.v true (.bool false)]) (o := by repeat' first|exact hZ|trivial|constructor) (k := ?_)
    refine Holds.condF rfl ?_
    by_cases hs : s = 1
    ·subst hs
     obtain ⟨e1, e2⟩ := hI.done h2
     subst e1
     rw [e2, ← hD]
     refine zs0 ?_
     refine Holds.condT rfl ?_
     refine zs0 ?_
     exact Holds.ret (RetOk.vs rfl (by exact ⟨⟨rfl, id⟩, ⟨rfl, id⟩, trivial⟩) rfl)
    ·have g2 : ¬ (s : Int) = 1 := by omega
     refine zs1 g2 ?_
     refine Holds.condF rfl ?_
     refine zr1 (an w4 <| w5) ?_
     exact ⟨(y, n, s / 2), hI.less (by omega), (show 4 * (t - n) + s / 2 < 4 * (t - n) + s by omega), fun a w h => Rel.keep [0, 4, 5] [] h⟩
 refine Holds.from (σ' := { nt := 44, env := [(0, .v true (words (digs v))), (4, .v true (.int .i64 (0 : Nat))), (5, .v true (.int .i64 (1 : Nat)))], mem := [] }) (fun a w h => by rw [← hW]; exact Rel.keep [0, 4, 5] [] h) ?_
 exact key.mono fun e σ hq => by
  cases e <;> first | exact hq | exact hq.elim
theorem hasD_bl {v D k : Nat} (h : v < 10 ^ D) (hk : 4 * D ≤ k) : blN v ≤ k := by
 refine bl_lt (Nat.lt_of_lt_of_le h ?_)
 have : (10 : Nat) ^ D ≤ 16 ^ D := Nat.pow_le_pow_left (by decide) _
 rw [show (16 : Nat) = 2 ^ 4 from rfl, ← Nat.pow_mul] at this
 exact Nat.le_trans this (Nat.pow_le_pow_right (by decide) hk)
theorem max2_eq (a b : Int) : (if a < b then b else a) = max a b := by omega
theorem min2_eq (a b : Int) : (if b < a then b else a) = min a b := by omega
theorem finV_zero : finV false 0 0 = .agg [.bool false, .sl 1 [], .int .i64 0] := rfl
set_option maxHeartbeats 2000000 in
theorem fits_no (p g : Int) (x : List Int) (D t : Nat) (e ideal : Int) (hp : 1 ≤ p ∧ p ≤ 400) (hg : 1 ≤ g ∧ g ≤ 6000) (hx : x.length < 900) (ox : okW x) (hD : HasD (val x) D) (hT : HasT (val x) t) (hDl : D < 500) (he : -4611686018427387904 < e ∧ e < 4611686018427387904)
 (h : ¬ (((D - t : Nat) : Int) ≤ p ∧ dTiny p g ≤ e + t ∧ e + D - 1 ≤ g)) :
 FnOk Tryz.prog 163 [.v (.int .i64 p), .v (.int .i64 g), .v (.int .i64 (dTiny p g)), .v (words x), .v (.int .i64 e), .v (.int .i64 ideal)] [.v true (finV false 0 0), .v true (.bool false)] := by
 have htD := hasT_le hT hD
 have hS := wStrip_ok x t hx ox hT (by omega)
 have hD2 := hasD_strip hT hD
 have hml : (digs (val x / 10 ^ t)).length < 900 := by
  have h1 := digs_len (val_lt ox)
  have h2 := digs_mono (Nat.div_le_self (val x) (10 ^ t))
  omega
 have hDd := wDigits_ok (digs (val x / 10 ^ t)) (D - t) (by omega) (digs_ok _).1 (by rw [(digs_ok _).2.2]; exact hD2) (by rw [(digs_ok _).2.2]; exact hasD_bl hD2.2.2 (by omega)) (by omega)
 obtain ⟨m, hm⟩ : ∃ m, m = digs (val x / 10 ^ t) := ⟨_, rfl⟩
 rw [← hm] at hS hDd
 obtain ⟨k, hk⟩ : ∃ k, k = D - t := ⟨_, rfl⟩
 rw [← hk] at hDd h
 have w1 : IntKind.i64.wrap ((t : Int) + e) = e + t := by rw [wrap_i64] <;> omega
 have w2 : IntKind.i64.wrap (e + (t : Int) + (k : Int)) = e + t + k := by rw [wrap_i64] <;> omega
 have w3 : IntKind.i64.wrap (e + (t : Int) + (k : Int) - 1) = e + t + k - 1 := by rw [wrap_i64] <;> omega
 obtain ⟨ti, hti⟩ : ∃ ti, ti = dTiny p g := ⟨_, rfl⟩
 rw [← hti] at h ⊢
 clear hm hT hD hD2
 refine FnOk.of Tryz.func163 rfl rfl fun cx w0 => ?_
 rw [show Tryz.f163.ntmps = 63 from rfl]
 rw [finV_zero]
 refine zs0 ?_
 refine zs2 (ρ := fun _ => [.v true (words m), .v true (.int .i64 t)]) (o := by repeat' first|exact hS|trivial|constructor) (k := ?_)
 refine zs1 w1 ?_
 refine zs2 (ρ := fun _ => [.v true (.int .i64 k)]) (o := by repeat' first|exact hDd|trivial|constructor) (k := ?_)
 refine Holds.seq ?_
 by_cases h1 : p < (k : Int)
 ·refine zs1 h1 ?_
  refine Holds.condT rfl ?_
  refine zs0 ?_
  exact Holds.ret (RetOk.vs rfl (by exact ⟨⟨rfl, id⟩, ⟨rfl, id⟩, trivial⟩) rfl)
 by_cases h2 : e + (t : Int) < ti
 ·refine zs1 (an h1 <| h2) ?_
  refine Holds.condT rfl ?_
  refine zs0 ?_
  exact Holds.ret (RetOk.vs rfl (by exact ⟨⟨rfl, id⟩, ⟨rfl, id⟩, trivial⟩) rfl)
 have h3 : g < e + (t : Int) + (k : Int) - 1 := by omega
 refine zs1 (an h1 <| an h2 <| an h3 <| an w2 <| w3) ?_
 refine Holds.condT rfl ?_
 refine zs0 ?_
 exact Holds.ret (RetOk.vs rfl (by exact ⟨⟨rfl, id⟩, ⟨rfl, id⟩, trivial⟩) rfl)
set_option maxHeartbeats 2000000 in
theorem fits_yes (p g : Int) (x : List Int) (D t : Nat) (e ideal : Int) (hp : 1 ≤ p ∧ p ≤ 400) (hg : 1 ≤ g ∧ g ≤ 6000) (hx : x.length < 900) (ox : okW x) (hD : HasD (val x) D) (hT : HasT (val x) t) (hDl : D < 500) (he : -4611686018427387904 < e ∧ e < 4611686018427387904)
 (h : ((D - t : Nat) : Int) ≤ p ∧ dTiny p g ≤ e + t ∧ e + D - 1 ≤ g) :
 FnOk Tryz.prog 163 [.v (.int .i64 p), .v (.int .i64 g), .v (.int .i64 (dTiny p g)), .v (words x), .v (.int .i64 e), .v (.int .i64 ideal)] [.v true (finV false (val x / 10 ^ t * 10 ^ (e + t - dAt p g D t e ideal).toNat) (dAt p g D t e ideal)), .v true (.bool true)] := by
 have htD := hasT_le hT hD
 have hS := wStrip_ok x t hx ox hT (by omega)
 have hD2 := hasD_strip hT hD
 have hml : (digs (val x / 10 ^ t)).length < 900 := by
  have h1 := digs_len (val_lt ox)
  have h2 := digs_mono (Nat.div_le_self (val x) (10 ^ t))
  omega
 have hDd := wDigits_ok (digs (val x / 10 ^ t)) (D - t) (by omega) (digs_ok _).1 (by rw [(digs_ok _).2.2]; exact hD2) (by rw [(digs_ok _).2.2]; exact hasD_bl hD2.2.2 (by omega)) (by omega)
 have hat : dAt p g D t e ideal = min (e + t) (max (max ideal (dTiny p g)) (e + t - (p - ((D - t : Nat) : Int)))) := rfl
 have hA1 : dAt p g D t e ideal ≤ e + t := Int.min_le_left _ _
 have hA2 : e + t - 400 ≤ dAt p g D t e ideal := by
  rw [hat]
  have := Int.le_max_right (max ideal (dTiny p g)) (e + t - (p - ((D - t : Nat) : Int)))
  omega
 obtain ⟨at_, hat_⟩ : ∃ a, a = dAt p g D t e ideal := ⟨_, rfl⟩
 rw [← hat_] at hat hA1 hA2 ⊢
 obtain ⟨b, hb⟩ : ∃ b : Nat, e + t - at_ = b := ⟨(e + t - at_).toNat, by omega⟩
 rw [hb, Int.toNat_natCast]
 have hTen := wTen_ok b (by omega)
 have hTl := ten_len (k := b)
 have hM := wMul_ok (digs (val x / 10 ^ t)) (digs (10 ^ b)) (by omega) (by omega) (digs_ok _).1 (digs_ok _).1
 rw [(digs_ok _).2.2, (digs_ok (10 ^ b)).2.2] at hM
 obtain ⟨m, hm⟩ : ∃ m, m = digs (val x / 10 ^ t) := ⟨_, rfl⟩
 rw [← hm] at hS hDd hM
 unfold finV
 obtain ⟨T, hT'⟩ : ∃ T, T = digs (10 ^ b) := ⟨_, rfl⟩
 obtain ⟨M, hM'⟩ : ∃ M, M = digs (val x / 10 ^ t * 10 ^ b) := ⟨_, rfl⟩
 rw [← hT'] at hTen hM
 rw [← hM'] at hM ⊢
 obtain ⟨k, hk⟩ : ∃ k, k = D - t := ⟨_, rfl⟩
 rw [← hk] at hDd h hat
 have w1 : IntKind.i64.wrap ((t : Int) + e) = e + t := by rw [wrap_i64] <;> omega
 have w2 : IntKind.i64.wrap (e + (t : Int) + (k : Int)) = e + t + k := by rw [wrap_i64] <;> omega
 have w3 : IntKind.i64.wrap (e + (t : Int) + (k : Int) - 1) = e + t + k - 1 := by rw [wrap_i64] <;> omega
 have w4 : IntKind.i64.wrap (p - (k : Int)) = p - k := by rw [wrap_i64] <;> omega
 have w5 : IntKind.i64.wrap (e + (t : Int) - (p - (k : Int))) = e + t - (p - k) := by rw [wrap_i64] <;> omega
 have w6 : IntKind.i64.wrap (e + (t : Int) - at_) = (b : Int) := by rw [wrap_i64] <;> omega
 obtain ⟨ti, hti⟩ : ∃ ti, ti = dTiny p g := ⟨_, rfl⟩
 rw [← hti] at h hat ⊢
 clear hm hT hD hD2 hT' hM' hat_
 refine FnOk.of Tryz.func163 rfl rfl fun cx w0 => ?_
 rw [show Tryz.f163.ntmps = 63 from rfl]
 have h1 : ¬ p < (k : Int) := by omega
 have h2 : ¬ e + (t : Int) < ti := by omega
 have h3 : ¬ g < e + (t : Int) + (k : Int) - 1 := by omega
 refine zs0 ?_
 refine zs2 (ρ := fun _ => [.v true (words m), .v true (.int .i64 t)]) (o := by repeat' first|exact hS|trivial|constructor) (k := ?_)
 refine zs1 w1 ?_
 refine zs2 (ρ := fun _ => [.v true (.int .i64 k)]) (o := by repeat' first|exact hDd|trivial|constructor) (k := ?_)
 refine Holds.seq ?_
 refine zs1 (an h1 <| an h2 <| an h3 <| an w2 <| w3) ?_
 refine Holds.condF rfl (Holds.skip ?_)
 refine zs1 (an w4 <| an w5 <| an max2_eq <| an min2_eq <| hat.symm) ?_
 refine zs3 (ρ := fun d => if d = 59 then [.v true (words T)] else [.v true (words M)]) w6 (o := by repeat' first|exact hTen|exact hM|trivial|constructor) (k := ?_)
 exact Holds.ret (RetOk.vs rfl (by exact ⟨⟨rfl, id⟩, ⟨rfl, id⟩, trivial⟩) rfl)
def resV (d : DRes) : List R := [.v true (finV d.1 d.2.1 d.2.2.1), .v true (.int .i64 d.2.2.2)]
theorem resV_ov (p g : Int) (r : Nat) (neg : Bool) : ∃ b m z, resV (ovR p g r neg) = [.v true (finV b m z), .v true (.int .i64 5)] ∧ ovV p g r neg = finV b m z := by
 unfold resV ovR ovV
 cases grB r neg with
 | true => exact ⟨false, _, _, rfl, rfl⟩
 | false => exact ⟨true, 0, 0, rfl, rfl⟩
def finS (p g r : Int) (neg : Bool) (a u : Int) (n : Nat) : St := { nt := 157, env := [(0, .v true (.int .i64 p)), (1, .v true (.int .i64 g)), (2, .v true (.int .i64 r)), (3, .v true (.bool neg)), (16, .ptr 16 0 [] 0), (18, .v true (.int .i64 (1 - g))), (23, .v true (.int .i64 a)), (24, .v true (.int .i64 u)), (25, .v true (words (digs n)))], mem := [(16, .box 179 (.v true (.agg [.bool false, .sl 1 [], .int .i64 0])))] }
theorem fin_end {cx : Cx} {w0 : World} (p g r : Int) (neg : Bool) (a u : Int) (n : Nat) :
 Holds Tryz.prog none cx w0 (codeAt Tryz.f112 [1, 1, 1, 1, 1, 1, 1, 1, 1, 1, 1, 1, 1, 1, 1]) (finS p g r neg a u n) (fnQ Tryz.prog Tryz.f112 (resV (false, n, u, if a < 1 - g then 3 else 1))) := by
 have ho : bitI .or .i64 1 2 = 3 := by decide
 unfold resV finV finS
 obtain ⟨l, hl⟩ : ∃ l, l = digs n := ⟨_, rfl⟩
 simp only
 rw [← hl]
 refine zs0 ?_
 refine Holds.seq ?_
 by_cases h : a < 1 - g
 ·rw [if_pos h]
  refine zs1 h ?_
  refine Holds.condT rfl ?_
  refine zr1 ho ?_
  refine zs0 ?_
  exact Holds.ret (RetOk.vs rfl (by exact ⟨⟨rfl, id⟩, ⟨rfl, id⟩, trivial⟩) rfl)
 ·rw [if_neg h]
  refine zs1 h ?_
  refine Holds.condF rfl (Holds.skip ?_)
  refine zs0 ?_
  exact Holds.ret (RetOk.vs rfl (by exact ⟨⟨rfl, id⟩, ⟨rfl, id⟩, trivial⟩) rfl)
theorem hasD_ten (k : Nat) : HasD (10 ^ k) (k + 1) := ⟨by omega, by rw [Nat.add_sub_cancel]; exact Nat.le_refl _, by rw [Nat.pow_succ]; have := Nat.pow_pos (a := 10) (n := k) (by decide); omega⟩
theorem pow_leT {a b : Nat} : (10 : Nat) ^ a ≤ 10 ^ b ↔ a ≤ b := Nat.pow_le_pow_iff_right (by decide)
set_option maxHeartbeats 4000000 in
theorem fin_tail {cx : Cx} {w0 : World} (p g : Int) (r : Nat) (neg : Bool) (a u : Int) (n : Nat) (h : CtxOk p g r) (hn : n ≤ 10 ^ p.toNat) (hu : dTiny p g ≤ u ∧ u ≤ g) :
 Holds Tryz.prog none cx w0 (codeAt Tryz.f112 [1, 1, 1, 1, 1, 1, 1, 1, 1, 1, 1, 1, 1]) (finS p g r neg a u n) (fnQ Tryz.prog Tryz.f112 (resV (if 10 ^ (g + 1 - u).toNat ≤ n then ovR p g r neg
 else if n = 10 ^ p.toNat then (false, 10 ^ (p.toNat - 1), u + 1, if a < 1 - g then 3 else 1)
 else (false, n, u, if a < 1 - g then 3 else 1)))) := by
 have hOv := over_ok p g r neg h
 obtain ⟨b, mo, zo, e1, e2⟩ := resV_ov p g r neg
 rw [e2] at hOv
 obtain ⟨⟨h1, h2⟩, ⟨h3, h4⟩, h5, h6⟩ := h
 unfold dTiny at hu
 obtain ⟨P, rfl⟩ := Int.eq_ofNat_of_zero_le (show 0 ≤ p by omega)
 rw [Int.toNat_natCast] at hn ⊢
 obtain ⟨k, hk⟩ : ∃ k : Nat, g + 1 - u = k := ⟨(g + 1 - u).toNat, by omega⟩
 rw [hk, Int.toNat_natCast]
 have hTl := ten_len (k := P)
 have hnl : (digs n).length < 1000 := by have := digs_mono hn; omega
 have hT := wTen_ok P (by omega)
 have hT1 := wTen_ok (P - 1) (by omega)
 have hT1l := ten_len (k := P - 1)
 have hC := wCmp_ok (digs n) (digs (10 ^ P)) (by omega) (by omega) (digs_ok _).1 (digs_ok _).1
 rw [(digs_ok n).2.2, (digs_ok (10 ^ P)).2.2] at hC
 have hT : FnOk Tryz.prog 41 [.v (.int .i64 (P : Int))] [.v true (words (digs (10 ^ P)))] := hT
 have wp : (P : Int) - 1 = ((P - 1 : Nat) : Int) := by omega
 have wu : IntKind.i64.wrap (u + 1) = u + 1 := by rw [wrap_i64] <;> omega
 by_cases hn1 : n = 10 ^ P
 ·have hc0 : cmpN n (10 ^ P) = 0 := by unfold cmpN; rw [hn1, if_neg (Nat.lt_irrefl _), if_neg (Nat.lt_irrefl _)]
  rw [hc0] at hC
  have hZ := wZero_ok (digs (10 ^ (P - 1))) (by omega) (digs_ok _).1
  rw [(digs_ok _).2.2, decide_eq_false (by have := Nat.pow_pos (a := 10) (n := P - 1) (by decide); omega)] at hZ
  have hDg := wDigits_ok (digs (10 ^ (P - 1))) P (by omega) (digs_ok _).1 (by
   rw [(digs_ok _).2.2]
   have := hasD_ten (P - 1)
   rw [show P - 1 + 1 = P from by omega] at this
   exact this) (by
   rw [(digs_ok _).2.2]
   exact hasD_bl (D := P) (by have := (hasD_ten (P - 1)).2.2; rw [show P - 1 + 1 = P from by omega] at this; exact this) (by omega)) (by omega)
  have hcond : (10 ^ k ≤ n) ↔ (g < u + 1 + P - 1) := by rw [hn1, pow_leT]; omega
  rw [if_pos hn1]
  obtain ⟨T, hT'⟩ : ∃ T, T = digs (10 ^ P) := ⟨_, rfl⟩
  obtain ⟨N, hN'⟩ : ∃ N, N = digs n := ⟨_, rfl⟩
  have w1 : IntKind.i64.wrap (u + 1 + (P : Int)) = u + 1 + P := by rw [wrap_i64] <;> omega
  have w2 : IntKind.i64.wrap (u + 1 + (P : Int) - 1) = u + 1 + P - 1 := by rw [wrap_i64] <;> omega
  obtain ⟨S, hS⟩ : ∃ S, S = digs (10 ^ (P - 1)) := ⟨_, rfl⟩
  unfold finS
  rw [← hT'] at hT hC
  rw [← hN'] at hC
  simp only [← hN']
  rw [← hS] at hT1 hZ hDg
  refine Holds.seq ?_
  refine zs2 (ρ := fun d => if d = 121 then [.v true (words T)] else [.v true (.int .i64 0)]) (o := by repeat' first|exact hT|exact hC|trivial|constructor) (k := ?_)
  refine Holds.condT rfl ?_
  refine zr3 (ρ := fun _ => [.v true (words S)]) (an wp <| wu) (o := by repeat' first|exact hT1|trivial|constructor) (k := ?_)
  refine Holds.seq ?_
  by_cases hg : g < u + 1 + P - 1
  ·rw [if_pos (hcond.2 hg), e1]
   unfold finV at hOv ⊢
   refine zs3 (ρ := fun d => if d = 130 then [.v true (.bool false)] else [.v true (.int .i64 P)]) (an hg <| an w1 <| w2) (o := by repeat' first|exact hZ|exact hDg|trivial|constructor) (k := ?_)
   refine Holds.condT rfl ?_
   refine zs2 (ρ := fun _ => [.v true (.agg [.bool b, words (digs mo), .int .i64 zo]), .v true (.int .i64 5)]) (o := by repeat' first|exact hOv|trivial|constructor) (k := ?_)
   exact Holds.ret (RetOk.vs rfl (by exact ⟨⟨rfl, id⟩, ⟨rfl, id⟩, trivial⟩) rfl)
  ·rw [if_neg (fun h => hg (hcond.1 h))]
   refine zs3 (ρ := fun d => if d = 130 then [.v true (.bool false)] else [.v true (.int .i64 P)]) (an hg <| an w1 <| w2) (o := by repeat' first|exact hZ|exact hDg|trivial|constructor) (k := ?_)
   refine Holds.condF rfl (Holds.skip ?_)
   refine Holds.from (σ' := finS P g r neg a (u + 1) (10 ^ (P - 1))) (fun a w h => by
    have := Rel.keep [0, 1, 2, 3, 16, 18, 23, 24, 25] [16] h
    unfold finS
    rw [← hS]
    exact this) ?_
   exact fin_end _ _ _ _ _ _ _
 ·have hc0 : ¬ cmpN n (10 ^ P) = 0 := by unfold cmpN; rw [if_pos (by omega)]; omega
  rw [if_neg hn1]
  have hZ := wZero_ok (digs n) (by omega) (digs_ok _).1
  rw [(digs_ok n).2.2] at hZ
  obtain ⟨c, hc⟩ : ∃ c, c = cmpN n (10 ^ P) := ⟨_, rfl⟩
  rw [← hc] at hC hc0
  obtain ⟨T, hT'⟩ : ∃ T, T = digs (10 ^ P) := ⟨_, rfl⟩
  obtain ⟨N, hN'⟩ : ∃ N, N = digs n := ⟨_, rfl⟩
  rw [← hT'] at hT hC
  rw [← hN'] at hC
  rcases Nat.eq_zero_or_pos n with h0 | h0
  ·rw [decide_eq_true h0, ← hN'] at hZ
   have hp : 0 < 10 ^ k := Nat.pow_pos (by decide)
   rw [if_neg (by omega)]
   unfold finS
   simp only [← hN']
   refine Holds.seq ?_
   refine zs3 (ρ := fun d => if d = 121 then [.v true (words T)] else [.v true (.int .i64 c)]) hc0 (o := by repeat' first|exact hT|exact hC|trivial|constructor) (k := ?_)
   refine Holds.condF rfl (Holds.skip ?_)
   refine Holds.seq ?_
   refine zs2 (ρ := fun d => [.v true (.bool true)]) (o := by repeat' first|exact hZ|trivial|constructor) (k := ?_)
   refine Holds.condF rfl (Holds.skip ?_)
   refine Holds.from (σ' := finS P g r neg a u n) (fun a w h => by
    have := Rel.keep [0, 1, 2, 3, 16, 18, 23, 24, 25] [16] h
    unfold finS
    rw [← hN']
    exact this) ?_
   exact fin_end _ _ _ _ _ _ _
  ·rw [decide_eq_false (by omega), ← hN'] at hZ
   obtain ⟨d, hd⟩ := hasD_ex n h0
   have hdP : d ≤ P := hasD_le hd (by omega)
   have hDg := wDigits_ok (digs n) d (by omega) (digs_ok _).1 (by rw [(digs_ok _).2.2]; exact hd) (by rw [(digs_ok _).2.2]; exact hasD_bl hd.2.2 (by omega)) (by omega)
   rw [← hN'] at hDg
   have hcond : (10 ^ k ≤ n) ↔ (g < u + d - 1) := by
    constructor
    ·intro h'; have := hasD_lt hd h'; omega
    ·intro h'
     rcases Nat.lt_or_ge n (10 ^ k) with h'' | h''
     ·have := hasD_le hd h''; omega
     ·exact h''
   have w1 : IntKind.i64.wrap (u + (d : Int)) = u + d := by rw [wrap_i64] <;> omega
   have w2 : IntKind.i64.wrap (u + (d : Int) - 1) = u + d - 1 := by rw [wrap_i64] <;> omega
   unfold finS
   simp only [← hN']
   refine Holds.seq ?_
   refine zs3 (ρ := fun d => if d = 121 then [.v true (words T)] else [.v true (.int .i64 c)]) hc0 (o := by repeat' first|exact hT|exact hC|trivial|constructor) (k := ?_)
   refine Holds.condF rfl (Holds.skip ?_)
   refine Holds.seq ?_
   by_cases hg : g < u + d - 1
   ·rw [if_pos (hcond.2 hg), e1]
    unfold finV at hOv ⊢
    refine zs3 (ρ := fun q => if q = 130 then [.v true (.bool false)] else [.v true (.int .i64 d)]) (an hg <| an w1 <| w2) (o := by repeat' first|exact hZ|exact hDg|trivial|constructor) (k := ?_)
    refine Holds.condT rfl ?_
    refine zs2 (ρ := fun _ => [.v true (.agg [.bool b, words (digs mo), .int .i64 zo]), .v true (.int .i64 5)]) (o := by repeat' first|exact hOv|trivial|constructor) (k := ?_)
    exact Holds.ret (RetOk.vs rfl (by exact ⟨⟨rfl, id⟩, ⟨rfl, id⟩, trivial⟩) rfl)
   ·rw [if_neg (fun h => hg (hcond.1 h))]
    refine zs3 (ρ := fun q => if q = 130 then [.v true (.bool false)] else [.v true (.int .i64 d)]) (an hg <| an w1 <| w2) (o := by repeat' first|exact hZ|exact hDg|trivial|constructor) (k := ?_)
    refine Holds.condF rfl (Holds.skip ?_)
    refine Holds.from (σ' := finS P g r neg a u n) (fun a w h => by
     have := Rel.keep [0, 1, 2, 3, 16, 18, 23, 24, 25] [16] h
     unfold finS
     rw [← hN']
     exact this) ?_
    exact fin_end _ _ _ _ _ _ _
def finR (p g r : Int) (neg : Bool) (x : List Int) (e a ti u D : Int) : St := { nt := 157, env := [(0, .v true (.int .i64 p)), (1, .v true (.int .i64 g)), (2, .v true (.int .i64 r)), (3, .v true (.bool neg)), (4, .v false (words x)), (5, .v true (.int .i64 e)), (6, .v true (.bool false)), (16, .ptr 16 0 [] 0), (18, .v true (.int .i64 (1 - g))), (22, .v true (.int .i64 D)), (23, .v true (.int .i64 a)), (24, .v true (.int .i64 u)), (25, .nil), (26, .v true (.int .i64 0))], mem := [(16, .box 179 (.v true (.agg [.bool false, .sl 1 [], .int .i64 0])))] }
set_option maxHeartbeats 4000000 in
theorem fin_round {cx : Cx} {w0 : World} (p g : Int) (r : Nat) (neg : Bool) (x : List Int) (D : Nat) (e a ti u : Int) (h : CtxOk p g r) (hx : x.length < 900) (ox : okW x) (hD : HasD (val x) D) (hDl : D < 500) (he : -4611686018427387904 < e ∧ e < 4611686018427387904)
 (ha : a = e + D - 1) (hag : ¬ g < a) (hu : u = dU p g D e) (hue : e < u) :
 Holds Tryz.prog none cx w0 (codeAt Tryz.f112 [1, 1, 1, 1, 1, 1, 1, 1, 1, 1]) (finR p g r neg x e a ti u D) (fnQ Tryz.prog Tryz.f112 (resV (dInex p g r neg (val x) D e))) := by
 have hle := dN_le (r := r) (neg := neg) h.1.1 hD (show e ≤ dU p g D e by omega)
 have hub : dTiny p g ≤ u ∧ u ≤ g := by
  rw [hu]
  obtain ⟨⟨h1, h2⟩, ⟨h3, h4⟩, h5, h6⟩ := h
  exact ⟨Int.le_max_right _ _, by unfold dU dTiny; omega⟩
 have ht := fun {cx w0} => fin_tail (cx := cx) (w0 := w0) p g r neg a u (dN r neg (val x) (u - e).toNat) h (by rw [hu]; exact hle) hub
 have hres : dInex p g r neg (val x) D e = (if 10 ^ (g + 1 - u).toNat ≤ dN r neg (val x) (u - e).toNat then ovR p g r neg
  else if dN r neg (val x) (u - e).toNat = 10 ^ p.toNat then (false, 10 ^ (p.toNat - 1), u + 1, if a < 1 - g then 3 else 1)
  else (false, dN r neg (val x) (u - e).toNat, u, if a < 1 - g then 3 else 1)) := by
  rw [hu, ha]; rfl
 rw [← hres] at ht
 obtain ⟨res, hres'⟩ : ∃ res, res = resV (dInex p g r neg (val x) D e) := ⟨_, rfl⟩
 rw [← hres'] at ht ⊢
 obtain ⟨k, hk⟩ : ∃ k : Nat, u - e = k := ⟨(u - e).toNat, by omega⟩
 rw [hk, Int.toNat_natCast] at ht
 obtain ⟨⟨h1, h2⟩, ⟨h3, h4⟩, h5, h6⟩ := h
 unfold dTiny at hub
 have wk : IntKind.i64.wrap (u - e) = (k : Int) := by rw [wrap_i64] <;> omega
 clear hres hres' hle
 by_cases hsm : D + 1 < k
 ·have hU := up_ok r (by omega) neg [] 1 (by simp) (by intro n hn; cases hn)
  obtain ⟨s1, s2⟩ := dN_small (r := r) (neg := neg) hD (show D < k by omega)
  have hn : upN r neg (val ([] : List Int)) 1 = dN r neg (val x) k := by
   unfold dN
   rw [s1, s2]
   rfl
  rw [hn] at hU
  have hU : FnOk Tryz.prog 83 [.v (.int .i64 r), .v (.bool neg), .v (.sl 1 []), .v (.int .i64 1)] [.v true (words (digs (dN r neg (val x) k)))] := hU
  obtain ⟨N, hN⟩ : ∃ N, N = digs (dN r neg (val x) k) := ⟨_, rfl⟩
  rw [← hN] at hU
  have g1 : ((D : Int) + 1 < (k : Int)) := by omega
  unfold finR
  refine Holds.seq ?_
  refine Holds.block ?_
  refine zs1 (an wk <| g1) ?_
  refine Holds.condT rfl ?_
  refine zr0 ?_
  show Holds _ _ _ _ _ _ _
  refine Holds.seq ?_
  refine zs0 ?_
  refine Holds.condF rfl (Holds.skip ?_)
  refine zs2 (ρ := fun _ => [.v true (words N)]) (o := by repeat' first|exact hU|trivial|constructor) (k := ?_)
  refine Holds.from (σ' := finS p g r neg a u (dN r neg (val x) k)) (fun a w h => by
   have := Rel.keep [0, 1, 2, 3, 16, 18, 23, 24, 25] [16] h
   unfold finS
   rw [← hN]
   exact this) ?_
  exact ht
 ·have g1 : ¬ ((D : Int) + 1 < (k : Int)) := by omega
  have hTen := wTen_ok k (by omega)
  have hTl := ten_len (k := k)
  have hp : 0 < 10 ^ k := Nat.pow_pos (by decide)
  have hDM := wDivMod_ok x (digs (10 ^ k)) (by omega) (by omega) ox (digs_ok _).1 (by rw [(digs_ok _).2.2]; exact hp)
  rw [(digs_ok (10 ^ k)).2.2] at hDM
  have hql : (digs (val x / 10 ^ k)).length < 1000 := by
   have h1 := digs_mono (Nat.div_le_self (val x) (10 ^ k))
   have h2 := digs_len (val_lt ox)
   omega
  have hrl : (digs (val x % 10 ^ k)).length < 1000 := by
   have h1 := digs_mono (Nat.mod_le (val x) (10 ^ k))
   have h2 := digs_len (val_lt ox)
   omega
  have hCm := compare_ok (digs (val x % 10 ^ k)) (digs (10 ^ k)) (by omega) (by omega) (digs_ok _).1 (digs_ok _).1
  rw [(digs_ok (val x % 10 ^ k)).2.2, (digs_ok (10 ^ k)).2.2] at hCm
  have hU := up_ok r (by omega) neg (digs (val x / 10 ^ k)) (rstN (val x % 10 ^ k) (10 ^ k)) (by omega) (digs_ok _).1
  rw [(digs_ok (val x / 10 ^ k)).2.2, show upN r neg (val x / 10 ^ k) (rstN (val x % 10 ^ k) (10 ^ k)) = dN r neg (val x) k from rfl] at hU
  obtain ⟨N, hN⟩ : ∃ N, N = digs (dN r neg (val x) k) := ⟨_, rfl⟩
  obtain ⟨T, hT'⟩ : ∃ T, T = digs (10 ^ k) := ⟨_, rfl⟩
  obtain ⟨q, hq⟩ : ∃ q, q = digs (val x / 10 ^ k) := ⟨_, rfl⟩
  obtain ⟨l, hl⟩ : ∃ l, l = digs (val x % 10 ^ k) := ⟨_, rfl⟩
  obtain ⟨z, hz⟩ : ∃ z, z = rstN (val x % 10 ^ k) (10 ^ k) := ⟨_, rfl⟩
  rw [← hN, ← hq, ← hz] at hU
  rw [← hl, ← hT', ← hz] at hCm
  rw [← hq, ← hl, ← hT'] at hDM
  rw [← hT'] at hTen
  clear hz hl hq hT' hp hD hu
  unfold finR
  refine Holds.seq ?_
  refine Holds.block ?_
  refine zs1 (an wk <| g1) ?_
  refine Holds.condF rfl ?_
  refine zs1 hue ?_
  refine Holds.condT rfl ?_
  refine zs3 (ρ := fun _ => [.v true (words T)]) wk (o := by repeat' first|exact hTen|trivial|constructor) (k := ?_)
  refine zs2 (ρ := fun _ => [.v true (words q), .v true (words l)]) (o := by repeat' first|exact hDM|trivial|constructor) (k := ?_)
  refine zs2 (ρ := fun _ => [.v true (.int .i64 z)]) (o := by repeat' first|exact hCm|trivial|constructor) (k := ?_)
  refine zs0 ?_
  refine Holds.condF rfl (Holds.skip ?_)
  refine Holds.from (σ' := { nt := 157, env := [(0, .v true (.int .i64 p)), (1, .v true (.int .i64 g)), (2, .v true (.int .i64 r)), (3, .v true (.bool neg)), (6, .v true (.bool false)), (16, .ptr 16 0 [] 0), (18, .v true (.int .i64 (1 - g))), (23, .v true (.int .i64 a)), (24, .v true (.int .i64 u)), (25, .v true (words q)), (26, .v true (.int .i64 z))], mem := [(16, .box 179 (.v true (.agg [.bool false, .sl 1 [], .int .i64 0])))] }) (fun a w h => Rel.keep [0, 1, 2, 3, 6, 16, 18, 23, 24, 25, 26] [16] h) ?_
  refine Holds.seq ?_
  refine zs0 ?_
  refine Holds.condF rfl (Holds.skip ?_)
  refine zs2 (ρ := fun _ => [.v true (words N)]) (o := by repeat' first|exact hU|trivial|constructor) (k := ?_)
  refine Holds.from (σ' := finS p g r neg a u (dN r neg (val x) k)) (fun a w h => by
   have := Rel.keep [0, 1, 2, 3, 16, 18, 23, 24, 25] [16] h
   unfold finS
   rw [← hN]
   exact this) ?_
  exact ht
set_option maxHeartbeats 4000000 in
theorem wFinish_ok (p g : Int) (r : Nat) (neg : Bool) (x : List Int) (D t : Nat) (e ideal : Int) (h : CtxOk p g r) (hx : x.length < 900) (ox : okW x) (hD : HasD (val x) D) (hT : HasT (val x) t) (hDl : D < 500) (he : -4611686018427387904 < e ∧ e < 4611686018427387000) :
 FnOk Tryz.prog 112 [.v (.int .i64 p), .v (.int .i64 g), .v (.int .i64 r), .v (.bool neg), .v (words x), .v (.int .i64 e), .v (.bool false), .v (.int .i64 ideal)] (resV (dFin p g r neg (val x) D t e ideal)) := by
 have htD := hasT_le hT hD
 have hDd := wDigits_ok x D (by omega) ox hD (hasD_bl hD.2.2 (by omega)) (by omega)
 have hOv := over_ok p g r neg h
 obtain ⟨b, mo, zo, e1, e2⟩ := resV_ov p g r neg
 rw [e2] at hOv
 have hh := h
 obtain ⟨⟨h1, h2⟩, ⟨h3, h4⟩, h5, h6⟩ := h
 have wg : IntKind.i64.wrap (1 - g) = 1 - g := by rw [wrap_i64] <;> omega
 have wp1 : IntKind.i64.wrap (p - 1) = p - 1 := by rw [wrap_i64] <;> omega
 have wt : IntKind.i64.wrap (1 - g - (p - 1)) = dTiny p g := by unfold dTiny; rw [wrap_i64] <;> omega
 have we : IntKind.i64.wrap (e + (D : Int)) = e + D := by rw [wrap_i64] <;> omega
 have we1 : IntKind.i64.wrap (e + (D : Int) - 1) = e + D - 1 := by rw [wrap_i64] <;> omega
 by_cases hf : ((D - t : Nat) : Int) ≤ p ∧ dTiny p g ≤ e + t ∧ e + D - 1 ≤ g
 ·have hF := fits_yes p g x D t e ideal ⟨h1, h2⟩ ⟨h3, h4⟩ hx ox hD hT (by omega) (by omega) hf
  unfold dFin
  rw [if_neg (by omega), if_pos ⟨hf.1, hf.2.1⟩]
  unfold resV
  simp only
  obtain ⟨M, hM⟩ : ∃ M, M = val x / 10 ^ t * 10 ^ (e + t - dAt p g D t e ideal).toNat := ⟨_, rfl⟩
  obtain ⟨A, hA⟩ : ∃ A, A = dAt p g D t e ideal := ⟨_, rfl⟩
  obtain ⟨ti, hti⟩ : ∃ ti, ti = dTiny p g := ⟨_, rfl⟩
  rw [← hM, ← hA, ← hti] at hF
  rw [← hti] at wt
  rw [← hM, ← hA]
  unfold finV at hF ⊢
  obtain ⟨L, hL⟩ : ∃ L, L = digs M := ⟨_, rfl⟩
  rw [← hL] at hF ⊢
  clear hM hL hA hti hf hDd hOv e1 e2 hh hD hT
  refine FnOk.of Tryz.func112 rfl rfl fun cx w0 => ?_
  rw [show Tryz.f112.ntmps = 157 from rfl]
  refine zs0 ?_
  refine zs1 wg ?_
  refine zs1 (an wp1 <| wt) ?_
  refine Holds.seq ?_
  refine zs0 ?_
  refine Holds.condT rfl ?_
  refine zs2 (ρ := fun _ => [.v true (.agg [.bool false, words L, .int .i64 A]), .v true (.bool true)]) (o := by repeat' first|exact hF|trivial|constructor) (k := ?_)
  refine zs0 ?_
  refine Holds.condT rfl ?_
  refine zs0 ?_
  exact Holds.ret (RetOk.vs rfl (by exact ⟨⟨rfl, id⟩, ⟨rfl, id⟩, trivial⟩) rfl)
 ·have hF := fits_no p g x D t e ideal ⟨h1, h2⟩ ⟨h3, h4⟩ hx ox hD hT (by omega) (by omega) hf
  rw [finV_zero] at hF
  obtain ⟨ti, hti⟩ : ∃ ti, ti = dTiny p g := ⟨_, rfl⟩
  rw [← hti] at hF wt
  refine FnOk.of Tryz.func112 rfl rfl fun cx w0 => ?_
  rw [show Tryz.f112.ntmps = 157 from rfl]
  refine zs0 ?_
  refine zs1 wg ?_
  refine zs1 (an wp1 <| wt) ?_
  refine Holds.seq ?_
  refine zs0 ?_
  refine Holds.condT rfl ?_
  refine zs2 (ρ := fun _ => [.v true (.agg [.bool false, .sl 1 [], .int .i64 0]), .v true (.bool false)]) (o := by repeat' first|exact hF|trivial|constructor) (k := ?_)
  refine zs0 ?_
  refine Holds.condF rfl (Holds.skip ?_)
  refine Holds.from (σ' := { nt := 157, env := [(0, .v true (.int .i64 p)), (1, .v true (.int .i64 g)), (2, .v true (.int .i64 r)), (3, .v true (.bool neg)), (4, .v false (words x)), (5, .v true (.int .i64 e)), (6, .v true (.bool false)), (16, .ptr 16 0 [] 0), (18, .v true (.int .i64 (1 - g))), (19, .v true (.int .i64 ti))], mem := [(16, .box 179 (.v true (.agg [.bool false, .sl 1 [], .int .i64 0])))] }) (fun a w h => Rel.keep [0, 1, 2, 3, 4, 5, 6, 16, 18, 19] [16] h) ?_
  refine zs2 (ρ := fun _ => [.v true (.int .i64 D)]) (o := by repeat' first|exact hDd|trivial|constructor) (k := ?_)
  refine zs1 (an we <| we1) ?_
  by_cases hag : g < e + D - 1
  ·unfold dFin
   rw [if_pos hag, e1]
   unfold finV at hOv ⊢
   refine Holds.seq ?_
   refine zs1 hag ?_
   refine Holds.condT rfl ?_
   refine zs2 (ρ := fun _ => [.v true (.agg [.bool b, words (digs mo), .int .i64 zo]), .v true (.int .i64 5)]) (o := by repeat' first|exact hOv|trivial|constructor) (k := ?_)
   exact Holds.ret (RetOk.vs rfl (by exact ⟨⟨rfl, id⟩, ⟨rfl, id⟩, trivial⟩) rfl)
  ·have hfD : ¬ (((D - t : Nat) : Int) ≤ p ∧ dTiny p g ≤ e + t) := fun h => hf ⟨h.1, h.2, by omega⟩
   unfold dFin
   rw [if_neg hag, if_neg hfD]
   have hu : max (e + (D : Int) - 1 - p + 1) ti = dU p g D e := by rw [hti]; rfl
   have hue : e < dU p g D e := by
    rw [← hu, hti]
    by_cases h7 : ((D - t : Nat) : Int) ≤ p
    ·have := Int.le_max_right (e + (D : Int) - 1 - p + 1) (dTiny p g)
     have : ¬ dTiny p g ≤ e + t := fun h8 => hfD ⟨h7, h8⟩
     omega
    ·have := Int.le_max_left (e + (D : Int) - 1 - p + 1) (dTiny p g)
     omega
   have hR := fun {cx w0} => fin_round (cx := cx) (w0 := w0) p g r neg x D e (e + D - 1) ti (dU p g D e) hh hx ox hD hDl ⟨he.1, by omega⟩ rfl hag rfl hue
   have wa : IntKind.i64.wrap (e + (D : Int) - 1 - p) = e + D - 1 - p := by rw [wrap_i64] <;> omega
   have wa1 : IntKind.i64.wrap (e + (D : Int) - 1 - p + 1) = e + D - 1 - p + 1 := by rw [wrap_i64] <;> omega
   obtain ⟨u, hu'⟩ : ∃ u, u = dU p g D e := ⟨_, rfl⟩
   rw [← hu'] at hu hR
   obtain ⟨res, hres⟩ : ∃ res, res = resV (dInex p g r neg (val x) D e) := ⟨_, rfl⟩
   rw [← hres] at hR ⊢
   clear hres hu' hue hfD hf hF hOv e1 e2 hh hD hT
   refine Holds.seq ?_
   refine zs1 hag ?_
   refine Holds.condF rfl (Holds.skip ?_)
   refine zs1 (an wa <| an wa1 <| an max2_eq <| hu) ?_
   refine zs0 ?_
   refine zs0 ?_
   exact Holds.from (σ' := finR p g r neg x e (e + D - 1) ti u D) (fun a w h => Rel.keep [0, 1, 2, 3, 4, 5, 6, 16, 18, 22, 23, 24, 25, 26] [16] h) hR
def dresK (d : DRes) : Nat := if d.1 = true then 1 else 0
def zeroAt (p g ideal : Int) : Int := min (max ideal (dTiny p g)) g
theorem ovR_form (p g : Int) (r : Nat) (neg : Bool) : (ovR p g r neg).1 = true → (ovR p g r neg).2.1 = 0 ∧ (ovR p g r neg).2.2.1 = 0 := by
 unfold ovR; split
 ·intro h; cases h
 ·intro _; exact ⟨rfl, rfl⟩
theorem dFin_inf (p g : Int) (r : Nat) (neg : Bool) (m D t : Nat) (e ideal : Int) : (dFin p g r neg m D t e ideal).1 = true → (dFin p g r neg m D t e ideal).2.1 = 0 ∧ (dFin p g r neg m D t e ideal).2.2.1 = 0 := by
 unfold dFin
 split
 ·exact ovR_form _ _ _ _
 ·split
  ·intro h; cases h
  ·unfold dInex
   split
   ·exact ovR_form _ _ _ _
   ·split <;> (intro h; cases h)
theorem Finish_zero (p g : Int) (r : Nat) (neg : Bool) (e ideal : Int) (h : CtxOk p g r) :
 FnOk Tryz.prog 57 [.v (ctxV p g r), .v (.bool neg), .v (words (digs 0)), .v (.int .i64 e), .v (.bool false), .v (.int .i64 ideal)] [.v true (decV 0 neg 0 (zeroAt p g ideal)), .v true (.int .i64 0)] := by
 have hT := tiny_ok p g r h
 have hZ := wZero_ok [] (by decide) (fun n hn => by cases hn)
 rw [show decide (val [] = 0) = true from rfl] at hZ
 have hZ : FnOk Tryz.prog 36 [.v (.sl 1 [])] [.v true (.bool true)] := hZ
 rw [decV_zero, show words (digs 0) = .sl 1 [] from rfl]
 have hz : zeroAt p g ideal = min (max ideal (1 - g - (p - 1))) g := rfl
 obtain ⟨z, hz'⟩ : ∃ z, z = zeroAt p g ideal := ⟨_, rfl⟩
 rw [← hz'] at hz ⊢
 unfold ctxV at hT ⊢
 refine FnOk.of Tryz.func57 rfl rfl fun cx w0 => ?_
 rw [show Tryz.f57.ntmps = 58 from rfl]
 refine zs0 ?_
 refine Holds.seq ?_
 refine zs2 (ρ := fun _ => [.v true (.bool true)]) (o := by repeat' first|exact hZ|trivial|constructor) (k := ?_)
 refine Holds.condT rfl ?_
 refine zd3 [] (ρ := fun _ => [.v true (.int .i64 (1 - g - (p - 1)))]) (an max2_eq <| an min2_eq <| hz.symm) (o := by repeat' first|exact hT|trivial|constructor) (k := ?_)
 exact Holds.ret (RetOk.vs rfl (by exact ⟨⟨rfl, id⟩, ⟨rfl, id⟩, trivial⟩) rfl)
theorem Finish_pos (p g : Int) (r : Nat) (neg : Bool) (m D t : Nat) (e ideal : Int) (h : CtxOk p g r) (hx : (digs m).length < 900) (hD : HasD m D) (hT : HasT m t) (hDl : D < 500) (he : -4611686018427387904 < e ∧ e < 4611686018427387000) :
 FnOk Tryz.prog 57 [.v (ctxV p g r), .v (.bool neg), .v (words (digs m)), .v (.int .i64 e), .v (.bool false), .v (.int .i64 ideal)] [.v true (decV (dresK (dFin p g r neg m D t e ideal)) neg (dFin p g r neg m D t e ideal).2.1 (dFin p g r neg m D t e ideal).2.2.1), .v true (.int .i64 (dFin p g r neg m D t e ideal).2.2.2)] := by
 have hpos := hT.pos
 have hF := wFinish_ok p g r neg (digs m) D t e ideal h hx (digs_ok _).1 (by rw [(digs_ok _).2.2]; exact hD) (by rw [(digs_ok _).2.2]; exact hT) hDl he
 have hZ := wZero_ok (digs m) (by omega) (digs_ok _).1
 rw [(digs_ok m).2.2] at hF hZ
 rw [decide_eq_false (by omega)] at hZ
 have hi := dFin_inf p g r neg m D t e ideal
 obtain ⟨res, hres⟩ : ∃ res, res = dFin p g r neg m D t e ideal := ⟨_, rfl⟩
 rw [← hres] at hF hi ⊢
 obtain ⟨b, mo, zo, fl⟩ := res
 simp only at hi
 unfold resV finV at hF
 unfold dresK decV
 simp only at hF ⊢
 obtain ⟨L, hL⟩ : ∃ L, L = digs m := ⟨_, rfl⟩
 rw [← hL] at hF hZ ⊢
 unfold ctxV
 refine FnOk.of Tryz.func57 rfl rfl fun cx w0 => ?_
 rw [show Tryz.f57.ntmps = 58 from rfl]
 cases b with
 | true =>
   obtain ⟨e1, e2⟩ := hi rfl
   subst e1; subst e2
   rw [if_pos rfl, show words (digs 0) = .sl 1 [] from rfl]
   rw [show words (digs 0) = .sl 1 [] from rfl] at hF
   refine zs0 ?_
   refine Holds.seq ?_
   refine zs2 (ρ := fun _ => [.v true (.bool false)]) (o := by repeat' first|exact hZ|trivial|constructor) (k := ?_)
   refine Holds.condF rfl (Holds.skip ?_)
   refine zs2 (ρ := fun _ => [.v true (.agg [.bool true, .sl 1 [], .int .i64 0]), .v true (.int .i64 fl)]) (o := by repeat' first|exact hF|trivial|constructor) (k := ?_)
   refine Holds.seq ?_
   refine zs0 ?_
   refine Holds.condT rfl ?_
   refine zs0 ?_
   exact Holds.ret (RetOk.vs rfl (by exact ⟨⟨rfl, id⟩, ⟨rfl, id⟩, trivial⟩) rfl)
 | false =>
   rw [if_neg (by simp)]
   obtain ⟨M, hM⟩ : ∃ M, M = digs mo := ⟨_, rfl⟩
   rw [← hM] at hF ⊢
   refine zs0 ?_
   refine Holds.seq ?_
   refine zs2 (ρ := fun _ => [.v true (.bool false)]) (o := by repeat' first|exact hZ|trivial|constructor) (k := ?_)
   refine Holds.condF rfl (Holds.skip ?_)
   refine zs2 (ρ := fun _ => [.v true (.agg [.bool false, words M, .int .i64 zo]), .v true (.int .i64 fl)]) (o := by repeat' first|exact hF|trivial|constructor) (k := ?_)
   refine Holds.seq ?_
   refine zs0 ?_
   refine Holds.condF rfl (Holds.skip ?_)
   refine zs0 ?_
   exact Holds.ret (RetOk.vs rfl (by exact ⟨⟨rfl, id⟩, ⟨rfl, id⟩, trivial⟩) rfl)
theorem Decimal_none (p g r : Int) (t : ByteArray) (ht : t.size ≤ 300) (hc : CtxOk p g r) (h : rdB t = false ∨ ∃ n, longM t true = some n ∧ n.kind = 1) :
 FnOk Tryz.prog 19 [.v (ctxV p g r), .v (.str t)] [.v true (decV 0 false 0 0), .v true (.int .i64 0), .v true (.int .i64 6)] := by
 have hC := dCheck_ok p g r
 unfold CtxOk at hc
 rw [if_pos hc] at hC
 have hD := dec_none t (by omega) h
 rw [decV_zero]
 unfold ctxV at hC ⊢
 have g0 : ¬ (65536 : Int) < t.size := by omega
 refine FnOk.of Tryz.func19 rfl rfl fun cx w0 => ?_
 rw [show Tryz.f19.ntmps = 59 from rfl]
 refine zs0 ?_
 refine Holds.seq ?_
 refine zs1 g0 ?_
 refine Holds.condF rfl (Holds.skip ?_)
 refine Holds.seq ?_
 refine zs2 (ρ := fun _ => [.v true (.int .i64 0)]) (o := by repeat' first|exact hC|trivial|constructor) (k := ?_)
 refine zs0 ?_
 refine Holds.condF rfl (Holds.skip ?_)
 refine zs2 (ρ := fun _ => [.v true (.agg [.int .i64 (0 : Nat), .bool false, .str ⟨#[]⟩, .int .i64 0, .int .i64 0, .int .i64 0, .bool false]), .v true (.int .i64 6)]) (o := by repeat' first|exact hD|trivial|constructor) (k := ?_)
 refine Holds.seq ?_
 refine zs0 ?_
 refine Holds.condT rfl ?_
 refine zs0 ?_
 exact Holds.ret (RetOk.vs rfl (by exact ⟨⟨rfl, id⟩, ⟨rfl, id⟩, ⟨rfl, id⟩, trivial⟩) rfl)
theorem Decimal_spec (p g r : Int) (t : ByteArray) (ht : t.size ≤ 300) (hc : CtxOk p g r) {n : Nm} (h : longM t true = some n) (hr : rdB t = true) (hk : n.kind = 3 ∨ n.kind = 2) :
 FnOk Tryz.prog 19 [.v (ctxV p g r), .v (.str t)] [.v true (spV n), .v true (.int .i64 0), .v true (.int .i64 0)] := by
 have hC := dCheck_ok p g r
 unfold CtxOk at hc
 rw [if_pos hc] at hC
 have hD := dec_some t (by omega) h hr (by omega)
 have hS := special_ok n
 rw [decide_eq_true hk] at hS
 obtain ⟨ks, ns, hs⟩ := spV_form n
 rw [hs] at hS ⊢
 clear hs h hk hr
 obtain ⟨k, neg, d, bh, e, len, sg⟩ := n
 unfold Nm.v numV at hD hS
 simp only at hD hS
 unfold ctxV at hC ⊢
 have g0 : ¬ (65536 : Int) < t.size := by omega
 refine FnOk.of Tryz.func19 rfl rfl fun cx w0 => ?_
 rw [show Tryz.f19.ntmps = 59 from rfl]
 refine zs0 ?_
 refine Holds.seq ?_
 refine zs1 g0 ?_
 refine Holds.condF rfl (Holds.skip ?_)
 refine Holds.seq ?_
 refine zs2 (ρ := fun _ => [.v true (.int .i64 0)]) (o := by repeat' first|exact hC|trivial|constructor) (k := ?_)
 refine zs0 ?_
 refine Holds.condF rfl (Holds.skip ?_)
 refine zs2 (ρ := fun _ => [.v true (.agg [.int .i64 (k : Nat), .bool neg, .str ⟨d.toArray⟩, .int .i64 (bh : Nat), .int .i64 e, .int .i64 (len : Nat), .bool sg]), .v true (.int .i64 0)]) (o := by repeat' first|exact hD|trivial|constructor) (k := ?_)
 refine Holds.seq ?_
 refine zs0 ?_
 refine Holds.condF rfl (Holds.skip ?_)
 refine Holds.seq ?_
 refine zs2 (ρ := fun _ => [.v true (.agg [.int .i64 (ks : Nat), .bool ns, .sl 1 [], .int .i64 0]), .v true (.bool true)]) (o := by repeat' first|exact hS|trivial|constructor) (k := ?_)
 refine zs0 ?_
 refine Holds.condT rfl ?_
 refine zs0 ?_
 exact Holds.ret (RetOk.vs rfl (by exact ⟨⟨rfl, id⟩, ⟨rfl, id⟩, ⟨rfl, id⟩, trivial⟩) rfl)
theorem Decimal_num (p g r : Int) (t : ByteArray) (ht : t.size ≤ 300) (hc : CtxOk p g r) {n : Nm} (h : longM t true = some n) (hr : rdB t = true) (ho : NmOk n t.size) (hk : n.kind = 0)
 (kx : Nat) (nx : Bool) (mx : Nat) (ex fx : Int) (hF : FnOk Tryz.prog 57 [.v (ctxV p g r), .v (.bool n.neg), .v (words (digs n.num)), .v (.int .i64 (n.exp - (n.each * n.behind : Nat))), .v (.bool false), .v (.int .i64 (n.exp - (n.each * n.behind : Nat)))] [.v true (decV kx nx mx ex), .v true (.int .i64 fx)]) :
 FnOk Tryz.prog 19 [.v (ctxV p g r), .v (.str t)] [.v true (decV kx nx mx ex), .v true (.int .i64 fx), .v true (.int .i64 0)] := by
 have hC := dCheck_ok p g r
 unfold CtxOk at hc
 rw [if_pos hc] at hC
 have hD := dec_some t (by omega) h hr (by omega)
 have hS := special_ok n
 have hM := mag_ok ho (by omega)
 rw [decide_eq_false (by omega), show spV n = decV 0 false 0 0 from by unfold spV; rw [if_neg (by omega), if_neg (by omega)], decV_zero] at hS
 rw [decV_eq] at hF ⊢
 obtain ⟨L, hL⟩ : ∃ L, L = (digs mx).map fun n => V.int .u64 n := ⟨_, rfl⟩
 rw [← hL] at hF ⊢
 obtain ⟨m, hm⟩ : ∃ m, m = digs n.num := ⟨_, rfl⟩
 obtain ⟨x, hx⟩ : ∃ x, x = n.exp - (n.each * n.behind : Nat) := ⟨_, rfl⟩
 rw [← hm, ← hx] at hM hF
 obtain ⟨y, hy⟩ : ∃ y, y = n.neg := ⟨_, rfl⟩
 rw [← hy] at hF
 clear h hk hr ho hm hx
 obtain ⟨k, neg, d, bh, e, len, sg⟩ := n
 unfold Nm.v numV at hD hS hM
 simp only at hD hS hM hy
 subst hy
 unfold ctxV at hC hF ⊢
 have g0 : ¬ (65536 : Int) < t.size := by omega
 refine FnOk.of Tryz.func19 rfl rfl fun cx w0 => ?_
 rw [show Tryz.f19.ntmps = 59 from rfl]
 refine zs0 ?_
 refine Holds.seq ?_
 refine zs1 g0 ?_
 refine Holds.condF rfl (Holds.skip ?_)
 refine Holds.seq ?_
 refine zs2 (ρ := fun _ => [.v true (.int .i64 0)]) (o := by repeat' first|exact hC|trivial|constructor) (k := ?_)
 refine zs0 ?_
 refine Holds.condF rfl (Holds.skip ?_)
 refine zs2 (ρ := fun _ => [.v true (.agg [.int .i64 (k : Nat), .bool y, .str ⟨d.toArray⟩, .int .i64 (bh : Nat), .int .i64 e, .int .i64 (len : Nat), .bool sg]), .v true (.int .i64 0)]) (o := by repeat' first|exact hD|trivial|constructor) (k := ?_)
 refine Holds.seq ?_
 refine zs0 ?_
 refine Holds.condF rfl (Holds.skip ?_)
 refine Holds.seq ?_
 refine zs2 (ρ := fun _ => [.v true (.agg [.int .i64 (0 : Nat), .bool false, .sl 1 [], .int .i64 0]), .v true (.bool false)]) (o := by repeat' first|exact hS|trivial|constructor) (k := ?_)
 refine zs0 ?_
 refine Holds.condF rfl (Holds.skip ?_)
 refine zs2 (ρ := fun _ => [.v true (words m), .v true (.int .i64 x)]) (o := by repeat' first|exact hM|trivial|constructor) (k := ?_)
 refine zs2 (ρ := fun _ => [.v true (.agg [.int .i64 (kx : Nat), .bool nx, .sl 1 L, .int .i64 ex]), .v true (.int .i64 fx)]) (o := by repeat' first|exact hF|trivial|constructor) (k := ?_)
 refine zs0 ?_
 exact Holds.ret (RetOk.vs rfl (by exact ⟨⟨rfl, id⟩, ⟨rfl, id⟩, ⟨rfl, id⟩, trivial⟩) rfl)
theorem cntS_top (u : Nat) : ∀ j, u % 2 ^ j ≠ 0 → (cntS u j).1 = 64 - (blN (u % 2 ^ j) : Int)
 | 0, h => absurd (Nat.mod_one u) h
 | j + 1, h => by
   have hm : u % 2 ^ (j + 1) = u % 2 ^ j + 2 ^ j * (u / 2 ^ j % 2) := by rw [Nat.pow_succ, Nat.mod_mul]
   rw [cntS]
   by_cases hb : u / 2 ^ j % 2 = 1
   ·rw [if_pos hb]
    have hlt := Nat.mod_lt u (Nat.pow_pos (a := 2) (n := j) (by decide))
    have : blN (u % 2 ^ (j + 1)) = j + 1 := by
     refine bl_of ?_ (Nat.mod_lt _ (Nat.pow_pos (by decide)))
     rw [hm, hb]; omega
    rw [this]
    show 63 - (j : Int) = _
    omega
   ·rw [if_neg hb]
    have e : u % 2 ^ (j + 1) = u % 2 ^ j := by rw [hm, show u / 2 ^ j % 2 = 0 from by omega, Nat.mul_zero, Nat.add_zero]
    rw [e] at h ⊢
    exact cntS_top u j h
theorem lenR_eq {x : List Int} (ox : okW x) : lenR x = (blN (val x) : Nat) := by
 rw [lenR]
 cases h : trimW x x.length with
 | zero =>
   have : val x = 0 := by rw [← val_trim x, trimL, h]; simp [val]
   rw [this]
   rfl
 | succ m =>
   obtain ⟨h1, h2⟩ := trimW_last x _ _ h
   obtain ⟨u, hu, hu64⟩ := natW (okW_getD ox m)
   have hu0 : 0 < u := by rw [hu] at h1; omega
   have hc := cntS_top u 64 (by rw [Nat.mod_eq_of_lt (show u < 2 ^ 64 from hu64)]; omega)
   rw [Nat.mod_eq_of_lt (show u < 2 ^ 64 from hu64)] at hc
   obtain ⟨b1, b2⟩ := bl_le hu0
   have hb := bl_words (Y := x.take (m + 1)) (n := m) (top := u) (l := blN u) (okW_take ox _) (by rw [List.length_take]; omega) (by
    rw [← hu, List.getD_eq_getElem?_getD, List.getD_eq_getElem?_getD, List.getElem?_take, if_pos (by omega)]) b2 b1 (by
    unfold blN; rw [if_neg (by omega)]; exact Nat.lt_log2_self)
   have hv : val (x.take (m + 1)) = val x := by rw [← val_trim x, trimL, h]
   rw [hv] at hb
   show 64 * (m : Int) + 64 - (cntS (x.getD m 0).toNat 64).1 = _
   rw [hu, Int.toNat_natCast, hc, hb]
   omega
set_option maxHeartbeats 2000000 in
theorem rDigits_ok (x : List Int) (D : Nat) (hx : x.length < 10000) (ox : okW x) (hD : HasD (val x) D) (hb : blN (val x) ≤ 2200) (hDl : D < 3000) : FnOk Tryz.prog 68 [.v (words x)] [.v true (.int .i64 D)] := by
 have hpos : 0 < val x := by
  have := Nat.pow_pos (a := 10) (n := D - 1) (by decide)
  have := hD.2.1
  omega
 have hL := rLen_ok x (by omega) ox
 rw [lenR_eq ox] at hL
 obtain ⟨b1, b2⟩ := bl_le hpos
 obtain ⟨B, hB⟩ : ∃ B, B = blN (val x) := ⟨_, rfl⟩
 rw [← hB] at hL b1 b2 hb
 have hs := dig_start (m := B - 1) (by omega)
 have hn0 : (B - 1) * 30103 / 100000 < D := hasD_lt hD (Nat.le_trans hs b1)
 have hcmp : ∀ n : Nat, n ≤ D → FnOk Tryz.prog 124 [.v (words x), .v (words (digs (10 ^ n)))] [.v true (.int .i64 (cmpN (val x) (10 ^ n)))] := fun n hn => by
  have hTl := ten_len (k := n)
  have hC := rCmp_ok x (digs (10 ^ n)) (by omega) (by omega) ox (digs_ok _).1
  rw [(digs_ok (10 ^ n)).2.2] at hC
  exact hC
 refine FnOk.of Tryz.func68 rfl rfl fun cx w0 => ?_
 rw [show Tryz.f68.ntmps = 30 from rfl]
 obtain ⟨n0, hn0'⟩ : ∃ n0, n0 = (B - 1) * 30103 / 100000 := ⟨_, rfl⟩
 rw [← hn0'] at hn0
 have w1 : (B : Int) - 1 = ((B - 1 : Nat) : Int) := by omega
 have w2 : IntKind.i64.wrap (((B - 1 : Nat) : Int) * 30103) = (((B - 1) * 30103 : Nat) : Int) := by rw [wrap_i64] <;> omega
 have w3 : (((B - 1) * 30103 : Nat) : Int).tdiv 100000 = (n0 : Int) := by rw [hn0']; exact quoN _ 100000
 have w4 : IntKind.i64.wrap (n0 : Int) = (n0 : Int) := by rw [wrap_i64] <;> omega
 have w5 : IntKind.i64.wrap ((n0 : Int) + 1) = ((n0 + 1 : Nat) : Int) := by rw [wrap_i64] <;> omega
 obtain ⟨B1, hB1⟩ : ∃ B1, B1 = B - 1 := ⟨_, rfl⟩
 rw [← hB1] at w1 w2 w3
 obtain ⟨p, hp⟩ : ∃ p, p = B1 * 30103 := ⟨_, rfl⟩
 rw [← hp] at w2 w3
 clear hs b1 hn0' hp hB1 hB
 refine zs0 ?_
 refine zs3 (ρ := fun _ => [.v true (.int .i64 (B : Nat))]) (an w1 <| an w2 <| an w3 <| an w4 <| w5) (o := by repeat' first|exact hL|trivial|constructor) (k := ?_)
 refine Holds.next (fun σ => ∀ a w, Rel cx w0 σ a w → Rel cx w0 { nt := 30, env := [(3, .v true (.int .i64 D)), (0, .v false (words x))], mem := [] } a w) ?_ ?_
 ·refine Holds.loopB (fun n : Nat => { nt := 30, env := [(3, .v true (.int .i64 (n : Nat))), (0, .v false (words x))], mem := [] }) (fun n => n ≤ D) (fun n => D - n) (n0 + 1) hn0 (fun a w h => Rel.keep [3, 0] [] h) ?_
  intro n hn
  have hT := rTen_ok n (by omega)
  have hC := hcmp n hn
  obtain ⟨T, hT'⟩ : ∃ T, T = digs (10 ^ n) := ⟨_, rfl⟩
  obtain ⟨c, hc⟩ : ∃ c, c = cmpN (val x) (10 ^ n) := ⟨_, rfl⟩
  rw [← hT'] at hT hC
  rw [← hc] at hC
  refine Holds.seq ?_
  rcases Nat.lt_or_ge (val x) (10 ^ n) with h | h
  ·have hDn : n = D := Nat.le_antisymm hn (hasD_le hD h)
   have g : ¬ 0 ≤ c := by rw [hc, cmpN, if_pos h]; omega
   refine zs3 (ρ := fun d => if d = 12 then [.v true (words T)] else [.v true (.int .i64 c)]) g (o := by repeat' first|exact hT|exact hC|trivial|constructor) (k := ?_)
   refine Holds.condF rfl (Holds.exit ⟨rfl, fun a w h => ?_⟩)
   have := Rel.keep [3, 0] [] h
   rw [hDn] at this
   exact this
  ·have hlt := hasD_lt hD h
   have g : 0 ≤ c := by rw [hc, cmpN, if_neg (by omega)]; split <;> omega
   have wk : IntKind.i64.wrap ((n : Int) + 1) = ((n + 1 : Nat) : Int) := by rw [wrap_i64] <;> omega
   refine zs3 (ρ := fun d => if d = 12 then [.v true (words T)] else [.v true (.int .i64 c)]) g (o := by repeat' first|exact hT|exact hC|trivial|constructor) (k := ?_)
   refine Holds.condT rfl (Holds.skip ?_)
   refine Holds.block ?_
   refine zr1 wk ?_
   exact ⟨n + 1, (by show n + 1 ≤ D; omega), (show D - (n + 1) < D - n by omega), fun a w h => Rel.keep [3, 0] [] h⟩
 ·intro σ hσ
  refine Holds.from hσ ?_
  refine Holds.next (fun σ => ∀ a w, Rel cx w0 σ a w → Rel cx w0 { nt := 30, env := [(3, .v true (.int .i64 D))], mem := [] } a w) ?_ ?_
  ·refine Holds.loopB (fun _ : Nat => { nt := 30, env := [(3, .v true (.int .i64 (D : Nat))), (0, .v false (words x))], mem := [] }) (fun _ => True) (fun n => n) 0 trivial (fun a w h => Rel.keep [3, 0] [] h) ?_
   intro n _
   refine Holds.seq ?_
   by_cases h1 : 1 < D
   ·have g1 : (1 : Int) < (D : Int) := by omega
    have hT := rTen_ok (D - 1) (by omega)
    have hC := hcmp (D - 1) (by omega)
    have w6 : (D : Int) - 1 = ((D - 1 : Nat) : Int) := by omega
    have g2 : ¬ cmpN (val x) (10 ^ (D - 1)) < 0 := by
     rw [cmpN, if_neg (by have := hD.2.1; omega)]; split <;> omega
    obtain ⟨T, hT'⟩ : ∃ T, T = digs (10 ^ (D - 1)) := ⟨_, rfl⟩
    obtain ⟨c, hc⟩ : ∃ c, c = cmpN (val x) (10 ^ (D - 1)) := ⟨_, rfl⟩
    rw [← hT'] at hT hC
    rw [← hc] at hC g2
    refine zs3 (ρ := fun d => if d = 23 then [.v true (words T)] else [.v true (.int .i64 c)]) (an g1 <| an g2 <| w6) (o := by repeat' first|exact hT|exact hC|trivial|constructor) (k := ?_)
    exact Holds.condF rfl (Holds.exit ⟨rfl, fun a w h => Rel.keep [3] [] h⟩)
   ·have g1 : ¬ (1 : Int) < (D : Int) := by omega
    refine zs1 g1 ?_
    exact Holds.condF rfl (Holds.exit ⟨rfl, fun a w h => Rel.keep [3] [] h⟩)
  ·intro σ hσ
   refine Holds.from hσ ?_
   refine zs0 ?_
   exact Holds.ret (RetOk.vs rfl (by exact ⟨⟨rfl, id⟩, trivial⟩) rfl)
theorem dCheck0_ok (p g r : Int) : FnOk Tryz.prog 59 [.v (ctxV p g r), .v (.sl 4 [])] [.v true (.int .i64 (if (1 ≤ p ∧ p ≤ 400) ∧ (1 ≤ g ∧ g ≤ 6000) ∧ 0 ≤ r ∧ r ≤ 4 then 0 else 220))] := by
 have hR := rRight_ok p g r
 unfold ctxV at hR ⊢
 refine FnOk.of Tryz.func59 rfl rfl fun cx w0 => ?_
 rw [show Tryz.f59.ntmps = 43 from rfl]
 refine zs0 ?_
 refine Holds.next (fun σ => ∀ a w, Rel cx w0 σ a w → Rel cx w0 { nt := 43, env := [(1, .v false (.sl 4 [])), (2, .ptr 2 0 [] 0)], mem := [(2, .box 63 (.v false (.agg [.int .i64 p, .int .i64 g, .int .i64 r])))] } a w) ?_ ?_
 ·refine zs0 ?_
  refine Holds.loopB (fun _ : Nat => { nt := 43, env := [(5, .v true (.int .i64 0)), (1, .v false (.sl 4 [])), (2, .ptr 2 0 [] 0)], mem := [(2, .box 63 (.v false (.agg [.int .i64 p, .int .i64 g, .int .i64 r])))] }) (fun _ => True) (fun n => n) 0 trivial (fun a w h => Rel.keep [5, 1, 2] [2] h) ?_
  intro n _
  refine Holds.seq ?_
  refine zs0 ?_
  exact Holds.condF rfl (Holds.exit ⟨rfl, fun a w h => Rel.keep [1, 2] [2] h⟩)
 ·intro σ hσ
  refine Holds.from hσ ?_
  refine Holds.seq ?_
  by_cases h : (1 ≤ p ∧ p ≤ 400) ∧ (1 ≤ g ∧ g ≤ 6000) ∧ 0 ≤ r ∧ r ≤ 4
  ·rw [decide_eq_true h] at hR
   rw [if_pos h]
   refine zs2 (ρ := fun _ => [.v true (.bool true)]) (o := by repeat' first|exact hR|trivial|constructor) (k := ?_)
   refine Holds.condF rfl (Holds.skip ?_)
   refine Holds.next (fun σ => ∀ a w, Rel cx w0 σ a w → Rel cx w0 { nt := 43, env := [], mem := [] } a w) ?_ ?_
   ·refine zs0 ?_
    refine Holds.loopB (fun _ : Nat => { nt := 43, env := [(6, .v true (.int .i64 0)), (1, .v false (.sl 4 []))], mem := [] }) (fun _ => True) (fun n => n) 0 trivial (fun a w h => Rel.keep [6, 1] [] h) ?_
    intro n _
    refine Holds.seq ?_
    refine zs0 ?_
    exact Holds.condF rfl (Holds.exit ⟨rfl, fun a w h => Rel.keep [] [] h⟩)
   ·intro σ hσ
    refine Holds.from hσ ?_
    refine zs0 ?_
    exact Holds.ret (RetOk.vs rfl (by exact ⟨⟨rfl, id⟩, trivial⟩) rfl)
  ·rw [decide_eq_false h] at hR
   rw [if_neg h]
   refine zs2 (ρ := fun _ => [.v true (.bool false)]) (o := by repeat' first|exact hR|trivial|constructor) (k := ?_)
   refine Holds.condT rfl ?_
   refine zs0 ?_
   exact Holds.ret (RetOk.vs rfl (by exact ⟨⟨rfl, id⟩, trivial⟩) rfl)
theorem dArgs0_ok (p g r : Int) : FnOk Tryz.prog 20 [.v (ctxV p g r), .v (.sl 4 [])] [.v true (.int .i64 (if (1 ≤ p ∧ p ≤ 400) ∧ (1 ≤ g ∧ g ≤ 6000) ∧ 0 ≤ r ∧ r ≤ 4 then 0 else 220))] := by
 have hC := dCheck0_ok p g r
 have hX := Ctx_ok p g r
 obtain ⟨w, hw⟩ : ∃ w : Int, w = if (1 ≤ p ∧ p ≤ 400) ∧ (1 ≤ g ∧ g ≤ 6000) ∧ 0 ≤ r ∧ r ≤ 4 then 0 else 220 := ⟨_, rfl⟩
 rw [← hw] at hC ⊢
 unfold ctxV at hC hX ⊢
 refine FnOk.of Tryz.func20 rfl rfl fun cx w0 => ?_
 rw [show Tryz.f20.ntmps = 25 from rfl]
 refine zs0 ?_
 refine zs0 ?_
 refine Holds.next (fun σ => ∀ a w, Rel cx w0 σ a w → Rel cx w0 { nt := 25, env := [(2, .ptr 2 0 [] 0), (5, .nil)], mem := [(2, .box 50 (.v false (.agg [.int .i64 p, .int .i64 g, .int .i64 r])))] } a w) ?_ ?_
 ·refine zs0 ?_
  refine Holds.loopB (fun _ : Nat => { nt := 25, env := [(6, .v true (.int .i64 0)), (1, .v false (.sl 4 [])), (2, .ptr 2 0 [] 0), (5, .nil)], mem := [(2, .box 50 (.v false (.agg [.int .i64 p, .int .i64 g, .int .i64 r])))] }) (fun _ => True) (fun n => n) 0 trivial (fun a w h => Rel.keep [6, 1, 2, 5] [2] h) ?_
  intro n _
  refine Holds.seq ?_
  refine zs0 ?_
  exact Holds.condF rfl (Holds.exit ⟨rfl, fun a w h => Rel.keep [2, 5] [2] h⟩)
 ·intro σ hσ
  refine Holds.from hσ ?_
  refine zs2 (ρ := fun d => if d = 22 then [.v true (.agg [.int .i64 p, .int .i64 g, .int .i64 r])] else [.v true (.int .i64 w)]) (o := by repeat' first|exact hX|exact hC|trivial|constructor) (k := ?_)
  exact Holds.ret (RetOk.vs rfl (by exact ⟨⟨rfl, id⟩, trivial⟩) rfl)
theorem num_digs {n : Nm} {N D : Nat} (h : NmOk n N) (hN : N ≤ 301) (hD : HasD n.num D) : D < 500 := by
 have h1 := num_lt h
 obtain ⟨K, hK⟩ : ∃ K, K = 61 := ⟨_, rfl⟩
 have h2 : 16 ^ n.digits.length ≤ 16 ^ (5 * K) := Nat.pow_le_pow_right (by decide) (by have := h.len; omega)
 have h3 : 16 ^ (5 * K) ≤ 10 ^ (7 * K) := by
  rw [Nat.pow_mul, Nat.pow_mul]
  exact Nat.pow_le_pow_left (by decide) K
 have := hasD_le hD (n := 7 * K) (by omega)
 omega
def dsL (s : ByteArray) : Nat → List Nat
 | 0 => []
 | i + 1 => if (dsL s i).length < 40 ∧ 48 ≤ bAt s i ∧ bAt s i ≤ 57 then dsL s i ++ [bAt s i] else dsL s i
def dgT (s : ByteArray) : List UInt8 := (dsL s s.size).map UInt8.ofNat
theorem dsL_full (s : ByteArray) {i : Nat} (h : 40 ≤ (dsL s i).length) : ∀ k, dsL s (i + k) = dsL s i
 | 0 => rfl
 | k + 1 => by
   show dsL s ((i + k) + 1) = _
   rw [dsL, dsL_full s h k, if_neg (by omega)]
theorem dsL_ok (s : ByteArray) : ∀ i, (dsL s i).length ≤ 40 ∧ ∀ c ∈ dsL s i, 48 ≤ c ∧ c ≤ 57
 | 0 => by simp [dsL]
 | i + 1 => by
   obtain ⟨h1, h2⟩ := dsL_ok s i
   rw [dsL]
   split
   ·next h =>
    refine ⟨by simp only [List.length_append, List.length_cons, List.length_nil]; omega, fun c hc => ?_⟩
    rcases List.mem_append.1 hc with hc | hc
    ·exact h2 c hc
    ·rw [List.mem_singleton.1 hc]; exact h.2
   ·exact ⟨h1, h2⟩
theorem dgT_len (s : ByteArray) : (dgT s).length ≤ 40 := by unfold dgT; rw [List.length_map]; exact (dsL_ok s _).1
theorem dgT_dg (s : ByteArray) : ∀ c ∈ dgT s, 48 ≤ c.toNat ∧ c.toNat ≤ 57 := fun c hc => by
 obtain ⟨n, hn, rfl⟩ := List.mem_map.1 hc
 have := (dsL_ok s _).2 n hn
 have e : (UInt8.ofNat n).toNat = n := by simp; omega
 rw [e]; exact this
def dsV (l : List Nat) : List V := l.map fun n => .int .u8 (n : Nat)
def dsA (l : List Nat) : AV := if l = [] then .nil else .own 300 0 l.length
def dsB (l : List Nat) : List (Nat × Blk) := if l = [] then [] else [(300, .buf 5 1 true (dsV l))]
theorem dsA_n : dsA [] = .nil := rfl
theorem dsB_n : dsB [] = [] := rfl
theorem dsA_c {l : List Nat} (h : l ≠ []) : dsA l = .own 300 0 l.length := if_neg h
theorem dsB_c {l : List Nat} (h : l ≠ []) : dsB l = [(300, .buf 5 1 true (dsV l))] := if_neg h
theorem dsV_len (l : List Nat) : (dsV l).length = l.length := by simp [dsV]
theorem dsV_s (l : List Nat) (c : Nat) : dsV (l ++ [c]) = dsV l ++ [.int .u8 c] := by simp [dsV]
theorem ldigits_ok (s : ByteArray) (hs : s.size ≤ 9223372036854775807) : FnOk Tryz.prog 26 [.v (.str s)] [.v true (.str ⟨(dgT s).toArray⟩)] := by
 have hu : u8T Tryz.prog 126 = true := by kernel_rfl
 refine FnOk.of Tryz.func26 rfl rfl fun cx w0 => ?_
 rw [show Tryz.f26.ntmps = 34 from rfl]
 refine zs0 ?_
 refine zs0 ?_
 refine Holds.next (fun σ => ∀ a w, Rel cx w0 σ a w → Rel cx w0 { nt := 34, env := [(3, dsA (dsL s s.size))], mem := dsB (dsL s s.size) } a w) ?_ ?_
 ·refine zs0 ?_
  refine Holds.loopB (fun k : Nat => { nt := 34, env := [(4, .v true (.int .i64 k)), (3, dsA (dsL s k)), (0, .v true (.str s))], mem := dsB (dsL s k) }) (fun k => k ≤ s.size) (fun k => s.size - k) 0 (Nat.zero_le _) (fun a w h => Rel.keep [4, 3, 0] [] h) ?_
  intro k hk
  by_cases hend : k = s.size
  ·refine Holds.seq ?_
   refine zs0 ?_
   refine Holds.condF rfl (Holds.exit ⟨rfl, fun a w h => ?_⟩)
   rw [← hend]
   exact Rel.less [3] (fun _ => rfl) h
  have hkl : k < s.size := by omega
  by_cases h40 : 40 ≤ (dsL s k).length
  ·have e : dsL s s.size = dsL s k := by
    have := dsL_full s h40 (s.size - k)
    rwa [show k + (s.size - k) = s.size from by omega] at this
   have hne : dsL s k ≠ [] := fun h => by rw [h] at h40; simp at h40
   rw [e]
   obtain ⟨l, hl⟩ : ∃ l, l = dsL s k := ⟨_, rfl⟩
   have hX := dsV_len (dsL s k)
   show Holds _ _ _ _ _ { nt := 34, env := [(4, .v true (.int .i64 k)), (3, dsA (dsL s k)), (0, .v true (.str s))], mem := dsB (dsL s k) } _
   rw [← hl] at hne h40 hX ⊢
   rw [dsA_c hne, dsB_c hne]
   have g : ¬ ((l.length : Nat) : Int) < 40 := by omega
   refine Holds.seq ?_
   refine zs1 (an hX <| g) ?_
   exact Holds.condF rfl (Holds.exit ⟨rfl, fun a w h => Rel.keep [3] [300] h⟩)
  ·obtain ⟨b, hb, eb⟩ := bAt_some hkl
   have hb8 := b.toNat_lt
   have hst : dsL s (k + 1) = if 48 ≤ b.toNat ∧ b.toNat ≤ 57 then dsL s k ++ [b.toNat] else dsL s k := by
    rw [dsL, eb]
    by_cases h : 48 ≤ b.toNat ∧ b.toNat ≤ 57
    ·rw [if_pos ⟨by omega, h⟩, if_pos h]
    ·rw [if_neg (fun q => h q.2), if_neg h]
   refine Holds.next (fun σ => ∀ a w, Rel cx w0 σ a w → Rel cx w0 { nt := 34, env := [(4, .v true (.int .i64 k)), (3, dsA (dsL s k)), (0, .v true (.str s))], mem := dsB (dsL s k) } a w) ?_ ?_
   ·show Holds _ _ _ _ _ { nt := 34, env := [(4, .v true (.int .i64 k)), (3, dsA (dsL s k)), (0, .v true (.str s))], mem := dsB (dsL s k) } _
    obtain ⟨l, hl⟩ : ∃ l, l = dsL s k := ⟨_, rfl⟩
    have hX := dsV_len (dsL s k)
    rw [← hl] at h40 hX ⊢
    by_cases hne : l = []
    ·subst hne
     rw [dsA_n, dsB_n]
     refine zs0 ?_
     exact Holds.condT rfl (Holds.skip fun a w h => Rel.keep [4, 3, 0] [] h)
    ·rw [dsA_c hne, dsB_c hne]
     have g : ((l.length : Nat) : Int) < 40 := by omega
     refine zs1 (an hX <| g) ?_
     exact Holds.condT rfl (Holds.skip fun a w h => Rel.keep [4, 3, 0] [300] h)
   intro σ hσ
   refine Holds.from hσ ?_
   refine Holds.next (fun σ => ∀ a w, Rel cx w0 σ a w → Rel cx w0 { nt := 34, env := [(4, .v true (.int .i64 k)), (3, dsA (dsL s (k + 1))), (0, .v true (.str s))], mem := dsB (dsL s (k + 1)) } a w) ?_ ?_
   ·refine Holds.blockN ?_
    rw [hst]
    obtain ⟨c, hc⟩ : ∃ c, c = b.toNat := ⟨_, rfl⟩
    rw [← hc] at hb8 ⊢
    by_cases h1 : 48 ≤ c
    ·by_cases h2 : c ≤ 57
     ·rw [if_pos ⟨h1, h2⟩]
      have g1 : (48 : Int) ≤ c := by omega
      have g2 : (c : Int) ≤ 57 := by omega
      have hX := dsV_len (dsL s k)
      have hXs := dsV_s (dsL s k) c
      have hA : dsA (dsL s k ++ [c]) = .own 300 0 ((dsL s k).length + 1) := by rw [dsA_c (by simp)]; simp
      have hBb : dsB (dsL s k ++ [c]) = [(300, .buf 5 1 true (dsV (dsL s k) ++ [.int .u8 c]))] := by rw [dsB_c (by simp), hXs]
      rw [hA, hBb]
      clear hA hBb hXs
      obtain ⟨l, hl⟩ : ∃ l, l = dsL s k := ⟨_, rfl⟩
      rw [← hl] at hX h40 ⊢
      by_cases hne : l = []
      ·subst hne
       rw [dsA_n, dsB_n]
       refine Holds.step (Px := px) (T := TT) (ρ := fun _ => []) TTe (by simp (maxSteps := 100000) (disch := omega) only [go_sem, V.isAgg, V.flat, ↓reduceIte, Nat.reduceAdd, Nat.reduceSub, Nat.reduceLT, Nat.reduceEqDiff, reduceCtorEq, Nat.reduceLeDiff, Nat.reduceBEq, Nat.reduceMul, Int.reduceToNat, indexA, hb, ← hc, g1, g2]; rfl) (by repeat' first | exact trivial | constructor) ?_
       refine Holds.condT rfl ?_
       refine Holds.region (Px := px) (T := TT) (ρ := fun _ => []) TTe (by simp (maxSteps := 100000) (disch := omega) only [go_sem, V.isAgg, V.flat, ↓reduceIte, Nat.reduceAdd, Nat.reduceSub, Nat.reduceLT, Nat.reduceEqDiff, reduceCtorEq, Nat.reduceLeDiff, Nat.reduceBEq, Nat.reduceMul, Int.reduceToNat, indexA, hb, ← hc]; rfl) (by repeat' first | exact trivial | constructor) ?_
       intro a w h
       exact Rel.ren (s := 31) (s' := 300) (Rel.keep [4, 3, 0] [31] h) (by decide) rfl rfl
      ·rw [dsA_c hne, dsB_c hne]
       refine Holds.step (Px := px) (T := TT) (ρ := fun _ => []) TTe (by simp (maxSteps := 100000) (disch := omega) only [go_sem, V.isAgg, V.flat, ↓reduceIte, Nat.reduceAdd, Nat.reduceSub, Nat.reduceLT, Nat.reduceEqDiff, reduceCtorEq, Nat.reduceLeDiff, Nat.reduceBEq, Nat.reduceMul, Int.reduceToNat, indexA, hb, ← hc, g1, g2]; rfl) (by repeat' first | exact trivial | constructor) ?_
       refine Holds.condT rfl ?_
       refine Holds.region (Px := px) (T := TT) (ρ := fun _ => []) TTe (by simp (maxSteps := 100000) (disch := omega) only [go_sem, V.isAgg, V.flat, ↓reduceIte, Nat.reduceAdd, Nat.reduceSub, Nat.reduceLT, Nat.reduceEqDiff, reduceCtorEq, Nat.reduceLeDiff, Nat.reduceBEq, Nat.reduceMul, Int.reduceToNat, indexA, hb, ← hc, hX]; rfl) (by repeat' first | exact trivial | constructor) ?_
       intro a w h
       exact Rel.ren (s := 31) (s' := 300) (Rel.keep [4, 3, 0] [31] h) (by decide) rfl rfl
     ·rw [if_neg (by omega)]
      have g1 : (48 : Int) ≤ c := by omega
      have g2 : ¬ (c : Int) ≤ 57 := by omega
      refine Holds.step (Px := px) (T := TT) (ρ := fun _ => []) TTe (by simp (maxSteps := 100000) (disch := omega) only [go_sem, V.isAgg, V.flat, ↓reduceIte, Nat.reduceAdd, Nat.reduceSub, Nat.reduceLT, Nat.reduceEqDiff, reduceCtorEq, Nat.reduceLeDiff, Nat.reduceBEq, Nat.reduceMul, Int.reduceToNat, indexA, hb, ← hc, g1, g2]; rfl) (by repeat' first | exact trivial | constructor) ?_
      exact Holds.condF rfl (Holds.skip fun a w h => Rel.less [4, 3, 0] (fun _ => rfl) h)
    ·rw [if_neg (by omega)]
     have g1 : ¬ (48 : Int) ≤ c := by omega
     refine Holds.step (Px := px) (T := TT) (ρ := fun _ => []) TTe (by simp (maxSteps := 100000) (disch := omega) only [go_sem, V.isAgg, V.flat, ↓reduceIte, Nat.reduceAdd, Nat.reduceSub, Nat.reduceLT, Nat.reduceEqDiff, reduceCtorEq, Nat.reduceLeDiff, Nat.reduceBEq, Nat.reduceMul, Int.reduceToNat, indexA, hb, ← hc, g1]; rfl) (by repeat' first | exact trivial | constructor) ?_
     exact Holds.condF rfl (Holds.skip fun a w h => Rel.less [4, 3, 0] (fun _ => rfl) h)
   ·intro σ hσ
    refine Holds.from hσ ?_
    refine zr0 ?_
    exact ⟨k + 1, (by show k + 1 ≤ s.size; omega), (show s.size - (k + 1) < s.size - k by omega), fun a w h => Rel.less [4, 3, 0] (fun _ => rfl) h⟩
 ·intro σ hσ
  refine Holds.from hσ ?_
  unfold dgT
  have hB := (dsL_ok s s.size).2
  obtain ⟨l, hl⟩ : ∃ l, l = dsL s s.size := ⟨_, rfl⟩
  rw [← hl] at hB ⊢
  by_cases h0 : l = []
  ·subst h0
   rw [dsA_n, dsB_n]
   refine Holds.step (Px := px) (T := TT) (ρ := fun _ => []) TTe (by simp (maxSteps := 100000) (disch := omega) only [go_sem, V.isAgg, V.flat, ↓reduceIte, Nat.reduceAdd, Nat.reduceSub, Nat.reduceLT, Nat.reduceEqDiff, reduceCtorEq, Nat.reduceLeDiff, Nat.reduceBEq, Nat.reduceMul, Int.reduceToNat, strA, hu]; rfl) (by repeat' first | exact trivial | constructor) ?_
   exact Holds.ret (RetOk.vs rfl (by exact ⟨⟨rfl, id⟩, trivial⟩) rfl)
  ·rw [dsA_c h0, dsB_c h0]
   have hbv : bytesV (List.take l.length (dsV l)) = some (l.map UInt8.ofNat) := by
    rw [List.take_of_length_le (by rw [dsV_len]; exact Nat.le_refl _)]
    exact bytesV_map (fun n hn => by have := hB n hn; omega)
   refine Holds.step (Px := px) (T := TT) (ρ := fun _ => []) TTe (by simp (maxSteps := 100000) (disch := omega) only [go_sem, V.isAgg, V.flat, ↓reduceIte, Nat.reduceAdd, Nat.reduceSub, Nat.reduceLT, Nat.reduceEqDiff, reduceCtorEq, Nat.reduceLeDiff, Nat.reduceBEq, Nat.reduceMul, Int.reduceToNat, strA, hu, hbv]; rfl) (by repeat' first | exact trivial | constructor) ?_
   exact Holds.ret (RetOk.vs rfl (by exact ⟨⟨rfl, id⟩, trivial⟩) rfl)
end Go.Proofs.YtobacemgcjnahaaGreatDoor.L
