/-
  Kb Kc Kd Ke Kf ParseDigits0
-/
import Derived.Test.YtobacemgcjnahaaGreatDoorU4
import Derived.Test.YtobacemgcjnahaaGreatDoorU5
import Derived.Test.YtobacemgcjnahaaGreatDoorU6
import Derived.Test.YtobacemgcjnahaaGreatDoorU8
import Derived.Test.YtobacemgcjnahaaGreatDoorU3
set_option linter.unusedSimpArgs false
set_option linter.unusedVariables false
set_option maxRecDepth 100000
namespace Go.Proofs.YtobacemgcjnahaaGreatDoor.L
open Go Go.RowKit Go.Proofs
attribute [local go_sem] evalOps_nil evalOps_cons runW_t runW_f runE_s runP_s wantA evalOp effOp letters okDst coreA St.opv St.get St.at look constA St.put St.upd St.set decide_true List.all_nil List.all_cons Bool.and_true Bool.true_and and_self and_true true_and if_true if_false true_or Int.sub_zero List.nil_append List.cons_append List.append_nil Option.isSome_some List.getElem?_toArray List.getElem?_cons_succ List.getElem?_cons_zero Option.bind_some Option.map_some Option.map_none beq_self_eq_true Bool.false_beq Bool.true_beq Bool.not_true Bool.not_false Bool.false_eq_true cond_true cond_false binA binI List.map_cons List.map_nil boundA List.length_nil List.length_cons Nat.zero_mul Nat.one_mul Nat.mul_one Nat.zero_add Nat.add_zero Nat.zero_le Option.toList St.freshB AV.ment AV.ments Blk.ment V.sizes Nat.lt_add_one Bool.or_true Bool.true_or Bool.or_false Bool.false_or Bool.or_self if_pos if_neg decide_false decide_eq_true decide_eq_false wrap_i64 Int.toNat_natCast minA maxA Int.natCast_add Int.cast_ofNat_Int Option.isSome_none false_implies true_implies forall_const List.drop_zero Int.toNat_zero Int.add_sub_cancel lenA sliceA loadA indexAddrA partA fitsT V.atP V.offP V.size List.length_map List.getElem?_map Int.toNat_natCast_add_one Int.ofNat_eq_natCast TY calleeA capArg knotA capArgs toArgs toArg callA R.res R.mems R.blks R.av R.names R.nw invokeA storeA storeV fieldAddrA liveB V.off V.offs V.setP List.set_cons_zero List.set_cons_succ buildA buildP partsA appendA srcA copyA boxOk makeA AV.pure List.take_succ_cons List.take_zero nilA words unA entry List.zipIdx_cons List.zipIdx_nil Arg.av Arg.avs
theorem vL_lt (base : Nat) (hb : 0 < base) : ∀ (l : List UInt8) (n : Nat), (∀ c ∈ l, dvN c.toNat < base) → vL base n l < (n + 1) * base ^ l.length
 | [], n, _ => by simp [vL]
 | c :: l, n, h => by
   rw [vL]
   have h1 := vL_lt base hb l (n * base + dvN c.toNat) (fun d hd => h d (by simp [hd]))
   have h2 := h c (by simp)
   rw [List.length_cons, Nat.pow_succ]
   refine Nat.lt_of_lt_of_le h1 ?_
   have h3 : n * base + dvN c.toNat + 1 ≤ (n + 1) * base := by rw [Nat.add_mul]; omega
   calc _ ≤ ((n + 1) * base) * base ^ l.length := Nat.mul_le_mul_right _ h3
    _ = _ := by rw [Nat.mul_assoc, Nat.mul_comm base]
set_option maxHeartbeats 1000000 in
theorem nParse_ok (l : List UInt8) (hl : l.length ≤ 900) (hd : ∀ c ∈ l, 48 ≤ c.toNat ∧ c.toNat ≤ 57) : FnOk Tryz.prog 27 [.v (.str ⟨l.toArray⟩)] [.v true (words (digs (vL 10 0 l)))] := by
 have hsz : (⟨l.toArray⟩ : ByteArray).size = l.length := rfl
 have hget : ∀ k (h : k < l.length), (⟨l.toArray⟩ : ByteArray)[k]? = some (l[k]'h) := fun k h => by
  rw [getElem?_pos (⟨l.toArray⟩ : ByteArray) k h]; rfl
 obtain ⟨K, hK⟩ : ∃ K, K = 900 := ⟨_, rfl⟩
 have hbn : ∀ k, k ≤ l.length → vL 10 0 (l.take k) < 16 ^ K := fun k hk => by
  have h1 := vL_lt 10 (by decide) (l.take k) 0 (fun c hc => by
   have := hd c (List.mem_of_mem_take hc)
   unfold dvN; split <;> (try split) <;> omega)
  have h2 : (l.take k).length ≤ K := by rw [List.length_take]; omega
  refine Nat.lt_of_lt_of_le h1 ?_
  rw [Nat.zero_add, Nat.one_mul]
  exact Nat.le_trans (Nat.pow_le_pow_left (by decide : 10 ≤ 16) _) (Nat.pow_le_pow_right (by decide) h2)
 have hb10 : ∀ k, k ≤ l.length → (digs (vL 10 0 (l.take k))).length < 40000 := fun k hk => digs_short (hbn k hk) (by omega)
 have hb11 : ∀ k, k ≤ l.length → (digs (vL 10 0 (l.take k) * 10)).length < 40000 := fun k hk => digs_short (i := K + 1) (by
  have := hbn k hk
  rw [Nat.pow_succ]; omega) (by omega)
 have e10 : digs 10 = [10] := by decide
 have hW : FnOk Tryz.prog 30 [.v (.int .u64 10)] [.v true (words (digs 10))] := FromWord_ok 10 (by decide)
 obtain ⟨s, hs⟩ : ∃ s : ByteArray, s = ⟨l.toArray⟩ := ⟨_, rfl⟩
 rw [← hs] at hsz hget ⊢
 clear hs
 refine FnOk.of Tryz.func27 rfl rfl fun cx w0 => ?_
 rw [show Tryz.f27.ntmps = 22 from rfl]
 refine zs0 ?_
 refine zs0 ?_
 refine Holds.next (fun σ => ∀ a w, Rel cx w0 σ a w → Rel cx w0 { nt := 22, env := [(3, .v true (words (digs (vL 10 0 l))))], mem := [] } a w) ?_ ?_
 ·refine zs0 ?_
  refine Holds.loopB (fun k : Nat => { nt := 22, env := [(4, .v true (.int .i64 k)), (3, .v true (words (digs (vL 10 0 (l.take k))))), (0, .v true (.str s))], mem := [] }) (fun k => k ≤ l.length) (fun k => l.length - k) 0 (Nat.zero_le _) (fun a w h => ?_) ?_
  ·have e0 : words (digs (vL 10 0 (l.take 0))) = .sl 1 [] := by
    rw [List.take_zero, show vL 10 0 [] = 0 from rfl, show digs 0 = [] from by decide]; rfl
   rw [e0]
   exact Rel.keep [4, 3, 0] [] (Rel.nilV (t := 3) rfl h)
  intro k hk
  by_cases hend : k = l.length
  ·have g : ¬ (k : Int) < s.size := by omega
   refine Holds.seq ?_
   refine zs1 g ?_
   refine Holds.condF rfl (Holds.exit ⟨rfl, fun a w h => ?_⟩)
   rw [hend, List.take_length] at h
   exact Rel.less [3] (fun _ => rfl) h
  have hkl : k < l.length := by omega
  have g : (k : Int) < s.size := by omega
  have hb : s[k]? = some (l[k]'hkl) := hget k hkl
  have hdk := hd _ (List.getElem_mem hkl)
  have hv : vL 10 0 (l.take (k + 1)) = vL 10 0 (l.take k) * 10 + ((l[k]'hkl).toNat - 48) := by
   rw [List.take_succ_eq_append_getElem hkl, vL_snoc]
   congr 1
   unfold dvN
   rw [if_neg (by omega), if_neg (by omega)]
  have hb1 := hb10 k (by omega)
  obtain ⟨b, hbe⟩ : ∃ b, b = l[k]'hkl := ⟨_, rfl⟩
  rw [← hbe] at hb hdk hv
  have hok := digs_ok (vL 10 0 (l.take k))
  have hM := rMul_ok (digs (vL 10 0 (l.take k))) (digs 10) hb1 (by rw [e10]; decide) hok.1 (digs_ok 10).1
  rw [hok.2.2, (digs_ok 10).2.2] at hM
  have hF := FromWord_ok (b.toNat - 48) (by omega)
  have hA := rAdd_ok (digs (vL 10 0 (l.take k) * 10)) (digs (b.toNat - 48)) (hb11 k (by omega)) (Nat.lt_of_le_of_lt (digs_len (m := 1) (by rw [Nat.pow_one]; omega)) (by decide)) (digs_ok _).1 (digs_ok _).1
  rw [(digs_ok _).2.2, (digs_ok _).2.2, ← hv] at hA
  have w1 : IntKind.u8.wrap ((b.toNat : Int) - 48) = ((b.toNat - 48 : Nat) : Int) := by rw [wrap_u8]; omega
  obtain ⟨c, hc⟩ : ∃ c, c = b.toNat - 48 := ⟨_, rfl⟩
  rw [← hc] at hF hA w1
  have w2 : IntKind.u64.wrap (c : Int) = (c : Int) := by rw [wrap_u64]; omega
  obtain ⟨X, hX⟩ : ∃ X, X = digs (vL 10 0 (l.take k)) := ⟨_, rfl⟩
  obtain ⟨Y, hY⟩ : ∃ Y, Y = digs (vL 10 0 (l.take k) * 10) := ⟨_, rfl⟩
  obtain ⟨Z, hZ⟩ : ∃ Z, Z = digs (vL 10 0 (l.take (k + 1))) := ⟨_, rfl⟩
  obtain ⟨T, hT⟩ : ∃ T, T = digs 10 := ⟨_, rfl⟩
  obtain ⟨U, hU⟩ : ∃ U, U = digs c := ⟨_, rfl⟩
  show Holds _ _ _ _ _ { nt := 22, env := [(4, .v true (.int .i64 k)), (3, .v true (words (digs (vL 10 0 (l.take k))))), (0, .v true (.str s))], mem := [] } _
  rw [← hX, ← hT, ← hY] at hM
  rw [← hY, ← hU, ← hZ] at hA
  rw [← hU] at hF
  rw [← hT] at hW
  rw [← hX]
  refine Holds.seq ?_
  refine zs1 g ?_
  refine Holds.condT rfl (Holds.skip ?_)
  refine Holds.next (fun σ => ∀ a w, Rel cx w0 σ a w → Rel cx w0 { nt := 22, env := [(4, .v true (.int .i64 k)), (3, .v true (words Z)), (0, .v true (.str s))], mem := [] } a w) ?_ ?_
  ·refine Holds.blockN ?_
   refine Holds.dregion (Px := px) (T := TT) (ρ := fun d => if d = 12 then [.v true (words T)] else if d = 13 then [.v true (words Y)] else if d = 19 then [.v true (words U)] else [.v true (words Z)]) [] mixed (by kernel_rfl) TTe (by simp (maxSteps := 100000) (disch := omega) only [go_sem, V.isAgg, V.flat, ↓reduceIte, Nat.reduceAdd, Nat.reduceSub, Nat.reduceLT, Nat.reduceEqDiff, reduceCtorEq, Nat.reduceLeDiff, Nat.reduceBEq, Nat.reduceMul, Int.reduceToNat, indexA, hb, w1, w2]; rfl) (by first | exact ⟨hW, hM, hF, hA⟩ | (repeat' first | exact trivial | exact hW | exact hM | exact hF | exact hA | constructor)) (by rfl) (by rfl) (by rfl) ?_
   exact fun a w h => Rel.less [4, 3, 0] (fun _ => rfl) h
  ·intro σ hσ
   refine Holds.from hσ ?_
   rw [hZ]
   refine zr0 ?_
   exact ⟨k + 1, (by show k + 1 ≤ l.length; omega), (show l.length - (k + 1) < l.length - k by omega), fun a w h => Rel.less [4, 3, 0] (fun _ => rfl) h⟩
 ·intro σ hσ
  refine Holds.from hσ ?_
  refine zs0 ?_
  exact Holds.ret (RetOk.vs rfl (by exact ⟨⟨rfl, id⟩, trivial⟩) rfl)
theorem dZero_ok (neg : Bool) (m : Nat) (e : Int) (hm : (digs m).length < 100000) : FnOk Tryz.prog 66 [.v (decV 0 neg m e)] [.v true (.bool (decide (m = 0)))] := by
 have hZ := IsZero_ok (digs m) (by omega) (digs_ok _).1
 rw [(digs_ok _).2.2] at hZ
 rw [decV_eq]
 obtain ⟨l, hl⟩ : ∃ l, l = digs m := ⟨_, rfl⟩
 rw [← hl] at hZ ⊢
 refine FnOk.of Tryz.func66 rfl rfl fun cx w0 => ?_
 rw [show Tryz.f66.ntmps = 11 from rfl]
 refine zs0 ?_
 refine zs2 (ρ := fun _ => [.v true (.bool (decide (m = 0)))]) (o := by repeat' first|exact hZ|trivial|constructor) (k := ?_)
 exact Holds.ret (RetOk.vs rfl (by exact ⟨⟨rfl, id⟩, trivial⟩) rfl)
theorem In_zero (p g r : Int) (h : CtxOk p g r) (neg : Bool) (e : Int) : FnOk Tryz.prog 28 [.v (ctxV p g r), .v (decV 0 neg 0 e)] [.v true (.bool (decide (1 - g - (p - 1) ≤ e ∧ e ≤ g)))] := by
 have hT := rTiny_ok p g r h
 have hZ := dZero_ok neg 0 e (by decide)
 rw [decide_eq_true rfl] at hZ
 obtain ⟨T, hTe⟩ : ∃ T, T = 1 - g - (p - 1) := ⟨_, rfl⟩
 rw [← hTe] at hT ⊢
 rw [decV_zero] at hZ ⊢
 unfold ctxV at hT ⊢
 refine FnOk.of Tryz.func28 rfl rfl fun cx w0 => ?_
 rw [show Tryz.f28.ntmps = 49 from rfl]
 refine zs0 ?_
 refine Holds.seq ?_
 refine Holds.block ?_
 refine zs0 ?_
 refine Holds.condF rfl ?_
 refine zs2 (ρ := fun _ => [.v true (.bool true)]) (o := by repeat' first|exact hZ|trivial|constructor) (k := ?_)
 refine Holds.condT rfl ?_
 by_cases h1 : T ≤ e
 ·by_cases h2 : e ≤ g
  ·rw [decide_eq_true ⟨h1, h2⟩]
   refine zd3 [] (ρ := fun _ => [.v true (.int .i64 T)]) (an h1 <| h2) (o := by repeat' first|exact hT|trivial|constructor) (k := ?_)
   exact Holds.ret (RetOk.vs rfl (by exact ⟨⟨rfl, id⟩, trivial⟩) rfl)
  ·rw [decide_eq_false (fun h => h2 h.2)]
   refine zd3 [] (ρ := fun _ => [.v true (.int .i64 T)]) (an h1 <| h2) (o := by repeat' first|exact hT|trivial|constructor) (k := ?_)
   exact Holds.ret (RetOk.vs rfl (by exact ⟨⟨rfl, id⟩, trivial⟩) rfl)
 ·rw [decide_eq_false (fun h => h1 h.1)]
  refine zd3 [] (ρ := fun _ => [.v true (.int .i64 T)]) h1 (o := by repeat' first|exact hT|trivial|constructor) (k := ?_)
  exact Holds.ret (RetOk.vs rfl (by exact ⟨⟨rfl, id⟩, trivial⟩) rfl)
theorem In_pos (p g r : Int) (h : CtxOk p g r) (neg : Bool) (m D : Nat) (e : Int) (hD : HasD m D) (hDl : D < 500) (he : -100000 < e ∧ e < 100000) :
 FnOk Tryz.prog 28 [.v (ctxV p g r), .v (decV 0 neg m e)] [.v true (.bool (decide ((D : Int) ≤ p ∧ 1 - g - (p - 1) ≤ e ∧ e + D - 1 ≤ g)))] := by
 obtain ⟨K, hK⟩ : ∃ K, K = 500 := ⟨_, rfl⟩
 have hmK : m < 10 ^ K := Nat.lt_of_lt_of_le hD.2.2 (Nat.pow_le_pow_right (by decide) (by omega))
 have hb : blN m ≤ 2200 := hasD_bl hD.2.2 (by omega)
 have hlen : (digs m).length < 10000 := by
  have := ten_len (k := K)
  have h2 := digs_mono (Nat.le_of_lt hmK)
  omega
 have hm0 : m ≠ 0 := by
  have := Nat.pow_pos (a := 10) (n := D - 1) (by decide)
  have := hD.2.1
  omega
 have hT := rTiny_ok p g r h
 have hZ := dZero_ok neg m e (by omega)
 rw [decide_eq_false hm0] at hZ
 have hDg := rDigits_ok (digs m) D hlen (digs_ok _).1 (by rw [(digs_ok _).2.2]; exact hD) (by rw [(digs_ok _).2.2]; exact hb) (by omega)
 obtain ⟨T, hTe⟩ : ∃ T, T = 1 - g - (p - 1) := ⟨_, rfl⟩
 rw [← hTe] at hT ⊢
 have hw : IntKind.i64.wrap (e + D) = e + D := by rw [wrap_i64] <;> omega
 have hw2 : IntKind.i64.wrap (e + D - 1) = e + D - 1 := by rw [wrap_i64] <;> omega
 rw [decV_eq] at hZ ⊢
 obtain ⟨l, hl⟩ : ∃ l, l = digs m := ⟨_, rfl⟩
 rw [← hl] at hZ hDg ⊢
 unfold ctxV at hT ⊢
 refine FnOk.of Tryz.func28 rfl rfl fun cx w0 => ?_
 rw [show Tryz.f28.ntmps = 49 from rfl]
 refine zs0 ?_
 refine Holds.next (fun σ => ∀ a w, Rel cx w0 σ a w → Rel cx w0 { nt := 49, env := [(2, .ptr 2 0 [] 0), (3, .ptr 3 0 [] 0), (4, .v true (.bool false))], mem := [(2, .box 63 (.v false (.agg [.int .i64 p, .int .i64 g, .int .i64 r]))), (3, .box 59 (.v false (.agg [.int .i64 (0 : Nat), .bool neg, .sl 1 (l.map fun n => .int .u64 n), .int .i64 e])))] } a w) ?_ ?_
 ·refine Holds.blockN ?_
  refine zs0 ?_
  refine Holds.condF rfl ?_
  refine zs2 (ρ := fun _ => [.v true (.bool false)]) (o := by repeat' first|exact hZ|trivial|constructor) (k := ?_)
  exact Holds.condF rfl (Holds.skip fun a w h => Rel.keep [2, 3, 4] [2, 3] h)
 intro σ hσ
 refine Holds.from hσ ?_
 refine zs2 (ρ := fun _ => [.v true (.int .i64 D)]) (o := by repeat' first|exact hDg|trivial|constructor) (k := ?_)
 by_cases h0 : (D : Int) ≤ p
 ·by_cases h1 : T ≤ e
  ·by_cases h2 : e + D - 1 ≤ g
   ·rw [decide_eq_true ⟨h0, h1, h2⟩]
    refine zd3 [] (ρ := fun _ => [.v true (.int .i64 T)]) (an h0 <| an h1 <| an h2 <| an hw <| hw2) (o := by repeat' first|exact hT|trivial|constructor) (k := ?_)
    exact Holds.ret (RetOk.vs rfl (by exact ⟨⟨rfl, id⟩, trivial⟩) rfl)
   ·rw [decide_eq_false (fun h => h2 h.2.2)]
    refine zd3 [] (ρ := fun _ => [.v true (.int .i64 T)]) (an h0 <| an h1 <| an h2 <| an hw <| hw2) (o := by repeat' first|exact hT|trivial|constructor) (k := ?_)
    exact Holds.ret (RetOk.vs rfl (by exact ⟨⟨rfl, id⟩, trivial⟩) rfl)
  ·rw [decide_eq_false (fun h => h1 h.2.1)]
   refine zd3 [] (ρ := fun _ => [.v true (.int .i64 T)]) (an h0 <| h1) (o := by repeat' first|exact hT|trivial|constructor) (k := ?_)
   exact Holds.ret (RetOk.vs rfl (by exact ⟨⟨rfl, id⟩, trivial⟩) rfl)
 ·rw [decide_eq_false (fun h => h0 h.1)]
  refine zd3 [] (ρ := fun _ => [.v true (.int .i64 T)]) h0 (o := by repeat' first|exact hT|trivial|constructor) (k := ?_)
  exact Holds.ret (RetOk.vs rfl (by exact ⟨⟨rfl, id⟩, trivial⟩) rfl)
theorem word0_ok (r : Nat) (hr : r < 18446744073709551616) : FnOk Tryz.prog 70 [.v (words (digs r)), .v (.int .i64 0)] [.v true (.int .u64 r)] := by
 have hlen := digs_len (v := r) (m := 1) (by rw [Nat.pow_one]; exact hr)
 obtain ⟨ok, _, hv⟩ := digs_ok r
 obtain ⟨l, hl⟩ : ∃ l, l = digs r := ⟨_, rfl⟩
 rw [← hl] at hlen ok hv ⊢
 clear hl
 rcases l with _ | ⟨x, l⟩
 ·have e : r = 0 := by rw [← hv]; rfl
  subst e
  refine FnOk.of Tryz.func70 rfl rfl fun cx w0 => ?_
  rw [show Tryz.f70.ntmps = 13 from rfl]
  refine zs0 ?_
  refine Holds.seq ?_
  refine zs0 ?_
  refine Holds.condF rfl (Holds.skip ?_)
  refine zs0 ?_
  exact Holds.ret (RetOk.vs rfl (by exact ⟨⟨rfl, id⟩, trivial⟩) rfl)
 ·rcases l with _ | ⟨y, l⟩
  ·have hx := ok x (by simp)
   have e : x = (r : Int) := by
    rw [← hv]
    show x = ((x.toNat + 18446744073709551616 * val [] : Nat) : Int)
    rw [show val [] = 0 from rfl]
    omega
   subst e
   refine FnOk.of Tryz.func70 rfl rfl fun cx w0 => ?_
   rw [show Tryz.f70.ntmps = 13 from rfl]
   refine zs0 ?_
   refine Holds.seq ?_
   refine zs0 ?_
   refine Holds.condT rfl ?_
   refine zs0 ?_
   exact Holds.ret (RetOk.vs rfl (by exact ⟨⟨rfl, id⟩, trivial⟩) rfl)
  ·simp only [List.length_cons] at hlen
   omega
def tdL : Nat → Nat → List Nat
 | 0, _ => []
 | f + 1, n => if n = 0 then [] else (48 + n % 10) :: tdL f (n / 10)
def decT (n : Nat) : List UInt8 := if n = 0 then [48] else (tdL 19 n).reverse.map UInt8.ofNat
theorem tdL_0 (f : Nat) : tdL f 0 = [] := by cases f <;> simp [tdL]
theorem tdL_s {f n : Nat} (hf : 0 < f) (h : n ≠ 0) : tdL f n = (48 + n % 10) :: tdL (f - 1) (n / 10) := by
 obtain ⟨k, rfl⟩ : ∃ k, f = k + 1 := ⟨f - 1, by omega⟩
 rw [tdL, if_neg h]; rfl
theorem tdL_dg : ∀ (f n : Nat), ∀ c ∈ tdL f n, 48 ≤ c ∧ c ≤ 57
 | 0, _ => by simp [tdL]
 | f + 1, n => by
   rw [tdL]
   split
   ·simp
   ·intro c hc
    rcases List.mem_cons.1 hc with rfl | hc
    ·omega
    ·exact tdL_dg f _ c hc
def rvI (l : List Nat) (i : Nat) : List Nat := (List.range l.length).map fun k => if k < i ∨ l.length - 1 - i < k then l.getD (l.length - 1 - k) 0 else l.getD k 0
theorem rvI_len (l : List Nat) (i : Nat) : (rvI l i).length = l.length := by simp [rvI]
theorem rvI_get (l : List Nat) (i k : Nat) (h : k < l.length) : (rvI l i)[k]? = some (if k < i ∨ l.length - 1 - i < k then l.getD (l.length - 1 - k) 0 else l.getD k 0) := by
 unfold rvI
 rw [List.getElem?_map, List.getElem?_range h]; rfl
theorem rvI_0 (l : List Nat) : rvI l 0 = l := by
 refine List.ext_getElem? fun k => ?_
 by_cases h : k < l.length
 ·rw [rvI_get l 0 k h, if_neg (by omega), List.getElem?_eq_getElem h, List.getD_eq_getElem?_getD, List.getElem?_eq_getElem h]; rfl
 ·rw [List.getElem?_eq_none (by rw [rvI_len]; omega), List.getElem?_eq_none (by omega)]
theorem rvI_end (l : List Nat) (i : Nat) (h : l.length ≤ 2 * i + 1) : rvI l i = l.reverse := by
 refine List.ext_getElem? fun k => ?_
 by_cases hk : k < l.length
 ·rw [rvI_get l i k hk, List.getElem?_reverse hk, List.getElem?_eq_getElem (by omega)]
  split
  ·rw [List.getD_eq_getElem?_getD, List.getElem?_eq_getElem (by omega)]; rfl
  ·next h1 =>
   have e : k = l.length - 1 - k := by omega
   rw [List.getD_eq_getElem?_getD, List.getElem?_eq_getElem hk]
   simp only [Option.getD_some]
   congr 1
   congr 1
 ·rw [List.getElem?_eq_none (by rw [rvI_len]; omega), List.getElem?_eq_none (by rw [List.length_reverse]; omega)]
theorem rvI_s (l : List Nat) (i j : Nat) (h : l.length = i + j + 1) (hij : i < j) : ((rvI l i).set i (l.getD j 0)).set j (l.getD i 0) = rvI l (i + 1) := by
 refine List.ext_getElem? fun k => ?_
 by_cases hk : k < l.length
 ·rw [rvI_get l (i + 1) k hk, List.getElem?_set, List.getElem?_set, List.length_set, rvI_len, rvI_get l i k hk]
  by_cases h1 : j = k
  ·rw [if_pos h1, if_pos (by omega), if_pos (by omega), show l.length - 1 - k = i from by omega]
  ·rw [if_neg h1]
   by_cases h2 : i = k
   ·rw [if_pos h2, if_pos (by omega), if_pos (by omega), show l.length - 1 - k = j from by omega]
   ·rw [if_neg h2]
    congr 1
    by_cases h3 : k < i ∨ l.length - 1 - i < k
    ·rw [if_pos h3, if_pos (by omega)]
    ·rw [if_neg h3, if_neg (by omega)]
 ·rw [List.getElem?_eq_none (by rw [List.length_set, List.length_set, rvI_len]; omega), List.getElem?_eq_none (by rw [rvI_len]; omega)]
theorem dsV_set (l : List Nat) (i c : Nat) : (dsV l).set i (.int .u8 c) = dsV (l.set i c) := by
 unfold dsV
 rw [List.map_set]
theorem dsV_get {l : List Nat} {i c : Nat} (h : l[i]? = some c) : (dsV l)[i]? = some (.int .u8 c) := by
 unfold dsV
 rw [List.getElem?_map, h]; rfl
set_option maxHeartbeats 1000000 in
theorem nText_ok (n : Nat) (hn : n < 100000) : FnOk Tryz.prog 29 [.v (words (digs n))] [.v true (.str ⟨(decT n).toArray⟩)] := by
 have hu : u8T Tryz.prog 126 = true := by kernel_rfl
 have hlen := digs_len (v := n) (m := 1) (by rw [Nat.pow_one]; omega)
 have hZ := IsZero_ok (digs n) (by omega) (digs_ok n).1
 rw [(digs_ok n).2.2] at hZ
 by_cases hn0 : n = 0
 ·rw [decide_eq_true hn0] at hZ
  have e : decT n = [48] := if_pos hn0
  rw [e]
  obtain ⟨X, hX⟩ : ∃ X, X = digs n := ⟨_, rfl⟩
  rw [← hX] at hZ ⊢
  refine FnOk.of Tryz.func29 rfl rfl fun cx w0 => ?_
  rw [show Tryz.f29.ntmps = 73 from rfl]
  refine zs0 ?_
  refine Holds.seq ?_
  refine zs2 (ρ := fun _ => [.v true (.bool true)]) (o := by repeat' first|exact hZ|trivial|constructor) (k := ?_)
  refine Holds.condT rfl ?_
  refine zs0 ?_
  exact Holds.ret (RetOk.vs rfl (by exact ⟨⟨rfl, id⟩, trivial⟩) rfl)
 rw [decide_eq_false hn0] at hZ
 have e : decT n = (tdL 19 n).reverse.map UInt8.ofNat := if_neg hn0
 rw [e]
 have hdg := tdL_dg 19 n
 have hLne : tdL 19 n ≠ [] := by rw [tdL_s (by decide) hn0]; simp
 have hLl : (tdL 19 n).length < 100 := by
  have : ∀ f m, (tdL f m).length ≤ f := fun f => by
   induction f with
   | zero => intro m; simp [tdL]
   | succ f ih =>
     intro m
     rw [tdL]
     split
     ·simp
     ·rw [List.length_cons]; have := ih (m / 10); omega
  have := this 19 n
  omega
 obtain ⟨L, hL⟩ : ∃ L, L = tdL 19 n := ⟨_, rfl⟩
 rw [← hL] at hdg hLne hLl ⊢
 have hW := FromWord_ok 10000000000000000000 (by decide)
 have hlen2 := digs_len (v := 10000000000000000000) (m := 1) (by decide)
 have hDM := rDivMod_ok (digs n) (digs 10000000000000000000) (by omega) (by omega) (digs_ok _).1 (digs_ok _).1 (by rw [(digs_ok _).2.2]; decide)
 rw [(digs_ok _).2.2, (digs_ok _).2.2, Nat.div_eq_of_lt (by omega), Nat.mod_eq_of_lt (by omega), show digs 0 = [] from by decide] at hDM
 have hWd := word0_ok n (by omega)
 have hZ0 : FnOk Tryz.prog 51 [.v (words [])] [.v true (.bool true)] := by
  have := IsZero_ok [] (by decide) (by intro n hn; cases hn)
  rw [show val [] = 0 from rfl, decide_eq_true rfl] at this
  exact this
 obtain ⟨X, hX⟩ : ∃ X, X = digs n := ⟨_, rfl⟩
 obtain ⟨T, hT⟩ : ∃ T, T = digs 10000000000000000000 := ⟨_, rfl⟩
 rw [← hX] at hZ hDM hWd ⊢
 rw [← hT] at hW hDM
 have hn5 : n < 10 ^ (5 - 0) := by omega
 clear hX hT hlen hlen2 e
 simp only [words, List.map_nil] at hZ0 hDM
 refine FnOk.of Tryz.func29 rfl rfl fun cx w0 => ?_
 rw [show Tryz.f29.ntmps = 73 from rfl]
 refine zs0 ?_
 refine Holds.seq ?_
 refine zs2 (ρ := fun _ => [.v true (.bool false)]) (o := by repeat' first|exact hZ|trivial|constructor) (k := ?_)
 refine Holds.condF rfl (Holds.skip ?_)
 refine zs0 ?_
 refine zs2 (ρ := fun _ => [.v true (words T)]) (o := by repeat' first|exact hW|trivial|constructor) (k := ?_)
 refine Holds.next (fun σ => ∀ a w, Rel cx w0 σ a w → Rel cx w0 { nt := 73, env := [(3, dsA L)], mem := dsB L } a w) ?_ ?_
 ·refine Holds.loopB (fun _ : Unit => { nt := 73, env := [(4, .v true (words T)), (3, .nil), (0, .v false (words X))], mem := [] }) (fun _ => True) (fun _ => 0) () trivial (fun a w h => Rel.keep [4, 3, 0] [] h) ?_
  intro _ _
  refine Holds.block ?_
  refine zs2 (ρ := fun _ => [.v true (.sl 1 []), .v true (words X)]) (o := by repeat' first|exact hDM|trivial|constructor) (k := ?_)
  refine zs2 (ρ := fun _ => [.v true (.int .u64 n)]) (o := by repeat' first|exact hWd|trivial|constructor) (k := ?_)
  refine Holds.next (fun σ => ∀ a w, Rel cx w0 σ a w → Rel cx w0 { nt := 73, env := [(5, .v true (.sl 1 [])), (3, dsA L)], mem := dsB L } a w) ?_ ?_
  ·refine zs0 ?_
   refine Holds.loopB (fun q : Nat × Nat × List Nat => { nt := 73, env := [(8, .v true (.int .i64 q.1)), (7, .v true (.int .u64 q.2.1)), (5, .v true (.sl 1 [])), (3, dsA q.2.2)], mem := dsB q.2.2 }) (fun q => q.1 ≤ 5 ∧ q.2.1 < 10 ^ (5 - q.1) ∧ q.2.2 ++ tdL (19 - q.1) q.2.1 = L) (fun q => 5 - q.1) (0, n, []) ⟨Nat.zero_le _, hn5, by rw [hL]; rfl⟩ (fun a w h => Rel.keep [8, 7, 5, 3] [] h) ?_
   rintro ⟨j, m, l⟩ ⟨hj, hm, hl⟩
   simp only at hj hm hl
   show Holds _ _ _ _ _ { nt := 73, env := [(8, .v true (.int .i64 j)), (7, .v true (.int .u64 m)), (5, .v true (.sl 1 [])), (3, dsA l)], mem := dsB l } _
   by_cases h0 : m = 0
   ·subst h0
    rw [tdL_0, List.append_nil] at hl
    have g : (j : Int) < 19 := by omega
    refine Holds.seq ?_
    refine zs3 (ρ := fun _ => [.v true (.bool true)]) g (o := by repeat' first|exact hZ0|trivial|constructor) (k := ?_)
    refine Holds.condF rfl (Holds.exit ⟨rfl, fun a w h => ?_⟩)
    rw [← hl]
    exact Rel.less [5, 3] (fun _ => rfl) h
   have hj5 : j < 5 := by
    rcases Nat.lt_or_ge j 5 with h | h
    ·exact h
    ·rw [show 5 - j = 0 from by omega] at hm
     omega
   have hmb : m < 100000 := Nat.lt_of_lt_of_le hm (Nat.pow_le_pow_right (by decide) (Nat.sub_le 5 j))
   rw [tdL_s (by omega) h0, show 19 - j - 1 = 19 - (j + 1) from by omega] at hl
   have hm' : m / 10 < 10 ^ (5 - (j + 1)) := by
    rw [show 5 - j = (5 - (j + 1)) + 1 from by omega, Nat.pow_succ] at hm
    exact Nat.div_lt_of_lt_mul (by omega)
   have g : (j : Int) < 19 := by omega
   have g2 : (0 : Int) < m := by omega
   have r1 : (m : Int).tmod 10 = ((m % 10 : Nat) : Int) := remN m 10
   have q1 : (m : Int).tdiv 10 = ((m / 10 : Nat) : Int) := quoN m 10
   have q2 : IntKind.u64.wrap ((m / 10 : Nat) : Int) = ((m / 10 : Nat) : Int) := by rw [wrap_u64]; omega
   have r2 : IntKind.u8.wrap ((m % 10 : Nat) : Int) = ((m % 10 : Nat) : Int) := by rw [wrap_u8]; omega
   have r3 : IntKind.u8.wrap (48 + ((m % 10 : Nat) : Int)) = ((48 + m % 10 : Nat) : Int) := by rw [wrap_u8]; omega
   have hXs := dsV_s l (48 + m % 10)
   obtain ⟨m1, hm1⟩ : ∃ m1, m1 = m / 10 := ⟨_, rfl⟩
   rw [← hm1] at q1 q2 hm' hl
   obtain ⟨d, hd⟩ : ∃ d, d = 48 + m % 10 := ⟨_, rfl⟩
   rw [← hd] at r3 hl hXs
   obtain ⟨c, hc⟩ : ∃ c, c = m % 10 := ⟨_, rfl⟩
   rw [← hc] at r1 r2 r3
   have hXl := dsV_len l
   have hll : l.length < 100 := by
    have := congrArg List.length hl
    rw [List.length_append] at this
    omega
   refine Holds.seq ?_
   refine zs1 (an g <| g2) ?_
   refine Holds.condT rfl (Holds.skip ?_)
   refine Holds.next (fun σ => ∀ a w, Rel cx w0 σ a w → Rel cx w0 { nt := 73, env := [(8, .v true (.int .i64 j)), (7, .v true (.int .u64 m1)), (5, .v true (.sl 1 [])), (3, dsA (l ++ [d]))], mem := dsB (l ++ [d]) } a w) ?_ ?_
   ·refine Holds.blockN ?_
    have hA : dsA (l ++ [d]) = .own 300 0 (l.length + 1) := by rw [dsA_c (by simp)]; simp
    have hBb : dsB (l ++ [d]) = [(300, .buf 5 1 true (dsV l ++ [.int .u8 d]))] := by rw [dsB_c (by simp), hXs]
    rw [hA, hBb]
    by_cases hne : l = []
    ·subst hne
     rw [dsA_n, dsB_n]
     refine zs1 (an r1 <| an r2 <| r3) ?_
     refine zr1 (an q1 <| q2) ?_
     intro a w h
     exact Rel.ren (s := 41) (s' := 300) (Rel.keep [8, 7, 5, 3] [41] h) (by decide) rfl rfl
    ·rw [dsA_c hne, dsB_c hne]
     refine zs1 (an r1 <| an r2 <| an r3 <| hXl) ?_
     refine zr1 (an q1 <| q2) ?_
     intro a w h
     exact Rel.ren (s := 41) (s' := 300) (Rel.keep [8, 7, 5, 3] [41] h) (by decide) rfl rfl
   ·intro σ hσ
    refine Holds.from hσ ?_
    refine zr0 ?_
    exact ⟨(j + 1, m1, l ++ [d]), ⟨by show j + 1 ≤ 5; omega, hm', by show (l ++ [d]) ++ _ = L; rw [List.append_assoc]; exact hl⟩, (show 5 - (j + 1) < 5 - j by omega), fun a w h => Rel.less [8, 7, 5, 3] (fun _ => rfl) h⟩
  ·intro σ hσ
   refine Holds.from hσ ?_
   refine zs0 ?_
   refine zs2 (ρ := fun _ => [.v true (.bool true)]) (o := by repeat' first|exact hZ0|trivial|constructor) (k := ?_)
   exact Holds.condT rfl (Holds.exit (blockQ_other (by decide) ⟨rfl, fun a w h => Rel.less [3] (fun _ => rfl) h⟩))
 ·intro σ hσ
  refine Holds.from hσ ?_
  rw [dsA_c hLne, dsB_c hLne]
  have hLp : 0 < L.length := List.length_pos_iff.2 hLne
  obtain ⟨N, hN⟩ : ∃ N, N = L.length := ⟨_, rfl⟩
  rw [← hN] at hLl hLp ⊢
  refine Holds.next (fun σ => ∀ a w, Rel cx w0 σ a w → Rel cx w0 { nt := 73, env := [(3, .own 300 0 N)], mem := [(300, .buf 5 1 true (dsV L.reverse))] } a w) ?_ ?_
  ·have wN : IntKind.i64.wrap ((N : Int) - 1) = ((N - 1 : Nat) : Int) := by rw [wrap_i64] <;> omega
   refine zs1 wN ?_
   refine Holds.loopB (fun i : Nat => { nt := 73, env := [(10, .v true (.int .i64 (N - 1 - i : Nat))), (9, .v true (.int .i64 i)), (3, .own 300 0 N)], mem := [(300, .buf 5 1 true (dsV (rvI L i)))] }) (fun i => 2 * i ≤ N) (fun i => N - i) 0 (Nat.zero_le _) (fun a w h => ?_) ?_
   ·rw [rvI_0]
    exact Rel.keep [10, 9, 3] [300] h
   intro i hi
   by_cases hend : N ≤ 2 * i + 1
   ·have g : ¬ (i : Int) < ((N - 1 - i : Nat) : Int) := by omega
    rw [← rvI_end L i (by omega)]
    obtain ⟨j, hj⟩ : ∃ j, j = N - 1 - i := ⟨_, rfl⟩
    show Holds _ _ _ _ _ { nt := 73, env := [(10, .v true (.int .i64 (N - 1 - i : Nat))), (9, .v true (.int .i64 i)), (3, .own 300 0 N)], mem := [(300, .buf 5 1 true (dsV (rvI L i)))] } _
    rw [← hj] at g ⊢
    refine Holds.seq ?_
    refine zs1 g ?_
    exact Holds.condF rfl (Holds.exit ⟨rfl, fun a w h => Rel.keep [3] [300] h⟩)
   obtain ⟨j, hj⟩ : ∃ j, j = N - 1 - i := ⟨_, rfl⟩
   have hij : i < j := by omega
   have hNj : L.length = i + j + 1 := by omega
   show Holds _ _ _ _ _ { nt := 73, env := [(10, .v true (.int .i64 (N - 1 - i : Nat))), (9, .v true (.int .i64 i)), (3, .own 300 0 N)], mem := [(300, .buf 5 1 true (dsV (rvI L i)))] } _
   have hsw := rvI_s L i j hNj hij
   have h1 : (rvI L i)[i]? = some (L.getD i 0) := by rw [rvI_get L i i (by omega), if_neg (by omega)]
   have h2 : (rvI L i)[j]? = some (L.getD j 0) := by rw [rvI_get L i j (by omega), if_neg (by omega)]
   have h1 := dsV_get h1
   have h2 := dsV_get h2
   have hXl := dsV_len (rvI L i)
   rw [rvI_len] at hXl
   have hY : ((dsV (rvI L i)).set i (.int .u8 (L.getD j 0))).set j (.int .u8 (L.getD i 0)) = dsV (rvI L (i + 1)) := by rw [dsV_set, dsV_set, hsw]
   obtain ⟨x, hx⟩ : ∃ x, x = L.getD i 0 := ⟨_, rfl⟩
   obtain ⟨y, hy⟩ : ∃ y, y = L.getD j 0 := ⟨_, rfl⟩
   rw [← hx] at h1 hY
   rw [← hy] at h2 hY
   obtain ⟨Z, hZ⟩ : ∃ Z, Z = dsV (rvI L i) := ⟨_, rfl⟩
   rw [← hZ] at h1 h2 hXl hY ⊢
   have h3 : (Z.set i (.int .u8 y))[j]? = some (V.int .u8 y) := by rw [List.getElem?_set_ne (by omega)]; exact h2
   have hj' : N - 1 - (i + 1) = j - 1 := by omega
   rw [← hj]
   have g : (i : Int) < (j : Int) := by omega
   have gi : (i : Int) < (N : Int) := by omega
   have gj : (j : Int) < (N : Int) := by omega
   have wj : IntKind.i64.wrap ((j : Int) - 1) = ((j - 1 : Nat) : Int) := by rw [wrap_i64] <;> omega
   refine Holds.seq ?_
   refine zs1 g ?_
   refine Holds.condT rfl (Holds.skip ?_)
   refine Holds.next (fun σ => ∀ a w, Rel cx w0 σ a w → Rel cx w0 { nt := 73, env := [(10, .v true (.int .i64 j)), (9, .v true (.int .i64 i)), (3, .own 300 0 N)], mem := [(300, .buf 5 1 true (dsV (rvI L (i + 1))))] } a w) ?_ ?_
   ·refine Holds.blockN ?_
    rw [← hY]
    refine Holds.dregionM (Px := px) (T := TT) (ρ := fun _ => []) [] mixed (by kernel_rfl) TTe (by simp (maxSteps := 100000) (disch := omega) only [go_sem, V.isAgg, V.flat, ↓reduceIte, Nat.reduceAdd, Nat.reduceSub, Nat.reduceLT, Nat.reduceEqDiff, reduceCtorEq, Nat.reduceLeDiff, Nat.reduceBEq, Nat.reduceMul, Int.reduceToNat, h1, h2, h3, gi, gj, hXl, List.length_set, Nat.zero_add]; rfl) (by repeat' first | exact trivial | constructor) (by rfl) (by rfl) (by rfl) ?_
    exact fun a w h => Rel.keep [10, 9, 3] [300] h
   ·intro σ hσ
    refine Holds.from hσ ?_
    refine zr1 wj ?_
    refine ⟨i + 1, (by show 2 * (i + 1) ≤ N; omega), (show N - (i + 1) < N - i by omega), fun a w h => ?_⟩
    show Rel cx w0 { nt := 73, env := [(10, .v true (.int .i64 (N - 1 - (i + 1) : Nat))), (9, .v true (.int .i64 (i + 1 : Nat))), (3, .own 300 0 N)], mem := [(300, .buf 5 1 true (dsV (rvI L (i + 1))))] } a w
    rw [hj']
    exact Rel.keep [10, 9, 3] [300] h
  ·intro σ hσ
   refine Holds.from hσ ?_
   have hXr := dsV_len L.reverse
   rw [List.length_reverse] at hXr
   have hbv : bytesV (List.take N (dsV L.reverse)) = some (L.reverse.map UInt8.ofNat) := by
    rw [List.take_of_length_le (by rw [dsV_len, List.length_reverse]; omega)]
    exact bytesV_map (fun n hn => by have := hdg n (List.mem_reverse.1 hn); omega)
   refine Holds.step (Px := px) (T := TT) (ρ := fun _ => []) TTe (by simp (maxSteps := 100000) (disch := omega) only [go_sem, V.isAgg, V.flat, ↓reduceIte, Nat.reduceAdd, Nat.reduceSub, Nat.reduceLT, Nat.reduceEqDiff, reduceCtorEq, Nat.reduceLeDiff, Nat.reduceBEq, Nat.reduceMul, Int.reduceToNat, strA, hu, hbv]; rfl) (by repeat' first | exact trivial | constructor) ?_
   exact Holds.ret (RetOk.vs rfl (by exact ⟨⟨rfl, id⟩, trivial⟩) rfl)
def sgT (b : Bool) : List UInt8 := if b = true then [45] else []
def txtL (neg : Bool) (S : List UInt8) (en : Bool) (E : List UInt8) : List UInt8 := sgT neg ++ (S ++ (101 :: (sgT en ++ E)))
def dgtL (S : List UInt8) : Prop := ∀ c ∈ S, 48 ≤ c.toNat ∧ c.toNat ≤ 57
theorem nx_app (P R : List UInt8) (k : Nat) : nxB ⟨(P ++ R).toArray⟩ (P.length + k) = match R[k]? with | some b => lowN b.toNat | none => 0 := by
 unfold nxB
 rw [bAt_mk, List.getElem?_append_right (by omega), Nat.add_sub_cancel_left]
 cases R[k]? <;> rfl
theorem lowN_dg {c : Nat} (h : c ≤ 57) : lowN c = c := if_neg (by omega)
theorem dgN_iff {c : Nat} : dgN c false = true ↔ 48 ≤ c ∧ c ≤ 57 := by simp [dgN]
theorem dgZ_run (t : ByteArray) : ∀ (S : List UInt8) (f i : Nat), S.length < f → dgtL S → (∀ k (h : k < S.length), nxB t (i + k) = (S[k]'h).toNat) → dgN (nxB t (i + S.length)) false = false → nxB t (i + S.length) ≠ 46 → dgZ t false f i false = (i + S.length, S, 0)
 | [], f, i, hf, _, _, h1, h2 => by
   obtain ⟨g, rfl⟩ : ∃ g, f = g + 1 := ⟨f - 1, by simp at hf; omega⟩
   simp only [List.length_nil, Nat.add_zero] at h1 h2 ⊢
   rw [dgZ, if_neg (by rw [h1]; simp), if_neg (by simp [dotN, h2])]
 | c :: S, f, i, hf, hd, hk, h1, h2 => by
   obtain ⟨g, rfl⟩ : ∃ g, f = g + 1 := ⟨f - 1, by omega⟩
   simp only [List.length_cons] at hf h1 h2 ⊢
   have h0 := hk 0 (by simp)
   simp only [Nat.add_zero, List.getElem_cons_zero] at h0
   have hc := hd c (by simp)
   have ih := dgZ_run t S g (i + 1) (by omega) (fun d hdm => hd d (by simp [hdm])) (fun k h => by
    have := hk (k + 1) (by simp; omega)
    rw [show i + 1 + k = i + (k + 1) from by omega, this]; rfl) (by rw [show i + 1 + S.length = i + (S.length + 1) from by omega]; exact h1) (by rw [show i + 1 + S.length = i + (S.length + 1) from by omega]; exact h2)
   rw [dgZ, if_pos (by rw [h0]; exact dgN_iff.2 hc), ih, h0]
   simp only [b2n]
   rw [show i + 1 + S.length = i + (S.length + 1) from by omega]
   simp
theorem vL_ge (l : List UInt8) : ∀ n, n ≤ vL 10 n l := by
 induction l with
 | nil => intro n; exact Nat.le_refl _
 | cons c r ih => intro n; rw [vL]; exact Nat.le_trans (by omega) (ih _)
theorem dvN_dg {c : Nat} (h : 48 ≤ c ∧ c ≤ 57) : dvN c = c - 48 := by
 unfold dvN
 rw [if_neg (by omega), if_neg (by omega)]
theorem expL_run (t : ByteArray) : ∀ (E : List UInt8) (f i n : Nat), E.length < f → dgtL E → (∀ k (h : k < E.length), nxB t (i + k) = (E[k]'h).toNat) → dgN (nxB t (i + E.length)) false = false → vL 10 n E ≤ 1099511627776 → expL t f i n = (i + E.length, vL 10 n E)
 | [], f, i, n, hf, _, _, h1, _ => by
   obtain ⟨g, rfl⟩ : ∃ g, f = g + 1 := ⟨f - 1, by simp at hf; omega⟩
   simp only [List.length_nil, Nat.add_zero] at h1 ⊢
   rw [expL, if_neg (by rw [h1]; simp)]; rfl
 | c :: E, f, i, n, hf, hd, hk, h1, hv => by
   obtain ⟨g, rfl⟩ : ∃ g, f = g + 1 := ⟨f - 1, by omega⟩
   simp only [List.length_cons] at hf h1 ⊢
   have h0 := hk 0 (by simp)
   simp only [Nat.add_zero, List.getElem_cons_zero] at h0
   have hc := hd c (by simp)
   rw [vL] at hv ⊢
   have hge := vL_ge E (n * 10 + dvN c.toNat)
   rw [dvN_dg hc] at hv hge ⊢
   have hm : min 1099511627776 (10 * n + (c.toNat - 48)) = n * 10 + (c.toNat - 48) := by omega
   have ih := expL_run t E g (i + 1) (n * 10 + (c.toNat - 48)) (by omega) (fun d hdm => hd d (by simp [hdm])) (fun k h => by
    have := hk (k + 1) (by simp; omega)
    rw [show i + 1 + k = i + (k + 1) from by omega, this]; rfl) (by rw [show i + 1 + E.length = i + (E.length + 1) from by omega]; exact h1) hv
   rw [expL, if_pos (by rw [h0]; exact dgN_iff.2 hc), h0, hm, ih]
   rw [show i + 1 + E.length = i + (E.length + 1) from by omega]
theorem sgT_len (b : Bool) : (sgT b).length = b2n b := by cases b <;> rfl
theorem txt_read (neg en : Bool) (S E : List UInt8) (hS : dgtL S) (hE : dgtL E) (hS0 : S ≠ []) (hE0 : E ≠ []) (hv : vL 10 0 E ≤ 1099511627776) :
 longM ⟨(txtL neg S en E).toArray⟩ true = some ⟨0, neg, S, 0, if en = true then -(vL 10 0 E : Int) else (vL 10 0 E : Nat), (txtL neg S en E).length, !neg⟩ := by
 obtain ⟨t, ht⟩ : ∃ t : ByteArray, t = ⟨(txtL neg S en E).toArray⟩ := ⟨_, rfl⟩
 have hsz : t.size = (txtL neg S en E).length := by rw [ht]; rfl
 have hlen : (txtL neg S en E).length = b2n neg + S.length + 1 + b2n en + E.length := by
  unfold txtL
  simp only [List.length_append, List.length_cons, sgT_len]
  omega
 have hSl : 0 < S.length := List.length_pos_iff.2 hS0
 have hEl : 0 < E.length := List.length_pos_iff.2 hE0
 have d1 : ∀ k (h : k < S.length), nxB t (b2n neg + k) = (S[k]'h).toNat := fun k h => by
  rw [ht]
  have := nx_app (sgT neg) (S ++ (101 :: (sgT en ++ E))) k
  rw [sgT_len, List.getElem?_append_left h, List.getElem?_eq_getElem h] at this
  have hc := hS _ (List.getElem_mem h)
  exact this.trans (lowN_dg hc.2)
 have d2 : nxB t (b2n neg + S.length) = 101 := by
  rw [ht]
  have := nx_app (sgT neg) (S ++ (101 :: (sgT en ++ E))) S.length
  rw [sgT_len, List.getElem?_append_right (Nat.le_refl _), Nat.sub_self] at this
  exact this
 have d3 : ∀ k, nxB t (b2n neg + S.length + 1 + k) = match (sgT en ++ E)[k]? with | some b => lowN b.toNat | none => 0 := fun k => by
  rw [ht]
  have := nx_app (sgT neg) (S ++ (101 :: (sgT en ++ E))) (S.length + 1 + k)
  rw [sgT_len, List.getElem?_append_right (by omega), show S.length + 1 + k - S.length = k + 1 from by omega, List.getElem?_cons_succ] at this
  rw [show b2n neg + S.length + 1 + k = b2n neg + (S.length + 1 + k) from by omega]
  exact this
 have d4 : ∀ k (h : k < E.length), nxB t (b2n neg + S.length + 1 + b2n en + k) = (E[k]'h).toNat := fun k h => by
  have := d3 (b2n en + k)
  rw [← sgT_len en, List.getElem?_append_right (by omega), Nat.add_sub_cancel_left, List.getElem?_eq_getElem h] at this
  have hc := hE _ (List.getElem_mem h)
  rw [← sgT_len en, show b2n neg + S.length + 1 + (sgT en).length + k = b2n neg + S.length + 1 + ((sgT en).length + k) from by omega]
  exact this.trans (lowN_dg hc.2)
 have d5 : nxB t (b2n neg + S.length + 1 + b2n en + E.length) = 0 := nx_end (by rw [hsz, hlen]; omega)
 have s0 : mayB t 0 45 = neg ∧ sgnB t 0 = neg := by
  cases neg with
  | true =>
    have : nxB t 0 = 45 := by
     rw [ht]
     exact nx_app [] (txtL true S en E) 0
    have h1 := (may_iff (s := t) (i := 0) (c := 45) (by decide)).2 this
    exact ⟨h1, sgn_iff.2 (.inr this)⟩
  | false =>
    have h0 := d1 0 hSl
    have hc := hS _ (List.getElem_mem hSl)
    simp only [b2n, Bool.false_eq_true, if_false, Nat.add_zero] at h0
    refine ⟨?_, ?_⟩
    ·rw [Bool.eq_false_iff]
     intro h
     have := (may_iff (by decide)).1 h
     omega
    ·rw [Bool.eq_false_iff]
     intro h
     have := sgn_iff.1 h
     omega
 have s1 : mayB t (b2n neg + S.length + 1) 45 = en ∧ sgnB t (b2n neg + S.length + 1) = en := by
  cases en with
  | true =>
    have : nxB t (b2n neg + S.length + 1) = 45 := d3 0
    exact ⟨(may_iff (by decide)).2 this, sgn_iff.2 (.inr this)⟩
  | false =>
    have h0 := d4 0 hEl
    have hc := hE _ (List.getElem_mem hEl)
    simp only [b2n, Bool.false_eq_true, if_false, Nat.add_zero] at h0
    refine ⟨?_, ?_⟩
    ·rw [Bool.eq_false_iff]
     intro h
     have := (may_iff (by decide)).1 h
     simp only [b2n] at this
     omega
    ·rw [Bool.eq_false_iff]
     intro h
     have := sgn_iff.1 h
     simp only [b2n] at this
     omega
 have hc0 := hS _ (List.getElem_mem hSl)
 have e0 : nxB t (b2n neg) ≤ 57 := by
  have := d1 0 hSl
  rw [Nat.add_zero] at this
  omega
 have e1 : nxB t (b2n neg + 1) ≤ 101 := by
  by_cases h : 1 < S.length
  ·have := d1 1 h
   have hc := hS _ (List.getElem_mem h)
   omega
  ·have : S.length = 1 := by omega
   rw [this] at d2
   omega
 have hR : dgR t (b2n neg) false = (b2n neg + S.length, S, 0) := by
  rw [dgR_eq]
  exact dgZ_run t S _ _ (by rw [hsz, hlen]; omega) hS d1 (by rw [d2]; decide) (by rw [d2]; decide)
 have hX : expR t (b2n neg + S.length) 101 = (t.size, if en = true then -(vL 10 0 E : Int) else (vL 10 0 E : Nat), true) := by
  have hL := expL_run t E (t.size + 1 - (b2n neg + S.length + 1 + b2n en)) (b2n neg + S.length + 1 + b2n en) 0 (by rw [hsz, hlen]; omega) hE d4 (by rw [d5]; decide) hv
  have hd := d4 0 hEl
  have hc := hE _ (List.getElem_mem hEl)
  rw [Nat.add_zero] at hd
  unfold expR
  rw [if_pos ((may_iff (by decide)).2 d2), s1.1, s1.2, if_pos (by rw [hd]; exact dgN_iff.2 hc), hL]
  simp only
  rw [hsz, hlen]
 have n1 : ∀ w : ByteArray, 0 < w.size → 57 < bAt w 0 → wdB t (b2n neg) w = false := fun w hw h => by
  rw [Bool.eq_false_iff]
  intro hh
  have := (wdB_iff.1 hh).2 0 hw
  rw [Nat.add_zero] at this
  omega
 have n2 : wdB t (b2n neg) w0x = false := by
  rw [Bool.eq_false_iff]
  intro hh
  have := (wdB_iff.1 hh).2 1 (by decide)
  rw [show bAt w0x 1 = 120 from by decide] at this
  omega
 rw [← ht]
 unfold longM
 rw [if_pos rfl, s0.1, s0.2]
 unfold restM spcM
 rw [n1 wInfinity (by decide) (by decide), n1 wInf (by decide) (by decide), n1 wNan (by decide) (by decide), if_neg (by simp), if_neg (by simp), if_neg (by simp)]
 unfold hexM
 rw [n2, if_neg (by simp)]
 unfold decM
 rw [hR, hX]
 simp only
 rw [if_neg (by omega), if_pos trivial, hsz]
theorem txt_rd (neg en : Bool) (S E : List UInt8) (hS : dgtL S) (hE : dgtL E) (hS0 : S ≠ []) (hE0 : E ≠ []) (hv : vL 10 0 E ≤ 1099511627776) : rdB ⟨(txtL neg S en E).toArray⟩ = true := by
 unfold rdB
 rw [txt_read neg en S E hS hE hS0 hE0 hv]
 exact decide_eq_true rfl
theorem vL_td : ∀ (f n : Nat), n < 10 ^ f → vL 10 0 ((tdL f n).reverse.map UInt8.ofNat) = n
 | 0, n, h => by rw [Nat.pow_zero] at h; simp [tdL, vL]; omega
 | f + 1, n, h => by
   rw [tdL]
   split
   ·next h0 => rw [h0]; rfl
   ·rw [List.reverse_cons, List.map_append, List.map_cons, List.map_nil, vL_snoc, vL_td f (n / 10) (Nat.div_lt_of_lt_mul (by rw [Nat.pow_succ] at h; omega))]
    have e : (UInt8.ofNat (48 + n % 10)).toNat = 48 + n % 10 := by simp; omega
    rw [e, dvN_dg (by omega)]
    omega
theorem decT_vL (n : Nat) (h : n < 100000) : vL 10 0 (decT n) = n := by
 unfold decT
 split
 ·next h0 => rw [h0]; rfl
 ·refine vL_td 19 n (Nat.lt_of_lt_of_le h ?_)
  exact Nat.pow_le_pow_right (by decide : 0 < 10) (by decide : 5 ≤ 19)
theorem decT_dg (n : Nat) : dgtL (decT n) := fun c hc => by
 unfold decT at hc
 split at hc
 ·rw [List.mem_singleton.1 hc]; decide
 ·obtain ⟨m, hm, rfl⟩ := List.mem_map.1 hc
  have := tdL_dg 19 n m (List.mem_reverse.1 hm)
  have e : (UInt8.ofNat m).toNat = m := by simp; omega
  rw [e]; exact this
theorem decT_ne (n : Nat) : decT n ≠ [] := by
 unfold decT
 split
 ·simp
 ·next h => rw [tdL_s (by decide) h]; simp
theorem decT_len (n : Nat) : (decT n).length ≤ 19 := by
 unfold decT
 split
 ·simp
 ·rw [List.length_map, List.length_reverse]
  have : ∀ f m, (tdL f m).length ≤ f := fun f => by
   induction f with
   | zero => intro m; simp [tdL]
   | succ f ih =>
     intro m
     rw [tdL]
     split
     ·simp
     ·rw [List.length_cons]; have := ih (m / 10); omega
  exact this 19 n
theorem mkA (x y : List UInt8) : (ByteArray.mk x.toArray ++ ByteArray.mk y.toArray) = ByteArray.mk (x ++ y).toArray := ByteArray.mk_append_mk x y
set_option maxHeartbeats 4000000 in
theorem PG_awake (p g r : Int) (s : ByteArray) (hs : s.size ≤ 9223372036854775807) (x : Int) (neg : Bool) (h : ¬ CtxOk p g r ∨ 300 < s.size ∨ dgT s = []) :
 FnOk Tryz.prog 7 [.v (ctxV p g r), .v (.str s), .v (.int .i16 x), .v (.bool neg)] [.v true (.bool true)] := by
 have hD := ldigits_ok s hs
 have hA := dArgs0_ok p g r
 unfold CtxOk at h
 have hq : dgT s = [] → ((⟨(dgT s).toArray⟩ : ByteArray).toList == (ByteArray.mk #[]).toList) = true := fun e => by rw [e]; exact beq_self_eq_true _
 obtain ⟨U, hU⟩ : ∃ U : ByteArray, U = ⟨(dgT s).toArray⟩ := ⟨_, rfl⟩
 rw [← hU] at hD hq
 unfold ctxV at hA ⊢
 refine FnOk.of Tryz.func7 rfl rfl fun cx w0 => ?_
 rw [show Tryz.f7.ntmps = 90 from rfl]
 refine zs0 ?_
 refine zs2 (ρ := fun _ => [.v true (.str U)]) (o := by repeat' first|exact hD|trivial|constructor) (k := ?_)
 by_cases hc : (1 ≤ p ∧ p ≤ 400) ∧ (1 ≤ g ∧ g ≤ 6000) ∧ 0 ≤ r ∧ r ≤ 4
 ·rw [if_pos hc] at hA
  by_cases h3 : 300 < s.size
  ·have g3 : (300 : Int) < s.size := by omega
   refine Holds.seq ?_
   refine zs3 (ρ := fun _ => [.v true (.int .i64 0)]) g3 (o := by repeat' first|exact hA|trivial|constructor) (k := ?_)
   refine Holds.condT rfl ?_
   refine zs2 (ρ := fun _ => [.v true (.bool true)]) (o := by repeat' first|exact awake_ok|trivial|constructor) (k := ?_)
   exact Holds.ret (RetOk.vs rfl (by exact ⟨⟨rfl, id⟩, trivial⟩) rfl)
  ·have g3 : ¬ (300 : Int) < s.size := by omega
   have hq := hq (by rcases h with h | h | h; exact absurd hc h; exact absurd h h3; exact h)
   refine Holds.seq ?_
   refine zs3 (ρ := fun _ => [.v true (.int .i64 0)]) (an g3 <| hq) (o := by repeat' first|exact hA|trivial|constructor) (k := ?_)
   refine Holds.condT rfl ?_
   refine zs2 (ρ := fun _ => [.v true (.bool true)]) (o := by repeat' first|exact awake_ok|trivial|constructor) (k := ?_)
   exact Holds.ret (RetOk.vs rfl (by exact ⟨⟨rfl, id⟩, trivial⟩) rfl)
 ·rw [if_neg hc] at hA
  refine Holds.seq ?_
  refine zs2 (ρ := fun _ => [.v true (.int .i64 220)]) (o := by repeat' first|exact hA|trivial|constructor) (k := ?_)
  refine Holds.condT rfl ?_
  refine zs2 (ρ := fun _ => [.v true (.bool true)]) (o := by repeat' first|exact awake_ok|trivial|constructor) (k := ?_)
  exact Holds.ret (RetOk.vs rfl (by exact ⟨⟨rfl, id⟩, trivial⟩) rfl)
set_option maxHeartbeats 8000000 in
theorem PG_main (p g r : Int) (s : ByteArray) (hs : s.size ≤ 300) (hc : CtxOk p g r) (x : Int) (hx : -32768 ≤ x ∧ x ≤ 32767) (neg : Bool) (xn : Nat) (hxn : (if x < -x then -x else x) = (xn : Nat)) (hS0 : dgT s ≠ []) (b : Bool)
 (hIn : FnOk Tryz.prog 28 [.v (ctxV p g r), .v (decV 0 neg (vL 10 0 (dgT s)) x)] [.v true (.bool b)])
 (hY : b = true → FnOk Tryz.prog 19 [.v (ctxV p g r), .v (.str ⟨(txtL neg (dgT s) (decide (x < 0)) (decT xn)).toArray⟩)] [.v true (decV 0 neg (vL 10 0 (dgT s)) x), .v true (.int .i64 0), .v true (.int .i64 0)] ∧
   FnOk Tryz.prog 24 [.v (.str ⟨(txtL neg (dgT s) (decide (x < 0)) (decT xn)).toArray⟩)] [.v true (decV 0 neg (vL 10 0 (dgT s)) x), .v true (.int .i64 0)]) :
 FnOk Tryz.prog 7 [.v (ctxV p g r), .v (.str s), .v (.int .i16 x), .v (.bool neg)] [.v true (.bool true)] := by
 have hD := ldigits_ok s (by omega)
 have hA := dArgs0_ok p g r
 have hCx := Ctx_ok p g r
 unfold CtxOk at hc
 rw [if_pos hc] at hA
 have hSl := dgT_len s
 have hP := nParse_ok (dgT s) (by omega) (dgT_dg s)
 have hxb : xn ≤ 32768 := by split at hxn <;> omega
 have hW := FromWord_ok xn (by omega)
 have hT := nText_ok xn (by omega)
 have hEl := decT_len xn
 have hm : (digs (vL 10 0 (dgT s))).length < 100000 := by
  obtain ⟨K, hK⟩ : ∃ K, K = 40 := ⟨_, rfl⟩
  have h1 := vL_lt 10 (by decide) (dgT s) 0 (fun c hc => by
   have := dgT_dg s c hc
   rw [dvN_dg this]; omega)
  have := digs_short (n := vL 10 0 (dgT s)) (i := K) (by
   refine Nat.lt_of_lt_of_le h1 ?_
   rw [Nat.zero_add, Nat.one_mul]
   exact Nat.le_trans (Nat.pow_le_pow_left (by decide : 10 ≤ 16) _) (Nat.pow_le_pow_right (by decide) (by omega))) (by omega)
  omega
 have hF := dFits_ok 0 neg (vL 10 0 (dgT s)) x hm 0
 have hq : ((⟨(dgT s).toArray⟩ : ByteArray).toList == (ByteArray.mk #[]).toList) = false := by
  rw [Bool.eq_false_iff]
  intro h
  have h2 := (seB_iff (x := ⟨(dgT s).toArray⟩) (w := ByteArray.mk #[])).1 h
  have h3 : (dgT s).length = 0 := h2.1
  exact hS0 (List.length_eq_zero_iff.1 h3)
 obtain ⟨S, hS⟩ : ∃ S, S = dgT s := ⟨_, rfl⟩
 obtain ⟨E, hE⟩ : ∃ E, E = decT xn := ⟨_, rfl⟩
 obtain ⟨m, hmm⟩ : ∃ m, m = vL 10 0 (dgT s) := ⟨_, rfl⟩
 rw [← hmm] at hIn hY hP hF
 rw [← hS] at hD hP hSl hq hY
 rw [← hE] at hT hEl hY
 clear hm hmm hS0
 rw [decV_eq] at hIn hF hY
 simp only [words] at hP
 obtain ⟨Z, hZ⟩ : ∃ Z, Z = (digs m).map fun n => V.int .u64 n := ⟨_, rfl⟩
 rw [← hZ] at hIn hF hY hP
 clear hZ hE hS
 have a1 : ∀ k, (ByteArray.mk S.toArray ++ ByteArray.mk #[k]) = ByteArray.mk (S ++ [k]).toArray := fun k => mkA S [k]
 unfold ctxV at hA hCx hIn hY ⊢
 obtain ⟨ZS, hZS⟩ : ∃ A : ByteArray, A = ⟨S.toArray⟩ := ⟨_, rfl⟩
 have z0 : ZS.size ≤ 40 := by rw [hZS]; exact hSl
 obtain ⟨Z1, hZ1⟩ : ∃ A : ByteArray, A = ⟨(S ++ [101]).toArray⟩ := ⟨_, rfl⟩
 have z1 : Z1.size ≤ 41 := by rw [hZ1]; show (S ++ [101]).length ≤ 41; rw [List.length_append]; show S.length + 1 ≤ 41; omega
 have e1 : ZS ++ ByteArray.mk #[101] = Z1 := by rw [hZS, hZ1]; exact mkA S [101]
 obtain ⟨ZE, hZE⟩ : ∃ A : ByteArray, A = ⟨E.toArray⟩ := ⟨_, rfl⟩
 have zE : ZE.size ≤ 19 := by rw [hZE]; exact hEl
 obtain ⟨en, hen⟩ : ∃ b, b = decide (x < 0) := ⟨_, rfl⟩
 rw [← hen] at hY
 obtain ⟨Z2, hZ2⟩ : ∃ A : ByteArray, A = ⟨(S ++ (101 :: sgT en)).toArray⟩ := ⟨_, rfl⟩
 have z2 : Z2.size ≤ 42 := by
  rw [hZ2]
  show (S ++ (101 :: sgT en)).length ≤ 42
  rw [List.length_append, List.length_cons, sgT_len]
  have : b2n en ≤ 1 := by cases en <;> decide
  omega
 have e2 : en = true → Z1 ++ ByteArray.mk #[45] = Z2 := fun h => by rw [hZ1, hZ2, h, show (ByteArray.mk #[45]) = ByteArray.mk [45].toArray from rfl, mkA, List.append_assoc]; rfl
 have e2' : en = false → Z1 = Z2 := fun h => by rw [hZ1, hZ2, h]; rfl
 obtain ⟨Z3, hZ3⟩ : ∃ A : ByteArray, A = ⟨(S ++ (101 :: (sgT en ++ E))).toArray⟩ := ⟨_, rfl⟩
 have z3 : Z3.size ≤ 61 := by
  rw [hZ3]
  show (S ++ (101 :: (sgT en ++ E))).length ≤ 61
  rw [List.length_append, List.length_cons, List.length_append, sgT_len]
  have : b2n en ≤ 1 := by cases en <;> decide
  omega
 have e3 : Z2 ++ ZE = Z3 := by rw [hZ2, hZE, hZ3, mkA, List.append_assoc]; rfl
 obtain ⟨Z4, hZ4⟩ : ∃ A : ByteArray, A = ⟨(txtL neg S en E).toArray⟩ := ⟨_, rfl⟩
 have e4 : neg = true → ByteArray.mk #[45] ++ Z3 = Z4 := fun h => by rw [hZ3, hZ4, h, show (ByteArray.mk #[45]) = ByteArray.mk [45].toArray from rfl, mkA]; rfl
 have e4' : neg = false → Z3 = Z4 := fun h => by rw [hZ3, hZ4, h]; rfl
 rw [← hZS] at hD hP hq
 rw [← hZE] at hT
 rw [← hZ4] at hY
 obtain ⟨XN, hXN⟩ : ∃ A, A = digs xn := ⟨_, rfl⟩
 rw [← hXN] at hW hT
 clear hZS hZ1 hZE hZ2 hZ3 hZ4 hXN a1 hSl hEl
 have b1 : (ByteArray.mk #[101]).size = 1 := rfl
 have b2 : (ByteArray.mk #[45]).size = 1 := rfl
 have w1 : IntKind.i64.wrap x = x := by rw [wrap_i64] <;> omega
 have w2 : IntKind.i64.wrap (0 - x) = -x := by rw [wrap_i64] <;> omega
 have w3 : IntKind.u64.wrap ((xn : Nat) : Int) = (xn : Nat) := by rw [wrap_u64]; omega
 have gs : ¬ (300 : Int) < s.size := by omega
 refine FnOk.of Tryz.func7 rfl rfl fun cx w0 => ?_
 rw [show Tryz.f7.ntmps = 90 from rfl]
 refine zs0 ?_
 refine zs2 (ρ := fun _ => [.v true (.str ZS)]) (o := by repeat' first|exact hD|trivial|constructor) (k := ?_)
 refine Holds.seq ?_
 refine zs3 (ρ := fun _ => [.v true (.int .i64 0)]) (an gs <| hq) (o := by repeat' first|exact hA|trivial|constructor) (k := ?_)
 refine Holds.condF rfl (Holds.skip ?_)
 refine Holds.from (σ' := { nt := 90, env := [(2, .v true (.int .i16 x)), (3, .v true (.bool neg)), (4, .ptr 4 0 [] 0), (8, .v true (.bool false)), (9, .v true (.str ZS))], mem := [(4, .box 50 (.v false (.agg [.int .i64 p, .int .i64 g, .int .i64 r])))] }) (fun a w h => Rel.keep [2, 3, 4, 8, 9] [4] h) ?_
 refine zs3 (ρ := fun _ => [.v true (.sl 1 Z)]) w1 (o := by repeat' first|exact hP|trivial|constructor) (k := ?_)
 cases b with
 | false =>
   refine Holds.seq ?_
   refine zd2 [] (ρ := fun d => if d = 39 then [.v true (.agg [.int .i64 p, .int .i64 g, .int .i64 r])] else [.v true (.bool false)]) (o := by repeat' first|exact hCx|exact hIn|trivial|constructor) (k := ?_)
   refine Holds.condT rfl ?_
   refine zs2 (ρ := fun _ => [.v true (.bool true)]) (o := by repeat' first|exact awake_ok|trivial|constructor) (k := ?_)
   exact Holds.ret (RetOk.vs rfl (by exact ⟨⟨rfl, id⟩, trivial⟩) rfl)
 | true =>
   obtain ⟨hX, hXe⟩ := hY rfl
   refine Holds.seq ?_
   refine zd2 [] (ρ := fun d => if d = 39 then [.v true (.agg [.int .i64 p, .int .i64 g, .int .i64 r])] else [.v true (.bool true)]) (o := by repeat' first|exact hCx|exact hIn|trivial|constructor) (k := ?_)
   refine Holds.condF rfl (Holds.skip ?_)
   refine zs1 (an e1 <| b1) ?_
   refine Holds.next (fun σ => ∀ a w, Rel cx w0 σ a w → Rel cx w0 { nt := 90, env := [(2, .v true (.int .i16 x)), (3, .v true (.bool neg)), (4, .ptr 4 0 [] 0), (8, .v true (.bool false)), (10, .ptr 10 0 [] 0), (11, .v true (.str Z2))], mem := [(10, .box 59 (.v true (.agg [.int .i64 (0 : Nat), .bool neg, .sl 1 Z, .int .i64 x]))), (4, .box 50 (.v false (.agg [.int .i64 p, .int .i64 g, .int .i64 r])))] } a w) ?_ ?_
   ·by_cases hx0 : x < 0
    ·have he := e2 (by rw [hen]; exact decide_eq_true hx0)
     refine zs1 hx0 ?_
     refine Holds.condT rfl ?_
     refine zr1 (an he <| b2) ?_
     exact fun a w h => Rel.keep [2, 3, 4, 8, 10, 11] [10, 4] h
    ·have he := e2' (by rw [hen]; exact decide_eq_false hx0)
     refine zs1 hx0 ?_
     refine Holds.condF rfl (Holds.skip ?_)
     rw [← he]
     exact fun a w h => Rel.keep [2, 3, 4, 8, 10, 11] [10, 4] h
   intro σ hσ
   refine Holds.from hσ ?_
   refine zs3 (ρ := fun d => if d = 58 then [.v true (words XN)] else [.v true (.str ZE)]) (an w1 <| an w2 <| an hxn <| an w3 <| e3) (o := by repeat' first|exact hW|exact hT|trivial|constructor) (k := ?_)
   refine Holds.next (fun σ => ∀ a w, Rel cx w0 σ a w → Rel cx w0 { nt := 90, env := [(2, .v true (.int .i16 x)), (3, .v true (.bool neg)), (4, .ptr 4 0 [] 0), (8, .v true (.bool false)), (10, .ptr 10 0 [] 0), (11, .v true (.str Z4))], mem := [(10, .box 59 (.v true (.agg [.int .i64 (0 : Nat), .bool neg, .sl 1 Z, .int .i64 x]))), (4, .box 50 (.v false (.agg [.int .i64 p, .int .i64 g, .int .i64 r])))] } a w) ?_ ?_
   ·cases neg with
    | true =>
      have he := e4 rfl
      refine zs0 ?_
      refine Holds.condT rfl ?_
      refine zr1 (an he <| b2) ?_
      exact fun a w h => Rel.keep [2, 3, 4, 8, 10, 11] [10, 4] h
    | false =>
      have he := e4' rfl
      refine zs0 ?_
      refine Holds.condF rfl (Holds.skip ?_)
      rw [← he]
      exact fun a w h => Rel.keep [2, 3, 4, 8, 10, 11] [10, 4] h
   intro σ hσ
   refine Holds.from hσ ?_
   refine zs2 (ρ := fun _ => [.v true (.agg [.int .i64 (0 : Nat), .bool neg, .sl 1 Z, .int .i64 x]), .v true (.int .i64 0), .v true (.int .i64 0)]) (o := by repeat' first|exact hX|trivial|constructor) (k := ?_)
   refine zs2 (ρ := fun _ => [.v true (.agg [.int .i64 (0 : Nat), .bool neg, .sl 1 Z, .int .i64 x]), .v true (.int .i64 0)]) (o := by repeat' first|exact hXe|trivial|constructor) (k := ?_)
   refine zs2 (ρ := fun _ => [.v true (.bool true)]) (o := by repeat' first|exact hF|exact awake_ok|trivial|constructor) (k := ?_)
   exact Holds.ret (RetOk.vs rfl (by exact ⟨⟨rfl, id⟩, trivial⟩) rfl)
theorem dFin_in {p g : Int} {r : Nat} {neg : Bool} {m D t : Nat} {e : Int} (hD : HasD m D) (hT : HasT m t) (h1 : (D : Int) ≤ p) (h2 : 1 - g - (p - 1) ≤ e) (h3 : e + D - 1 ≤ g) : dFin p g r neg m D t e e = (false, m, e, 0) := by
 have htD := hasT_le hT hD
 have ha : dAt p g D t e e = e := by
  unfold dAt dTiny
  have : ((D - t : Nat) : Int) = D - t := by omega
  rw [this]
  omega
 unfold dFin
 rw [if_neg (by omega), if_pos ⟨by omega, by unfold dTiny; omega⟩, ha]
 obtain ⟨c, hc, _⟩ := hT
 have e1 : (e + t - e).toNat = t := by omega
 rw [e1, hc, Nat.mul_div_cancel _ (Nat.pow_pos (by decide))]
theorem ParseDigits_ok (p g r : Int) (s : ByteArray) (hs : s.size ≤ 9223372036854775807) (x : Int) (hx : -32768 ≤ x ∧ x ≤ 32767) (neg : Bool) :
 FnOk Tryz.prog 7 [.v (ctxV p g r), .v (.str s), .v (.int .i16 x), .v (.bool neg)] [.v true (.bool true)] := by
 by_cases hcn : ¬ CtxOk p g r
 ·exact PG_awake p g r s hs x neg (.inl hcn)
 have hc : CtxOk p g r := Classical.byContradiction hcn
 by_cases h3 : 300 < s.size
 ·exact PG_awake p g r s hs x neg (.inr (.inl h3))
 by_cases h0 : dgT s = []
 ·exact PG_awake p g r s hs x neg (.inr (.inr h0))
 obtain ⟨rn, rfl⟩ := Int.eq_ofNat_of_zero_le hc.2.2.1
 have hxn : (if x < -x then -x else x) = (x.natAbs : Nat) := by split <;> omega
 have hxb : x.natAbs < 100000 := by omega
 have hvE := decT_vL x.natAbs hxb
 have hL := txt_read neg (decide (x < 0)) (dgT s) (decT x.natAbs) (dgT_dg s) (decT_dg _) h0 (decT_ne _) (by rw [hvE]; omega)
 have hR := txt_rd neg (decide (x < 0)) (dgT s) (decT x.natAbs) (dgT_dg s) (decT_dg _) h0 (decT_ne _) (by rw [hvE]; omega)
 rw [hvE] at hL
 have hex : (if decide (x < 0) = true then -((x.natAbs : Nat) : Int) else (x.natAbs : Nat)) = x := by
  by_cases h : x < 0
  ·rw [if_pos (decide_eq_true h)]; omega
  ·rw [if_neg (by simpa using h)]; omega
 rw [hex] at hL
 have hsz : (⟨(txtL neg (dgT s) (decide (x < 0)) (decT x.natAbs)).toArray⟩ : ByteArray).size ≤ 300 := by
  show (txtL neg (dgT s) (decide (x < 0)) (decT x.natAbs)).length ≤ 300
  unfold txtL
  have h1 := dgT_len s
  have h2 := decT_len x.natAbs
  have hb : ∀ b, b2n b ≤ 1 := fun b => by cases b <;> decide
  have h4 := hb neg
  have h5 := hb (decide (x < 0))
  rw [List.length_append, List.length_append, List.length_cons, List.length_append, sgT_len, sgT_len]
  omega
 obtain ⟨T, hT⟩ : ∃ T : ByteArray, T = ⟨(txtL neg (dgT s) (decide (x < 0)) (decT x.natAbs)).toArray⟩ := ⟨_, rfl⟩
 obtain ⟨n, hn⟩ : ∃ n : Nm, n = ⟨0, neg, dgT s, 0, x, (txtL neg (dgT s) (decide (x < 0)) (decT x.natAbs)).length, !neg⟩ := ⟨_, rfl⟩
 rw [← hT] at hR hL hsz
 rw [← hn] at hL
 have hok := nm_ok hL
 have hk0 : n.kind = 0 := by rw [hn]
 have hnum : n.num = vL 10 0 (dgT s) := by rw [hn]; rfl
 have hneg : n.neg = neg := by rw [hn]
 have hea : n.exp - (n.each * n.behind : Nat) = x := by
  rw [hn]
  show x - ((_ * 0 : Nat) : Int) = x
  rw [Nat.mul_zero]; omega
 have hE := exact_num T hsz hL hR hok hk0
 rw [hea, if_pos (by omega), hneg, hnum] at hE
 have hdl : ∀ D, HasD n.num D → D < 500 := fun D hD => num_digs hok (by omega) hD
 have hwl := num_words hok (by omega)
 rcases Nat.eq_zero_or_pos n.num with hz | hz
 ·have hm0 : vL 10 0 (dgT s) = 0 := by rw [← hnum]; exact hz
  have hI := In_zero p g rn hc neg x
  refine PG_main p g rn s (by omega) hc x hx neg x.natAbs hxn h0 _ (by rw [hm0]; exact hI) fun hb => ?_
  have hb := of_decide_eq_true hb
  rw [← hT]
  refine ⟨?_, hE⟩
  refine Decimal_num p g rn T hsz hc hL hR hok hk0 _ _ _ _ _ ?_
  rw [hea, hneg, hz, hm0]
  have hF := Finish_zero p g rn neg x x hc
  have hza : zeroAt p g x = x := by unfold zeroAt dTiny; omega
  rw [hza] at hF
  exact hF
 ·obtain ⟨D, hD⟩ := hasD_ex n.num hz
  obtain ⟨t, hTt⟩ := hasT_ex n.num hz
  have hDl := hdl D hD
  have hI := In_pos p g rn hc neg n.num D x hD hDl (by omega)
  refine PG_main p g rn s (by omega) hc x hx neg x.natAbs hxn h0 _ (by rw [← hnum]; exact hI) fun hb => ?_
  have hb := of_decide_eq_true hb
  rw [← hT]
  refine ⟨?_, hE⟩
  refine Decimal_num p g rn T hsz hc hL hR hok hk0 _ _ _ _ _ ?_
  rw [hea, hneg]
  have hF := Finish_pos p g rn neg n.num D t x x hc (by omega) hD hTt hDl (by omega)
  rw [dFin_in hD hTt hb.1 hb.2.1 hb.2.2] at hF
  rw [← hnum]
  exact hF
end Go.Proofs.YtobacemgcjnahaaGreatDoor.L
