/-
  Jl Jm ParseFloats0
-/
import Derived.Test.YtobacemgcjnahaaGreatDoorV4
import Derived.Test.YtobacemgcjnahaaGreatDoorV9
import Derived.Test.YtobacemgcjnahaaGreatDoorV7
import Derived.Test.YtobacemgcjnahaaGreatDoorV6
set_option linter.unusedSimpArgs false
set_option linter.unusedVariables false
set_option maxRecDepth 100000
namespace Go.Proofs.YtobacemgcjnahaaGreatDoor.L
open Go Go.RowKit Go.Proofs
attribute [local go_sem] evalOps_nil evalOps_cons runW_t runW_f runE_s runP_s wantA evalOp effOp letters okDst coreA St.opv St.get St.at look constA St.put St.upd St.set decide_true List.all_nil List.all_cons Bool.and_true Bool.true_and and_self and_true true_and if_true if_false true_or Int.sub_zero List.nil_append List.cons_append List.append_nil Option.isSome_some List.getElem?_toArray List.getElem?_cons_succ List.getElem?_cons_zero Option.bind_some Option.map_some Option.map_none beq_self_eq_true Bool.false_beq Bool.true_beq Bool.not_true Bool.not_false Bool.false_eq_true cond_true cond_false binA binI List.map_cons List.map_nil boundA List.length_nil List.length_cons Nat.zero_mul Nat.one_mul Nat.mul_one Nat.zero_add Nat.add_zero Nat.zero_le Option.toList St.freshB AV.ment AV.ments Blk.ment V.sizes Nat.lt_add_one Bool.or_true Bool.true_or Bool.or_false Bool.false_or Bool.or_self if_pos if_neg decide_false decide_eq_true decide_eq_false wrap_i64 Int.toNat_natCast minA maxA Int.natCast_add Int.cast_ofNat_Int Option.isSome_none false_implies true_implies forall_const List.drop_zero Int.toNat_zero Int.add_sub_cancel lenA sliceA loadA indexAddrA partA fitsT V.atP V.offP V.size List.length_map List.getElem?_map Int.toNat_natCast_add_one Int.ofNat_eq_natCast TY calleeA capArg knotA capArgs toArgs toArg callA R.res R.mems R.blks R.av R.names R.nw invokeA storeA storeV fieldAddrA liveB V.off V.offs V.setP List.set_cons_zero List.set_cons_succ buildA buildP partsA appendA srcA copyA boxOk makeA AV.pure List.take_succ_cons List.take_zero nilA words unA entry List.zipIdx_cons List.zipIdx_nil Arg.av Arg.avs
def frS (k P r : Int) (neg : Bool) (N D : List V) (x E s : Int) (n : List Int) (ex : Bool) : St := { nt := 78, env := [(1, .v true (.int .i64 r)), (3, .ptr 3 0 [] 0), (5, .ptr 5 0 [] 0), (6, .ptr 6 0 [] 0), (8, .v true (.int .i64 E)), (9, .v true (.int .i64 s)), (10, .v false (words n)), (11, .v true (.bool ex))], mem := [(3, .box 46 (.v false (.agg [.int .i64 k, .int .i64 P]))), (5, .box 108 (.v false (.agg [.bool neg, .sl 1 N, .sl 1 D, .int .i64 x, .int .i64 1]))), (6, .box 43 (.v true (.agg [.int .i64 0, .bool false, .int .i64 0, .sl 1 []])))] }
theorem fres_over (P g : Int) (r : Nat) (neg : Bool) : ∃ k e m, fresV (fOver P g r neg) = [.v true (fltV k neg e m), .v true (.int .i64 5)] ∧ fbyV P g r neg = fltV k neg e m := by
 unfold fresV fOver fbyV
 cases grB r neg with
 | true => exact ⟨1, _, _, rfl, rfl⟩
 | false => exact ⟨2, 0, 0, rfl, rfl⟩
set_option maxHeartbeats 4000000 in
theorem fr_tail {cx : Cx} {w0 : World} (K p : Nat) (r : Nat) (neg : Bool) (N D : List V) (x E s : Int) (n : Nat) (ex : Bool) (z : Int) (hK : 1 ≤ K ∧ K ≤ 14) (hP : 2 ≤ p ∧ p ≤ 256) (hr : r ≤ 4) (hE : E ≤ gK K) (hs : -100000 < s ∧ s ≤ gK K) (hn : (digs n).length ≤ 1000) (hex : ex = true ↔ z = 0) :
 Holds Tryz.prog none cx w0 (codeAt Tryz.f52 [1, 1, 1, 1, 1]) (frS ((K + 1 : Nat) : Int) p r neg N D x E s (digs n) ex) (fnQ Tryz.prog Tryz.f52 (fresV (if gK K < E ∨ 2 ^ (gK K + 1 - s).toNat ≤ n then fOver p (gK K) r neg
  else if n = 0 then (0, neg, 0, 0, 3) else (1, neg, s + trN n, n / 2 ^ trN n, if z = 0 then 0 else if E < 1 - gK K then 3 else 1)))) := by
 have hGr := Greatest_ok K p hK
 have hLe := fLeast_ok K p hK
 have hB := fbeyond_ok K p r neg hK hP hr
 have hG := gK_bd hK
 obtain ⟨kb, eb, mb, e1, e2⟩ := fres_over p (gK K) r neg
 rw [e2, fltV_eq] at hB
 rw [fltV_eq] at e1
 have hL := rLen_ok (digs n) (by omega) (digs_ok _).1
 rw [lenR_eq (digs_ok _).1, (digs_ok _).2.2] at hL
 have hZ := IsZero_ok (digs n) (by omega) (digs_ok _).1
 rw [(digs_ok _).2.2] at hZ
 have hbn : blN n ≤ 64 * (digs n).length := bl_lt (by have := val_bl (digs_ok n).1; rw [(digs_ok n).2.2] at this; exact this)
 have hCn := fCanon1_ok neg s n (by omega) (by omega)
 obtain ⟨G, hG'⟩ : ∃ G, G = gK K := ⟨_, rfl⟩
 rw [← hG'] at hGr hLe e1 hG hE hs ⊢
 obtain ⟨k, hk⟩ : ∃ k : Nat, G + 1 - s = k := ⟨(G + 1 - s).toNat, by omega⟩
 have hC : (G < E ∨ 2 ^ (G + 1 - s).toNat ≤ n) ↔ G + 1 < (blN n : Nat) + s := by
  rw [hk, Int.toNat_natCast, ← bl_pow]
  omega
 obtain ⟨b, hb⟩ : ∃ b, b = blN n := ⟨_, rfl⟩
 rw [← hb] at hL hbn hC
 obtain ⟨kk, hkk⟩ : ∃ k : Int, k = ((K + 1 : Nat) : Int) := ⟨_, rfl⟩
 rw [← hkk] at hGr hLe hB ⊢
 have w1 : IntKind.i64.wrap ((b : Int) + s) = (b : Int) + s := by rw [wrap_i64] <;> omega
 have w2 : IntKind.i64.wrap (G + 1) = G + 1 := by rw [wrap_i64] <;> omega
 obtain ⟨nl, hnl⟩ : ∃ L, L = digs n := ⟨_, rfl⟩
 rw [← hnl] at hL hZ ⊢
 unfold fmtV at hGr hLe hB
 unfold frS
 by_cases hc : G + 1 < (b : Int) + s
 ·rw [if_pos (hC.2 hc), e1]
  refine Holds.seq ?_
  refine Holds.block ?_
  refine zd3 [] (ρ := fun d => if d = 44 then [.v true (.int .i64 b)] else [.v true (.int .i64 G)]) (an w1 <| an w2 <| hc) (o := by repeat' first|exact hL|exact hGr|trivial|constructor) (k := ?_)
  refine Holds.condT rfl ?_
  refine zs2 (ρ := fun _ => [.v true (.agg [.int .i64 (kb : Nat), .bool neg, .int .i64 eb, .sl 1 ((digs mb).map fun n => .int .u64 n)])]) (o := by repeat' first|exact hB|trivial|constructor) (k := ?_)
  exact Holds.ret (RetOk.vs rfl (by exact ⟨⟨rfl, id⟩, ⟨rfl, id⟩, trivial⟩) rfl)
 rw [if_neg (fun h => hc (hC.1 h))]
 by_cases h0 : n = 0
 ·rw [if_pos h0]
  rw [decide_eq_true h0] at hZ
  unfold fresV
  simp only
  rw [fltV_zero]
  refine Holds.seq ?_
  refine Holds.block ?_
  refine zd3 [] (ρ := fun d => if d = 44 then [.v true (.int .i64 b)] else [.v true (.int .i64 G)]) (an w1 <| an w2 <| hc) (o := by repeat' first|exact hL|exact hGr|trivial|constructor) (k := ?_)
  refine Holds.condF rfl ?_
  refine zs2 (ρ := fun _ => [.v true (.bool true)]) (o := by repeat' first|exact hZ|trivial|constructor) (k := ?_)
  refine Holds.condT rfl ?_
  refine zs0 ?_
  exact Holds.ret (RetOk.vs rfl (by exact ⟨⟨rfl, id⟩, ⟨rfl, id⟩, trivial⟩) rfl)
 rw [if_neg h0]
 rw [decide_eq_false h0] at hZ
 unfold fresV
 simp only
 rw [fltV_eq] at hCn ⊢
 rw [fltV_eq] at hCn
 rw [← hnl] at hCn
 obtain ⟨U, hU⟩ : ∃ U, U = (digs (n / 2 ^ trN n)).map fun n => V.int .u64 n := ⟨_, rfl⟩
 obtain ⟨ez, hez⟩ : ∃ ez, ez = s + (trN n : Int) := ⟨_, rfl⟩
 rw [← hU, ← hez] at hCn ⊢
 obtain ⟨fl, hfl⟩ : ∃ fl : Int, fl = if z = 0 then 0 else if E < 1 - G then 3 else 1 := ⟨_, rfl⟩
 rw [← hfl]
 refine Holds.seq ?_
 refine Holds.block ?_
 refine zd3 [] (ρ := fun d => if d = 44 then [.v true (.int .i64 b)] else [.v true (.int .i64 G)]) (an w1 <| an w2 <| hc) (o := by repeat' first|exact hL|exact hGr|trivial|constructor) (k := ?_)
 refine Holds.condF rfl ?_
 refine zs2 (ρ := fun _ => [.v true (.bool false)]) (o := by repeat' first|exact hZ|trivial|constructor) (k := ?_)
 refine Holds.condF rfl (Holds.skip ?_)
 refine zs2 (ρ := fun _ => [.v true (.agg [.int .i64 (1 : Nat), .bool neg, .int .i64 ez, .sl 1 U])]) (o := by repeat' first|exact hCn|trivial|constructor) (k := ?_)
 refine Holds.seq ?_
 refine Holds.block ?_
 cases ex with
 | true =>
   rw [if_pos (hex.1 rfl)] at hfl
   subst hfl
   refine zs0 ?_
   refine Holds.condT rfl ?_
   refine zs0 ?_
   exact Holds.ret (RetOk.vs rfl (by exact ⟨⟨rfl, id⟩, ⟨rfl, id⟩, trivial⟩) rfl)
 | false =>
   rw [if_neg (fun h => by have := hex.2 h; cases this)] at hfl
   by_cases hel : E < 1 - G
   ·rw [if_pos hel] at hfl
    subst hfl
    refine zs0 ?_
    refine Holds.condF rfl ?_
    refine zs3 (ρ := fun _ => [.v true (.int .i64 (1 - G))]) hel (o := by repeat' first|exact hLe|trivial|constructor) (k := ?_)
    refine Holds.condT rfl ?_
    refine zs0 ?_
    exact Holds.ret (RetOk.vs rfl (by exact ⟨⟨rfl, id⟩, ⟨rfl, id⟩, trivial⟩) rfl)
   ·rw [if_neg hel] at hfl
    subst hfl
    refine zs0 ?_
    refine Holds.condF rfl ?_
    refine zs3 (ρ := fun _ => [.v true (.int .i64 (1 - G))]) hel (o := by repeat' first|exact hLe|trivial|constructor) (k := ?_)
    refine Holds.condF rfl (Holds.skip ?_)
    refine zs0 ?_
    exact Holds.ret (RetOk.vs rfl (by exact ⟨⟨rfl, id⟩, ⟨rfl, id⟩, trivial⟩) rfl)
set_option maxHeartbeats 4000000 in
theorem rRound_ok (K p : Nat) (r : Nat) (neg : Bool) (num den : Nat) (x e : Int) (hK : 1 ≤ K ∧ K ≤ 14) (hP : 2 ≤ p ∧ p ≤ 256) (hr : r ≤ 4) (hn : 0 < num) (hd : 0 < den) (hnl : (digs num).length ≤ 600) (hdl : (digs den).length ≤ 600) (hE : IsE num den e) (he : -1000000 < e ∧ e < 1000000) (hx : -100000 < x ∧ x < 100000)
 (hxs : x - fU p (gK K) (e + x) ≤ 20000) :
 FnOk Tryz.prog 52 [.v (fmtV ((K + 1 : Nat) : Int) p), .v (.int .i64 r), .v (realF neg num den x)] (fresV (fRnd p (gK K) r neg num den x (e + x))) := by
 have hGr := Greatest_ok K p hK
 have hLe := fLeast_ok K p hK
 have hB := fbeyond_ok K p r neg hK hP hr
 have hG := gK_bd hK
 have hX := Exponent_ok neg num den e x hn hd (by omega) (by omega) hE (by omega) he
 obtain ⟨kb, eb, mb, e1, e2⟩ := fres_over p (gK K) r neg
 rw [e2, fltV_eq] at hB
 rw [fltV_eq] at e1
 have hrf : realF neg num den x = .agg [.bool neg, .sl 1 ((digs num).map fun n => .int .u64 n), .sl 1 ((digs den).map fun n => .int .u64 n), .int .i64 x, .int .i64 1] := rfl
 obtain ⟨E, hEE⟩ : ∃ E, E = e + x := ⟨_, rfl⟩
 rw [← hEE] at hX hxs ⊢
 have hu : fU p (gK K) E = max E (1 - gK K) - p + 1 := rfl
 by_cases hge : gK K < E
 ·rw [fRnd_high hge, e1]
  obtain ⟨G, hG'⟩ : ∃ G, G = gK K := ⟨_, rfl⟩
  rw [← hG'] at hGr hge
  rw [hrf] at hX ⊢
  obtain ⟨NL, hNL⟩ : ∃ L, L = (digs num).map fun n => V.int .u64 n := ⟨_, rfl⟩
  obtain ⟨DL, hDL⟩ : ∃ L, L = (digs den).map fun n => V.int .u64 n := ⟨_, rfl⟩
  rw [← hNL, ← hDL] at hX ⊢
  obtain ⟨kk, hkk⟩ : ∃ k : Int, k = ((K + 1 : Nat) : Int) := ⟨_, rfl⟩
  rw [← hkk] at hGr hB ⊢
  clear hNL hDL hG' hkk e1 e2 hE hu
  unfold fmtV at hGr hB ⊢
  refine FnOk.of Tryz.func52 rfl rfl fun cx w0 => ?_
  rw [show Tryz.f52.ntmps = 78 from rfl]
  refine zs0 ?_
  refine zs2 (ρ := fun _ => [.v true (.int .i64 E)]) (o := by repeat' first|exact hX|trivial|constructor) (k := ?_)
  refine Holds.seq ?_
  refine zs3 (ρ := fun _ => [.v true (.int .i64 G)]) hge (o := by repeat' first|exact hGr|trivial|constructor) (k := ?_)
  refine Holds.condT rfl ?_
  refine zs2 (ρ := fun _ => [.v true (.agg [.int .i64 (kb : Nat), .bool neg, .int .i64 eb, .sl 1 ((digs mb).map fun n => .int .u64 n)])]) (o := by repeat' first|exact hB|trivial|constructor) (k := ?_)
  exact Holds.ret (RetOk.vs rfl (by exact ⟨⟨rfl, id⟩, ⟨rfl, id⟩, trivial⟩) rfl)
 obtain ⟨s, hs⟩ : ∃ s, s = fU p (gK K) E := ⟨_, rfl⟩
 rw [← hs] at hxs hu
 obtain ⟨N, h, b, ⟨s1, s2, s3⟩, hSt⟩ := rSteps2_ok neg num den x s hd hnl hdl (by omega) hx
 obtain ⟨c, hc⟩ : ∃ c, c = 20000 := ⟨_, rfl⟩
 have hNle : N ≤ num * 2 ^ c := by
  rw [s3]
  unfold cutN
  exact Nat.le_trans (Nat.div_le_self _ _) (Nat.mul_le_mul_left _ (Nat.pow_le_pow_right (by decide) (by omega)))
 have hNl : (digs N).length ≤ 1000 := Nat.le_trans (digs_mono hNle) (len_shift hnl (by omega))
 have hRo := rRounded_ok r hr neg N h b (by omega)
 rw [s1 r neg] at hRo
 have hfl : (digs (fN r neg num den (x - s))).length ≤ 1000 := by
  have h1 : fN r neg num den (x - s) ≤ num * 2 ^ (c + 1) := by
   have h2 := (upN_le r neg (cutN num den (x - s)) (cutX num den (x - s))).2
   have h3 : 0 < num * 2 ^ c := Nat.mul_pos hn (Nat.pow_pos (by decide))
   unfold fN
   rw [Nat.pow_succ, ← Nat.mul_assoc]
   omega
  exact Nat.le_trans (digs_mono h1) (len_shift hnl (by omega))
 have hT := fun {cx w0} N D => fr_tail (cx := cx) (w0 := w0) K p r neg N D x E s (fN r neg num den (x - s)) (decide (h = false ∧ b = false)) (cutX num den (x - s)) hK hP hr (by omega) (by omega) hfl (by rw [decide_eq_true_iff]; exact s2)
 have hmain : fRnd p (gK K) r neg num den x E = (if gK K < E ∨ 2 ^ (gK K + 1 - s).toNat ≤ fN r neg num den (x - s) then fOver p (gK K) r neg
  else if fN r neg num den (x - s) = 0 then (0, neg, 0, 0, 3) else (1, neg, s + trN (fN r neg num den (x - s)), fN r neg num den (x - s) / 2 ^ trN (fN r neg num den (x - s)), if cutX num den (x - s) = 0 then 0 else if E < 1 - gK K then 3 else 1)) := by
  rw [hs]; rfl
 rw [← hmain] at hT
 obtain ⟨res, hres⟩ : ∃ res, res = fresV (fRnd p (gK K) r neg num den x E) := ⟨_, rfl⟩
 rw [← hres] at hT ⊢
 rw [hrf] at hX hSt ⊢
 obtain ⟨NL, hNL⟩ : ∃ L, L = (digs num).map fun n => V.int .u64 n := ⟨_, rfl⟩
 obtain ⟨DL, hDL⟩ : ∃ L, L = (digs den).map fun n => V.int .u64 n := ⟨_, rfl⟩
 rw [← hNL, ← hDL] at hX hSt ⊢
 have hT := fun {cx w0} => hT (cx := cx) (w0 := w0) NL DL
 obtain ⟨PV, hPV⟩ : ∃ L : List Int, L = digs N := ⟨_, rfl⟩
 obtain ⟨FL, hFL⟩ : ∃ L : List Int, L = digs (fN r neg num den (x - s)) := ⟨_, rfl⟩
 obtain ⟨ex, hex⟩ : ∃ z, z = decide (h = false ∧ b = false) := ⟨_, rfl⟩
 have hSt : FnOk Tryz.prog 108 [.v (.agg [.bool neg, .sl 1 NL, .sl 1 DL, .int .i64 x, .int .i64 1]), .v (.int .i64 s)] [.v true (.agg [words PV, .bool h, .bool b])] := by rw [hPV]; exact hSt
 have hRo : FnOk Tryz.prog 107 [.v (.int .i64 r), .v (.bool neg), .v (.agg [words PV, .bool h, .bool b])] [.v false (words FL), .v true (.bool ex)] := by rw [hPV, hFL, hex]; exact hRo
 rw [← hFL, ← hex] at hT
 obtain ⟨G, hG'⟩ : ∃ G, G = gK K := ⟨_, rfl⟩
 rw [← hG'] at hGr hLe hge hu hG
 obtain ⟨kk, hkk⟩ : ∃ k : Int, k = ((K + 1 : Nat) : Int) := ⟨_, rfl⟩
 rw [← hkk] at hGr hLe hT ⊢
 have w1 : IntKind.i64.wrap (max E (1 - G) - (p : Int)) = max E (1 - G) - p := by rw [wrap_i64] <;> omega
 have w2 : IntKind.i64.wrap (max E (1 - G) - (p : Int) + 1) = s := by rw [← hu]; rw [wrap_i64] <;> omega
 clear hNL hDL hG' hkk e1 e2 hE hrf hmain hres hs hB hPV hFL hex s1 s2 s3 hNle hNl hfl hnl hdl
 unfold fmtV at hGr hLe ⊢
 refine FnOk.of Tryz.func52 rfl rfl fun cx w0 => ?_
 rw [show Tryz.f52.ntmps = 78 from rfl]
 refine zs0 ?_
 refine zs2 (ρ := fun _ => [.v true (.int .i64 E)]) (o := by repeat' first|exact hX|trivial|constructor) (k := ?_)
 refine Holds.seq ?_
 refine zs3 (ρ := fun _ => [.v true (.int .i64 G)]) hge (o := by repeat' first|exact hGr|trivial|constructor) (k := ?_)
 refine Holds.condF rfl (Holds.skip ?_)
 refine zd3 [] (ρ := fun _ => [.v true (.int .i64 (1 - G))]) (an max2_eq <| an w1 <| w2) (o := by repeat' first|exact hLe|trivial|constructor) (k := ?_)
 refine zd2 [] (ρ := fun d => if d = 38 then [.v true (.agg [words PV, .bool h, .bool b])] else [.v false (words FL), .v true (.bool ex)]) (o := by repeat' first|exact hSt|exact hRo|trivial|constructor) (k := ?_)
 exact Holds.from (σ' := frS kk p r neg NL DL x E s FL ex) (fun a w h => Rel.keep [1, 3, 5, 6, 8, 9, 10, 11] [3, 5, 6] h) hT
theorem IsZero_pos {n : Nat} (h : 0 < n) (hl : (digs n).length < 1000) : FnOk Tryz.prog 51 [.v (words (digs n))] [.v true (.bool false)] := by
 have hZ := IsZero_ok (digs n) (by omega) (digs_ok _).1
 rw [(digs_ok _).2.2, decide_eq_false (by omega)] at hZ
 exact hZ
theorem rFloat_spec (k P r : Int) (x : RNum) (hk : x.kind = 3 ∨ x.kind = 4) : FnOk Tryz.prog 17 [.v (fmtV k P), .v (.int .i64 r), .v x.v] [.v true (if x.kind = 3 then fltV 2 x.neg 0 0 else fltV 3 false 0 0), .v true (.int .i64 0)] := by
 obtain ⟨kd, neg, num, e, fg⟩ := x
 unfold RNum.v fmtV
 simp only at hk ⊢
 obtain ⟨L, hL⟩ : ∃ L, L = digs num := ⟨_, rfl⟩
 rw [← hL]
 refine FnOk.of Tryz.func17 rfl rfl fun cx w0 => ?_
 rw [show Tryz.f17.ntmps = 34 from rfl]
 rcases hk with rfl | rfl
 ·rw [if_pos rfl, fltV_zero]
  refine zs0 ?_
  refine Holds.seq ?_
  refine Holds.block ?_
  refine zs0 ?_
  refine Holds.condT rfl ?_
  refine zs0 ?_
  exact Holds.ret (RetOk.vs rfl (by exact ⟨⟨rfl, id⟩, ⟨rfl, id⟩, trivial⟩) rfl)
 ·rw [if_neg (by decide), fltV_zero]
  refine zs0 ?_
  refine Holds.seq ?_
  refine Holds.block ?_
  refine zs0 ?_
  refine Holds.condF rfl ?_
  refine zs0 ?_
  refine Holds.condT rfl ?_
  refine zs0 ?_
  exact Holds.ret (RetOk.vs rfl (by exact ⟨⟨rfl, id⟩, ⟨rfl, id⟩, trivial⟩) rfl)
theorem rFloat_zero (k P r : Int) (x : RNum) (hk : x.kind ≠ 3 ∧ x.kind ≠ 4) (h0 : x.num = 0) : FnOk Tryz.prog 17 [.v (fmtV k P), .v (.int .i64 r), .v x.v] [.v true (fltV 0 x.neg 0 0), .v true (.int .i64 0)] := by
 obtain ⟨kd, neg, num, e, fg⟩ := x
 simp only at hk h0 ⊢
 subst h0
 have hZ := IsZero_ok (digs 0) (by decide) (digs_ok _).1
 rw [show decide (val (digs 0) = 0) = true from rfl] at hZ
 unfold RNum.v fmtV
 have g3 : ¬ (kd : Int) = 3 := by omega
 have g4 : ¬ (kd : Int) = 4 := by omega
 rw [fltV_zero]
 obtain ⟨L, hL⟩ : ∃ L, L = digs 0 := ⟨_, rfl⟩
 simp only
 rw [← hL] at hZ ⊢
 refine FnOk.of Tryz.func17 rfl rfl fun cx w0 => ?_
 rw [show Tryz.f17.ntmps = 34 from rfl]
 refine zs0 ?_
 refine Holds.seq ?_
 refine Holds.block ?_
 refine zs1 g3 ?_
 refine Holds.condF rfl ?_
 refine zs1 g4 ?_
 refine Holds.condF rfl ?_
 refine zs2 (ρ := fun _ => [.v true (.bool true)]) (o := by repeat' first|exact hZ|trivial|constructor) (k := ?_)
 refine Holds.condT rfl ?_
 refine zs0 ?_
 exact Holds.ret (RetOk.vs rfl (by exact ⟨⟨rfl, id⟩, ⟨rfl, id⟩, trivial⟩) rfl)
theorem rFloat_of (k P r : Int) (x : RNum) (hk : x.kind ≠ 3 ∧ x.kind ≠ 4) (h0 : 0 < x.num) (hl : (digs x.num).length < 1000) (num den : Nat) (e : Int) (res : FRes) (hRe : FnOk Tryz.prog 53 [.v x.v] [.v false (realF x.neg num den e)]) (hR : FnOk Tryz.prog 52 [.v (fmtV k P), .v (.int .i64 r), .v (realF x.neg num den e)] (fresV res)) :
 FnOk Tryz.prog 17 [.v (fmtV k P), .v (.int .i64 r), .v x.v] (fresV res) := by
 have hZ := IsZero_pos h0 hl
 obtain ⟨kf, nf, ef, mf, ff, hff⟩ := fres_form res
 rw [hff] at hR ⊢
 obtain ⟨MF, hMF⟩ : ∃ M, M = (digs mf).map fun n => V.int .u64 n := ⟨_, rfl⟩
 rw [← hMF] at hR ⊢
 obtain ⟨kd, neg, nm, ex, fg⟩ := x
 simp only at hk h0 hl hZ hRe hR ⊢
 unfold RNum.v at hRe ⊢
 unfold realF at hRe hR
 unfold fmtV at hR ⊢
 have g3 : ¬ (kd : Int) = 3 := by omega
 have g4 : ¬ (kd : Int) = 4 := by omega
 simp only at hRe ⊢
 obtain ⟨L, hL⟩ : ∃ L, L = digs nm := ⟨_, rfl⟩
 obtain ⟨NL, hNL⟩ : ∃ L, L = digs num := ⟨_, rfl⟩
 obtain ⟨DL, hDL⟩ : ∃ L, L = digs den := ⟨_, rfl⟩
 rw [← hL] at hZ hRe ⊢
 rw [← hNL, ← hDL] at hRe hR
 refine FnOk.of Tryz.func17 rfl rfl fun cx w0 => ?_
 rw [show Tryz.f17.ntmps = 34 from rfl]
 refine zs0 ?_
 refine Holds.seq ?_
 refine Holds.block ?_
 refine zs1 g3 ?_
 refine Holds.condF rfl ?_
 refine zs1 g4 ?_
 refine Holds.condF rfl ?_
 refine zs2 (ρ := fun _ => [.v true (.bool false)]) (o := by repeat' first|exact hZ|trivial|constructor) (k := ?_)
 refine Holds.condF rfl (Holds.skip ?_)
 refine zd2 [] (ρ := fun d => if d = 30 then [.v false (.agg [.bool neg, words NL, words DL, .int .i64 e, .int .i64 1])] else [.v true (.agg [.int .i64 (kf : Nat), .bool nf, .int .i64 ef, .sl 1 MF]), .v true (.int .i64 ff)]) (o := by repeat' first|exact hRe|exact hR|trivial|constructor) (k := ?_)
 exact Holds.ret (RetOk.vs rfl (by exact ⟨⟨rfl, id⟩, ⟨rfl, id⟩, trivial⟩) rfl)
theorem real_hex (x : RNum) (hk : x.kind = 2) (hl : (digs x.num).length < 1000) (hx : -4611686018427000000 < x.exp ∧ x.exp < 4611686018427000000) : FnOk Tryz.prog 53 [.v x.v] [.v false (realF x.neg x.num 1 (min (max x.exp (-60000 - (blN x.num : Nat))) 60000))] := by
 have hL := rLen_ok (digs x.num) (by omega) (digs_ok _).1
 rw [lenR_eq (digs_ok _).1, (digs_ok _).2.2] at hL
 have hbn : blN x.num ≤ 64 * (digs x.num).length := bl_lt (by have := val_bl (digs_ok x.num).1; rw [(digs_ok x.num).2.2] at this; exact this)
 have h1w : FnOk Tryz.prog 30 [.v (.int .u64 1)] [.v true (words (digs 1))] := FromWord_ok 1 (by decide)
 obtain ⟨kd, neg, nm, ex, fg⟩ := x
 simp only at hk hl hx hL hbn ⊢
 subst hk
 unfold RNum.v realF
 simp only
 obtain ⟨b, hb⟩ : ∃ b, b = blN nm := ⟨_, rfl⟩
 obtain ⟨L, hL'⟩ : ∃ L, L = digs nm := ⟨_, rfl⟩
 obtain ⟨O, hO⟩ : ∃ L, L = digs 1 := ⟨_, rfl⟩
 rw [← hb, ← hL'] at hL
 rw [← hb] at hbn ⊢
 rw [← hL', ← hO]
 rw [← hO] at h1w
 have wb : IntKind.i64.wrap (-60000 - (b : Int)) = -60000 - (b : Int) := by rw [wrap_i64] <;> omega
 obtain ⟨z, hz⟩ : ∃ z, z = min (max ex (-60000 - (b : Int))) 60000 := ⟨_, rfl⟩
 rw [← hz]
 refine FnOk.of Tryz.func53 rfl rfl fun cx w0 => ?_
 rw [show Tryz.f53.ntmps = 52 from rfl]
 refine zs0 ?_
 refine zs2 (ρ := fun _ => [.v true (words O)]) (o := by repeat' first|exact h1w|trivial|constructor) (k := ?_)
 refine Holds.seq ?_
 refine zs0 ?_
 refine Holds.condT rfl ?_
 refine zd3 [] (ρ := fun _ => [.v true (.int .i64 b)]) (an wb <| an max2_eq <| an min2_eq <| hz.symm) (o := by repeat' first|exact hL|trivial|constructor) (k := ?_)
 refine zs0 ?_
 exact Holds.ret (RetOk.vs rfl (by exact ⟨⟨rfl, by simp⟩, trivial⟩) rfl)
def rnE (e : Int) (D : Nat) : Int := min (max e (-8000 - (D : Int))) 8000
set_option maxHeartbeats 2000000 in
theorem real_dec (x : RNum) (D : Nat) (hk : x.kind ≠ 2) (hl : (digs x.num).length < 1000) (hD : HasD x.num D) (hDl : D < 500) (hx : -4611686018427000000 < x.exp ∧ x.exp < 4611686018427000000) :
 FnOk Tryz.prog 53 [.v x.v] [.v false (realF x.neg (x.num * 10 ^ (rnE x.exp D).toNat) (10 ^ (-rnE x.exp D).toNat) 0)] := by
 have hDg := rDigits_ok (digs x.num) D (by omega) (digs_ok _).1 (by rw [(digs_ok _).2.2]; exact hD) (by rw [(digs_ok _).2.2]; exact hasD_bl hD.2.2 (by omega)) (by omega)
 have h1w : FnOk Tryz.prog 30 [.v (.int .u64 1)] [.v true (words (digs 1))] := FromWord_ok 1 (by decide)
 have hz : rnE x.exp D = min (max x.exp (-8000 - (D : Int))) 8000 := rfl
 obtain ⟨z, hz'⟩ : ∃ z, z = rnE x.exp D := ⟨_, rfl⟩
 rw [← hz'] at hz ⊢
 obtain ⟨kd, neg, nm, ex, fg⟩ := x
 simp only at hk hl hD hx hDg hz ⊢
 have gk : ¬ (kd : Int) = 2 := by omega
 unfold RNum.v realF
 simp only
 obtain ⟨L, hL'⟩ : ∃ L, L = digs nm := ⟨_, rfl⟩
 have wb : IntKind.i64.wrap (-8000 - (D : Int)) = -8000 - (D : Int) := by rw [wrap_i64] <;> omega
 by_cases hneg : z < 0
 ·obtain ⟨B, hB⟩ : ∃ B : Nat, -z = B := ⟨(-z).toNat, by omega⟩
  have hT := rTen_ok B (by omega)
  rw [hB, Int.toNat_natCast, show z.toNat = 0 from by omega, Nat.pow_zero, Nat.mul_one]
  obtain ⟨TB, hTB⟩ : ∃ L, L = digs (10 ^ B) := ⟨_, rfl⟩
  rw [← hL'] at hDg ⊢
  rw [← hTB] at hT ⊢
  have wz : IntKind.i64.wrap (0 - z) = (B : Int) := by rw [wrap_i64] <;> omega
  clear hTB hL' hB
  refine FnOk.of Tryz.func53 rfl rfl fun cx w0 => ?_
  rw [show Tryz.f53.ntmps = 52 from rfl]
  refine zs0 ?_
  refine zs2 (ρ := fun _ => [.v true (words (digs 1))]) (o := by repeat' first|exact h1w|trivial|constructor) (k := ?_)
  refine Holds.seq ?_
  refine zs1 gk ?_
  refine Holds.condF rfl (Holds.skip ?_)
  refine zd3 [] (ρ := fun _ => [.v true (.int .i64 D)]) (an wb <| an max2_eq <| an min2_eq <| hz.symm) (o := by repeat' first|exact hDg|trivial|constructor) (k := ?_)
  refine Holds.seq ?_
  refine zs1 hneg ?_
  refine Holds.condT rfl ?_
  refine zd3 [] (ρ := fun _ => [.v true (words TB)]) wz (o := by repeat' first|exact hT|trivial|constructor) (k := ?_)
  exact Holds.ret (RetOk.vs rfl (by exact ⟨⟨rfl, by simp⟩, trivial⟩) rfl)
 ·obtain ⟨A, hA⟩ : ∃ A : Nat, z = A := ⟨z.toNat, by omega⟩
  have hT := rTen_ok A (by omega)
  have hTl := ten_len (k := A)
  have hM := rMul_ok (digs nm) (digs (10 ^ A)) (by omega) (by omega) (digs_ok _).1 (digs_ok _).1
  rw [(digs_ok _).2.2, (digs_ok (10 ^ A)).2.2] at hM
  rw [hA, Int.toNat_natCast, show (-(A : Int)).toNat = 0 from by omega, Nat.pow_zero]
  rw [hA] at hz hneg
  obtain ⟨TA, hTA⟩ : ∃ L, L = digs (10 ^ A) := ⟨_, rfl⟩
  obtain ⟨PR, hPR⟩ : ∃ L, L = digs (nm * 10 ^ A) := ⟨_, rfl⟩
  obtain ⟨O, hO⟩ : ∃ L, L = digs 1 := ⟨_, rfl⟩
  rw [← hL'] at hDg hM ⊢
  rw [← hTA] at hT hM
  rw [← hPR] at hM ⊢
  rw [← hO] at h1w ⊢
  clear hTA hPR hO hL' hA
  refine FnOk.of Tryz.func53 rfl rfl fun cx w0 => ?_
  rw [show Tryz.f53.ntmps = 52 from rfl]
  refine zs0 ?_
  refine zs2 (ρ := fun _ => [.v true (words O)]) (o := by repeat' first|exact h1w|trivial|constructor) (k := ?_)
  refine Holds.seq ?_
  refine zs1 gk ?_
  refine Holds.condF rfl (Holds.skip ?_)
  refine zd3 [] (ρ := fun _ => [.v true (.int .i64 D)]) (an wb <| an max2_eq <| an min2_eq <| hz.symm) (o := by repeat' first|exact hDg|trivial|constructor) (k := ?_)
  refine Holds.seq ?_
  refine zs1 hneg ?_
  refine Holds.condF rfl (Holds.skip ?_)
  refine zd2 [] (ρ := fun d => if d = 48 then [.v true (words TA)] else [.v true (words PR)]) (o := by repeat' first|exact hT|exact hM|trivial|constructor) (k := ?_)
  exact Holds.ret (RetOk.vs rfl (by exact ⟨⟨rfl, by simp⟩, trivial⟩) rfl)
theorem trN_odd {v : Nat} (h : v % 2 = 1) : trN v = 0 := trN_of (c := v / 2) (by rw [Nat.pow_zero]; omega)
theorem trN_strip {n : Nat} (h : 0 < n) : trN (n / 2 ^ trN n) = 0 ∧ 0 < n / 2 ^ trN n := by
 obtain ⟨c, hc⟩ := trN_ok h
 have hp : 0 < 2 ^ trN n := Nat.pow_pos (by decide)
 have e : n / 2 ^ trN n = 2 * c + 1 := Nat.div_eq_of_eq_mul_left hp hc
 rw [e]
 exact ⟨trN_odd (by omega), by omega⟩
theorem fRnd_FltC {p g : Int} {r : Nat} {neg : Bool} {num den : Nat} {d e : Int} (hP : 2 ≤ p ∧ p ≤ 256) (hg : 1 ≤ g ∧ g ≤ 16383) : FltC (fRnd p g r neg num den d e).1 (fRnd p g r neg num den d e).2.2.1 (fRnd p g r neg num den d e).2.2.2.1 := by
 have sm : ∀ (v k : Nat), v ≤ 2 ^ k → k ≤ 100000 → (digs v).length < 9000 := fun v k hv hk => by
  have := digs_len (v := v) (m := k / 64 + 1) (by rw [B_pow]; exact Nat.lt_of_le_of_lt hv (Nat.pow_lt_pow_right (by decide) (by omega)))
  omega
 have hov : FltC (fOver p g r neg).1 (fOver p g r neg).2.2.1 (fOver p g r neg).2.2.2.1 := by
  unfold fOver
  split
  ·left
   obtain ⟨q, hq⟩ : ∃ q : Nat, p = q + 1 := ⟨(p - 1).toNat, by omega⟩
   have hp : 0 < 2 ^ q := Nat.pow_pos (by decide)
   have e1 : (2 : Nat) ^ p.toNat = 2 ^ q * 2 := by rw [show p.toNat = q + 1 from by omega, Nat.pow_succ]
   refine ⟨rfl, ?_, ?_, sm _ p.toNat (Nat.sub_le _ _) (by omega), ?_, ?_⟩
   ·show trN (2 ^ p.toNat - 1) = 0
    exact trN_odd (by omega)
   ·show 0 < 2 ^ p.toNat - 1
    omega
   ·show -4611686018427380000 < g - p + 1; omega
   ·show g - p + 1 < 4611686018427380000; omega
  ·exact .inr ⟨by show (2 : Nat) ≠ 1; decide, rfl, rfl⟩
 unfold fRnd
 split
 ·exact hov
 ·next h1 =>
  split
  ·exact .inr ⟨by show (0 : Nat) ≠ 1; decide, rfl, rfl⟩
  ·next h2 =>
   left
   have hu : fU p g e = max e (1 - g) - p + 1 := rfl
   obtain ⟨n, hn⟩ : ∃ n, n = fN r neg num den (d - fU p g e) := ⟨_, rfl⟩
   rw [← hn] at h1 h2 ⊢
   have hn0 : 0 < n := by omega
   obtain ⟨t1, t2⟩ := trN_strip hn0
   have hlt : n < 2 ^ (g + 1 - fU p g e).toNat := by
    rcases Nat.lt_or_ge n (2 ^ (g + 1 - fU p g e).toNat) with h | h
    ·exact h
    ·exact absurd (.inr h) h1
   have he : ¬ g < e := fun h => h1 (.inl h)
   have htl := trN_le hn0 hlt
   have hdl := Nat.div_le_self n (2 ^ trN n)
   refine ⟨rfl, t1, t2, show (digs (n / 2 ^ trN n)).length < 9000 from sm _ (g + 1 - fU p g e).toNat (Nat.le_trans hdl (Nat.le_of_lt hlt)) (by omega), ?_, ?_⟩
   ·show -4611686018427380000 < fU p g e + (trN n : Int); omega
   ·show fU p g e + (trN n : Int) < 4611686018427380000; omega
theorem dec_high {num den c : Nat} {e : Int} (hE : IsE num den e) (h : den * 10 ^ c ≤ num) : (3 * c : Nat) ≤ e := by
 refine isE_ge hE (Nat.le_trans (Nat.mul_le_mul_left _ ?_) h)
 rw [Nat.pow_mul]
 exact Nat.pow_le_pow_left (by decide) c
theorem dec_low {num den c : Nat} {e : Int} (hE : IsE num den e) (h : num * 10 ^ c < den) : e < -((3 * c : Nat) : Int) := by
 refine isE_lt hE (Nat.lt_of_le_of_lt (Nat.mul_le_mul_left _ ?_) h)
 rw [Nat.pow_mul]
 exact Nat.pow_le_pow_left (by decide) c
theorem fRnd_far {p g : Int} {r : Nat} {neg : Bool} {n1 d1 n2 d2 : Nat} {e1 e2 : Int} (hP : 2 ≤ p ∧ p ≤ 256) (hg : 1 ≤ g ∧ g ≤ 16383) (h1 : 0 < n1) (h2 : 0 < n2) (hE1 : IsE n1 d1 e1) (hE2 : IsE n2 d2 e2) {c : Nat} (hc : c = 6000)
 (h : (d1 * 10 ^ c ≤ n1 ∧ d2 * 10 ^ c ≤ n2) ∨ (n1 * 10 ^ c < d1 ∧ n2 * 10 ^ c < d2)) : fRnd p g r neg n1 d1 0 e1 = fRnd p g r neg n2 d2 0 e2 := by
 rcases h with ⟨a, b⟩ | ⟨a, b⟩
 ·have := dec_high hE1 a
  have := dec_high hE2 b
  rw [fRnd_high (by omega), fRnd_high (by omega)]
 ·have := dec_low hE1 a
  have := dec_low hE2 b
  rw [fRnd_low (by omega) (by omega) h1 (by rw [Int.sub_zero]; exact hE1) (by omega), fRnd_low (by omega) (by omega) h2 (by rw [Int.sub_zero]; exact hE2) (by omega)]
set_option maxHeartbeats 4000000 in
theorem PF_err (k P r : Int) (t : ByteArray) (ht : t.size ≤ 300) (W : Int) (hW : (W = fArgE k P r ∧ W ≠ 0) ∨ (W = 6 ∧ fArgE k P r = 0 ∧ (rRead (lowS t)).kind = 0))
 (hX : FnOk Tryz.prog 13 [.v (fmtV k P), .v (.int .i64 r), .v (.str t)] [.v true (fltV 0 false 0 0), .v true (.int .i64 0), .v true (.int .i64 W)]) :
 FnOk Tryz.prog 4 [.v (fmtV k P), .v (.int .i64 r), .v (.str t)] [.v true (.bool true)] := by
 have hR := rRead_ok t (by omega) (by rw [lowS_size]; omega)
 have hA := fArgs0_ok k P r
 have hF := fFits_err W (by rcases hW with h | h; exact h.2; omega)
 obtain ⟨r', hr⟩ : ∃ r, r = rRead (lowS t) := ⟨_, rfl⟩
 rw [← hr] at hW hR
 rw [fltV_zero] at hF hX
 clear hr
 obtain ⟨rk, rn, rm, re, rg⟩ := r'
 unfold RNum.v at hR
 simp only [words] at hR hW
 obtain ⟨lr, hlr⟩ : ∃ l, l = digs rm := ⟨_, rfl⟩
 rw [← hlr] at hR
 clear hlr
 unfold fmtV at hA hX ⊢
 refine FnOk.of Tryz.func4 rfl rfl fun cx w0 => ?_
 rw [show Tryz.f4.ntmps = 66 from rfl]
 have g0 : ¬ (300 : Int) < t.size := by omega
 refine zs0 ?_
 refine Holds.seq ?_
 refine zs1 g0 ?_
 refine Holds.condF rfl (Holds.skip ?_)
 refine zs2 (ρ := fun _ => [.v true (.agg [.int .i64 (0 : Nat), .bool false, .int .i64 0, .sl 1 []]), .v true (.int .i64 0), .v true (.int .i64 W)]) (o := by repeat' first|exact hX|trivial|constructor) (k := ?_)
 rcases hW with ⟨e1, e2⟩ | ⟨e1, e2, e3⟩
 ·rw [← e1] at hA
  refine zs2 (ρ := fun _ => [.v true (.int .i64 W)]) (o := by repeat' first|exact hA|trivial|constructor) (k := ?_)
  refine zs2 (ρ := fun _ => [.v true (.agg [.int .i64 (rk : Nat), .bool rn, .sl 1 (lr.map fun n => .int .u64 n), .int .i64 re, .bool rg])]) (o := by repeat' first|exact hR|trivial|constructor) (k := ?_)
  refine Holds.seq ?_
  refine zs1 e2 ?_
  refine Holds.condF rfl (Holds.skip ?_)
  refine Holds.seq ?_
  refine zs1 e2 ?_
  refine Holds.condT rfl ?_
  refine zs2 (ρ := fun _ => [.v true (.bool true)]) (o := by repeat' first|exact hF|exact awake_ok|trivial|constructor) (k := ?_)
  exact Holds.ret (RetOk.vs rfl (by exact ⟨⟨rfl, id⟩, trivial⟩) rfl)
 ·subst e1
  rw [e2] at hA
  subst e3
  refine zs2 (ρ := fun _ => [.v true (.int .i64 0)]) (o := by repeat' first|exact hA|trivial|constructor) (k := ?_)
  refine zs2 (ρ := fun _ => [.v true (.agg [.int .i64 ((0 : Nat) : Int), .bool rn, .sl 1 (lr.map fun n => .int .u64 n), .int .i64 re, .bool rg])]) (o := by repeat' first|exact hR|trivial|constructor) (k := ?_)
  refine Holds.seq ?_
  refine zs0 ?_
  refine Holds.condT rfl ?_
  refine zr0 ?_
  refine Holds.seq ?_
  refine zs0 ?_
  refine Holds.condT rfl ?_
  refine zs2 (ρ := fun _ => [.v true (.bool true)]) (o := by repeat' first|exact hF|exact awake_ok|trivial|constructor) (k := ?_)
  exact Holds.ret (RetOk.vs rfl (by exact ⟨⟨rfl, id⟩, trivial⟩) rfl)
set_option maxHeartbeats 4000000 in
theorem PF_main (k P r : Int) (t : ByteArray) (ht : t.size ≤ 300) (hc : fArgE k P r = 0) (kx : Nat) (nx : Bool) (ex : Int) (mx : Nat) (fx : Int) (hm : FltC kx ex mx) (hX : FnOk Tryz.prog 13 [.v (fmtV k P), .v (.int .i64 r), .v (.str t)] [.v true (fltV kx nx ex mx), .v true (.int .i64 fx), .v true (.int .i64 0)])
 (hk : (rRead (lowS t)).kind ≠ 0) (hD : FnOk Tryz.prog 17 [.v (fmtV k P), .v (.int .i64 r), .v (rRead (lowS t)).v] [.v true (fltV kx nx ex mx), .v true (.int .i64 fx)]) :
 FnOk Tryz.prog 4 [.v (fmtV k P), .v (.int .i64 r), .v (.str t)] [.v true (.bool true)] := by
 have hR := rRead_ok t (by omega) (by rw [lowS_size]; omega)
 have hA := fArgs0_ok k P r
 have hCx := Fmt_ok k P
 have hF := fFits_ok kx nx ex mx hm fx
 rw [hc] at hA
 obtain ⟨r', hr⟩ : ∃ r, r = rRead (lowS t) := ⟨_, rfl⟩
 rw [← hr] at hk hR hD
 rw [fltV_eq] at hF hX hD
 obtain ⟨LX, hLX⟩ : ∃ L, L = (digs mx).map fun n => V.int .u64 n := ⟨_, rfl⟩
 rw [← hLX] at hF hX hD
 clear hr hLX hm
 obtain ⟨rk, rn, rm, re, rg⟩ := r'
 unfold RNum.v at hR hD
 simp only [words] at hR hk hD
 obtain ⟨lr, hlr⟩ : ∃ l, l = digs rm := ⟨_, rfl⟩
 rw [← hlr] at hR hD
 clear hlr
 unfold fmtV at hA hX hCx hD ⊢
 have k0 : ¬ (rk : Int) = 0 := by omega
 refine FnOk.of Tryz.func4 rfl rfl fun cx w0 => ?_
 rw [show Tryz.f4.ntmps = 66 from rfl]
 have g0 : ¬ (300 : Int) < t.size := by omega
 refine zs0 ?_
 refine Holds.seq ?_
 refine zs1 g0 ?_
 refine Holds.condF rfl (Holds.skip ?_)
 refine zs2 (ρ := fun _ => [.v true (.agg [.int .i64 (kx : Nat), .bool nx, .int .i64 ex, .sl 1 LX]), .v true (.int .i64 fx), .v true (.int .i64 0)]) (o := by repeat' first|exact hX|trivial|constructor) (k := ?_)
 refine zs2 (ρ := fun _ => [.v true (.int .i64 0)]) (o := by repeat' first|exact hA|trivial|constructor) (k := ?_)
 refine zs2 (ρ := fun _ => [.v true (.agg [.int .i64 (rk : Nat), .bool rn, .sl 1 (lr.map fun n => .int .u64 n), .int .i64 re, .bool rg])]) (o := by repeat' first|exact hR|trivial|constructor) (k := ?_)
 refine Holds.seq ?_
 refine zs1 k0 ?_
 refine Holds.condF rfl (Holds.skip ?_)
 refine Holds.seq ?_
 refine zs0 ?_
 refine Holds.condF rfl (Holds.skip ?_)
 refine zd2 [] (ρ := fun d => if d = 51 then [.v true (.agg [.int .i64 k, .int .i64 P])] else [.v true (.agg [.int .i64 (kx : Nat), .bool nx, .int .i64 ex, .sl 1 LX]), .v true (.int .i64 fx)]) (o := by repeat' first|exact hCx|exact hD|trivial|constructor) (k := ?_)
 refine zs2 (ρ := fun _ => [.v true (.bool true)]) (o := by repeat' first|exact hF|exact awake_ok|trivial|constructor) (k := ?_)
 exact Holds.ret (RetOk.vs rfl (by exact ⟨⟨rfl, id⟩, trivial⟩) rfl)
theorem PF_awake (k P r : Int) (t : ByteArray) (ht : 300 < t.size) : FnOk Tryz.prog 4 [.v (fmtV k P), .v (.int .i64 r), .v (.str t)] [.v true (.bool true)] := by
 unfold fmtV
 refine FnOk.of Tryz.func4 rfl rfl fun cx w0 => ?_
 rw [show Tryz.f4.ntmps = 66 from rfl]
 have g : (300 : Int) < t.size := by omega
 refine zs0 ?_
 refine Holds.seq ?_
 refine zs1 g ?_
 refine Holds.condT rfl ?_
 refine zs2 (ρ := fun _ => [.v true (.bool true)]) (o := by repeat' first|exact awake_ok|trivial|constructor) (k := ?_)
 exact Holds.ret (RetOk.vs rfl (by exact ⟨⟨rfl, id⟩, trivial⟩) rfl)
theorem clamp_rel (e : Int) : (clampE e = e ∧ -100000000 ≤ e ∧ e ≤ 100000000) ∨ (100000000 < e ∧ clampE e = 100000000) ∨ (e < -100000000 ∧ clampE e = -100000000) := by
 unfold clampE
 split
 ·omega
 ·split <;> omega
theorem PF_hex (K p : Nat) (r : Nat) (t : ByteArray) (ht : t.size ≤ 300) (hK : 1 ≤ K ∧ K ≤ 14) (hP : 2 ≤ p ∧ p ≤ 256) (hr : r ≤ 4) {n : Nm} (h1 : longM t true = some n) (h2 : rdB t = true) (h3 : NmOk n t.size) (hk : n.kind = 1) (hz : 0 < n.num) {g : Bool} (hg : rRead (lowS t) = ⟨2, n.neg, n.num, clampE n.exp - (4 * n.behind : Nat), g⟩) :
 FnOk Tryz.prog 4 [.v (fmtV ((K + 1 : Nat) : Int) p), .v (.int .i64 r), .v (.str t)] [.v true (.bool true)] := by
 have hG := gK_bd hK
 have hb := h3.beh
 have hlo := h3.lo
 have hhi := h3.hi
 have hw := num_words h3 (by omega)
 have e4 : n.each = 4 := by unfold Nm.each; rw [if_pos hk]
 obtain ⟨x, hx⟩ : ∃ x, x = n.exp - (4 * n.behind : Nat) := ⟨_, rfl⟩
 obtain ⟨x', hx'⟩ : ∃ x, x = clampE n.exp - (4 * n.behind : Nat) := ⟨_, rfl⟩
 have hcl := clamp_rel n.exp
 have hbl : blN n.num ≤ 64 * (digs n.num).length := bl_lt (by have := val_bl (digs_ok n.num).1; rw [(digs_ok n.num).2.2] at this; exact this)
 have hb1 := (bl_le hz).2
 have hE1 := isE_bl (X := n.num) (D := 1) (v := n.num) (r := 0) (by omega) (by omega) hz
 obtain ⟨E, hEd⟩ : ∃ E, E = min (max x (-1099511627776)) 1099511627776 := ⟨_, rfl⟩
 obtain ⟨y, hy⟩ : ∃ y, y = min (max x' (-60000 - (blN n.num : Nat))) 60000 := ⟨_, rfl⟩
 have hF := fFloat_ok K p r n.neg (digs n.num) n.num 1 0 E hK hP hr (by omega) (digs_ok _).1 (by rw [(digs_ok _).2.2]; exact hz) (by rw [(digs_ok _).2.2]; omega) (by omega) (fun h => absurd rfl h) (fun _ => .inl rfl) (by omega)
 rw [(digs_ok n.num).2.2, hEd, show decide ((0 : Nat) ≠ 0) = false from rfl] at hF
 have hRd := rRound_ok K p r n.neg n.num 1 y ((blN n.num : Nat) - 1) hK hP hr hz (by omega) (by omega) (by decide) hE1 (by omega) (by omega) (by unfold fU; omega)
 have hsame : fRnd p (gK K) r n.neg n.num 1 E (E + (blN n.num : Nat) - 1) = fRnd p (gK K) r n.neg n.num 1 y ((blN n.num : Nat) - 1 + y) := by
  have hcase : E = y ∨ (60000 ≤ E ∧ 60000 ≤ y) ∨ (E ≤ -60000 - (blN n.num : Nat) ∧ y ≤ -60000 - (blN n.num : Nat)) := by omega
  rcases hcase with h | ⟨a, b⟩ | ⟨a, b⟩
  ·rw [h, show y + (blN n.num : Nat) - 1 = (blN n.num : Nat) - 1 + y from by omega]
  ·rw [fRnd_high (by omega), fRnd_high (by omega)]
  ·rw [fRnd_low (by omega) (by omega) hz (by rw [show E + ((blN n.num : Nat) : Int) - 1 - E = (blN n.num : Nat) - 1 from by omega]; exact hE1) (by omega),
    fRnd_low (by omega) (by omega) hz (by rw [show ((blN n.num : Nat) : Int) - 1 + y - y = (blN n.num : Nat) - 1 from by omega]; exact hE1) (by omega)]
 rw [← hEd, hsame, hEd] at hF
 have hN := fun cx w0 => pflN_hex (cx := cx) (w0 := w0) ((K + 1 : Nat) : Int) p r n.neg n.digits n.behind n.exp n.len n.sgl n.num hz (by omega) x (fRnd p (gK K) r n.neg n.num 1 y ((blN n.num : Nat) - 1 + y)) hF
 have hfm : FmtOk ((K + 1 : Nat) : Int) p := ⟨by omega, by omega⟩
 have hX := pFloat_num ((K + 1 : Nat) : Int) p r t ht (by omega) hfm h1 h2 h3 (by omega) (res := fresV (fRnd p (gK K) r n.neg n.num 1 y ((blN n.num : Nat) - 1 + y)) ++ [.v true (.int .i64 0)]) (by rw [hk, e4, ← hx]; exact hN)
 have hRe := real_hex (rRead (lowS t)) (by rw [hg]) (by rw [hg]; show (digs n.num).length < 1000; omega) (by rw [hg]; show -4611686018427000000 < clampE n.exp - (4 * n.behind : Nat) ∧ clampE n.exp - (4 * n.behind : Nat) < 4611686018427000000; omega)
 have hRF := rFloat_of ((K + 1 : Nat) : Int) p r (rRead (lowS t)) (by rw [hg]; exact ⟨by simp, by simp⟩) (by rw [hg]; exact hz) (by rw [hg]; show (digs n.num).length < 1000; omega) n.num 1 y (fRnd p (gK K) r n.neg n.num 1 y ((blN n.num : Nat) - 1 + y)) (by rw [hg] at hRe ⊢; rw [hy, hx']; exact hRe) (by rw [hg]; exact hRd)
 refine PF_main ((K + 1 : Nat) : Int) p r t ht ?_ _ _ _ _ _ (fRnd_FltC (by omega) hG) hX (by rw [hg]; simp) hRF
 unfold fArgE
 rw [if_pos (by omega), if_pos (by omega)]
theorem PF_dec (K p : Nat) (r : Nat) (t : ByteArray) (ht : t.size ≤ 300) (hK : 1 ≤ K ∧ K ≤ 14) (hP : 2 ≤ p ∧ p ≤ 256) (hr : r ≤ 4) {n : Nm} (h1 : longM t true = some n) (h2 : rdB t = true) (h3 : NmOk n t.size) (hk : n.kind = 0) (hz : 0 < n.num) {g : Bool} (hg : rRead (lowS t) = ⟨1, n.neg, n.num, clampE n.exp - (n.behind : Nat), g⟩) :
 FnOk Tryz.prog 4 [.v (fmtV ((K + 1 : Nat) : Int) p), .v (.int .i64 r), .v (.str t)] [.v true (.bool true)] := by
 have hG := gK_bd hK
 have hb := h3.beh
 have hlo := h3.lo
 have hhi := h3.hi
 have hw := num_words h3 (by omega)
 have e1 : n.each = 1 := by unfold Nm.each; rw [if_neg (by omega)]
 obtain ⟨D, hD⟩ := hasD_ex n.num hz
 have hDl := num_digs h3 (by omega) hD
 obtain ⟨x, hx⟩ : ∃ x, x = n.exp - (n.behind : Nat) := ⟨_, rfl⟩
 obtain ⟨x', hx'⟩ : ∃ x, x = clampE n.exp - (n.behind : Nat) := ⟨_, rfl⟩
 have hcl := clamp_rel n.exp
 obtain ⟨A, hA⟩ : ∃ A, A = (max (nearE x (x + D)) 0).toNat := ⟨_, rfl⟩
 obtain ⟨B, hB⟩ : ∃ B, B = (max (-nearE x (x + D)) 0).toNat := ⟨_, rfl⟩
 obtain ⟨z, hz'⟩ : ∃ z, z = rnE x' D := ⟨_, rfl⟩
 obtain ⟨A2, hA2⟩ : ∃ A, A = z.toNat := ⟨_, rfl⟩
 obtain ⟨B2, hB2⟩ : ∃ B, B = (-z).toNat := ⟨_, rfl⟩
 obtain ⟨M, hM⟩ : ∃ M, M = nearM n.num (x + D) := ⟨_, rfl⟩
 have hzd : z = min (max x' (-8000 - (D : Int))) 8000 := hz'
 have hM0 : 0 < M := by rw [hM]; unfold nearM; split <;> omega
 have hpA : 0 < 10 ^ A := Nat.pow_pos (by decide)
 have hpB : 0 < 10 ^ B := Nat.pow_pos (by decide)
 have hpA2 : 0 < 10 ^ A2 := Nat.pow_pos (by decide)
 have hpB2 : 0 < 10 ^ B2 := Nat.pow_pos (by decide)
 have hnear : (12000 < x + D ∧ M = 1 ∧ A = 12000 ∧ B = 0) ∨ (x + D < -12000 ∧ M = 1 ∧ A = 0 ∧ B = 12000) ∨ (-12000 ≤ x + D ∧ x + D ≤ 12000 ∧ M = n.num ∧ A = x.toNat ∧ B = (-x).toNat) := by
  unfold nearM at hM
  unfold nearE at hA hB
  by_cases c1 : 12000 < x + D
  ·rw [if_pos (.inl c1)] at hM
   rw [if_pos c1] at hA hB
   exact .inl ⟨c1, hM, by omega, by omega⟩
  ·by_cases c2 : x + D < -12000
   ·rw [if_pos (.inr c2)] at hM
    rw [if_neg c1, if_pos c2] at hA hB
    exact .inr (.inl ⟨c2, hM, by omega, by omega⟩)
   ·rw [if_neg (fun h => by rcases h with h | h; exact c1 h; exact c2 h)] at hM
    rw [if_neg c1, if_neg c2] at hA hB
    exact .inr (.inr ⟨by omega, by omega, hM, by omega, by omega⟩)
 have hMD : M < 10 ^ D := by
  rcases hnear with ⟨_, h, _⟩ | ⟨_, h, _⟩ | ⟨_, _, h, _⟩
  ·rw [h]; exact Nat.lt_of_lt_of_le (by decide) (Nat.pow_le_pow_right (by decide) hD.1)
  ·rw [h]; exact Nat.lt_of_lt_of_le (by decide) (Nat.pow_le_pow_right (by decide) hD.1)
  ·rw [h]; exact hD.2.2
 have hl1 : (digs (M * 10 ^ A)).length ≤ 800 := by
  have := digs_lenD (m := M * 10 ^ A) (D := D + A) (by rw [Nat.pow_add]; exact (Nat.mul_lt_mul_right hpA).2 hMD)
  omega
 have hl2 : (digs (10 ^ B)).length ≤ 800 := by have := ten_len (k := B); omega
 have hl3 : (digs (n.num * 10 ^ A2)).length ≤ 600 := by
  have := digs_lenD (m := n.num * 10 ^ A2) (D := D + A2) (by rw [Nat.pow_add]; exact (Nat.mul_lt_mul_right hpA2).2 hD.2.2)
  omega
 have hl4 : (digs (10 ^ B2)).length ≤ 600 := by have := ten_len (k := B2); omega
 obtain ⟨ea, hEa⟩ := isE_ex (num := M * 10 ^ A) (den := 10 ^ B) (Nat.mul_pos hM0 hpA) hpB
 obtain ⟨eb, hEb⟩ := isE_ex (num := n.num * 10 ^ A2) (den := 10 ^ B2) (Nat.mul_pos hz hpA2) hpB2
 have hR := fRatio_ok K p r n.neg (digs (M * 10 ^ A)) (digs (10 ^ B)) ea hK hP hr hl1 hl2 (digs_ok _).1 (digs_ok _).1 (by rw [(digs_ok _).2.2]; exact Nat.mul_pos hM0 hpA) (by rw [(digs_ok _).2.2]; exact hpB) (by rw [(digs_ok _).2.2, (digs_ok _).2.2]; exact hEa)
 rw [(digs_ok (M * 10 ^ A)).2.2, (digs_ok (10 ^ B)).2.2] at hR
 obtain ⟨c, hc⟩ : ∃ c, c = 6000 := ⟨_, rfl⟩
 have pw : ∀ {a b : Nat}, a ≤ b → (10 : Nat) ^ a ≤ 10 ^ b := fun h => Nat.pow_le_pow_right (by decide) h
 have hsame : fRnd p (gK K) r n.neg (M * 10 ^ A) (10 ^ B) 0 ea = fRnd p (gK K) r n.neg (n.num * 10 ^ A2) (10 ^ B2) 0 eb := by
  by_cases hin : -8000 - (D : Int) ≤ x' ∧ x' ≤ 8000
  ·have hxx : x = x' := by omega
   have hnr : M = n.num ∧ A = A2 ∧ B = B2 := by
    rcases hnear with ⟨h, _⟩ | ⟨h, _⟩ | ⟨_, _, h5, h6, h7⟩
    ·omega
    ·omega
    ·exact ⟨h5, by omega, by omega⟩
   obtain ⟨q1, q2, q3⟩ := hnr
   rw [q1, q2, q3] at hEa ⊢
   rw [isE_uniq hEa hEb]
  ·refine fRnd_far (by omega) hG (Nat.mul_pos hM0 hpA) (Nat.mul_pos hz hpA2) hEa hEb hc ?_
   by_cases hhigh : 8000 < x'
   ·left
    have hx8 : 8000 < x := by omega
    have hz8 : A2 = 8000 ∧ B2 = 0 := by omega
    have hA8 : 6000 ≤ A ∧ B = 0 := by
     rcases hnear with ⟨_, _, h5, h6⟩ | ⟨h, _⟩ | ⟨_, _, h5, h6, h7⟩ <;> omega
    rw [hA8.2, hz8.2, Nat.pow_zero, Nat.one_mul]
    exact ⟨Nat.le_trans (pw (by omega)) (Nat.le_mul_of_pos_left _ hM0), Nat.le_trans (pw (by omega)) (Nat.le_mul_of_pos_left _ hz)⟩
   ·right
    have hx8 : x + D < -8000 := by omega
    have hz8 : A2 = 0 ∧ B2 = 8000 + D := by omega
    have hDp := hD.2.2
    constructor
    ·rcases hnear with ⟨h, _⟩ | ⟨_, h4, h5, h6⟩ | ⟨_, _, h5, h6, h7⟩
     ·omega
     ·rw [h4, h5, Nat.pow_zero, Nat.one_mul]
      exact Nat.pow_lt_pow_right (by decide) (by omega)
     ·rw [h5, show A = 0 from by omega, Nat.pow_zero, Nat.mul_one]
      have h8 : n.num * 10 ^ c < 10 ^ (D + c) := by rw [Nat.pow_add]; exact (Nat.mul_lt_mul_right (Nat.pow_pos (by decide))).2 hDp
      exact Nat.lt_of_lt_of_le h8 (pw (by omega))
    ·rw [hz8.1, hz8.2, Nat.pow_zero, Nat.mul_one]
     have h8 : n.num * 10 ^ c < 10 ^ (D + c) := by rw [Nat.pow_add]; exact (Nat.mul_lt_mul_right (Nat.pow_pos (by decide))).2 hDp
     exact Nat.lt_of_lt_of_le h8 (pw (by omega))
 rw [hsame, hM] at hR
 have hN := fun cx w0 => pflN_dec (cx := cx) (w0 := w0) ((K + 1 : Nat) : Int) p r n.neg n.digits n.behind n.exp n.len n.sgl n.num D hz (by omega) hD hDl x (by omega) A B hA hB _ hR
 have hfm : FmtOk ((K + 1 : Nat) : Int) p := ⟨by omega, by omega⟩
 have hX := pFloat_num ((K + 1 : Nat) : Int) p r t ht (by omega) hfm h1 h2 h3 (by omega) (res := fresV (fRnd p (gK K) r n.neg (n.num * 10 ^ A2) (10 ^ B2) 0 eb) ++ [.v true (.int .i64 0)]) (by rw [hk, e1, Nat.one_mul, ← hx]; exact hN)
 have hRe := real_dec (rRead (lowS t)) D (by rw [hg]; simp) (by rw [hg]; show (digs n.num).length < 1000; omega) (by rw [hg]; exact hD) hDl (by rw [hg]; show -4611686018427000000 < clampE n.exp - (n.behind : Nat) ∧ clampE n.exp - (n.behind : Nat) < 4611686018427000000; omega)
 have hEbd : -1000000 < eb ∧ eb < 1000000 := by
  have vb : ∀ v, v < 2 ^ (64 * (digs v).length) := fun v => by have := val_bl (digs_ok v).1; rw [(digs_ok v).2.2] at this; exact this
  have v1 := vb (n.num * 10 ^ A2)
  have v2 := vb (10 ^ B2)
  constructor
  ·rcases Int.lt_or_le (-1000000) eb with h | h
   ·exact h
   ·exfalso
    have h5 := (hEb 0 (-eb).toNat (by omega)).2
    rw [Nat.zero_add, Nat.pow_one] at h5
    have h6 : 2 ^ (64 * (digs (10 ^ B2)).length + 1) ≤ 2 ^ (-eb).toNat := Nat.pow_le_pow_right (by decide) (by omega)
    rw [Nat.pow_succ] at h6
    have h7 : 2 ^ (-eb).toNat ≤ n.num * 10 ^ A2 * 2 ^ (-eb).toNat := Nat.le_mul_of_pos_left _ (Nat.mul_pos hz hpA2)
    omega
  ·rcases Int.lt_or_le eb 1000000 with h | h
   ·exact h
   ·exfalso
    have h5 := (hEb eb.toNat 0 (by omega)).1
    rw [Nat.pow_zero, Nat.mul_one] at h5
    have h6 : 2 ^ (64 * (digs (n.num * 10 ^ A2)).length) ≤ 2 ^ eb.toNat := Nat.pow_le_pow_right (by decide) (by omega)
    have h7 : 2 ^ eb.toNat ≤ 10 ^ B2 * 2 ^ eb.toNat := Nat.le_mul_of_pos_left _ hpB2
    omega
 have hRd := rRound_ok K p r n.neg (n.num * 10 ^ A2) (10 ^ B2) 0 eb hK hP hr (Nat.mul_pos hz hpA2) hpB2 hl3 hl4 hEb hEbd (by omega) (by unfold fU; omega)
 rw [show eb + 0 = eb from by omega] at hRd
 have hRF := rFloat_of ((K + 1 : Nat) : Int) p r (rRead (lowS t)) (by rw [hg]; exact ⟨by simp, by simp⟩) (by rw [hg]; exact hz) (by rw [hg]; show (digs n.num).length < 1000; omega) (n.num * 10 ^ A2) (10 ^ B2) 0 (fRnd p (gK K) r n.neg (n.num * 10 ^ A2) (10 ^ B2) 0 eb) (by rw [hg] at hRe ⊢; rw [hA2, hB2, hz', hx']; exact hRe) (by rw [hg]; exact hRd)
 refine PF_main ((K + 1 : Nat) : Int) p r t ht ?_ _ _ _ _ _ (fRnd_FltC (by omega) hG) hX (by rw [hg]; simp) hRF
 unfold fArgE
 rw [if_pos (by omega), if_pos (by omega)]
theorem ParseFloats_ok (k P r : Int) (t : ByteArray) : FnOk Tryz.prog 4 [.v (fmtV k P), .v (.int .i64 r), .v (.str t)] [.v true (.bool true)] := by
 by_cases ht : 300 < t.size
 ·exact PF_awake k P r t ht
 by_cases hr : 0 ≤ r ∧ r ≤ 4
 ·by_cases hf : FmtOk k P
  ·have hA : fArgE k P r = 0 := by have hf' := hf; unfold FmtOk at hf'; unfold fArgE; rw [if_pos hr, if_pos hf']
   rcases whole t with ⟨h1, h2⟩ | ⟨n, h1, h2, h3, h4⟩
   ·exact PF_err k P r t (by omega) 6 (.inr ⟨rfl, hA, h2⟩) (pFloat_none k P r t (by omega) hr hf h1)
   ·by_cases hk1 : n.kind ≤ 1
    ·obtain ⟨q, hq⟩ := h4.num hk1
     obtain ⟨rn, rfl⟩ := Int.eq_ofNat_of_zero_le hr.1
     obtain ⟨⟨f1, f2⟩, f3, f4⟩ := hf
     obtain ⟨K, rfl⟩ : ∃ K : Nat, k = ((K + 1 : Nat) : Int) := ⟨(k - 1).toNat, by omega⟩
     obtain ⟨p, rfl⟩ := Int.eq_ofNat_of_zero_le (show 0 ≤ P by omega)
     rcases Nat.eq_zero_or_pos n.num with hz | hz
     ·have hX := pFloat_num ((K + 1 : Nat) : Int) p rn t (by omega) hr ⟨⟨f1, f2⟩, f3, f4⟩ h1 h2 h3 hk1 (res := [.v true (fltV 0 n.neg 0 0), .v true (.int .i64 0), .v true (.int .i64 0)]) (fun cx w0 => by rw [hz]; exact pflN_zero _ _ _ _ _ _ _ _ _ _ _)
      refine PF_main ((K + 1 : Nat) : Int) p rn t (by omega) hA _ _ _ _ _ (.inr ⟨by decide, rfl, rfl⟩) hX (by rw [hq]; simp) ?_
      have := rFloat_zero ((K + 1 : Nat) : Int) p rn (rRead (lowS t)) (by rw [hq]; exact ⟨by simp; omega, by simp; omega⟩) (by rw [hq]; exact hz)
      rw [hq] at this ⊢
      exact this
     ·have hcs : n.kind = 0 ∨ n.kind = 1 := by omega
      rcases hcs with hk | hk
      ·have e1 : n.each = 1 := by unfold Nm.each; rw [if_neg (by omega)]
       rw [hk, e1, Nat.one_mul] at hq
       exact PF_dec K p rn t (by omega) (by omega) (by omega) (by omega) h1 h2 h3 hk hz hq
      ·have e4 : n.each = 4 := by unfold Nm.each; rw [if_pos hk]
       rw [hk, e4] at hq
       exact PF_hex K p rn t (by omega) (by omega) (by omega) (by omega) h1 h2 h3 hk hz hq
    ·have hX := pFloat_spec k P r t (by omega) hr hf h1 h2 (by have := h3.kd; omega)
     rcases h4 with ⟨c, _⟩ | ⟨c, _⟩ | ⟨c, hg⟩ | ⟨c, hn, hg⟩
     ·omega
     ·omega
     ·rw [if_neg (by omega)] at hX
      refine PF_main k P r t (by omega) hA _ _ _ _ _ (.inr ⟨by decide, rfl, rfl⟩) hX (by rw [hg]; simp) ?_
      have := rFloat_spec k P r (rRead (lowS t)) (.inl (by rw [hg]))
      rw [if_pos (by rw [hg])] at this
      rw [hg] at this ⊢
      exact this
     ·rw [if_pos c] at hX
      refine PF_main k P r t (by omega) hA _ _ _ _ _ (.inr ⟨by decide, rfl, rfl⟩) hX (by rw [hg]; simp) ?_
      have := rFloat_spec k P r (rRead (lowS t)) (.inr (by rw [hg]))
      rw [if_neg (by rw [hg]; simp)] at this
      rw [hg] at this ⊢
      exact this
  ·have hA : fArgE k P r = 150 := by have hf' := hf; unfold FmtOk at hf'; unfold fArgE; rw [if_pos hr, if_neg hf']
   exact PF_err k P r t (by omega) 150 (.inl ⟨hA.symm, by decide⟩) (pFloat_fmt k P r t (by omega) hr hf)
 ·have hA : fArgE k P r = 1 := by unfold fArgE; rw [if_neg hr]
  exact PF_err k P r t (by omega) 1 (.inl ⟨hA.symm, by decide⟩) (pFloat_arg k P r t (by omega) hr)
end Go.Proofs.YtobacemgcjnahaaGreatDoor.L
