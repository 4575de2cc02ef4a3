/-
  Zj Zl Lzq Fa Fb
-/
import Derived.Test.YtlpolbeikangpaaGreatDoorPP4
import Derived.Test.YtlpolbeikangpaaGreatDoorPP9
import Derived.Test.YtlpolbeikangpaaGreatDoorPP3
import Derived.Test.YtlpolbeikangpaaGreatDoorRows
import Derived.Test.YtlpolbeikangpaaGreatDoorPP1
import Derived.ProofKit
import Derived.OpenShut
import Derived.LaidMore
import Derived.Lay
import Derived.SevenTiedAt
import Derived.Stop.Joined
set_option linter.unusedSimpArgs false
set_option linter.unusedVariables false
set_option maxRecDepth 100000
namespace Go.Proofs.YtlpolbeikangpaaGreatDoor.L
open Go Go.RowKit Go.Proofs
attribute [local go_sem] evalOps_nil evalOps_cons runW_t runW_f runE_s runP_s wantA evalOp effOp letters okDst coreA St.opv St.get St.at look constA St.put St.upd St.set decide_true List.all_nil List.all_cons Bool.and_true Bool.true_and and_self and_true true_and if_true if_false true_or Int.sub_zero List.nil_append List.cons_append List.append_nil Option.isSome_some List.getElem?_toArray List.getElem?_cons_succ List.getElem?_cons_zero Option.bind_some Option.map_some Option.map_none beq_self_eq_true Bool.false_beq Bool.true_beq Bool.not_true Bool.not_false Bool.false_eq_true cond_true cond_false binA binI List.map_cons List.map_nil boundA List.length_nil List.length_cons Nat.zero_mul Nat.one_mul Nat.mul_one Nat.zero_add Nat.add_zero Nat.zero_le Option.toList St.freshB AV.ment AV.ments Blk.ment V.sizes Nat.lt_add_one Bool.or_true Bool.true_or Bool.or_false Bool.false_or Bool.or_self if_pos if_neg decide_false decide_eq_true decide_eq_false wrap_i64 Int.toNat_natCast minA maxA Int.natCast_add Int.cast_ofNat_Int Option.isSome_none false_implies true_implies forall_const List.drop_zero Int.toNat_zero Int.add_sub_cancel lenA sliceA loadA indexAddrA partA fitsT V.atP V.offP V.size List.length_map List.getElem?_map Int.toNat_natCast_add_one Int.ofNat_eq_natCast TY calleeA capArg knotA capArgs toArgs toArg callA R.res R.mems R.blks R.av R.names R.nw invokeA storeA storeV fieldAddrA liveB V.off V.offs V.setP List.set_cons_zero List.set_cons_succ buildA buildP partsA appendA srcA copyA boxOk makeA AV.pure List.take_succ_cons List.take_zero nilA words unA entry List.zipIdx_cons List.zipIdx_nil Arg.av Arg.avs
theorem fTheirL_ok (k : Int) (neg : Bool) (e : Int) (l : List Int) : FnOk Tryz.prog 19 [.v (fltW k neg e l)] [.v false (fltW k neg e l)] := by
 unfold fltW
 refine FnOk.of Tryz.func19 rfl rfl fun cx w0 => ?_
 rw [show Tryz.f19.ntmps = 12 from rfl]
 refine zs0 ?_
 refine zs0 ?_
 exact Holds.ret (RetOk.vs rfl (by exact ⟨⟨rfl, by simp⟩, trivial⟩) rfl)
set_option maxHeartbeats 1000000 in
theorem Theirs1_ok (k : Int) (neg : Bool) (e : Int) (l : List Int) : FnOk Tryz.prog 104 [.v (.sl 4 [fltW k neg e l])] [.v false (.sl 4 [fltW k neg e l])] := by
 have hT := fTheirL_ok k neg e l
 unfold fltW words at hT ⊢
 obtain ⟨L, hL⟩ : ∃ L, L = l.map fun n => V.int .u64 n := ⟨_, rfl⟩
 rw [← hL] at hT ⊢
 clear hL
 refine FnOk.of Tryz.func104 rfl rfl fun cx w0 => ?_
 rw [show Tryz.f104.ntmps = 20 from rfl]
 refine zs0 ?_
 refine zs0 ?_
 refine Holds.next (fun σ => ∀ a w, Rel cx w0 σ a w → Rel cx w0 { nt := 20, env := [(3, .own 18 0 1)], mem := [(18, .buf 38 4 false [.agg [.int .i64 k, .bool neg, .int .i64 e, .sl 1 L]])] } a w) ?_ ?_
 ·refine zs0 ?_
  refine Holds.loopB (fun i : Nat => match i with | 0 => { nt := 20, env := [(4, .v true (.int .i64 0)), (0, .v false (.sl 4 [.agg [.int .i64 k, .bool neg, .int .i64 e, .sl 1 L]])), (3, .nil)], mem := [] } | _ => { nt := 20, env := [(4, .v true (.int .i64 1)), (0, .v false (.sl 4 [.agg [.int .i64 k, .bool neg, .int .i64 e, .sl 1 L]])), (3, .own 18 0 1)], mem := [(18, .buf 38 4 false [.agg [.int .i64 k, .bool neg, .int .i64 e, .sl 1 L]])] }) (fun i => i ≤ 1) (fun i => 1 - i) 0 (by decide) (fun a w h => Rel.keep [4, 0, 3] [] h) ?_
  intro i hi
  rcases Nat.eq_zero_or_pos i with h0 | h0
  ·subst h0
   show Holds _ _ _ _ _ { nt := 20, env := [(4, .v true (.int .i64 0)), (0, .v false (.sl 4 [.agg [.int .i64 k, .bool neg, .int .i64 e, .sl 1 L]])), (3, .nil)], mem := [] } _
   refine Holds.seq ?_
   refine zs0 ?_
   refine Holds.condT rfl (Holds.skip ?_)
   show Holds _ _ _ _ _ _ _
   refine Holds.next (fun σ => ∀ a w, Rel cx w0 σ a w → Rel cx w0 { nt := 20, env := [(4, .v true (.int .i64 0)), (0, .v false (.sl 4 [.agg [.int .i64 k, .bool neg, .int .i64 e, .sl 1 L]])), (3, .own 18 0 1)], mem := [(18, .buf 38 4 false [.agg [.int .i64 k, .bool neg, .int .i64 e, .sl 1 L]])] } a w) ?_ ?_
   ·refine Holds.blockN ?_
    refine zr2 (ρ := fun _ => [.v false (.agg [.int .i64 k, .bool neg, .int .i64 e, .sl 1 L])]) (o := by repeat' first|exact hT|trivial|constructor) (k := ?_)
    exact fun a w h => Rel.keep [4, 0, 3] [18] h
   ·intro σ hσ
    refine Holds.from hσ ?_
    refine zr0 ?_
    exact ⟨1, Nat.le_refl _, (show 1 - 1 < 1 - 0 by decide), fun a w h => Rel.keep [4, 0, 3] [18] h⟩
  ·have h1 : i = 1 := by omega
   subst h1
   show Holds _ _ _ _ _ { nt := 20, env := [(4, .v true (.int .i64 1)), (0, .v false (.sl 4 [.agg [.int .i64 k, .bool neg, .int .i64 e, .sl 1 L]])), (3, .own 18 0 1)], mem := [(18, .buf 38 4 false [.agg [.int .i64 k, .bool neg, .int .i64 e, .sl 1 L]])] } _
   refine Holds.seq ?_
   refine zs0 ?_
   exact Holds.condF rfl (Holds.exit ⟨rfl, fun a w h => Rel.keep [3] [18] h⟩)
 ·intro σ hσ
  refine Holds.from (σ' := { nt := 20, env := [(3, .v false (.sl 4 [.agg [.int .i64 k, .bool neg, .int .i64 e, .sl 1 L]]))], mem := [] }) (fun a w h => by
   have := Rel.keep [3] [] (Rel.freeze (s := 18) (e := 38) (z := 4) (nw := false) (xs := [.agg [.int .i64 k, .bool neg, .int .i64 e, .sl 1 L]]) (hσ a w h) rfl)
   exact this) ?_
  clear hσ
  refine zs0 ?_
  exact Holds.ret (RetOk.vs rfl (by exact ⟨⟨rfl, by simp⟩, trivial⟩) rfl)
set_option maxHeartbeats 2000000 in
theorem fCheck1_ok (k P : Int) (kd : Int) (neg : Bool) (e : Int) (l : List Int) (hl : l.length < 5000) (ol : okW l) :
 FnOk Tryz.prog 17 [.v (fmtV k P), .v (.sl 4 [fltW kd neg e l])] [.v true (.int .i64 (nuE k P true kd neg e l))] := by
 have hLg := fLarge_ok kd neg e l
 have hR := fRight_ok k P
 have hGd := fGood_ok kd neg e l hl ol
 have hIn : FmtOk k P → cnB kd neg e (val l) = true → FnOk Tryz.prog 68 [.v (fmtV k P), .v (fltW kd neg e l)] [.v true (.bool (decide (kd ≠ 1) || hoI (k - 1).toNat P.toNat (cnE kd e (val l)) (cnM kd e (val l))))] := fun h hc => by
  obtain ⟨⟨h1, h2⟩, h3, h4⟩ := h
  obtain ⟨c1, c2, c3⟩ := cn_one hc
  have := fIn_ok (k - 1).toNat P.toNat (by omega) (by omega) kd neg e l hl ol (fun hk => by
   subst hk
   unfold cnB at hc
   rw [if_neg (by decide), if_neg (by decide), if_pos rfl] at hc
   have := of_decide_eq_true hc
   omega)
  rw [show (((k - 1).toNat + 1 : Nat) : Int) = k from by omega, show ((P.toNat : Nat) : Int) = P from by omega] at this
  by_cases hk : kd = 1
  ·obtain ⟨_, c4, c5, _⟩ := c3 hk
   rw [c4, c5]
   exact this
  ·rw [decide_eq_true hk, Bool.true_or] at this ⊢
   exact this
 have hfm : decide ((2 ≤ k ∧ k ≤ 15) ∧ 2 ≤ P ∧ P ≤ 256) = decide (FmtOk k P) := rfl
 unfold nuE hoB
 obtain ⟨n, hn⟩ : ∃ n, n = l.length := ⟨_, rfl⟩
 rw [← hn] at hLg ⊢
 obtain ⟨c, hc⟩ : ∃ h, h = cnB kd neg e (val l) := ⟨_, rfl⟩
 rw [← hc] at hGd hIn ⊢
 obtain ⟨i, hi⟩ : ∃ h, h = (decide (kd ≠ 1) || hoI (k - 1).toNat P.toNat (cnE kd e (val l)) (cnM kd e (val l))) := ⟨_, rfl⟩
 rw [← hi] at hIn ⊢
 unfold fltW words at hLg hGd hIn ⊢
 obtain ⟨L, hL'⟩ : ∃ L, L = l.map fun n => V.int .u64 n := ⟨_, rfl⟩
 rw [← hL'] at hLg hGd hIn ⊢
 unfold fmtV at hR hIn ⊢
 clear hL' hn hc hi ol hl
 refine FnOk.of Tryz.func17 rfl rfl fun cx w0 => ?_
 rw [show Tryz.f17.ntmps = 42 from rfl]
 refine zs0 ?_
 refine Holds.next (fun σ => ¬ 4096 < n ∧ ∀ a w, Rel cx w0 σ a w → Rel cx w0 { nt := 42, env := [(1, .v false (.sl 4 [.agg [.int .i64 kd, .bool neg, .int .i64 e, .sl 1 L]])), (2, .ptr 2 0 [] 0)], mem := [(2, .box 35 (.v false (.agg [.int .i64 k, .int .i64 P])))] } a w) ?_ ?_
 ·refine zs0 ?_
  refine Holds.loopB (fun i : Nat => { nt := 42, env := [(5, .v true (.int .i64 i)), (1, .v false (.sl 4 [.agg [.int .i64 kd, .bool neg, .int .i64 e, .sl 1 L]])), (2, .ptr 2 0 [] 0)], mem := [(2, .box 35 (.v false (.agg [.int .i64 k, .int .i64 P])))] }) (fun i => i = 0 ∨ i = 1 ∧ ¬ 4096 < n) (fun i => 1 - i) 0 (.inl rfl) (fun a w h => Rel.keep [5, 1, 2] [2] h) ?_
  rintro i hi
  by_cases hi0 : i = 0
  ·subst hi0
   refine Holds.seq ?_
   refine zs0 ?_
   refine Holds.condT rfl (Holds.skip ?_)
   show Holds _ _ _ _ _ _ _
   refine Holds.next (fun σ => ¬ 4096 < n ∧ ∀ a w, Rel cx w0 σ a w → Rel cx w0 { nt := 42, env := [(5, .v true (.int .i64 0)), (1, .v false (.sl 4 [.agg [.int .i64 kd, .bool neg, .int .i64 e, .sl 1 L]])), (2, .ptr 2 0 [] 0)], mem := [(2, .box 35 (.v false (.agg [.int .i64 k, .int .i64 P])))] } a w) ?_ ?_
   ·refine Holds.blockN ?_
    by_cases hn : 4096 < n
    ·rw [decide_eq_true hn] at hLg
     rw [if_pos hn]
     refine zs2 (ρ := fun _ => [.v true (.bool true)]) (o := by repeat' first|exact hLg|trivial|constructor) (k := ?_)
     refine Holds.condT rfl ?_
     refine zs0 ?_
     exact Holds.ret (RetOk.vs rfl (by exact ⟨⟨rfl, id⟩, trivial⟩) rfl)
    ·rw [decide_eq_false hn] at hLg
     refine zs2 (ρ := fun _ => [.v true (.bool false)]) (o := by repeat' first|exact hLg|trivial|constructor) (k := ?_)
     exact Holds.condF rfl (Holds.skip ⟨hn, fun a w h => Rel.keep [5, 1, 2] [2] h⟩)
   ·rintro σ ⟨hn, hσ⟩
    refine Holds.from hσ ?_
    refine zr0 ?_
    exact ⟨1, .inr ⟨rfl, hn⟩, (show 1 - 1 < 1 - 0 by decide), fun a w h => Rel.keep [5, 1, 2] [2] h⟩
  ·have hi1 : i = 1 ∧ ¬ 4096 < n := by omega
   obtain ⟨rfl, hn⟩ := hi1
   refine Holds.seq ?_
   refine zs0 ?_
   exact Holds.condF rfl (Holds.exit ⟨rfl, hn, fun a w h => Rel.keep [1, 2] [2] h⟩)
 ·rintro σ ⟨hn, hσ⟩
  refine Holds.from hσ ?_
  rw [if_neg hn, if_neg (show ¬ true = false by decide)]
  clear hLg hσ
  refine Holds.seq ?_
  by_cases hf : FmtOk k P
  ·rw [hfm, decide_eq_true hf] at hR
   rw [if_neg (not_not_intro hf)]
   have hIn := hIn hf
   refine zs2 (ρ := fun _ => [.v true (.bool true)]) (o := by repeat' first|exact hR|trivial|constructor) (k := ?_)
   refine Holds.condF rfl (Holds.skip ?_)
   show Holds _ _ _ _ _ _ _
   refine Holds.next (fun σ => (c && i) = true ∧ ∀ a w, Rel cx w0 σ a w → Rel cx w0 { nt := 42, env := [], mem := [] } a w) ?_ ?_
   ·refine zs0 ?_
    refine Holds.loopB (fun j : Nat => { nt := 42, env := [(6, .v true (.int .i64 j)), (1, .v false (.sl 4 [.agg [.int .i64 kd, .bool neg, .int .i64 e, .sl 1 L]])), (2, .ptr 2 0 [] 0)], mem := [(2, .box 35 (.v false (.agg [.int .i64 k, .int .i64 P])))] }) (fun j => j = 0 ∨ j = 1 ∧ (c && i) = true) (fun j => 1 - j) 0 (.inl rfl) (fun a w h => Rel.keep [6, 1, 2] [2] h) ?_
    rintro j hj
    by_cases hj0 : j = 0
    ·subst hj0
     refine Holds.seq ?_
     refine zs0 ?_
     refine Holds.condT rfl (Holds.skip ?_)
     show Holds _ _ _ _ _ _ _
     refine Holds.next (fun σ => (c && i) = true ∧ ∀ a w, Rel cx w0 σ a w → Rel cx w0 { nt := 42, env := [(6, .v true (.int .i64 0)), (1, .v false (.sl 4 [.agg [.int .i64 kd, .bool neg, .int .i64 e, .sl 1 L]])), (2, .ptr 2 0 [] 0)], mem := [(2, .box 35 (.v false (.agg [.int .i64 k, .int .i64 P])))] } a w) ?_ ?_
     ·refine Holds.blockN ?_
      cases c with
      | false =>
        rw [Bool.false_and, if_pos rfl]
        refine zd2 [] (ρ := fun _ => [.v true (.bool false)]) (o := by repeat' first|exact hGd|trivial|constructor) (k := ?_)
        refine Holds.condT rfl ?_
        refine zs0 ?_
        exact Holds.ret (RetOk.vs rfl (by exact ⟨⟨rfl, id⟩, trivial⟩) rfl)
      | true =>
        have hIn := hIn rfl
        rw [Bool.true_and]
        cases i with
        | false =>
          rw [if_pos rfl]
          refine zd2 [] (ρ := fun d => if d = 31 then [.v true (.bool true)] else [.v true (.bool false)]) (o := by repeat' first|exact hGd|exact hIn|trivial|constructor) (k := ?_)
          refine Holds.condT rfl ?_
          refine zs0 ?_
          exact Holds.ret (RetOk.vs rfl (by exact ⟨⟨rfl, id⟩, trivial⟩) rfl)
        | true =>
          rw [if_neg (show ¬ true = false by decide)]
          refine zd2 [] (ρ := fun d => if d = 31 then [.v true (.bool true)] else [.v true (.bool true)]) (o := by repeat' first|exact hGd|exact hIn|trivial|constructor) (k := ?_)
          exact Holds.condF rfl (Holds.skip ⟨rfl, fun a w h => Rel.keep [6, 1, 2] [2] h⟩)
     ·rintro σ ⟨hi, hσ⟩
      refine Holds.from hσ ?_
      refine zr0 ?_
      exact ⟨1, .inr ⟨rfl, hi⟩, (show 1 - 1 < 1 - 0 by decide), fun a w h => Rel.keep [6, 1, 2] [2] h⟩
    ·have hj1 : j = 1 ∧ (c && i) = true := hj.resolve_left hj0
     obtain ⟨rfl, hi⟩ := hj1
     refine Holds.seq ?_
     refine zs0 ?_
     exact Holds.condF rfl (Holds.exit ⟨rfl, hi, fun a w h => Rel.keep [] [] h⟩)
   ·rintro σ ⟨hi, hσ⟩
    refine Holds.from hσ ?_
    rw [hi, if_neg (show ¬ true = false by decide)]
    refine zs0 ?_
    exact Holds.ret (RetOk.vs rfl (by exact ⟨⟨rfl, id⟩, trivial⟩) rfl)
  ·rw [hfm, decide_eq_false hf] at hR
   rw [if_pos hf]
   refine zs2 (ρ := fun _ => [.v true (.bool false)]) (o := by repeat' first|exact hR|trivial|constructor) (k := ?_)
   refine Holds.condT rfl ?_
   refine zs0 ?_
   exact Holds.ret (RetOk.vs rfl (by exact ⟨⟨rfl, id⟩, trivial⟩) rfl)
theorem nuE_okr {k P : Int} {kd : Int} {neg : Bool} {e : Int} {l : List Int} (h : ¬ 4096 < l.length) : nuE k P false kd neg e l = 1 := by
 unfold nuE; rw [if_neg h, if_pos rfl]
set_option maxHeartbeats 2000000 in
theorem kArgs1_ok (k P r : Int) (kd : Int) (neg : Bool) (e : Int) (l : List Int) (hl : l.length < 5000) (ol : okW l) :
 FnOk Tryz.prog 40 [.v (fmtV k P), .v (.int .i64 r), .v (.sl 4 [fltW kd neg e l])] [.v true (.int .i64 (nuE k P (decide (0 ≤ r ∧ r ≤ 4)) kd neg e l))] := by
 have hLg := nLarge_ok l
 have hK := Known_ok r
 have hF := Fmt_ok k P
 have hTh := Theirs1_ok kd neg e l
 have hC := fCheck1_ok k P kd neg e l hl ol
 have hbig : 4096 < l.length → nuE k P (decide (0 ≤ r ∧ r ≤ 4)) kd neg e l = 2 := fun h => nuE_big h
 have hno : ¬ 4096 < l.length → nuE k P false kd neg e l = 1 := fun h => nuE_okr h
 obtain ⟨b, hb⟩ : ∃ b, b = decide (0 ≤ r ∧ r ≤ 4) := ⟨_, rfl⟩
 rw [← hb] at hK hbig ⊢
 obtain ⟨E, hE⟩ : ∃ E, E = nuE k P b kd neg e l := ⟨_, rfl⟩
 rw [← hE] at hbig ⊢
 have hE1 : b = false → ¬ 4096 < l.length → E = 1 := fun h1 h2 => by rw [hE, h1]; exact hno h2
 have hE2 : b = true → FnOk Tryz.prog 17 [.v (fmtV k P), .v (.sl 4 [fltW kd neg e l])] [.v true (.int .i64 E)] := fun h => by rw [hE, h]; exact hC
 clear hE hno hC hb
 obtain ⟨n, hn⟩ : ∃ n, n = l.length := ⟨_, rfl⟩
 rw [← hn] at hLg hbig hE1
 unfold fltW words at hTh hE2 ⊢
 unfold words at hLg
 obtain ⟨L, hL'⟩ : ∃ L, L = l.map fun n => V.int .u64 n := ⟨_, rfl⟩
 rw [← hL'] at hLg hTh hE2 ⊢
 unfold fmtV at hF hE2 ⊢
 clear hL' hn ol hl
 refine FnOk.of Tryz.func40 rfl rfl fun cx w0 => ?_
 rw [show Tryz.f40.ntmps = 28 from rfl]
 refine zs0 ?_
 refine Holds.next (fun σ => ¬ 4096 < n ∧ ∀ a w, Rel cx w0 σ a w → Rel cx w0 { nt := 28, env := [(1, .v true (.int .i64 r)), (2, .v false (.sl 4 [.agg [.int .i64 kd, .bool neg, .int .i64 e, .sl 1 L]])), (3, .ptr 3 0 [] 0)], mem := [(3, .box 23 (.v false (.agg [.int .i64 k, .int .i64 P])))] } a w) ?_ ?_
 ·refine zs0 ?_
  refine Holds.loopB (fun i : Nat => { nt := 28, env := [(7, .v true (.int .i64 i)), (1, .v true (.int .i64 r)), (2, .v false (.sl 4 [.agg [.int .i64 kd, .bool neg, .int .i64 e, .sl 1 L]])), (3, .ptr 3 0 [] 0)], mem := [(3, .box 23 (.v false (.agg [.int .i64 k, .int .i64 P])))] }) (fun i => i = 0 ∨ i = 1 ∧ ¬ 4096 < n) (fun i => 1 - i) 0 (.inl rfl) (fun a w h => Rel.keep [7, 1, 2, 3] [3] h) ?_
  rintro i hi
  by_cases hi0 : i = 0
  ·subst hi0
   refine Holds.seq ?_
   refine zs0 ?_
   refine Holds.condT rfl (Holds.skip ?_)
   show Holds _ _ _ _ _ _ _
   refine Holds.next (fun σ => ¬ 4096 < n ∧ ∀ a w, Rel cx w0 σ a w → Rel cx w0 { nt := 28, env := [(7, .v true (.int .i64 0)), (1, .v true (.int .i64 r)), (2, .v false (.sl 4 [.agg [.int .i64 kd, .bool neg, .int .i64 e, .sl 1 L]])), (3, .ptr 3 0 [] 0)], mem := [(3, .box 23 (.v false (.agg [.int .i64 k, .int .i64 P])))] } a w) ?_ ?_
   ·refine Holds.blockN ?_
    by_cases hn : 4096 < n
    ·rw [decide_eq_true hn] at hLg
     rw [hbig hn]
     refine zs2 (ρ := fun _ => [.v true (.bool true)]) (o := by repeat' first|exact hLg|trivial|constructor) (k := ?_)
     refine Holds.condT rfl ?_
     refine zs0 ?_
     exact Holds.ret (RetOk.vs rfl (by exact ⟨⟨rfl, id⟩, trivial⟩) rfl)
    ·rw [decide_eq_false hn] at hLg
     refine zs2 (ρ := fun _ => [.v true (.bool false)]) (o := by repeat' first|exact hLg|trivial|constructor) (k := ?_)
     exact Holds.condF rfl (Holds.skip ⟨hn, fun a w h => Rel.keep [7, 1, 2, 3] [3] h⟩)
   ·rintro σ ⟨hn, hσ⟩
    refine Holds.from hσ ?_
    refine zr0 ?_
    exact ⟨1, .inr ⟨rfl, hn⟩, (show 1 - 1 < 1 - 0 by decide), fun a w h => Rel.keep [7, 1, 2, 3] [3] h⟩
  ·have hi1 : i = 1 ∧ ¬ 4096 < n := by omega
   obtain ⟨rfl, hn⟩ := hi1
   refine Holds.seq ?_
   refine zs0 ?_
   exact Holds.condF rfl (Holds.exit ⟨rfl, hn, fun a w h => Rel.keep [1, 2, 3] [3] h⟩)
 ·rintro σ ⟨hn, hσ⟩
  refine Holds.from hσ ?_
  clear hLg hσ
  refine Holds.seq ?_
  cases b with
  | true =>
    have hC := hE2 rfl
    refine zs2 (ρ := fun _ => [.v true (.bool true)]) (o := by repeat' first|exact hK|trivial|constructor) (k := ?_)
    refine Holds.condF rfl (Holds.skip ?_)
    show Holds _ _ _ _ _ _ _
    refine zs2 (ρ := fun d => if d = 24 then [.v true (.agg [.int .i64 k, .int .i64 P])] else if d = 26 then [.v false (.sl 4 [.agg [.int .i64 kd, .bool neg, .int .i64 e, .sl 1 L]])] else [.v true (.int .i64 E)]) (o := by repeat' first|exact hF|exact hTh|exact hC|trivial|constructor) (k := ?_)
    exact Holds.ret (RetOk.vs rfl (by exact ⟨⟨rfl, id⟩, trivial⟩) rfl)
  | false =>
    rw [hE1 rfl hn]
    refine zs2 (ρ := fun _ => [.v true (.bool false)]) (o := by repeat' first|exact hK|trivial|constructor) (k := ?_)
    refine Holds.condT rfl ?_
    refine zs0 ?_
    exact Holds.ret (RetOk.vs rfl (by exact ⟨⟨rfl, id⟩, trivial⟩) rfl)
set_option maxHeartbeats 2000000 in
theorem lArgs_ok (k P r n lo hi : Int) (kd : Int) (neg : Bool) (e : Int) (l : List Int) (hl : l.length < 5000) (ol : okW l) :
 FnOk Tryz.prog 25 [.v (fmtV k P), .v (.int .i64 r), .v (fltW kd neg e l), .v (.int .i64 n), .v (.int .i64 lo), .v (.int .i64 hi)] [.v true (.int .i64 (nuE k P (decide (0 ≤ r ∧ r ≤ 4) && !outB n lo hi) kd neg e l))] := by
 have hK := kArgs1_ok k P r kd neg e l hl ol
 have hbig : nuE k P (decide (0 ≤ r ∧ r ≤ 4)) kd neg e l = 2 → nuE k P (decide (0 ≤ r ∧ r ≤ 4) && !outB n lo hi) kd neg e l = 2 := fun h => by
  by_cases hb : 4096 < l.length
  ·exact nuE_big hb
  ·exfalso
   unfold nuE at h
   rw [if_neg hb] at h
   split at h
   ·cases h
   ·split at h
    ·cases h
    ·split at h <;> cases h
 have hsm : nuE k P (decide (0 ≤ r ∧ r ≤ 4)) kd neg e l ≠ 2 → outB n lo hi = true → nuE k P (decide (0 ≤ r ∧ r ≤ 4) && !outB n lo hi) kd neg e l = 1 := fun h ho => by
  rw [ho, Bool.not_true, Bool.and_false]
  exact nuE_okr fun hb => h (nuE_big hb)
 have hsa : outB n lo hi = false → nuE k P (decide (0 ≤ r ∧ r ≤ 4) && !outB n lo hi) kd neg e l = nuE k P (decide (0 ≤ r ∧ r ≤ 4)) kd neg e l := fun ho => by
  rw [ho, Bool.not_false, Bool.and_true]
 obtain ⟨E, hE⟩ : ∃ E, E = nuE k P (decide (0 ≤ r ∧ r ≤ 4)) kd neg e l := ⟨_, rfl⟩
 rw [← hE] at hK hbig hsm hsa
 obtain ⟨E2, hE2⟩ : ∃ E, E = nuE k P (decide (0 ≤ r ∧ r ≤ 4) && !outB n lo hi) kd neg e l := ⟨_, rfl⟩
 rw [← hE2] at hbig hsm hsa ⊢
 clear hE hE2
 unfold fltW words at hK ⊢
 obtain ⟨L, hL'⟩ : ∃ L, L = l.map fun n => V.int .u64 n := ⟨_, rfl⟩
 rw [← hL'] at hK ⊢
 unfold fmtV at hK ⊢
 clear hL' ol hl
 refine FnOk.of Tryz.func25 rfl rfl fun cx w0 => ?_
 rw [show Tryz.f25.ntmps = 32 from rfl]
 refine zs0 ?_
 refine zs2 (ρ := fun _ => [.v true (.int .i64 E)]) (o := by repeat' first|exact hK|trivial|constructor) (k := ?_)
 refine Holds.next (fun σ => ∀ a w, Rel cx w0 σ a w → Rel cx w0 { nt := 32, env := [(13, .v true (.int .i64 E2))], mem := [] } a w) ?_ ?_
 ·by_cases h2 : E = 2
  ·rw [hbig h2]
   subst h2
   refine zs0 ?_
   exact Holds.condF rfl (Holds.skip fun a w h => Rel.keep [13] [] h)
  ·by_cases g1 : n < lo
   ·rw [hsm h2 (decide_eq_true (.inl g1))]
    refine zs1 (an h2 <| g1) ?_
    refine Holds.condT rfl ?_
    refine zr0 ?_
    exact fun a w h => Rel.keep [13] [] h
   ·by_cases g2 : hi < n
    ·rw [hsm h2 (decide_eq_true (.inr g2))]
     refine zs1 (an h2 <| an g1 <| g2) ?_
     refine Holds.condT rfl ?_
     refine zr0 ?_
     exact fun a w h => Rel.keep [13] [] h
    ·rw [hsa (decide_eq_false (by omega))]
     refine zs1 (an h2 <| an g1 <| g2) ?_
     exact Holds.condF rfl (Holds.skip fun a w h => Rel.keep [13] [] h)
 ·intro σ hσ
  refine Holds.from hσ ?_
  refine zs0 ?_
  exact Holds.ret (RetOk.vs rfl (by exact ⟨⟨rfl, id⟩, trivial⟩) rfl)
theorem pl_all (k P r kd e n : Int) (neg : Bool) (l : List Int) (hl : l.length < 5000) (ol : okW l) (he : -9223372036854775808 ≤ e ∧ e < 9223372036854775808) :
 ∃ (s : ByteArray) (b : Bool), FnOk Tryz.prog 23 [.v (fmtV k P), .v (.int .i64 r), .v (fltW kd neg e l), .v (.int .i64 n)] [.v true (.str s), .v true (.bool b), .v true (.int .i64 (nuE k P (decide (0 ≤ r ∧ r ≤ 4) && !outB n 0 1200) kd neg e l))] ∧
  (nuE k P (decide (0 ≤ r ∧ r ≤ 4) && !outB n 0 1200) kd neg e l ≠ 0 → s = ⟨#[]⟩ ∧ b = false) ∧
  (nuE k P (decide (0 ≤ r ∧ r ≤ 4) && !outB n 0 1200) kd neg e l = 0 → FnOk Tryz.prog 26 [.v (.int .i64 r), .v (fltW kd neg e l), .v (.int .i64 n)] [.v true (.str s), .v true (.bool b)]) := by
 by_cases hE : nuE k P (decide (0 ≤ r ∧ r ≤ 4) && !outB n 0 1200) kd neg e l = 0
 ·obtain ⟨hr, hn⟩ := okr_of (nu_one hE).2.1
  obtain ⟨m, ex, hf, h1⟩ := flAny hE
  obtain ⟨r, rfl⟩ : ∃ r' : Nat, r = r' := ⟨r.toNat, by omega⟩
  obtain ⟨n, rfl⟩ : ∃ n' : Nat, n = n' := ⟨n.toNat, by omega⟩
  refine ⟨_, _, ?_, fun h => absurd hE h, fun _ => rPlaces_ok r n (by omega) (by omega) k P kd neg e l m ex hf fun hk => ?_⟩
  ·have := pPlaces_ok k P kd r n e neg l hl ol he (by omega) (by omega) hE hf
   rw [hE]
   exact this
  ·subst hk
   obtain ⟨K, p, u, n', a, hg⟩ := h1 rfl
   exact ⟨hg.raw hE hl ol he, hg.sh.fl⟩
 ·exact ⟨_, _, pPlaces_err k P r kd e n neg l hl ol he hE, fun _ => ⟨rfl, rfl⟩, fun h => absurd h hE⟩
theorem sc_all (k P r kd e n : Int) (neg : Bool) (l : List Int) (hl : l.length < 5000) (ol : okW l) (he : -9223372036854775808 ≤ e ∧ e < 9223372036854775808) :
 ∃ (s : ByteArray) (b : Bool), FnOk Tryz.prog 24 [.v (fmtV k P), .v (.int .i64 r), .v (fltW kd neg e l), .v (.int .i64 n)] [.v true (.str s), .v true (.bool b), .v true (.int .i64 (nuE k P (decide (0 ≤ r ∧ r ≤ 4) && !outB n 0 1199) kd neg e l))] ∧
  (nuE k P (decide (0 ≤ r ∧ r ≤ 4) && !outB n 0 1199) kd neg e l ≠ 0 → s = ⟨#[]⟩ ∧ b = false) ∧
  (nuE k P (decide (0 ≤ r ∧ r ≤ 4) && !outB n 0 1199) kd neg e l = 0 → FnOk Tryz.prog 27 [.v (.int .i64 r), .v (fltW kd neg e l), .v (.int .i64 n)] [.v true (.str s), .v true (.bool b)]) := by
 by_cases hE : nuE k P (decide (0 ≤ r ∧ r ≤ 4) && !outB n 0 1199) kd neg e l = 0
 ·obtain ⟨hr, hn⟩ := okr_of (nu_one hE).2.1
  obtain ⟨m, ex, hf, h1⟩ := flAny hE
  obtain ⟨r, rfl⟩ : ∃ r' : Nat, r = r' := ⟨r.toNat, by omega⟩
  obtain ⟨n, rfl⟩ : ∃ n' : Nat, n = n' := ⟨n.toNat, by omega⟩
  obtain ⟨a, ha⟩ : ∃ a : Int, kd = 1 → Raw e l m ex ∧ FlB m ex ∧ IsA (fNum m ex) (fDen ex) a := by
   by_cases hk : kd = 1
   ·subst hk
    obtain ⟨K, p, u, n', a, hg⟩ := h1 rfl
    exact ⟨a, fun _ => ⟨hg.raw hE hl ol he, hg.sh.fl, hg.sh.hA⟩⟩
   ·exact ⟨0, fun h => absurd h hk⟩
  refine ⟨_, _, ?_, fun h => absurd hE h, fun _ => rScience_ok r n (by omega) (by omega) k P kd neg e l m ex a hf ha⟩
  have := pScience_ok k P kd r n e neg l hl ol he (by omega) (by omega) hE hf (fun hk => (ha hk).2)
  rw [hE]
  exact this
 ·exact ⟨_, _, pScience_err k P r kd e n neg l hl ol he hE, fun _ => ⟨rfl, rfl⟩, fun h => absurd h hE⟩
set_option maxHeartbeats 4000000 in
theorem SP_walk (k P r kd e n : Int) (neg : Bool) (l : List Int) (ol : okW l) (he : -9223372036854775808 ≤ e ∧ e < 9223372036854775808) :
 FnOk Tryz.prog 4 [.v (fmtV k P), .v (.int .i64 r), .v (fltW kd neg e l), .v (.int .i64 n)] [.v true (.bool true)] := by
 have hA := awake_ok
 have hS := fShort_ok kd neg e (l.map fun n => .int .u64 n)
 rw [List.length_map] at hS
 by_cases h : l.length ≤ 40
 ·rw [decide_eq_true h] at hS
  have hAr1 := lArgs_ok k P r n 0 1200 kd neg e l (by omega) ol
  have hAr2 := lArgs_ok k P r n 0 1199 kd neg e l (by omega) ol
  obtain ⟨s1, b1, hP, hP0, hP1⟩ := pl_all k P r kd e n neg l (by omega) ol he
  obtain ⟨s2, b2, hQ, hQ0, hQ1⟩ := sc_all k P r kd e n neg l (by omega) ol he
  have hTh := fTheirL_ok kd neg e l
  obtain ⟨E1, hE1⟩ : ∃ E, E = nuE k P (decide (0 ≤ r ∧ r ≤ 4) && !outB n 0 1200) kd neg e l := ⟨_, rfl⟩
  obtain ⟨E2, hE2⟩ : ∃ E, E = nuE k P (decide (0 ≤ r ∧ r ≤ 4) && !outB n 0 1199) kd neg e l := ⟨_, rfl⟩
  rw [← hE1] at hAr1 hP hP0 hP1
  rw [← hE2] at hAr2 hQ hQ0 hQ1
  unfold fltW words at hP hP1 hQ hQ1 hTh hAr1 hAr2 ⊢
  unfold fmtV at hP hQ hAr1 hAr2 ⊢
  obtain ⟨M, hM⟩ : ∃ L, L = l.map fun n => V.int .u64 n := ⟨_, rfl⟩
  rw [← hM] at hS hP hP1 hQ hQ1 hTh hAr1 hAr2 ⊢
  clear hM hE1 hE2 he ol h
  refine FnOk.of Tryz.func4 rfl rfl fun cx w0 => ?_
  rw [show Tryz.f4.ntmps = 125 from rfl]
  refine zs0 ?_
  refine Holds.seq ?_
  refine zs2 (ρ := fun _ => [.v true (.bool true)]) (o := by repeat' first|exact hS|trivial|constructor) (k := ?_)
  refine Holds.condF rfl (Holds.skip ?_)
  show Holds _ _ _ _ _ _ _
  refine zs2 (ρ := fun _ => [.v true (.str s1), .v true (.bool b1), .v true (.int .i64 E1)]) (o := by repeat' first|exact hP|trivial|constructor) (k := ?_)
  refine zs2 (ρ := fun _ => [.v true (.str s2), .v true (.bool b2), .v true (.int .i64 E2)]) (o := by repeat' first|exact hQ|trivial|constructor) (k := ?_)
  refine Holds.from (σ' := { nt := 125, env := [(9, .v true (.str s1)), (10, .v true (.bool b1)), (11, .v true (.int .i64 E1)), (12, .v true (.str s2)), (13, .v true (.bool b2)), (14, .v true (.int .i64 E2)), (1, .v true (.int .i64 r)), (3, .v true (.int .i64 n)), (4, .ptr 4 0 [] 0), (6, .ptr 6 0 [] 0)], mem := [(4, .box 23 (.v false (.agg [.int .i64 k, .int .i64 P]))), (6, .box 28 (.v false (.agg [.int .i64 kd, .bool neg, .int .i64 e, .sl 1 M])))] }) (fun a w h => Rel.keep [9, 10, 11, 12, 13, 14, 1, 3, 4, 6] [4, 6] h) ?_
  clear hS hP hQ
  refine Holds.next (fun σ => ∀ a w, Rel cx w0 σ a w → Rel cx w0 { nt := 125, env := [(12, .v true (.str s2)), (13, .v true (.bool b2)), (14, .v true (.int .i64 E2)), (1, .v true (.int .i64 r)), (3, .v true (.int .i64 n)), (4, .ptr 4 0 [] 0), (6, .ptr 6 0 [] 0)], mem := [(4, .box 23 (.v false (.agg [.int .i64 k, .int .i64 P]))), (6, .box 28 (.v false (.agg [.int .i64 kd, .bool neg, .int .i64 e, .sl 1 M])))] } a w) ?_ ?_
  ·refine zs2 (ρ := fun _ => [.v true (.int .i64 E1)]) (o := by repeat' first|exact hAr1|trivial|constructor) (k := ?_)
   by_cases h1 : E1 = 0
   ·have hP1 := hP1 h1
    subst h1
    refine zs0 ?_
    refine Holds.condF rfl ?_
    refine zs2 (ρ := fun y => if y = 64 then [.v false (.agg [.int .i64 kd, .bool neg, .int .i64 e, .sl 1 M])] else [.v true (.str s1), .v true (.bool b1)]) (o := by repeat' first|exact hTh|exact hP1|trivial|constructor) (k := ?_)
    refine Holds.step (Px := px) (T := TT) (ρ := fun _ => []) TTe (by simp (maxSteps := 100000) (disch := omega) only [go_sem, V.isAgg, V.flat, ↓reduceIte, Nat.reduceAdd, Nat.reduceSub, Nat.reduceLT, Nat.reduceEqDiff, reduceCtorEq, Nat.reduceLeDiff, Nat.reduceBEq, Nat.reduceMul, Int.reduceToNat, eq_self, not_true_eq_false]; rfl) (by repeat' first | exact trivial | constructor) ?_
    exact Holds.condF rfl (Holds.skip fun a w h => Rel.keep [12, 13, 14, 1, 3, 4, 6] [4, 6] h)
   ·obtain ⟨rfl, rfl⟩ := hP0 h1
    refine zs1 h1 ?_
    refine Holds.condT rfl ?_
    refine Holds.step (Px := px) (T := TT) (ρ := fun _ => []) TTe (by simp (maxSteps := 100000) (disch := omega) only [go_sem, V.isAgg, V.flat, ↓reduceIte, Nat.reduceAdd, Nat.reduceSub, Nat.reduceLT, Nat.reduceEqDiff, reduceCtorEq, Nat.reduceLeDiff, Nat.reduceBEq, Nat.reduceMul, Int.reduceToNat, eq_self, not_true_eq_false]; rfl) (by repeat' first | exact trivial | constructor) ?_
    exact Holds.condF rfl (Holds.skip fun a w h => Rel.keep [12, 13, 14, 1, 3, 4, 6] [4, 6] h)
  ·intro σ hσ
   refine Holds.from hσ ?_
   clear hσ hP0 hP1 hAr1
   refine Holds.seq ?_
   refine zs2 (ρ := fun _ => [.v true (.int .i64 E2)]) (o := by repeat' first|exact hAr2|trivial|constructor) (k := ?_)
   by_cases h2 : E2 = 0
   ·have hQ1 := hQ1 h2
    subst h2
    refine zs0 ?_
    refine Holds.condF rfl (Holds.skip ?_)
    show Holds _ _ _ _ _ _ _
    refine zs2 (ρ := fun y => if y = 105 then [.v false (.agg [.int .i64 kd, .bool neg, .int .i64 e, .sl 1 M])] else [.v true (.str s2), .v true (.bool b2)]) (o := by repeat' first|exact hTh|exact hQ1|trivial|constructor) (k := ?_)
    refine Holds.step (Px := px) (T := TT) (ρ := fun _ => [.v true (.bool true)]) TTe (by simp (maxSteps := 100000) (disch := omega) only [go_sem, V.isAgg, V.flat, ↓reduceIte, Nat.reduceAdd, Nat.reduceSub, Nat.reduceLT, Nat.reduceEqDiff, reduceCtorEq, Nat.reduceLeDiff, Nat.reduceBEq, Nat.reduceMul, Int.reduceToNat, eq_self]; rfl) (by first | exact hA | (repeat' first | exact trivial | exact hA | constructor)) ?_
    exact Holds.ret (RetOk.vs rfl (by exact ⟨⟨rfl, id⟩, trivial⟩) rfl)
   ·obtain ⟨rfl, rfl⟩ := hQ0 h2
    refine zs1 h2 ?_
    refine Holds.condT rfl ?_
    refine Holds.step (Px := px) (T := TT) (ρ := fun _ => [.v true (.bool true)]) TTe (by simp (maxSteps := 100000) (disch := omega) only [go_sem, V.isAgg, V.flat, ↓reduceIte, Nat.reduceAdd, Nat.reduceSub, Nat.reduceLT, Nat.reduceEqDiff, reduceCtorEq, Nat.reduceLeDiff, Nat.reduceBEq, Nat.reduceMul, Int.reduceToNat, unA, eq_self]; rfl) (by first | exact hA | (repeat' first | exact trivial | exact hA | constructor)) ?_
    exact Holds.ret (RetOk.vs rfl (by exact ⟨⟨rfl, id⟩, trivial⟩) rfl)
 ·rw [decide_eq_false h] at hS
  unfold fltW words fmtV
  obtain ⟨M, hM⟩ : ∃ L, L = l.map fun n => V.int .u64 n := ⟨_, rfl⟩
  rw [← hM] at hS ⊢
  clear hM he ol h
  refine FnOk.of Tryz.func4 rfl rfl fun cx w0 => ?_
  rw [show Tryz.f4.ntmps = 125 from rfl]
  refine zs0 ?_
  refine Holds.seq ?_
  refine zs2 (ρ := fun _ => [.v true (.bool false)]) (o := by repeat' first|exact hS|trivial|constructor) (k := ?_)
  refine Holds.condT rfl ?_
  refine zs2 (ρ := fun _ => [.v true (.bool true)]) (o := by repeat' first|exact hA|trivial|constructor) (k := ?_)
  exact Holds.ret (RetOk.vs rfl (by exact ⟨⟨rfl, id⟩, trivial⟩) rfl)
end Go.Proofs.YtlpolbeikangpaaGreatDoor.L
namespace Go.Proofs.YtlpolbeikangpaaGreatDoor.L
open Go Go.RowKit Go.ChangeShapes Go.WideShapes Go.ChangeAt
variable {H : Type} {enc : TypeId × Value → H} {P : Program}
theorem openIc {t e : TypeId} {k : IntKind} {W : World} {cs : List Value} {x : DataW H × List MemPlace} {fuel : Nat} (ht : P.underlying t = some (.slice e)) (he : P.underlying e = some (.int k)) (hc : P.cellsOf e = 1)
 (hf : DataW.trod enc P W 0 (fun _ => true) true fuel t cs = some x) : ∃ (l : List Int), (∀ n ∈ l, (Lit.int k n).wf = true) ∧ Rep W (fun b => b < W.heap.size ∧ True) (.sl 1 (l.map fun n => .int k n)) cs := by
 rcases open_ints ht he hc hf with ⟨rfl, _⟩ | ⟨a, len, cap, zs, rfl, _, hl, hm, hz, _, hcell, hwz⟩
 ·exact ⟨[], (fun n hn => by cases hn), by rw [Rep]; exact .inl ⟨rfl, _, _, rfl⟩⟩
 ·simp only [if_true] at hz
  refine ⟨zs.take len, fun n hn => hwz n (List.mem_of_mem_take hn), ?_⟩
  rw [Rep]
  by_cases hl0 : len = 0
  ·subst hl0
   exact .inl ⟨by simp, _, _, rfl⟩
  ·obtain ⟨b, off, spot⟩ := a
   have hspot : spot = none := by simpa [Addr.add] using World.cell?_spot (hcell 0 (by omega))
   subst hspot
   have hb : b < W.heap.size := by
    have := hcell 0 (by omega)
    refine Nat.lt_of_not_le fun hle => ?_
    simp [World.cell?, Addr.add, Array.getElem?_eq_none hle] at this
   have hlen : ((zs.take len).map fun n => V.int k n).length = len := by rw [List.length_map, List.length_take]; omega
   refine .inr ⟨b, off, cap, by rw [hlen]; exact hl, ⟨hb, trivial⟩, by rw [hlen], ?_⟩
   refine RepF.row (repF_ints _) fun j hj => ?_
   rw [List.length_map, List.length_take] at hj
   have h1 := hcell j (by omega)
   rw [add_plain] at h1
   rw [h1, List.getElem?_map, List.getElem?_take_of_lt (by omega), List.getElem?_eq_getElem (by omega), List.getD_eq_getElem?_getD, List.getElem?_eq_getElem (by omega)]
   rfl
theorem openFlt {r : Reach} {b0 : Nat} {t e : TypeId} {f0 f1 f2 f3 : Field} {k0 k2 k3 : IntKind} {W : World} {v : Value} {d : DataW H} {ps : List MemPlace} (ht : P.underlying t = some (.struct #[f0, f1, f2, f3])) (hc : P.cellsOf t = 4) (o0 : f0.offset = 0) (o1 : f1.offset = 1) (o2 : f2.offset = 2) (o3 : f3.offset = 3)
 (c0 : P.cellsOf f0.type = 1) (c1 : P.cellsOf f1.type = 1) (c2 : P.cellsOf f2.type = 1) (c3 : P.cellsOf f3.type = 1) (u0 : P.underlying f0.type = some (.int k0)) (u1 : P.underlying f1.type = some .bool) (u2 : P.underlying f2.type = some (.int k2)) (u3 : P.underlying f3.type = some (.slice e))
 (ue : P.underlying e = some (.int k3)) (ce : P.cellsOf e = 1) (hval : Value.okWide P W r b0 t v) (hd : DataW.Trod enc P W 0 (fun _ => true) true t v d ps) :
 ∃ (a : Int) (b : Bool) (c : Int) (l : List Int), (Lit.int k0 a).wf = true ∧ (Lit.int k2 c).wf = true ∧ (∀ n ∈ l, (Lit.int k3 n).wf = true) ∧ ArgRep W (fun _ => True) (.v (.agg [.int k0 a, .bool b, .int k2 c, .sl 1 (l.map fun n => .int k3 n)])) v := by
 obtain ⟨cs, rfl, hsz⟩ := okWide_struct ht hval
 obtain ⟨fuel, hf⟩ := hd
 obtain ⟨xs, n, _, hx, hl, hlen, hg⟩ := DataW.trod_struct ht hf
 rw [Value.cells] at hg
 obtain ⟨cs⟩ := cs
 match cs, hsz.trans hc with
 | [x0, x1, x2, x3], _ =>
   match xs, hlen with
   | [y0, y1, y2, y3], _ =>
     have g0 := hg 0 f0 rfl
     have g1 := hg 1 f1 rfl
     have g2 := hg 2 f2 rfl
     have g3 := hg 3 f3 rfl
     rw [o0, c0, cells1 (c := x0) rfl] at g0
     rw [o1, c1, cells1 (c := x1) rfl] at g1
     rw [o2, c2, cells1 (c := x2) rfl] at g2
     rw [o3, c3, cells1 (c := x3) rfl] at g3
     obtain ⟨a, ha, _, wa⟩ := DataW.trod_int u0 (x := y0) g0
     obtain ⟨b, hb, _⟩ := DataW.trod_bool u1 (x := y1) g1
     obtain ⟨c, hc2, _, wc⟩ := DataW.trod_int u2 (x := y2) g2
     obtain ⟨l, wl, hrep⟩ := openIc u3 ue ce g3
     cases ha; cases hb; cases hc2
     refine ⟨a, b, c, l, wa, wc, wl, ?_⟩
     rw [ArgRep]
     refine ⟨[.int k0 a, .bool b, .int k2 c, x3], ?_, rfl⟩
     rw [Rep, RepL]
     refine ⟨[.int k0 a], _, rfl, by rw [Rep], ?_⟩
     rw [RepL]
     refine ⟨[.bool b], _, rfl, by rw [Rep], ?_⟩
     rw [RepL]
     refine ⟨[.int k2 c], _, rfl, by rw [Rep], ?_⟩
     rw [RepL]
     exact ⟨[x3], [], rfl, hrep, by rw [RepL]⟩
end Go.Proofs.YtlpolbeikangpaaGreatDoor.L
namespace Go.Proofs.YtlpolbeikangpaaGreatDoor.L
open Go Go.RowKit Go.Proofs Go.ChangeShapes Go.WideShapes Go.ChangeAt
theorem laidVars_mem {P : Program} {w : World} {n : String} {d : DataW Unit} : ∀ {l : List (String × DataW Unit)} {ps : List MemPlace}, DataW.LaidVars P w l ps → (n, d) ∈ l →
 ∃ g t cs fuel p, P.globalNamed n = some g ∧ (P.globals[g]?).map (·.type) = some t ∧ w.var? P n = some cs ∧ DataW.trod (fun _ => ()) P w 0 (fun _ => true) false fuel t cs.toList = some (d, p)
 | [], _, _, hm => by cases hm
 | x :: r, ps, h, hm => by
   obtain ⟨g, t, cs, fuel, p, q, h1, h2, h3, h4, h5, _⟩ := h
   rcases List.mem_cons.1 hm with rfl | hm
   ·exact ⟨g, t, cs, fuel, p, h1, h2, h3, h4⟩
   ·exact laidVars_mem h5 hm
theorem repL_ints {w : World} {ok : Nat → Prop} {k : IntKind} : ∀ zs : List Int, RepL w ok (zs.map fun n => V.int k n) (zs.map fun n => Value.int k n)
 | [] => by rw [List.map_nil, List.map_nil, RepL]
 | z :: r => by
   rw [List.map_cons, List.map_cons, RepL]
   exact ⟨[.int k z], _, rfl, by rw [Rep], repL_ints r⟩
theorem ints_cells {P : Program} {w : World} {t e : TypeId} {n : Nat} {k : IntKind} {zs : List Int} {fuel : Nat} {cs : List Value} {p : List MemPlace} (hu : P.underlying t = some (.array n e)) (he : P.underlying e = some (.int k)) (c1 : P.cellsOf e = 1) (ct : P.cellsOf t = n) (hn : zs.length = n)
 (h : DataW.trod (fun _ => ()) P w 0 (fun _ => true) false fuel t cs = some (.agg (zs.map fun z => .lit (.int k z)), p)) : cs = zs.map fun n => Value.int k n := by
 obtain ⟨xs, m, _, ex, hl0, hl, hel⟩ := DataW.trod_array hu h
 have e3 : (xs.map (·.1)) = zs.map fun n => .lit (.int k n) := (DataW.agg.inj (Prod.mk.inj ex).1).symm
 apply List.ext_getElem
 ·rw [hl0, ct, List.length_map, hn]
 ·intro r h1 h2
  rw [List.length_map] at h2
  have hE := hel r (by omega)
  rw [c1, Nat.mul_one, List.getElem?_eq_getElem (by omega)] at hE
  obtain ⟨z, e1, e2, _⟩ := DataW.trod_int he hE
  have e4 : (xs.map (·.1))[r]? = (zs.map fun n => (DataW.lit (.int k n) : DataW Unit))[r]? := by rw [e3]
  rw [List.getElem?_map, List.getElem?_map, List.getElem?_eq_getElem (by omega : r < xs.length), List.getElem?_eq_getElem h2, e2] at e4
  have hz : z = zs[r] := by simpa using e4
  have h0 : ((cs.drop r).take 1)[0]? = some (.int k z) := by rw [e1]; rfl
  have h3 : cs[r]? = some (.int k z) := by simpa using h0
  rw [List.getElem?_eq_getElem h1] at h3
  rw [Option.some.inj h3, List.getElem_map, hz]
theorem gl_one {W : World} {nm : String} {g : Nat} {cs : Array Value} {x : V} {ok : Nat → Prop} (hg : Tryz.prog.globalNamed nm = some g) (hv : W.var? Tryz.prog nm = some cs) (hr : Rep W ok x cs.toList) :
 g < W.heap.size ∧ ∃ cs, Rep W ok x cs ∧ ∃ t f, W.heap[g]? = some (.cells cs.toArray t f) := by
 unfold World.var? at hv
 rw [hg, Option.bind_some] at hv
 split at hv
 ·next cs' t f h =>
  cases hv
  exact ⟨(Array.getElem?_eq_some_iff.1 h).1, cs.toList, hr, t, f, by rw [h]⟩
 ·cases hv
def intOf' : V → Int
 | .int _ n => n
 | _ => 0
def intsOf' : V → List Int
 | .agg fs => fs.map intOf'
 | _ => []
def pow10Z : List Int := intsOf' pow10V
def bruijnZ : List Int := intsOf' bruijnV
theorem pow10V_eq : pow10V = .agg (pow10Z.map fun n => .int .u64 n) := by kernel_rfl
theorem bruijnV_eq : bruijnV = .agg (bruijnZ.map fun n => .int .u8 n) := by kernel_rfl
theorem pow10D_eq : Rows.laid_internal_strconv_uint64pow10 = (.agg (pow10Z.map fun n => .lit (.int .u64 n)) : DataW Unit) := by kernel_rfl
theorem bruijnD_eq : Rows.laid_math_bits_deBruijn64tab = (.agg (bruijnZ.map fun n => .lit (.int .u8 n)) : DataW Unit) := by kernel_rfl
def LAID : List (String × DataW Unit) := Rows.shortestLargeRow.laid
theorem laid_GL {W : World} (h : laidMetH Tryz.prog LAID W) : GL W := by
 have hF := h.funcs (n := "reckoner/fin.more") (d := .agg [.iface "func" (.lit (.string [114, 101, 99, 107, 111, 110, 101, 114, 47, 102, 105, 110, 46, 109, 111, 114, 101, 36, 49])), .iface "func" (.lit (.string [114, 101, 99, 107, 111, 110, 101, 114, 47, 102, 105, 110, 46, 109, 111, 114, 101, 36, 50])), .iface "func" (.lit (.string [114, 101, 99, 107, 111, 110, 101, 114, 47, 102, 105, 110, 46, 109, 111, 114, 101, 36, 51])), .iface "func" (.lit (.string [114, 101, 99, 107, 111, 110, 101, 114, 47, 102, 105, 110, 46, 109, 111, 114, 101, 36, 52])), .iface "func" (.lit (.string [114, 101, 99, 107, 111, 110, 101, 114, 47, 102, 105, 110, 46, 109, 111, 114, 101, 36, 53]))]) (by
  show _ ∈ Rows.shortestLargeRow.laid
  simp only [Rows.shortestLargeRow, Rows.laid_reckoner_fin_more, List.mem_cons, true_or, or_true])
 have hP : laidMet Tryz.prog (LAID.filter fun x => x.2.handleName?.isNone) W := by
  unfold laidMetH at h
  have e : (LAID.filter fun x => x.2.handleName?.isSome) = [("reckoner/fin.more", Rows.laid_reckoner_fin_more)] := by rfl
  rw [e] at h
  exact h.1
 obtain ⟨ps, hL, _, _⟩ := hP
 have hm1 : ("internal/strconv.uint64pow10", (Rows.laid_internal_strconv_uint64pow10 : DataW Unit)) ∈ LAID.filter fun x => x.2.handleName?.isNone := by
  rw [List.mem_filter]
  exact ⟨by show _ ∈ Rows.shortestLargeRow.laid; simp only [Rows.shortestLargeRow, List.mem_cons, true_or, or_true], rfl⟩
 have hm2 : ("math/bits.deBruijn64tab", (Rows.laid_math_bits_deBruijn64tab : DataW Unit)) ∈ LAID.filter fun x => x.2.handleName?.isNone := by
  rw [List.mem_filter]
  exact ⟨by show _ ∈ Rows.shortestLargeRow.laid; simp only [Rows.shortestLargeRow, List.mem_cons, true_or, or_true], rfl⟩
 intro q hq
 simp only [GLOB, List.mem_cons, List.not_mem_nil, or_false] at hq
 rcases hq with rfl | rfl | rfl
 ·obtain ⟨g, t, cs, fuel, p, hg, ht, hv, hd⟩ := hF
  obtain rfl := Option.some.inj ((show Tryz.prog.globalNamed "reckoner/fin.more" = some 0 by kernel_rfl).symm.trans hg)
  obtain rfl := Option.some.inj ((show (Tryz.prog.globals[0]?).map (·.type) = some 244 by kernel_rfl).symm.trans ht)
  obtain ⟨xs, m, _, ex, hl0, hl, hel⟩ := DataW.trod_array Tryz.underlying244 hd
  have c1 : Tryz.prog.cellsOf 243 = 1 := by kernel_rfl
  have ct : Tryz.prog.cellsOf 244 = 5 := by kernel_rfl
  have e3 := (DataW.agg.inj (Prod.mk.inj ex).1).symm
  have one : ∀ (i : Nat) (f : FuncId) (s : UInt8), i < 5 → (xs.map (·.1))[i]? = some (.held [114, 101, 99, 107, 111, 110, 101, 114, 47, 102, 105, 110, 46, 109, 111, 114, 101, 36, s]) →
   ((List.range Tryz.prog.funcs.size).filter fun f => (Tryz.prog.funcs[f]?).any (·.name.toUTF8.data.toList == [114, 101, 99, 107, 111, 110, 101, 114, 47, 102, 105, 110, 46, 109, 111, 114, 101, 36, s])) = [f] → cs.toList[i]? = some (.func (.func f) #[] #[]) := by
   intro i f s hi hx hone
   have hE := hel i hi
   rw [c1, Nat.mul_one] at hE
   rw [List.getElem?_map] at hx
   cases hxi : xs[i]? with
   | none => rw [hxi] at hx; cases hx
   | some y =>
     rw [hxi] at hx hE
     obtain ⟨y1, y2⟩ := y
     simp only [Option.map_some, Option.some.injEq] at hx
     subst hx
     have hlt : i < cs.toList.length := by rw [hl0, ct]; exact hi
     have h1 : ((cs.toList.drop i).take 1) = [cs.toList[i]] := by rw [List.drop_eq_getElem_cons hlt]; rfl
     rw [h1] at hE
     have := func_of_trod (f0 := f) Tryz.underlying243 hone hE
     rw [List.getElem?_eq_getElem hlt, this]
  have k0 := one 0 311 49 (by decide) (by rw [e3]; rfl) (by kernel_rfl)
  have k1 := one 1 312 50 (by decide) (by rw [e3]; rfl) (by kernel_rfl)
  have k2 := one 2 313 51 (by decide) (by rw [e3]; rfl) (by kernel_rfl)
  have k3 := one 3 314 52 (by decide) (by rw [e3]; rfl) (by kernel_rfl)
  have k4 := one 4 315 53 (by decide) (by rw [e3]; rfl) (by kernel_rfl)
  rw [ct] at hl0
  have hc : cs.toList = [.func (.func 311) #[] #[], .func (.func 312) #[] #[], .func (.func 313) #[] #[], .func (.func 314) #[] #[], .func (.func 315) #[] #[]] := by
   match hcs : cs.toList, hl0 with
   | [a, b, c, d, e], _ =>
     rw [hcs] at k0 k1 k2 k3 k4
     simp only [List.getElem?_cons_zero, List.getElem?_cons_succ, Option.some.injEq] at k0 k1 k2 k3 k4
     rw [k0, k1, k2, k3, k4]
  refine gl_one hg hv ?_
  rw [hc]
  unfold moreV
  rw [Rep, RepL]; refine ⟨[_], _, rfl, by rw [Rep], ?_⟩
  rw [RepL]; refine ⟨[_], _, rfl, by rw [Rep], ?_⟩
  rw [RepL]; refine ⟨[_], _, rfl, by rw [Rep], ?_⟩
  rw [RepL]; refine ⟨[_], _, rfl, by rw [Rep], ?_⟩
  rw [RepL]; refine ⟨[_], _, rfl, by rw [Rep], ?_⟩
  rw [RepL]
 ·obtain ⟨g, t, cs, fuel, p, hg, ht, hv, hd⟩ := laidVars_mem hL hm2
  obtain rfl := Option.some.inj ((show Tryz.prog.globalNamed "math/bits.deBruijn64tab" = some 3 by kernel_rfl).symm.trans hg)
  obtain rfl := Option.some.inj ((show (Tryz.prog.globals[3]?).map (·.type) = some 280 by kernel_rfl).symm.trans ht)
  rw [bruijnD_eq] at hd
  have hc := ints_cells Tryz.underlying280 Tryz.underlying5 (by kernel_rfl) (by kernel_rfl) (by kernel_rfl) hd
  refine gl_one hg hv ?_
  rw [bruijnV_eq, hc, Rep]
  exact repL_ints _
 ·obtain ⟨g, t, cs, fuel, p, hg, ht, hv, hd⟩ := laidVars_mem hL hm1
  obtain rfl := Option.some.inj ((show Tryz.prog.globalNamed "internal/strconv.uint64pow10" = some 7 by kernel_rfl).symm.trans hg)
  obtain rfl := Option.some.inj ((show (Tryz.prog.globals[7]?).map (·.type) = some 296 by kernel_rfl).symm.trans ht)
  rw [pow10D_eq] at hd
  have hc := ints_cells Tryz.underlying296 Tryz.underlying91 (by kernel_rfl) (by kernel_rfl) (by kernel_rfl) hd
  refine gl_one hg hv ?_
  rw [pow10V_eq, hc, Rep]
  exact repL_ints _
def PLAIN : List (String × DataW Unit) := LAID.filter fun x => x.2.handleName?.isNone
noncomputable def witBase (os : Os) : World :=
 { World.holding Tryz.prog os ⟨#[], #[], []⟩ with heap := ⟨Lay.setRows (World.holding Tryz.prog os ⟨#[], #[], []⟩).heap.toList [(0, [.func (.func 311) #[] #[], .func (.func 312) #[] #[], .func (.func 313) #[] #[], .func (.func 314) #[] #[], .func (.func 315) #[] #[]])]⟩ }
noncomputable def wit (os : Os) : World := (witBase os).layVars Tryz.prog PLAIN
theorem wit_os (os : Os) : (wit os).os = os := (World.layVars_os _ _ _).trans rfl
theorem wit_plain (os : Os) (args : Array Value) : laidMet Tryz.prog PLAIN ((wit os).forCall (fun _ _ => 0) ⟨#[], args, []⟩).memory := by
 have e1 : (PLAIN.filter fun x => (PLAIN.map (·.1)).contains x.1) = PLAIN := List.filter_eq_self.2 fun x hx => List.contains_iff_mem.2 (List.mem_map.2 ⟨x, hx, rfl⟩)
 have e2 : (PLAIN.filter fun x => !(PLAIN.map (·.1)).contains x.1) = [] := List.filter_eq_nil_iff.2 fun x hx => by rw [List.contains_iff_mem.2 (List.mem_map.2 ⟨x, hx, rfl⟩)]; simp
 have hf : (witBase os).layFits Tryz.prog PLAIN [] = true := by kernel_rfl
 have hi : (witBase os).layIfaces Tryz.prog PLAIN (wit os) = true := by kernel_rfl
 have h : laidMet Tryz.prog PLAIN (wit os) := laidMet_layVars (w0 := witBase os) (PLAIN.map (·.1)) [] (by rw [e1]; rfl) (by rw [e1]; exact hf) (by rw [e1]; exact hi) (by rw [e2]; exact LaidIn.none)
 exact h.of_heap (by simp [World.memory, World.forCall, Input.heap])
theorem wit_met (os : Os) (args : Array Value) : laidMetH Tryz.prog LAID ((wit os).forCall (fun _ _ => 0) ⟨#[], args, []⟩).memory :=
 laidMetH_of_parts3 (fuel := 8) (wit_plain os args) (by kernel_rfl) (by kernel_rfl)
end Go.Proofs.YtlpolbeikangpaaGreatDoor.L
