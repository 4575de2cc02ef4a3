/-
  Qd
-/
import Derived.Test.YtjmclobbfabnpaaJ7
set_option linter.unusedSimpArgs false
set_option linter.unusedVariables false
/-
  The law FastLows: the walk.
-/
namespace Go.Proofs.Ytjmclobbfabnpaa.L
open Go Go.RowKit Go.Proofs
attribute [local go_sem] evalOps_nil evalOps_cons runW_t runW_f runE_s runP_s wantA evalOp effOp letters okDst coreA St.opv St.get St.at look constA St.put St.upd St.set decide_true List.all_nil List.all_cons Bool.and_true Bool.true_and and_self and_true true_and if_true if_false true_or Int.sub_zero List.nil_append List.cons_append List.append_nil Option.isSome_some List.getElem?_toArray List.getElem?_cons_succ List.getElem?_cons_zero Option.bind_some Option.map_some Option.map_none beq_self_eq_true Bool.false_beq Bool.true_beq Bool.not_true Bool.not_false Bool.false_eq_true cond_true cond_false binA binI List.map_cons List.map_nil boundA List.length_nil List.length_cons Nat.zero_mul Nat.one_mul Nat.mul_one Nat.zero_add Nat.add_zero Nat.zero_le Option.toList St.freshB AV.ment AV.ments Blk.ment V.sizes Nat.lt_add_one Bool.or_true Bool.true_or Bool.or_false Bool.false_or Bool.or_self if_pos if_neg decide_false decide_eq_true decide_eq_false wrap_i64 Int.toNat_natCast minA maxA Int.natCast_add Int.cast_ofNat_Int Option.isSome_none false_implies true_implies forall_const List.drop_zero Int.toNat_zero Int.add_sub_cancel lenA sliceA loadA indexAddrA partA fitsT V.atP V.offP V.size List.length_map List.getElem?_map Int.toNat_natCast_add_one Int.ofNat_eq_natCast TY calleeA capArg knotA capArgs toArgs toArg callA R.res R.mems R.blks R.av R.names R.nw invokeA storeA storeV fieldAddrA liveB V.off V.offs V.setP List.set_cons_zero List.set_cons_succ buildA buildP partsA appendA srcA copyA boxOk makeA AV.pure List.take_succ_cons List.take_zero nilA words entry List.zipIdx_cons List.zipIdx_nil Arg.av Arg.avs

theorem prodL_len {X Y : List Int} (oX : okW X) (oY : okW Y) : (prodL X Y).length ≤ X.length + Y.length := by
  have a1 := trimL_len (trimL (mulO (trimL X) (trimL Y) (trimL Y).length))
  have a2 := trimL_len (mulO (trimL X) (trimL Y) (trimL Y).length)
  have a3 := (mulO_ok (trimL_ok oX) (trimL_ok oY) (trimL Y).length).2
  have a4 := trimL_len X
  have a5 := trimL_len Y
  rw [prodL]
  omega

theorem FastLows_ok (X Y : List Int) (n : Int) (oX : okW X) (oY : okW Y) : FnOk Try.prog 7 [.v (words X), .v (words Y), .v (.int .i64 n)] [.v true (.bool true)] := by
  have ikd31 : ikd Try.prog 31 = some .u64 := by kernel_rfl
  have ikd3 : ikd Try.prog 3 = some .i64 := by kernel_rfl
  have und3 : (Try.prog.underlying 3).isSome = true := by kernel_rfl
  have und31 : (Try.prog.underlying 31).isSome = true := by kernel_rfl
  have hf1 := few_ok X 20 (by omega)
  have hf2 := few_ok Y 20 (by omega)
  obtain ⟨x, hx⟩ : ∃ x, x = X.take 20 := ⟨_, rfl⟩
  obtain ⟨y, hy⟩ : ∃ y, y = Y.take 20 := ⟨_, rfl⟩
  have ox : okW x := by rw [hx]; exact okW_take oX 20
  have oy : okW y := by rw [hy]; exact okW_take oY 20
  have hxl : x.length ≤ 20 := by rw [hx, List.length_take]; omega
  have hyl : y.length ≤ 20 := by rw [hy, List.length_take]; omega
  rw [← hx] at hf1
  rw [← hy] at hf2
  have hmul := rMul_ok x y (by omega) (by omega) ox oy
  have hPl := prodL_len ox oy
  rw [prodL_val ox oy] at hPl
  obtain ⟨P, hP⟩ : ∃ P, P = digs (val x * val y) := ⟨_, rfl⟩
  have oP : okW P := by rw [hP]; exact (digs_ok _).1
  have vP : val P = val x * val y := by rw [hP]; exact (digs_ok _).2.2
  rw [← hP] at hmul hPl
  refine FnOk.of Try.func7 rfl rfl fun cx w0 => ?_
  rw [show Try.f7.ntmps = 58 from rfl]
  refine Holds.step (Px := px) (T := TT) (ρ := fun _ => []) TTe (by simp (maxSteps := 100000) (disch := omega) only [go_sem, V.isAgg, V.flat, ↓reduceIte, Nat.reduceAdd, Nat.reduceSub, Nat.reduceLT, Nat.reduceEqDiff, reduceCtorEq, Nat.reduceLeDiff, Nat.reduceBEq, Nat.reduceMul, Int.reduceToNat, List.length_cons, List.length_nil]; rfl) (by repeat' first | exact trivial | constructor) ?_
  refine Holds.step (Px := px) (T := TT) (ρ := fun d => if d = 13 then [.v true (words x)] else [.v true (words y)]) TTe (by simp (maxSteps := 100000) (disch := omega) only [go_sem, V.isAgg, V.flat, ↓reduceIte, Nat.reduceAdd, Nat.reduceSub, Nat.reduceLT, Nat.reduceEqDiff, reduceCtorEq, Nat.reduceLeDiff, Nat.reduceBEq, Nat.reduceMul, Int.reduceToNat]; rfl) (by first | exact ⟨hf1, hf2⟩ | (repeat' first | exact trivial | exact hf1 | exact hf2 | constructor)) ?_
  refine Holds.next (fun σ => ∀ a w, Rel cx w0 σ a w → Rel cx w0 { nt := 58, env := [], mem := [] } a w) ?_ ?_
  · refine Holds.step (Px := px) (T := TT) (ρ := fun _ => []) TTe (by simp (maxSteps := 100000) (disch := omega) only [go_sem, V.isAgg, V.flat, ↓reduceIte, Nat.reduceAdd, Nat.reduceSub, Nat.reduceLT, Nat.reduceEqDiff, reduceCtorEq, Nat.reduceLeDiff, Nat.reduceBEq, Nat.reduceMul, Int.reduceToNat]; rfl) (by repeat' first | exact trivial | constructor) ?_
    refine Holds.loopB (fun i : Nat × Int => { nt := 58, env := [(9, .v true (.int .i64 (i.1 : Int))), (7, .v true (words x)), (8, .v true (words y)), (2, .v true (.int .i64 i.2))], mem := [] }) (fun i => i.1 ≤ 2) (fun i => 2 - i.1) (0, n) (Nat.zero_le _) (fun a w h => Rel.keep [9, 7, 8, 2] [] h) ?_
    rintro ⟨i, n⟩ hi
    simp only at hi
    by_cases hend : i = 2
    · refine Holds.seq ?_
      refine Holds.step (Px := px) (T := TT) (ρ := fun _ => []) TTe (by simp (maxSteps := 100000) (disch := omega) only [go_sem, V.isAgg, V.flat, ↓reduceIte, Nat.reduceAdd, Nat.reduceSub, Nat.reduceLT, Nat.reduceEqDiff, reduceCtorEq, Nat.reduceLeDiff, Nat.reduceBEq, Nat.reduceMul, Int.reduceToNat]; rfl) (by repeat' first | exact trivial | constructor) ?_
      exact Holds.condF rfl (Holds.exit ⟨rfl, fun a w h => Rel.keep [] [] h⟩)
    · refine Holds.seq ?_
      refine Holds.step (Px := px) (T := TT) (ρ := fun _ => []) TTe (by simp (maxSteps := 100000) (disch := omega) only [go_sem, V.isAgg, V.flat, ↓reduceIte, Nat.reduceAdd, Nat.reduceSub, Nat.reduceLT, Nat.reduceEqDiff, reduceCtorEq, Nat.reduceLeDiff, Nat.reduceBEq, Nat.reduceMul, Int.reduceToNat]; rfl) (by repeat' first | exact trivial | constructor) ?_
      refine Holds.condT rfl (Holds.skip ?_)
      obtain ⟨j, hj⟩ : ∃ j : Nat, j = ((n % 18446744073709551616).tmod 45).toNat := ⟨_, rfl⟩
      have hj1 : (n % 18446744073709551616).tmod 45 = (n % 18446744073709551616) % 45 := Int.tmod_eq_emod_of_nonneg (by omega)
      have hjm : (n % 18446744073709551616).tmod 45 = j := by omega
      have hj45 : j < 45 := by omega
      refine Holds.next (fun σ => ∀ a w, Rel cx w0 σ a w → Rel cx w0 { nt := 58, env := [(9, .v true (.int .i64 (i : Int))), (7, .v true (words x)), (8, .v true (words y)), (2, .v true (.int .i64 (j : Int)))], mem := [] } a w) ?_ ?_
      · refine Holds.blockN ?_
        by_cases hb : n < 0 ∨ 4096 < n
        · refine Holds.step (Px := px) (T := TT) (ρ := fun _ => [.v true (words []), .v true (.int .i64 1)]) TTe (by simp (maxSteps := 100000) (disch := omega) only [go_sem, V.isAgg, V.flat, ↓reduceIte, Nat.reduceAdd, Nat.reduceSub, Nat.reduceLT, Nat.reduceEqDiff, reduceCtorEq, Nat.reduceLeDiff, Nat.reduceBEq, Nat.reduceMul, Int.reduceToNat]; rfl) (by first | exact LowMul_bad x y n (by omega) (by omega) hb | (repeat' first | exact trivial | exact LowMul_bad x y n (by omega) (by omega) hb | constructor)) ?_
          refine Holds.next (fun σ => ∀ a w, Rel cx w0 σ a w → Rel cx w0 { nt := 58, env := [(9, .v true (.int .i64 (i : Int))), (7, .v true (words x)), (8, .v true (words y)), (2, .v true (.int .i64 n))], mem := [] } a w) ?tl ?_
          case tl =>
            by_cases h1 : n < 0
            · refine Holds.step (Px := px) (T := TT) (ρ := fun _ => []) TTe (by simp (maxSteps := 100000) (disch := omega) only [go_sem, V.isAgg, V.flat, ↓reduceIte, Nat.reduceAdd, Nat.reduceSub, Nat.reduceLT, Nat.reduceEqDiff, reduceCtorEq, Nat.reduceLeDiff, Nat.reduceBEq, Nat.reduceMul, Int.reduceToNat, h1]; rfl) (by repeat' first | exact trivial | constructor) ?_
              refine Holds.condT rfl ?_
              refine Holds.step (Px := px) (T := TT) (ρ := fun _ => []) TTe (by simp (maxSteps := 100000) (disch := omega) only [go_sem, V.isAgg, V.flat, ↓reduceIte, Nat.reduceAdd, Nat.reduceSub, Nat.reduceLT, Nat.reduceEqDiff, reduceCtorEq, Nat.reduceLeDiff, Nat.reduceBEq, Nat.reduceMul, Int.reduceToNat]; rfl) (by repeat' first | exact trivial | constructor) ?_
              exact Holds.condF rfl (Holds.skip fun a w h => Rel.keep [9, 7, 8, 2] [] h)
            · have h2 : 4096 < n := by omega
              refine Holds.step (Px := px) (T := TT) (ρ := fun _ => []) TTe (by simp (maxSteps := 100000) (disch := omega) only [go_sem, V.isAgg, V.flat, ↓reduceIte, Nat.reduceAdd, Nat.reduceSub, Nat.reduceLT, Nat.reduceEqDiff, reduceCtorEq, Nat.reduceLeDiff, Nat.reduceBEq, Nat.reduceMul, Int.reduceToNat, h1, h2]; rfl) (by repeat' first | exact trivial | constructor) ?_
              refine Holds.condT rfl ?_
              refine Holds.step (Px := px) (T := TT) (ρ := fun _ => []) TTe (by simp (maxSteps := 100000) (disch := omega) only [go_sem, V.isAgg, V.flat, ↓reduceIte, Nat.reduceAdd, Nat.reduceSub, Nat.reduceLT, Nat.reduceEqDiff, reduceCtorEq, Nat.reduceLeDiff, Nat.reduceBEq, Nat.reduceMul, Int.reduceToNat]; rfl) (by repeat' first | exact trivial | constructor) ?_
              exact Holds.condF rfl (Holds.skip fun a w h => Rel.keep [9, 7, 8, 2] [] h)
          intro σ hσ
          refine Holds.from hσ ?_
          refine Holds.region (Px := px) (T := TT) (ρ := fun _ => []) TTe (by simp (maxSteps := 100000) (disch := omega) only [go_sem, V.isAgg, V.flat, ↓reduceIte, Nat.reduceAdd, Nat.reduceSub, Nat.reduceLT, Nat.reduceEqDiff, reduceCtorEq, Nat.reduceLeDiff, Nat.reduceBEq, Nat.reduceMul, Int.reduceToNat, ikd31, ikd3, und3, und31, wrap_u64, hjm]; rfl) (by repeat' first | exact trivial | constructor) ?_
          exact fun a w h => Rel.keep [9, 7, 8, 2] [] h
        · obtain ⟨m, rfl⟩ : ∃ m : Nat, n = m := ⟨n.toNat, by omega⟩
          have h1 : ¬ (m : Int) < 0 := by omega
          have h2 : ¬ 4096 < (m : Int) := by omega
          have hL := LowMul_ok x y m (by omega) (by omega) (by omega) ox oy
          have hLow := Low_ok P m (by omega) (by omega) oP
          rw [val_take oP, vP] at hLow
          obtain ⟨Q, hQ⟩ : ∃ Q, Q = digs ((val x * val y) % 18446744073709551616 ^ m) := ⟨_, rfl⟩
          have oQ : okW Q := by rw [hQ]; exact (digs_ok _).1
          have eQ : digs (val Q) = Q := by rw [hQ, (digs_ok _).2.2]
          have hQl : Q.length ≤ 40 := by
            have e : Q = trimL (P.take m) := by rw [hQ, trim_digs (okW_take oP m), val_take oP, vP]
            have := trimL_len (P.take m)
            rw [List.length_take] at this
            rw [e]; omega
          rw [← hQ] at hL hLow
          have hIs := Is_ok Q Q (by omega) (by omega) (by rw [eQ]; omega) oQ
          rw [eQ, decide_eq_true rfl] at hIs
          refine Holds.step (Px := px) (T := TT) (ρ := fun _ => [.v true (words Q), .v true (.int .i64 0)]) TTe (by simp (maxSteps := 100000) (disch := omega) only [go_sem, V.isAgg, V.flat, ↓reduceIte, Nat.reduceAdd, Nat.reduceSub, Nat.reduceLT, Nat.reduceEqDiff, reduceCtorEq, Nat.reduceLeDiff, Nat.reduceBEq, Nat.reduceMul, Int.reduceToNat]; rfl) (by first | exact hL | (repeat' first | exact trivial | exact hL | constructor)) ?_
          refine Holds.next (fun σ => ∀ a w, Rel cx w0 σ a w → Rel cx w0 { nt := 58, env := [(9, .v true (.int .i64 (i : Int))), (7, .v true (words x)), (8, .v true (words y)), (2, .v true (.int .i64 (m : Int)))], mem := [] } a w) ?tl ?_
          case tl =>
            refine Holds.step (Px := px) (T := TT) (ρ := fun _ => []) TTe (by simp (maxSteps := 100000) (disch := omega) only [go_sem, V.isAgg, V.flat, ↓reduceIte, Nat.reduceAdd, Nat.reduceSub, Nat.reduceLT, Nat.reduceEqDiff, reduceCtorEq, Nat.reduceLeDiff, Nat.reduceBEq, Nat.reduceMul, Int.reduceToNat, h1, h2]; rfl) (by repeat' first | exact trivial | constructor) ?_
            refine Holds.condF rfl ?_
            refine Holds.step (Px := px) (T := TT) (ρ := fun d => if d = 46 then [.v true (words P)] else if d = 49 then [.v true (words Q)] else [.v true (.bool true)]) TTe (by simp (maxSteps := 100000) (disch := omega) only [go_sem, V.isAgg, V.flat, ↓reduceIte, Nat.reduceAdd, Nat.reduceSub, Nat.reduceLT, Nat.reduceEqDiff, reduceCtorEq, Nat.reduceLeDiff, Nat.reduceBEq, Nat.reduceMul, Int.reduceToNat]; rfl) (by first | exact ⟨hmul, hLow, hIs⟩ | (repeat' first | exact trivial | exact hmul | exact hLow | exact hIs | constructor)) ?_
            exact Holds.condF rfl (Holds.skip fun a w h => Rel.keep [9, 7, 8, 2] [] h)
          intro σ hσ
          refine Holds.from hσ ?_
          refine Holds.region (Px := px) (T := TT) (ρ := fun _ => []) TTe (by simp (maxSteps := 100000) (disch := omega) only [go_sem, V.isAgg, V.flat, ↓reduceIte, Nat.reduceAdd, Nat.reduceSub, Nat.reduceLT, Nat.reduceEqDiff, reduceCtorEq, Nat.reduceLeDiff, Nat.reduceBEq, Nat.reduceMul, Int.reduceToNat, ikd31, ikd3, und3, und31, wrap_u64, hjm]; rfl) (by repeat' first | exact trivial | constructor) ?_
          exact fun a w h => Rel.keep [9, 7, 8, 2] [] h
      · intro σ hσ
        refine Holds.from hσ ?_
        refine Holds.region (Px := px) (T := TT) (ρ := fun _ => []) TTe (by simp (maxSteps := 100000) (disch := omega) only [go_sem, V.isAgg, V.flat, ↓reduceIte, Nat.reduceAdd, Nat.reduceSub, Nat.reduceLT, Nat.reduceEqDiff, reduceCtorEq, Nat.reduceLeDiff, Nat.reduceBEq, Nat.reduceMul, Int.reduceToNat]; rfl) (by repeat' first | exact trivial | constructor) ?_
        exact ⟨(i + 1, (j : Int)), by show i + 1 ≤ 2; omega, (show 2 - (i + 1) < 2 - i by omega), fun a w h => Rel.keep [9, 7, 8, 2] [] h⟩
  · intro σ hσ
    refine Holds.from hσ ?_
    refine Holds.step (Px := px) (T := TT) (ρ := fun _ => [.v true (.bool true)]) TTe (by simp (maxSteps := 100000) (disch := omega) only [go_sem, V.isAgg, V.flat, ↓reduceIte, Nat.reduceAdd, Nat.reduceSub, Nat.reduceLT, Nat.reduceEqDiff, reduceCtorEq, Nat.reduceLeDiff, Nat.reduceBEq, Nat.reduceMul, Int.reduceToNat]; rfl) (by first | exact awake_ok | (repeat' first | exact trivial | exact awake_ok | constructor)) ?_
    exact Holds.ret (RetOk.vs rfl (by exact ⟨⟨rfl, fun h => h⟩, trivial⟩) rfl)
end Go.Proofs.Ytjmclobbfabnpaa.L
