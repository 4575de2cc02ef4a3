/-
  Ul
-/
import Derived.Test.YtjmclobbfabnpaaQ7
import Derived.Test.YtjmclobbfabnpaaH9
set_option linter.unusedSimpArgs false
set_option linter.unusedVariables false
/-
  The law FastMuls: the walk.
-/
namespace Go.Proofs.Ytjmclobbfabnpaa.L
open Go Go.RowKit Go.Proofs
attribute [local go_sem] evalOps_nil evalOps_cons runW_t runW_f runE_s runP_s wantA evalOp effOp letters okDst coreA St.opv St.get St.at look constA St.put St.upd St.set decide_true List.all_nil List.all_cons Bool.and_true Bool.true_and and_self and_true true_and if_true if_false true_or Int.sub_zero List.nil_append List.cons_append List.append_nil Option.isSome_some List.getElem?_toArray List.getElem?_cons_succ List.getElem?_cons_zero Option.bind_some Option.map_some Option.map_none beq_self_eq_true Bool.false_beq Bool.true_beq Bool.not_true Bool.not_false Bool.false_eq_true cond_true cond_false binA binI List.map_cons List.map_nil boundA List.length_nil List.length_cons Nat.zero_mul Nat.one_mul Nat.mul_one Nat.zero_add Nat.add_zero Nat.zero_le Option.toList St.freshB AV.ment AV.ments Blk.ment V.sizes Nat.lt_add_one Bool.or_true Bool.true_or Bool.or_false Bool.false_or Bool.or_self if_pos if_neg decide_false decide_eq_true decide_eq_false wrap_i64 Int.toNat_natCast minA maxA Int.natCast_add Int.cast_ofNat_Int Option.isSome_none false_implies true_implies forall_const List.drop_zero Int.toNat_zero Int.add_sub_cancel lenA sliceA loadA indexAddrA partA fitsT V.atP V.offP V.size List.length_map List.getElem?_map Int.toNat_natCast_add_one Int.ofNat_eq_natCast TY calleeA capArg knotA capArgs toArgs toArg callA R.res R.mems R.blks R.av R.names R.nw invokeA storeA storeV fieldAddrA liveB V.off V.offs V.setP List.set_cons_zero List.set_cons_succ buildA buildP partsA appendA srcA copyA boxOk makeA AV.pure List.take_succ_cons List.take_zero nilA words entry List.zipIdx_cons List.zipIdx_nil Arg.av Arg.avs

theorem is_digs (v : Nat) (h : (digs v).length ≤ 1000) : FnOk Try.prog 29 [.v (words (digs v)), .v (words (digs v))] [.v true (.bool true)] := by
  have := Is_ok (digs v) (digs v) (by omega) (by omega) (by rw [(digs_ok v).2.2]; omega) (digs_ok v).1
  rw [(digs_ok v).2.2, decide_eq_true rfl] at this
  exact this

set_option maxHeartbeats 1000000 in
theorem FastMuls_ok (X0 Y0 : List Int) (n : Int) (oX0 : okW X0) (oY0 : okW Y0) : FnOk Try.prog 6 [.v (words X0), .v (words Y0), .v (.int .i64 n)] [.v true (.bool true)] := by
  have f1 := few_ok X0 40 (by decide)
  have f2 := few_ok Y0 40 (by decide)
  have oX := okW_take oX0 40
  have oY := okW_take oY0 40
  have lX : (X0.take 40).length ≤ 40 := by rw [List.length_take]; omega
  have lY : (Y0.take 40).length ≤ 40 := by rw [List.length_take]; omega
  obtain ⟨X, hX⟩ : ∃ X, X = X0.take 40 := ⟨_, rfl⟩
  obtain ⟨Y, hY⟩ : ∃ Y, Y = Y0.take 40 := ⟨_, rfl⟩
  rw [← hX] at f1 oX lX
  rw [← hY] at f2 oY lY
  have hM := fMul_ok X Y (by omega) (by omega) oX oY
  have hR := rMul_ok X Y (by omega) (by omega) oX oY
  have hRX := rMul_ok X X (by omega) (by omega) oX oX
  have l1 := digs_len (mul_lt_pow oX oY)
  have l2 := digs_len (mul_lt_pow oX oX)
  have i1 := is_digs (val X * val Y) (by omega)
  have i2 := is_digs (val X * val X) (by omega)
  have kk := fun (m : Nat) (h : 3 ≤ m ∧ m ≤ 64) => Karatsuba_ok X Y m (by omega) (by omega) h oX oY
  have tt := fun (m : Nat) (h : 3 ≤ m ∧ m ≤ 64) => Toom_ok X Y m (by omega) (by omega) h oX oY
  have ss := fun (m : Nat) (h : 3 ≤ m ∧ m ≤ 64) => Square_ok X m (by omega) h oX
  have nb : ¬ (4096 < X.length ∨ 4096 < Y.length) := by omega
  have nb2 : ¬ (4096 < X.length ∨ 4096 < X.length) := by omega
  have kb := fun (m : Int) (h : m < 3 ∨ 64 < m) => by
    have := checked_bad X Y m (wayV m) 96 (by omega) (by omega) (.inr (.inr h))
    rw [if_neg nb] at this
    exact Karatsuba_of X Y m _ _ this
  have tb := fun (m : Int) (h : m < 3 ∨ 64 < m) => by
    have := checked_bad X Y m (wayV m) 95 (by omega) (by omega) (.inr (.inr h))
    rw [if_neg nb] at this
    exact Toom_of X Y m _ _ this
  have sb := fun (m : Int) (h : m < 3 ∨ 64 < m) => by
    have := checked_bad X X m (wayV m) 96 (by omega) (by omega) (.inr (.inr h))
    rw [if_neg nb2] at this
    exact Square_of X m _ _ this
  obtain ⟨D, hD⟩ : ∃ D, D = digs (val X * val Y) := ⟨_, rfl⟩
  obtain ⟨E, hE⟩ : ∃ D, D = digs (val X * val X) := ⟨_, rfl⟩
  rw [← hD] at hM hR i1 kk tt
  rw [← hE] at hRX i2 ss
  clear hX hY hD hE l1 l2 oX oY
  refine FnOk.of Try.func6 rfl rfl fun cx w0 => ?_
  rw [show Try.f6.ntmps = 124 from rfl]
  refine Holds.step (Px := px) (T := TT) (ρ := fun _ => []) TTe (by simp (maxSteps := 100000) (disch := omega) only [go_sem, V.isAgg, V.flat, ↓reduceIte, Nat.reduceAdd, Nat.reduceSub, Nat.reduceLT, Nat.reduceEqDiff, reduceCtorEq, Nat.reduceLeDiff, Nat.reduceBEq, Nat.reduceMul, Int.reduceToNat, List.length_cons, List.length_nil]; rfl) (by repeat' first | exact trivial | constructor) ?_
  refine Holds.step (Px := px) (T := TT) (ρ := fun t => if t = 20 then [.v true (words X)] else [.v true (words Y)]) TTe (by simp (maxSteps := 100000) (disch := omega) only [go_sem, V.isAgg, V.flat, ↓reduceIte, Nat.reduceAdd, Nat.reduceSub, Nat.reduceLT, Nat.reduceEqDiff, reduceCtorEq, Nat.reduceLeDiff, Nat.reduceBEq, Nat.reduceMul, Int.reduceToNat]; rfl) (by first | exact ⟨f1, f2⟩ | (repeat' first | exact trivial | exact f1 | exact f2 | constructor)) ?_
  refine Holds.step (Px := px) (T := TT) (ρ := fun _ => [.v true (words D), .v true (.int .i64 0)]) TTe (by simp (maxSteps := 100000) (disch := omega) only [go_sem, V.isAgg, V.flat, ↓reduceIte, Nat.reduceAdd, Nat.reduceSub, Nat.reduceLT, Nat.reduceEqDiff, reduceCtorEq, Nat.reduceLeDiff, Nat.reduceBEq, Nat.reduceMul, Int.reduceToNat]; rfl) (by first | exact hM | (repeat' first | exact trivial | exact hM | constructor)) ?_
  refine Holds.next (fun σ => ∀ a w, Rel cx w0 σ a w → Rel cx w0 { nt := 124, env := [(7, .v true (words X)), (8, .v true (words Y)), (9, .v true (words D)), (2, .v true (.int .i64 n))], mem := [] } a w) ?_ ?_
  · refine Holds.step (Px := px) (T := TT) (ρ := fun _ => [.v true (words D)]) TTe (by simp (maxSteps := 100000) (disch := omega) only [go_sem, V.isAgg, V.flat, ↓reduceIte, Nat.reduceAdd, Nat.reduceSub, Nat.reduceLT, Nat.reduceEqDiff, reduceCtorEq, Nat.reduceLeDiff, Nat.reduceBEq, Nat.reduceMul, Int.reduceToNat]; rfl) (by first | exact hR | (repeat' first | exact trivial | exact hR | constructor)) ?_
    refine Holds.step (Px := px) (T := TT) (ρ := fun _ => [.v true (.bool true)]) TTe (by simp (maxSteps := 100000) (disch := omega) only [go_sem, V.isAgg, V.flat, ↓reduceIte, Nat.reduceAdd, Nat.reduceSub, Nat.reduceLT, Nat.reduceEqDiff, reduceCtorEq, Nat.reduceLeDiff, Nat.reduceBEq, Nat.reduceMul, Int.reduceToNat, unA]; rfl) (by first | exact i1 | (repeat' first | exact trivial | exact i1 | constructor)) ?_
    exact Holds.condF rfl (Holds.skip fun a w h => Rel.keep [7, 8, 9, 2] [] h)
  · intro σ hσ
    refine Holds.from hσ ?_
    refine Holds.next (fun σ => ∀ a w, Rel cx w0 σ a w → Rel cx w0 { nt := 124, env := [], mem := [] } a w) ?_ ?_
    · refine Holds.step (Px := px) (T := TT) (ρ := fun _ => []) TTe (by simp (maxSteps := 100000) (disch := omega) only [go_sem, V.isAgg, V.flat, ↓reduceIte, Nat.reduceAdd, Nat.reduceSub, Nat.reduceLT, Nat.reduceEqDiff, reduceCtorEq, Nat.reduceLeDiff, Nat.reduceBEq, Nat.reduceMul, Int.reduceToNat]; rfl) (by repeat' first | exact trivial | constructor) ?_
      refine Holds.loopB (fun i : Nat × Int => { nt := 124, env := [(12, .v true (.int .i64 (i.1 : Int))), (7, .v true (words X)), (8, .v true (words Y)), (9, .v true (words D)), (2, .v true (.int .i64 i.2))], mem := [] }) (fun i => i.1 ≤ 2) (fun i => 2 - i.1) (0, n) (Nat.zero_le _) (fun a w h => Rel.keep [12, 7, 8, 9, 2] [] h) ?_
      rintro ⟨i, n⟩ hi
      simp only at hi
      by_cases hend : i = 2
      · refine Holds.seq ?_
        refine Holds.step (Px := px) (T := TT) (ρ := fun _ => []) TTe (by simp (maxSteps := 100000) (disch := omega) only [go_sem, V.isAgg, V.flat, ↓reduceIte, Nat.reduceAdd, Nat.reduceSub, Nat.reduceLT, Nat.reduceEqDiff, reduceCtorEq, Nat.reduceLeDiff, Nat.reduceBEq, Nat.reduceMul, Int.reduceToNat]; rfl) (by repeat' first | exact trivial | constructor) ?_
        exact Holds.condF rfl (Holds.exit ⟨rfl, fun a w h => Rel.keep [] [] h⟩)
      · refine Holds.seq ?_
        refine Holds.step (Px := px) (T := TT) (ρ := fun _ => []) TTe (by simp (maxSteps := 100000) (disch := omega) only [go_sem, V.isAgg, V.flat, ↓reduceIte, Nat.reduceAdd, Nat.reduceSub, Nat.reduceLT, Nat.reduceEqDiff, reduceCtorEq, Nat.reduceLeDiff, Nat.reduceBEq, Nat.reduceMul, Int.reduceToNat]; rfl) (by repeat' first | exact trivial | constructor) ?_
        refine Holds.condT rfl (Holds.skip ?_)
        have hl := least_ok n
        refine Holds.next (fun σ => ∀ a w, Rel cx w0 σ a w → Rel cx w0 { nt := 124, env := [(12, .v true (.int .i64 (i : Int))), (7, .v true (words X)), (8, .v true (words Y)), (9, .v true (words D)), (2, .v true (.int .i64 (3 + (n % 18446744073709551616) % 62)))], mem := [] } a w) ?_ ?_
        · refine Holds.blockN ?_
          by_cases hb : n < 3 ∨ 64 < n
          · refine Holds.step (Px := px) (T := TT) (ρ := fun _ => [.v true (words []), .v true (.int .i64 1)]) TTe (by simp (maxSteps := 100000) (disch := omega) only [go_sem, V.isAgg, V.flat, ↓reduceIte, Nat.reduceAdd, Nat.reduceSub, Nat.reduceLT, Nat.reduceEqDiff, reduceCtorEq, Nat.reduceLeDiff, Nat.reduceBEq, Nat.reduceMul, Int.reduceToNat]; rfl) (by first | exact kb n hb | (repeat' first | exact trivial | exact kb n hb | constructor)) ?_
            refine Holds.step (Px := px) (T := TT) (ρ := fun _ => [.v true (words []), .v true (.int .i64 1)]) TTe (by simp (maxSteps := 100000) (disch := omega) only [go_sem, V.isAgg, V.flat, ↓reduceIte, Nat.reduceAdd, Nat.reduceSub, Nat.reduceLT, Nat.reduceEqDiff, reduceCtorEq, Nat.reduceLeDiff, Nat.reduceBEq, Nat.reduceMul, Int.reduceToNat]; rfl) (by first | exact tb n hb | (repeat' first | exact trivial | exact tb n hb | constructor)) ?_
            refine Holds.step (Px := px) (T := TT) (ρ := fun _ => [.v true (words []), .v true (.int .i64 1)]) TTe (by simp (maxSteps := 100000) (disch := omega) only [go_sem, V.isAgg, V.flat, ↓reduceIte, Nat.reduceAdd, Nat.reduceSub, Nat.reduceLT, Nat.reduceEqDiff, reduceCtorEq, Nat.reduceLeDiff, Nat.reduceBEq, Nat.reduceMul, Int.reduceToNat]; rfl) (by first | exact sb n hb | (repeat' first | exact trivial | exact sb n hb | constructor)) ?_
            refine Holds.next (fun σ => ∀ a w, Rel cx w0 σ a w → Rel cx w0 { nt := 124, env := [(12, .v true (.int .i64 (i : Int))), (7, .v true (words X)), (8, .v true (words Y)), (9, .v true (words D)), (2, .v true (.int .i64 n))], mem := [] } a w) ?tl ?_
            case tl =>
              by_cases h1 : n < 3
              · refine Holds.step (Px := px) (T := TT) (ρ := fun _ => []) TTe (by simp (maxSteps := 100000) (disch := omega) only [go_sem, V.isAgg, V.flat, ↓reduceIte, Nat.reduceAdd, Nat.reduceSub, Nat.reduceLT, Nat.reduceEqDiff, reduceCtorEq, Nat.reduceLeDiff, Nat.reduceBEq, Nat.reduceMul, Int.reduceToNat, h1]; rfl) (by repeat' first | exact trivial | constructor) ?_
                refine Holds.condT rfl ?_
                refine Holds.step (Px := px) (T := TT) (ρ := fun _ => []) TTe (by simp (maxSteps := 100000) (disch := omega) only [go_sem, V.isAgg, V.flat, ↓reduceIte, Nat.reduceAdd, Nat.reduceSub, Nat.reduceLT, Nat.reduceEqDiff, reduceCtorEq, Nat.reduceLeDiff, Nat.reduceBEq, Nat.reduceMul, Int.reduceToNat]; rfl) (by repeat' first | exact trivial | constructor) ?_
                exact Holds.condF rfl (Holds.skip fun a w h => Rel.keep [12, 7, 8, 9, 2] [] h)
              · have h2 : 64 < n := by omega
                refine Holds.step (Px := px) (T := TT) (ρ := fun _ => []) TTe (by simp (maxSteps := 100000) (disch := omega) only [go_sem, V.isAgg, V.flat, ↓reduceIte, Nat.reduceAdd, Nat.reduceSub, Nat.reduceLT, Nat.reduceEqDiff, reduceCtorEq, Nat.reduceLeDiff, Nat.reduceBEq, Nat.reduceMul, Int.reduceToNat, h1, h2]; rfl) (by repeat' first | exact trivial | constructor) ?_
                refine Holds.condT rfl ?_
                refine Holds.step (Px := px) (T := TT) (ρ := fun _ => []) TTe (by simp (maxSteps := 100000) (disch := omega) only [go_sem, V.isAgg, V.flat, ↓reduceIte, Nat.reduceAdd, Nat.reduceSub, Nat.reduceLT, Nat.reduceEqDiff, reduceCtorEq, Nat.reduceLeDiff, Nat.reduceBEq, Nat.reduceMul, Int.reduceToNat]; rfl) (by repeat' first | exact trivial | constructor) ?_
                exact Holds.condF rfl (Holds.skip fun a w h => Rel.keep [12, 7, 8, 9, 2] [] h)
            intro σ hσ
            refine Holds.from hσ ?_
            refine Holds.region (Px := px) (T := TT) (ρ := fun _ => [.v true (.int .i64 (3 + (n % 18446744073709551616) % 62))]) TTe (by simp (maxSteps := 100000) (disch := omega) only [go_sem, V.isAgg, V.flat, ↓reduceIte, Nat.reduceAdd, Nat.reduceSub, Nat.reduceLT, Nat.reduceEqDiff, reduceCtorEq, Nat.reduceLeDiff, Nat.reduceBEq, Nat.reduceMul, Int.reduceToNat]; rfl) (by first | exact hl | (repeat' first | exact trivial | exact hl | constructor)) ?_
            exact fun a w h => Rel.keep [12, 7, 8, 9, 2] [] h
          · obtain ⟨m, rfl⟩ : ∃ m : Nat, n = m := ⟨n.toNat, by omega⟩
            have h1 : ¬ (m : Int) < 3 := by omega
            have h2 : ¬ 64 < (m : Int) := by omega
            refine Holds.step (Px := px) (T := TT) (ρ := fun _ => [.v true (words D), .v true (.int .i64 0)]) TTe (by simp (maxSteps := 100000) (disch := omega) only [go_sem, V.isAgg, V.flat, ↓reduceIte, Nat.reduceAdd, Nat.reduceSub, Nat.reduceLT, Nat.reduceEqDiff, reduceCtorEq, Nat.reduceLeDiff, Nat.reduceBEq, Nat.reduceMul, Int.reduceToNat]; rfl) (by first | exact kk m ⟨by omega, by omega⟩ | (repeat' first | exact trivial | exact kk m ⟨by omega, by omega⟩ | constructor)) ?_
            refine Holds.step (Px := px) (T := TT) (ρ := fun _ => [.v true (words D), .v true (.int .i64 0)]) TTe (by simp (maxSteps := 100000) (disch := omega) only [go_sem, V.isAgg, V.flat, ↓reduceIte, Nat.reduceAdd, Nat.reduceSub, Nat.reduceLT, Nat.reduceEqDiff, reduceCtorEq, Nat.reduceLeDiff, Nat.reduceBEq, Nat.reduceMul, Int.reduceToNat]; rfl) (by first | exact tt m ⟨by omega, by omega⟩ | (repeat' first | exact trivial | exact tt m ⟨by omega, by omega⟩ | constructor)) ?_
            refine Holds.step (Px := px) (T := TT) (ρ := fun _ => [.v true (words E), .v true (.int .i64 0)]) TTe (by simp (maxSteps := 100000) (disch := omega) only [go_sem, V.isAgg, V.flat, ↓reduceIte, Nat.reduceAdd, Nat.reduceSub, Nat.reduceLT, Nat.reduceEqDiff, reduceCtorEq, Nat.reduceLeDiff, Nat.reduceBEq, Nat.reduceMul, Int.reduceToNat]; rfl) (by first | exact ss m ⟨by omega, by omega⟩ | (repeat' first | exact trivial | exact ss m ⟨by omega, by omega⟩ | constructor)) ?_
            refine Holds.next (fun σ => ∀ a w, Rel cx w0 σ a w → Rel cx w0 { nt := 124, env := [(12, .v true (.int .i64 (i : Int))), (7, .v true (words X)), (8, .v true (words Y)), (9, .v true (words D)), (2, .v true (.int .i64 m))], mem := [] } a w) ?tl ?_
            case tl =>
              refine Holds.step (Px := px) (T := TT) (ρ := fun _ => []) TTe (by simp (maxSteps := 100000) (disch := omega) only [go_sem, V.isAgg, V.flat, ↓reduceIte, Nat.reduceAdd, Nat.reduceSub, Nat.reduceLT, Nat.reduceEqDiff, reduceCtorEq, Nat.reduceLeDiff, Nat.reduceBEq, Nat.reduceMul, Int.reduceToNat, h1, h2]; rfl) (by repeat' first | exact trivial | constructor) ?_
              refine Holds.condF rfl ?_
              refine Holds.step (Px := px) (T := TT) (ρ := fun t => if t = 117 then [.v true (words E)] else [.v true (.bool true)]) TTe (by simp (maxSteps := 100000) (disch := omega) only [go_sem, V.isAgg, V.flat, ↓reduceIte, Nat.reduceAdd, Nat.reduceSub, Nat.reduceLT, Nat.reduceEqDiff, reduceCtorEq, Nat.reduceLeDiff, Nat.reduceBEq, Nat.reduceMul, Int.reduceToNat, unA]; rfl) (by first | exact ⟨i1, i1, hRX, i2⟩ | (repeat' first | exact trivial | exact i1 | exact i1 | exact hRX | exact i2 | constructor)) ?_
              exact Holds.condF rfl (Holds.skip fun a w h => Rel.keep [12, 7, 8, 9, 2] [] h)
            intro σ hσ
            refine Holds.from hσ ?_
            refine Holds.region (Px := px) (T := TT) (ρ := fun _ => [.v true (.int .i64 (3 + ((m : Int) % 18446744073709551616) % 62))]) TTe (by simp (maxSteps := 100000) (disch := omega) only [go_sem, V.isAgg, V.flat, ↓reduceIte, Nat.reduceAdd, Nat.reduceSub, Nat.reduceLT, Nat.reduceEqDiff, reduceCtorEq, Nat.reduceLeDiff, Nat.reduceBEq, Nat.reduceMul, Int.reduceToNat]; rfl) (by first | exact hl | (repeat' first | exact trivial | exact hl | constructor)) ?_
            exact fun a w h => Rel.keep [12, 7, 8, 9, 2] [] h
        · intro σ hσ
          refine Holds.from hσ ?_
          refine Holds.region (Px := px) (T := TT) (ρ := fun _ => []) TTe (by simp (maxSteps := 100000) (disch := omega) only [go_sem, V.isAgg, V.flat, ↓reduceIte, Nat.reduceAdd, Nat.reduceSub, Nat.reduceLT, Nat.reduceEqDiff, reduceCtorEq, Nat.reduceLeDiff, Nat.reduceBEq, Nat.reduceMul, Int.reduceToNat]; rfl) (by repeat' first | exact trivial | constructor) ?_
          exact ⟨(i + 1, 3 + (n % 18446744073709551616) % 62), by show i + 1 ≤ 2; omega, (show 2 - (i + 1) < 2 - i by omega), fun a w h => Rel.keep [12, 7, 8, 9, 2] [] h⟩
    · intro σ hσ
      refine Holds.from hσ ?_
      refine Holds.step (Px := px) (T := TT) (ρ := fun _ => [.v true (.bool true)]) TTe (by simp (maxSteps := 100000) (disch := omega) only [go_sem, V.isAgg, V.flat, ↓reduceIte, Nat.reduceAdd, Nat.reduceSub, Nat.reduceLT, Nat.reduceEqDiff, reduceCtorEq, Nat.reduceLeDiff, Nat.reduceBEq, Nat.reduceMul, Int.reduceToNat]; rfl) (by first | exact awake_ok | (repeat' first | exact trivial | exact awake_ok | constructor)) ?_
      exact Holds.ret (RetOk.vs rfl (by exact ⟨⟨rfl, fun h => h⟩, trivial⟩) rfl)
end Go.Proofs.Ytjmclobbfabnpaa.L
