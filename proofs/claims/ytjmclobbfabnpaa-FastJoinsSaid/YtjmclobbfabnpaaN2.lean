/-
  Sc Sd
-/
import Derived.Test.YtjmclobbfabnpaaN1
import Derived.Test.YtjmclobbfabnpaaN0
set_option linter.unusedSimpArgs false
set_option linter.unusedVariables false
/-
  Join with its errors.
-/
namespace Go.Proofs.Ytjmclobbfabnpaa.L
open Go Go.RowKit Go.Proofs
attribute [local go_sem] evalOps_nil evalOps_cons runW_t runW_f runE_s runP_s wantA evalOp effOp letters okDst coreA St.opv St.get St.at look constA St.put St.upd St.set decide_true List.all_nil List.all_cons Bool.and_true Bool.true_and and_self and_true true_and if_true if_false true_or Int.sub_zero List.nil_append List.cons_append List.append_nil Option.isSome_some List.getElem?_toArray List.getElem?_cons_succ List.getElem?_cons_zero Option.bind_some Option.map_some Option.map_none beq_self_eq_true Bool.false_beq Bool.true_beq Bool.not_true Bool.not_false Bool.false_eq_true cond_true cond_false binA binI List.map_cons List.map_nil boundA List.length_nil List.length_cons Nat.zero_mul Nat.one_mul Nat.mul_one Nat.zero_add Nat.add_zero Nat.zero_le Option.toList St.freshB AV.ment AV.ments Blk.ment V.sizes Nat.lt_add_one Bool.or_true Bool.true_or Bool.or_false Bool.false_or Bool.or_self if_pos if_neg decide_false decide_eq_true decide_eq_false wrap_i64 Int.toNat_natCast minA maxA Int.natCast_add Int.cast_ofNat_Int Option.isSome_none false_implies true_implies forall_const List.drop_zero Int.toNat_zero Int.add_sub_cancel lenA sliceA loadA indexAddrA partA fitsT V.atP V.offP V.size List.length_map List.getElem?_map Int.toNat_natCast_add_one Int.ofNat_eq_natCast TY calleeA capArg knotA capArgs toArgs toArg callA R.res R.mems R.blks R.av R.names R.nw invokeA storeA storeV fieldAddrA liveB V.off V.offs V.setP List.set_cons_zero List.set_cons_succ buildA buildP partsA appendA srcA copyA boxOk makeA AV.pure List.take_succ_cons List.take_zero nilA words entry List.zipIdx_cons List.zipIdx_nil Arg.av Arg.avs

theorem jv_le {ls : List (List Int)} {n : Nat} : ∀ {k j}, j ≤ k → jv ls n j ≤ jv ls n k := fun {k j} h => by
  rw [jv_wS, jv_wS]
  exact wS_le h

theorem JoinG_ok (ls : List (List Int)) (n : Nat) (hl : ls.length ≤ 5000) (hn : 1 ≤ n) (hn2 : n ≤ 1000) (hls : ∀ l ∈ ls, l.length ≤ 4096 ∧ okW l)
    (hsz : ∀ k, k ≤ ls.length → (digs (jv ls n k)).length < 100000) :
    FnOk Try.prog 39 [.v (natsV ls), .v (.int .i64 n)] [.v true (words (fitR (digs (jv ls n ls.length))).1), .v true (.int .i64 (fitR (digs (jv ls n ls.length))).2)] := by
  have hlg : FnOk Try.prog 47 [.v (natsV ls)] [.v true (.bool false)] := by
    have := large_ok ls (by omega) (fun l hl => by have := (hls l hl).1; omega)
    rw [show (ls.any fun l => decide (4096 < l.length)) = false from by
      rw [List.any_eq_false]
      intro l hl
      have := (hls l hl).1
      simp; omega] at this
    exact this
  obtain ⟨o1, z1, v1⟩ := digs_ok (jv ls n ls.length)
  have eT : trimL (digs (jv ls n ls.length)) = digs (jv ls n ls.length) := by rw [trim_digs o1, v1]
  have hfit := ffitG_ok (digs (jv ls n ls.length)) (by have := hsz ls.length (Nat.le_refl _); omega)
  rw [eT] at hfit
  refine FnOk.of Try.func39 rfl rfl fun cx w0 => ?_
  rw [show Try.f39.ntmps = 49 from rfl]
  refine Holds.step (Px := px) (T := TT) (ρ := fun _ => []) TTe (by simp (maxSteps := 100000) (disch := omega) only [go_sem, V.isAgg, V.flat, ↓reduceIte, Nat.reduceAdd, Nat.reduceSub, Nat.reduceLT, Nat.reduceEqDiff, reduceCtorEq, Nat.reduceLeDiff, Nat.reduceBEq, Nat.reduceMul, Int.reduceToNat, List.length_cons, List.length_nil]; rfl) (by repeat' first | exact trivial | constructor) ?_
  refine Holds.next (fun σ => ∀ a w, Rel cx w0 σ a w → Rel cx w0 { nt := 49, env := [(0, .v false (natsV ls)), (1, .v true (.int .i64 n))], mem := [] } a w) ?_ ?_
  · refine Holds.step (Px := px) (T := TT) (ρ := fun _ => [.v true (.bool false)]) TTe (by simp (maxSteps := 100000) (disch := omega) only [go_sem, V.isAgg, V.flat, ↓reduceIte, Nat.reduceAdd, Nat.reduceSub, Nat.reduceLT, Nat.reduceEqDiff, reduceCtorEq, Nat.reduceLeDiff, Nat.reduceBEq, Nat.reduceMul, Int.reduceToNat]; rfl) (by first | exact hlg | (repeat' first | exact trivial | exact hlg | constructor)) ?_
    exact Holds.condF rfl (Holds.skip fun a w h => Rel.keep [0, 1] [] h)
  · intro σ hσ
    refine Holds.from hσ ?_
    refine Holds.next (fun σ => ∀ a w, Rel cx w0 σ a w → Rel cx w0 { nt := 49, env := [(0, .v false (natsV ls)), (1, .v true (.int .i64 n))], mem := [] } a w) ?_ ?_
    · refine Holds.step (Px := px) (T := TT) (ρ := fun _ => []) TTe (by simp (maxSteps := 100000) (disch := omega) only [go_sem, V.isAgg, V.flat, ↓reduceIte, Nat.reduceAdd, Nat.reduceSub, Nat.reduceLT, Nat.reduceEqDiff, reduceCtorEq, Nat.reduceLeDiff, Nat.reduceBEq, Nat.reduceMul, Int.reduceToNat, natsV]; rfl) (by repeat' first | exact trivial | constructor) ?_
      exact Holds.condF rfl (Holds.skip fun a w h => Rel.keep [0, 1] [] h)
    · intro σ hσ
      refine Holds.from hσ ?_
      refine Holds.step (Px := px) (T := TT) (ρ := fun _ => []) TTe (by simp (maxSteps := 100000) (disch := omega) only [go_sem, V.isAgg, V.flat, ↓reduceIte, Nat.reduceAdd, Nat.reduceSub, Nat.reduceLT, Nat.reduceEqDiff, reduceCtorEq, Nat.reduceLeDiff, Nat.reduceBEq, Nat.reduceMul, Int.reduceToNat]; rfl) (by repeat' first | exact trivial | constructor) ?_
      refine Holds.from (σ' := { nt := 49, env := [(6, .v true (words (digs 0))), (0, .v false (natsV ls)), (1, .v true (.int .i64 n))], mem := [] }) (fun a w h => by
        have := Rel.keep [6, 0, 1] [] (Rel.nilV (t := 6) (z := 1) rfl h)
        exact this) ?_
      refine Holds.next (fun σ => ∀ a w, Rel cx w0 σ a w → Rel cx w0 { nt := 49, env := [(6, .v true (words (digs (jv ls n ls.length))))], mem := [] } a w) ?_ ?_
      · refine Holds.step (Px := px) (T := TT) (ρ := fun _ => []) TTe (by simp (maxSteps := 100000) (disch := omega) only [go_sem, V.isAgg, V.flat, ↓reduceIte, Nat.reduceAdd, Nat.reduceSub, Nat.reduceLT, Nat.reduceEqDiff, reduceCtorEq, Nat.reduceLeDiff, Nat.reduceBEq, Nat.reduceMul, Int.reduceToNat, natsV]; rfl) (by repeat' first | exact trivial | constructor) ?_
        refine Holds.loopB (fun k : Nat => { nt := 49, env := [(24, .v true (.int .i64 k)), (23, .v true (.int .i64 ls.length)), (22, .v false (natsV ls)), (6, .v true (words (digs (jv ls n k)))), (1, .v true (.int .i64 n))], mem := [] }) (fun k => k ≤ ls.length) (fun k => ls.length - k) 0 (Nat.zero_le _) (fun a w hr => Rel.keep [24, 23, 22, 6, 1] [] hr) ?_
        intro k hk
        by_cases hend : k = ls.length
        · refine Holds.step (Px := px) (T := TT) (ρ := fun _ => []) TTe (by simp (maxSteps := 100000) (disch := omega) only [go_sem, V.isAgg, V.flat, ↓reduceIte, Nat.reduceAdd, Nat.reduceSub, Nat.reduceLT, Nat.reduceEqDiff, reduceCtorEq, Nat.reduceLeDiff, Nat.reduceBEq, Nat.reduceMul, Int.reduceToNat]; rfl) (by repeat' first | exact trivial | constructor) ?_
          refine Holds.seq ?_
          refine Holds.condF rfl (Holds.exit ⟨rfl, fun a w hr => ?_⟩)
          rw [← hend]
          exact Rel.keep [6] [] hr
        · have hkl : k < ls.length := by omega
          have hm : ls.getD k [] ∈ ls := by rw [List.getD_eq_getElem?_getD, List.getElem?_eq_getElem hkl]; exact List.getElem_mem hkl
          obtain ⟨hlm, olm⟩ := hls _ hm
          have hT := Trim_ok (ls.getD k []) (by omega)
          have htl := trimL_len (ls.getD k [])
          have hjs : jv ls n (k + 1) = jv ls n k + 18446744073709551616 ^ (k * n) * val (trimL (ls.getD k [])) := by rw [jv, val_trim]
          obtain ⟨y, hy⟩ : ∃ y, y = trimL (ls.getD k []) := ⟨_, rfl⟩
          have oy : okW y := by rw [hy]; exact trimL_ok olm
          rw [← hy] at hT htl hjs
          refine Holds.step (Px := px) (T := TT) (ρ := fun _ => []) TTe (by simp (maxSteps := 100000) (disch := omega) only [go_sem, V.isAgg, V.flat, ↓reduceIte, Nat.reduceAdd, Nat.reduceSub, Nat.reduceLT, Nat.reduceEqDiff, reduceCtorEq, Nat.reduceLeDiff, Nat.reduceBEq, Nat.reduceMul, Int.reduceToNat]; rfl) (by repeat' first | exact trivial | constructor) ?_
          refine Holds.seq ?_
          refine Holds.condT rfl (Holds.skip ?_)
          refine Holds.next (fun σ => ∀ a w, Rel cx w0 σ a w → Rel cx w0 { nt := 49, env := [(24, .v true (.int .i64 k)), (23, .v true (.int .i64 ls.length)), (22, .v false (natsV ls)), (6, .v true (words (digs (jv ls n (k + 1))))), (1, .v true (.int .i64 n))], mem := [] } a w) ?_ ?_
          · refine Holds.block ?_
            refine Holds.step (Px := px) (T := TT) (ρ := fun _ => []) TTe (by simp (maxSteps := 100000) (disch := omega) only [go_sem, V.isAgg, V.flat, ↓reduceIte, Nat.reduceAdd, Nat.reduceSub, Nat.reduceLT, Nat.reduceEqDiff, reduceCtorEq, Nat.reduceLeDiff, Nat.reduceBEq, Nat.reduceMul, Int.reduceToNat, natsV, get_mapL hkl]; rfl) (by repeat' first | exact trivial | constructor) ?_
            refine Holds.seq ?_
            refine Holds.step (Px := px) (T := TT) (ρ := fun _ => [.v true (words y)]) TTe (by simp (maxSteps := 100000) (disch := omega) only [go_sem, V.isAgg, V.flat, ↓reduceIte, Nat.reduceAdd, Nat.reduceSub, Nat.reduceLT, Nat.reduceEqDiff, reduceCtorEq, Nat.reduceLeDiff, Nat.reduceBEq, Nat.reduceMul, Int.reduceToNat]; rfl) (by first | exact hT | (repeat' first | exact trivial | exact hT | constructor)) ?_
            by_cases hy0 : y.length = 0
            · have hye : y = [] := List.eq_nil_of_length_eq_zero hy0
              refine Holds.step (Px := px) (T := TT) (ρ := fun _ => []) TTe (by simp (maxSteps := 100000) (disch := omega) only [go_sem, V.isAgg, V.flat, ↓reduceIte, Nat.reduceAdd, Nat.reduceSub, Nat.reduceLT, Nat.reduceEqDiff, reduceCtorEq, Nat.reduceLeDiff, Nat.reduceBEq, Nat.reduceMul, Int.reduceToNat, hy0]; rfl) (by repeat' first | exact trivial | constructor) ?_
              refine Holds.condT rfl (Holds.exit (seqQ_exit (blockQ_exit ?_)))
              intro a w hr
              have e : jv ls n (k + 1) = jv ls n k := by rw [hjs, hye]; rfl
              rw [e]
              exact Rel.keep [24, 23, 22, 6, 1] [] hr
            · have hy0' : ¬ (y.length : Int) = 0 := by omega
              have hkn : (k : Int) * n = ((k * n : Nat) : Int) := (Int.natCast_mul k n).symm
              have hpb : k * n ≤ 5000 * 1000 := Nat.mul_le_mul (by omega) hn2
              obtain ⟨p, hp⟩ : ∃ p, p = k * n := ⟨_, rfl⟩
              rw [← hp] at hkn hjs hpb
              by_cases hat'' : p ≤ 4096
              rotate_left
              · have hbig : 4096 < (digs (jv ls n ls.length)).length := by
                  refine Nat.lt_of_not_le fun hle => ?_
                  have h1 := val_lt (digs_ok (jv ls n ls.length)).1
                  rw [(digs_ok _).2.2] at h1
                  have h2 := jv_le (ls := ls) (n := n) (show k + 1 ≤ ls.length by omega)
                  have h3 : 18446744073709551616 ^ (digs (jv ls n ls.length)).length ≤ 18446744073709551616 ^ p := Nat.pow_le_pow_right (by decide) (by omega)
                  have h4 : 18446744073709551616 ^ p * 1 ≤ 18446744073709551616 ^ p * val y := Nat.mul_le_mul_left _ (Nat.pos_of_ne_zero fun h0 => hy0 (by
                    have : y = [] := by
                      have := trim_digs olm
                      rw [← hy, ← val_trim, ← hy, h0] at this
                      rw [this]; rfl
                    rw [this]; rfl))
                  omega
                rw [fitR, if_pos hbig]
                refine Holds.step (Px := px) (T := TT) (ρ := fun _ => []) TTe (by simp (maxSteps := 100000) (disch := omega) only [go_sem, V.isAgg, V.flat, ↓reduceIte, Nat.reduceAdd, Nat.reduceSub, Nat.reduceLT, Nat.reduceEqDiff, reduceCtorEq, Nat.reduceLeDiff, Nat.reduceBEq, Nat.reduceMul, Int.reduceToNat, hy0']; rfl) (by repeat' first | exact trivial | constructor) ?_
                refine Holds.condF rfl (Holds.skip ?_)
                show Holds _ _ _ _ _ _ _
                refine Holds.seq ?_
                refine Holds.step (Px := px) (T := TT) (ρ := fun _ => []) TTe (by simp (maxSteps := 100000) (disch := omega) only [go_sem, V.isAgg, V.flat, ↓reduceIte, Nat.reduceAdd, Nat.reduceSub, Nat.reduceLT, Nat.reduceEqDiff, reduceCtorEq, Nat.reduceLeDiff, Nat.reduceBEq, Nat.reduceMul, Int.reduceToNat, hkn]; rfl) (by repeat' first | exact trivial | constructor) ?_
                refine Holds.condT rfl ?_
                refine Holds.step (Px := px) (T := TT) (ρ := fun _ => []) TTe (by simp (maxSteps := 100000) (disch := omega) only [go_sem, V.isAgg, V.flat, ↓reduceIte, Nat.reduceAdd, Nat.reduceSub, Nat.reduceLT, Nat.reduceEqDiff, reduceCtorEq, Nat.reduceLeDiff, Nat.reduceBEq, Nat.reduceMul, Int.reduceToNat]; rfl) (by repeat' first | exact trivial | constructor) ?_
                exact Holds.ret ⟨_, [], rfl, ⟨rfl, ⟨rfl, fun h => h⟩, trivial⟩, by simp [R.names, R.mems, R.blks], by simp, rfl⟩
              have hpl := plus_val (x := digs (jv ls n k)) (y := y) (at_ := p) (by have := hsz k hk; omega) (by omega) (by omega) (digs_ok _).1 oy
              rw [(digs_ok _).2.2, ← hjs] at hpl
              refine Holds.step (Px := px) (T := TT) (ρ := fun _ => []) TTe (by simp (maxSteps := 100000) (disch := omega) only [go_sem, V.isAgg, V.flat, ↓reduceIte, Nat.reduceAdd, Nat.reduceSub, Nat.reduceLT, Nat.reduceEqDiff, reduceCtorEq, Nat.reduceLeDiff, Nat.reduceBEq, Nat.reduceMul, Int.reduceToNat, hy0']; rfl) (by repeat' first | exact trivial | constructor) ?_
              refine Holds.condF rfl (Holds.skip ?_)
              show Holds _ _ _ _ _ _ _
              refine Holds.seq ?_
              refine Holds.step (Px := px) (T := TT) (ρ := fun _ => []) TTe (by simp (maxSteps := 100000) (disch := omega) only [go_sem, V.isAgg, V.flat, ↓reduceIte, Nat.reduceAdd, Nat.reduceSub, Nat.reduceLT, Nat.reduceEqDiff, reduceCtorEq, Nat.reduceLeDiff, Nat.reduceBEq, Nat.reduceMul, Int.reduceToNat, hkn]; rfl) (by repeat' first | exact trivial | constructor) ?_
              refine Holds.condF rfl (Holds.skip ?_)
              show Holds _ _ _ _ _ _ _
              refine Holds.region (Px := px) (T := TT) (ρ := fun _ => [.v true (words (digs (jv ls n (k + 1))))]) TTe (by simp (maxSteps := 100000) (disch := omega) only [go_sem, V.isAgg, V.flat, ↓reduceIte, Nat.reduceAdd, Nat.reduceSub, Nat.reduceLT, Nat.reduceEqDiff, reduceCtorEq, Nat.reduceLeDiff, Nat.reduceBEq, Nat.reduceMul, Int.reduceToNat, hkn]; rfl) (by first | exact hpl | (repeat' first | exact trivial | exact hpl | constructor)) ?_
              exact fun a w hr => Rel.keep [24, 23, 22, 6, 1] [] hr
          · intro σ hσ
            refine Holds.from hσ ?_
            refine Holds.region (Px := px) (T := TT) (ρ := fun _ => []) TTe (by simp (maxSteps := 100000) (disch := omega) only [go_sem, V.isAgg, V.flat, ↓reduceIte, Nat.reduceAdd, Nat.reduceSub, Nat.reduceLT, Nat.reduceEqDiff, reduceCtorEq, Nat.reduceLeDiff, Nat.reduceBEq, Nat.reduceMul, Int.reduceToNat]; rfl) (by repeat' first | exact trivial | constructor) ?_
            exact ⟨k + 1, (by show k + 1 ≤ ls.length; omega), (show ls.length - (k + 1) < ls.length - k by omega), fun a w hr => Rel.keep [24, 23, 22, 6, 1] [] hr⟩
      · intro σ hσ
        refine Holds.from hσ ?_
        refine Holds.step (Px := px) (T := TT) (ρ := fun _ => [.v true (words (fitR (digs (jv ls n ls.length))).1), .v true (.int .i64 (fitR (digs (jv ls n ls.length))).2)]) TTe (by simp (maxSteps := 100000) (disch := omega) only [go_sem, V.isAgg, V.flat, ↓reduceIte, Nat.reduceAdd, Nat.reduceSub, Nat.reduceLT, Nat.reduceEqDiff, reduceCtorEq, Nat.reduceLeDiff, Nat.reduceBEq, Nat.reduceMul, Int.reduceToNat]; rfl) (by first | exact hfit | (repeat' first | exact trivial | exact hfit | constructor)) ?_
        exact Holds.ret (RetOk.vs rfl (by exact ⟨⟨rfl, fun h => h⟩, ⟨rfl, fun h => h⟩, trivial⟩) rfl)


theorem Join_arg (ls : List (List Int)) (n : Int) (hl : ls.length < 1000000) (hls : ∀ l ∈ ls, l.length ≤ 4096) (h : n < 1 ∨ 1000 < n ∨ 5000 < ls.length) :
    FnOk Try.prog 39 [.v (natsV ls), .v (.int .i64 n)] [.v true (words []), .v true (.int .i64 1)] := by
  have hlg : FnOk Try.prog 47 [.v (natsV ls)] [.v true (.bool false)] := by
    have := large_ok ls (by omega) (fun l hl => by have := hls l hl; omega)
    rw [show (ls.any fun l => decide (4096 < l.length)) = false from by
      rw [List.any_eq_false]
      intro l hl
      have := hls l hl
      simp; omega] at this
    exact this
  refine FnOk.of Try.func39 rfl rfl fun cx w0 => ?_
  rw [show Try.f39.ntmps = 49 from rfl]
  refine Holds.step (Px := px) (T := TT) (ρ := fun _ => []) TTe (by simp (maxSteps := 100000) (disch := omega) only [go_sem, V.isAgg, V.flat, ↓reduceIte, Nat.reduceAdd, Nat.reduceSub, Nat.reduceLT, Nat.reduceEqDiff, reduceCtorEq, Nat.reduceLeDiff, Nat.reduceBEq, Nat.reduceMul, Int.reduceToNat, List.length_cons, List.length_nil]; rfl) (by repeat' first | exact trivial | constructor) ?_
  refine Holds.next (fun σ => ∀ a w, Rel cx w0 σ a w → Rel cx w0 { nt := 49, env := [(0, .v false (natsV ls)), (1, .v true (.int .i64 n))], mem := [] } a w) ?_ ?_
  · refine Holds.step (Px := px) (T := TT) (ρ := fun _ => [.v true (.bool false)]) TTe (by simp (maxSteps := 100000) (disch := omega) only [go_sem, V.isAgg, V.flat, ↓reduceIte, Nat.reduceAdd, Nat.reduceSub, Nat.reduceLT, Nat.reduceEqDiff, reduceCtorEq, Nat.reduceLeDiff, Nat.reduceBEq, Nat.reduceMul, Int.reduceToNat]; rfl) (by first | exact hlg | (repeat' first | exact trivial | exact hlg | constructor)) ?_
    exact Holds.condF rfl (Holds.skip fun a w h => Rel.keep [0, 1] [] h)
  · intro σ hσ
    refine Holds.from hσ ?_
    refine Holds.seq ?_
    rcases Int.lt_or_le n 1 with h1 | h1
    · refine Holds.step (Px := px) (T := TT) (ρ := fun _ => []) TTe (by simp (maxSteps := 100000) (disch := omega) only [go_sem, V.isAgg, V.flat, ↓reduceIte, Nat.reduceAdd, Nat.reduceSub, Nat.reduceLT, Nat.reduceEqDiff, reduceCtorEq, Nat.reduceLeDiff, Nat.reduceBEq, Nat.reduceMul, Int.reduceToNat, natsV, h1]; rfl) (by repeat' first | exact trivial | constructor) ?_
      refine Holds.condT rfl ?_
      refine Holds.step (Px := px) (T := TT) (ρ := fun _ => []) TTe (by simp (maxSteps := 100000) (disch := omega) only [go_sem, V.isAgg, V.flat, ↓reduceIte, Nat.reduceAdd, Nat.reduceSub, Nat.reduceLT, Nat.reduceEqDiff, reduceCtorEq, Nat.reduceLeDiff, Nat.reduceBEq, Nat.reduceMul, Int.reduceToNat]; rfl) (by repeat' first | exact trivial | constructor) ?_
      exact Holds.ret ⟨_, [], rfl, ⟨rfl, ⟨rfl, fun h => h⟩, trivial⟩, by simp [R.names, R.mems, R.blks], by simp, rfl⟩
    · have n1 : ¬ n < 1 := by omega
      rcases Int.lt_or_le 1000 n with h2 | h2
      · refine Holds.step (Px := px) (T := TT) (ρ := fun _ => []) TTe (by simp (maxSteps := 100000) (disch := omega) only [go_sem, V.isAgg, V.flat, ↓reduceIte, Nat.reduceAdd, Nat.reduceSub, Nat.reduceLT, Nat.reduceEqDiff, reduceCtorEq, Nat.reduceLeDiff, Nat.reduceBEq, Nat.reduceMul, Int.reduceToNat, natsV, n1, h2]; rfl) (by repeat' first | exact trivial | constructor) ?_
        refine Holds.condT rfl ?_
        refine Holds.step (Px := px) (T := TT) (ρ := fun _ => []) TTe (by simp (maxSteps := 100000) (disch := omega) only [go_sem, V.isAgg, V.flat, ↓reduceIte, Nat.reduceAdd, Nat.reduceSub, Nat.reduceLT, Nat.reduceEqDiff, reduceCtorEq, Nat.reduceLeDiff, Nat.reduceBEq, Nat.reduceMul, Int.reduceToNat]; rfl) (by repeat' first | exact trivial | constructor) ?_
        exact Holds.ret ⟨_, [], rfl, ⟨rfl, ⟨rfl, fun h => h⟩, trivial⟩, by simp [R.names, R.mems, R.blks], by simp, rfl⟩
      · have n2 : ¬ 1000 < n := by omega
        have h3 : (5000 : Int) < ls.length := by omega
        refine Holds.step (Px := px) (T := TT) (ρ := fun _ => []) TTe (by simp (maxSteps := 100000) (disch := omega) only [go_sem, V.isAgg, V.flat, ↓reduceIte, Nat.reduceAdd, Nat.reduceSub, Nat.reduceLT, Nat.reduceEqDiff, reduceCtorEq, Nat.reduceLeDiff, Nat.reduceBEq, Nat.reduceMul, Int.reduceToNat, natsV, n1, n2, h3]; rfl) (by repeat' first | exact trivial | constructor) ?_
        refine Holds.condT rfl ?_
        refine Holds.step (Px := px) (T := TT) (ρ := fun _ => []) TTe (by simp (maxSteps := 100000) (disch := omega) only [go_sem, V.isAgg, V.flat, ↓reduceIte, Nat.reduceAdd, Nat.reduceSub, Nat.reduceLT, Nat.reduceEqDiff, reduceCtorEq, Nat.reduceLeDiff, Nat.reduceBEq, Nat.reduceMul, Int.reduceToNat]; rfl) (by repeat' first | exact trivial | constructor) ?_
        exact Holds.ret ⟨_, [], rfl, ⟨rfl, ⟨rfl, fun h => h⟩, trivial⟩, by simp [R.names, R.mems, R.blks], by simp, rfl⟩
/-
  The law FastJoins: the walk.
-/

def fjA (k : Nat) : AV := if k = 0 then .nil else .own 300 0 k
def fjX (ls : List (List Int)) (k : Nat) : List (List Int) := (ls.take k).map fun l => l.take 12
def fjB (ls : List (List Int)) (k : Nat) : List (Nat × Blk) := if k = 0 then [] else [(300, .buf 23 1 true ((fjX ls k).map words))]
theorem fjA_s (k : Nat) : fjA (k + 1) = .own 300 0 (k + 1) := if_neg (by omega)
theorem fjB_s (ls : List (List Int)) (k : Nat) : fjB ls (k + 1) = [(300, .buf 23 1 true ((fjX ls (k + 1)).map words))] := if_neg (by omega)
theorem fjX_len {ls : List (List Int)} {k : Nat} (h : k ≤ ls.length) : (fjX ls k).length = k := by rw [fjX, List.length_map, List.length_take]; omega
theorem fjX_succ {ls : List (List Int)} {k : Nat} (h : k < ls.length) : fjX ls (k + 1) = fjX ls k ++ [(ls.getD k []).take 12] := by
  rw [fjX, fjX, List.take_add_one, List.map_append, List.getElem?_eq_getElem h, List.getD_eq_getElem?_getD, List.getElem?_eq_getElem h]
  rfl

theorem rep_nats (N : Nat) : List.take N (List.replicate N (V.sl 1 [])) = (List.replicate N []).map words := by
  rw [List.take_of_length_le (by simp), List.map_replicate]; rfl
theorem jv_rep (N n : Nat) : ∀ k, k ≤ N → jv (List.replicate N []) n k = 0
  | 0, _ => rfl
  | k + 1, h => by
    rw [jv, jv_rep N n k (by omega), List.getD_eq_getElem?_getD, List.getElem?_replicate, if_pos (by omega)]
    rfl

theorem long_args : FnOk Try.prog 39 [.v (natsV (List.replicate 5001 [])), .v (.int .i64 1)] [.v true (words []), .v true (.int .i64 1)] :=
  Join_arg _ 1 (by rw [List.length_replicate]; decide) (fun l hl => by rw [(List.mem_replicate.1 hl).2]; exact Nat.zero_le _) (.inr (.inr (by rw [List.length_replicate]; decide)))
theorem zero_args : FnOk Try.prog 39 [.v (natsV (List.replicate 5000 [])), .v (.int .i64 (1000 : Nat))] [.v true (words []), .v true (.int .i64 0)] := by
  obtain ⟨N, hN⟩ : ∃ N, N = 5000 := ⟨_, rfl⟩
  rw [← hN]
  have h := JoinG_ok (List.replicate N []) 1000 (by rw [List.length_replicate]; omega) (by decide) (by decide) (fun l hl => by
    rw [(List.mem_replicate.1 hl).2]; exact ⟨Nat.zero_le _, fun n hn => by cases hn⟩) (fun k hk => by
    rw [List.length_replicate] at hk
    rw [jv_rep N _ k hk]
    exact Nat.lt_of_le_of_lt (digs_len (m := 0) (by decide)) (by decide))
  rw [List.length_replicate, jv_rep N _ N (Nat.le_refl _)] at h
  have e : fitR (digs 0) = ([], 0) := by decide +kernel
  rw [e] at h
  exact h

theorem FastJoins_ok (ls : List (List Int)) (n : Int) (ol : ∀ l ∈ ls, okW l) : FnOk Try.prog 9 [.v (natsV ls), .v (.int .i64 n)] [.v true (.bool true)] := by
  have ikd31 : ikd Try.prog 31 = some .u64 := by kernel_rfl
  have ikd3 : ikd Try.prog 3 = some .i64 := by kernel_rfl
  have und3 : (Try.prog.underlying 3).isSome = true := by kernel_rfl
  have und31 : (Try.prog.underlying 31).isSome = true := by kernel_rfl
  obtain ⟨M, hM⟩ : ∃ M, M = min ls.length 12 := ⟨_, rfl⟩
  have hMX : (fjX ls M).length = M := fjX_len (by omega)
  have hMl : ∀ l ∈ fjX ls M, l.length ≤ 12 ∧ okW l := fun l hl => by
    obtain ⟨l', hl', rfl⟩ := List.mem_map.1 hl
    exact ⟨by rw [List.length_take]; omega, okW_take (ol _ (List.mem_of_mem_take hl')) 12⟩
  refine FnOk.of Try.func9 rfl rfl fun cx w0 => ?_
  rw [show Try.f9.ntmps = 119 from rfl]
  refine Holds.step (Px := px) (T := TT) (ρ := fun _ => []) TTe (by simp (maxSteps := 100000) (disch := omega) only [go_sem, V.isAgg, V.flat, ↓reduceIte, Nat.reduceAdd, Nat.reduceSub, Nat.reduceLT, Nat.reduceEqDiff, reduceCtorEq, Nat.reduceLeDiff, Nat.reduceBEq, Nat.reduceMul, Int.reduceToNat, List.length_cons, List.length_nil]; rfl) (by repeat' first | exact trivial | constructor) ?_
  refine Holds.step (Px := px) (T := TT) (ρ := fun _ => []) TTe (by simp (maxSteps := 100000) (disch := omega) only [go_sem, V.isAgg, V.flat, ↓reduceIte, Nat.reduceAdd, Nat.reduceSub, Nat.reduceLT, Nat.reduceEqDiff, reduceCtorEq, Nat.reduceLeDiff, Nat.reduceBEq, Nat.reduceMul, Int.reduceToNat]; rfl) (by repeat' first | exact trivial | constructor) ?_
  refine Holds.next (fun σ => ∀ a w, Rel cx w0 σ a w → Rel cx w0 { nt := 119, env := [(5, fjA M), (1, .v true (.int .i64 n))], mem := fjB ls M } a w) ?_ ?_
  · refine Holds.step (Px := px) (T := TT) (ρ := fun _ => []) TTe (by simp (maxSteps := 100000) (disch := omega) only [go_sem, V.isAgg, V.flat, ↓reduceIte, Nat.reduceAdd, Nat.reduceSub, Nat.reduceLT, Nat.reduceEqDiff, reduceCtorEq, Nat.reduceLeDiff, Nat.reduceBEq, Nat.reduceMul, Int.reduceToNat]; rfl) (by repeat' first | exact trivial | constructor) ?_
    refine Holds.loopB (fun k : Nat => { nt := 119, env := [(6, .v true (.int .i64 k)), (5, fjA k), (0, .v false (natsV ls)), (1, .v true (.int .i64 n))], mem := fjB ls k }) (fun k => k ≤ M) (fun k => M - k) 0 (Nat.zero_le _) (fun a w h => Rel.keep [6, 5, 0, 1] [] h) ?_
    intro k hk
    by_cases hend : k = M
    · refine Holds.seq ?_
      by_cases h1 : k < ls.length
      · have h2 : ¬ (k : Int) < 12 := by omega
        refine Holds.step (Px := px) (T := TT) (ρ := fun _ => []) TTe (by simp (maxSteps := 100000) (disch := omega) only [go_sem, V.isAgg, V.flat, ↓reduceIte, Nat.reduceAdd, Nat.reduceSub, Nat.reduceLT, Nat.reduceEqDiff, reduceCtorEq, Nat.reduceLeDiff, Nat.reduceBEq, Nat.reduceMul, Int.reduceToNat, natsV, h1, h2]; rfl) (by repeat' first | exact trivial | constructor) ?_
        refine Holds.condF rfl (Holds.exit ⟨rfl, fun a w h => ?_⟩)
        rw [← hend]
        exact Rel.less [5, 1] (fun _ => rfl) h
      · refine Holds.step (Px := px) (T := TT) (ρ := fun _ => []) TTe (by simp (maxSteps := 100000) (disch := omega) only [go_sem, V.isAgg, V.flat, ↓reduceIte, Nat.reduceAdd, Nat.reduceSub, Nat.reduceLT, Nat.reduceEqDiff, reduceCtorEq, Nat.reduceLeDiff, Nat.reduceBEq, Nat.reduceMul, Int.reduceToNat, natsV, h1]; rfl) (by repeat' first | exact trivial | constructor) ?_
        refine Holds.condF rfl (Holds.exit ⟨rfl, fun a w h => ?_⟩)
        rw [← hend]
        exact Rel.less [5, 1] (fun _ => rfl) h
    · have hkl : k < ls.length := by omega
      have hk12 : k < 12 := by omega
      have gk := get_mapL hkl
      have hf := few_ok (ls.getD k []) 12 (by omega)
      have hXl := fjX_len (ls := ls) (k := k) (by omega)
      have hXs := fjX_succ hkl
      obtain ⟨y, hy⟩ : ∃ y, y = ls.getD k [] := ⟨_, rfl⟩
      rw [← hy] at gk hf hXs
      refine Holds.seq ?_
      refine Holds.step (Px := px) (T := TT) (ρ := fun _ => []) TTe (by simp (maxSteps := 100000) (disch := omega) only [go_sem, V.isAgg, V.flat, ↓reduceIte, Nat.reduceAdd, Nat.reduceSub, Nat.reduceLT, Nat.reduceEqDiff, reduceCtorEq, Nat.reduceLeDiff, Nat.reduceBEq, Nat.reduceMul, Int.reduceToNat, natsV]; rfl) (by repeat' first | exact trivial | constructor) ?_
      refine Holds.condT rfl (Holds.skip ?_)
      refine Holds.next (fun σ => ∀ a w, Rel cx w0 σ a w → Rel cx w0 { nt := 119, env := [(6, .v true (.int .i64 k)), (5, fjA (k + 1)), (0, .v false (natsV ls)), (1, .v true (.int .i64 n))], mem := fjB ls (k + 1) } a w) ?_ ?_
      · refine Holds.blockN ?_
        rcases k with _ | k
        · refine Holds.region (Px := px) (T := TT) (ρ := fun _ => [.v true (words (y.take 12))]) TTe (by simp (maxSteps := 100000) (disch := omega) only [go_sem, V.isAgg, V.flat, ↓reduceIte, Nat.reduceAdd, Nat.reduceSub, Nat.reduceLT, Nat.reduceEqDiff, reduceCtorEq, Nat.reduceLeDiff, Nat.reduceBEq, Nat.reduceMul, Int.reduceToNat, fjA, fjB, natsV, elt25, esz25, tsz23, agg23, gk]; rfl) (by first | exact hf | (repeat' first | exact trivial | exact hf | constructor)) ?_
          intro a w h
          have := Rel.ren (s := 32) (s' := 300) (Rel.keep [6, 5, 0, 1] [32] h) (by decide) rfl rfl
          rw [fjB, if_neg (by omega), hXs, fjA, if_neg (by omega)]
          exact this
        · rw [fjA_s, fjB_s]
          refine Holds.region (Px := px) (T := TT) (ρ := fun _ => [.v true (words (y.take 12))]) TTe (by simp (maxSteps := 100000) (disch := omega) only [go_sem, V.isAgg, V.flat, ↓reduceIte, Nat.reduceAdd, Nat.reduceSub, Nat.reduceLT, Nat.reduceEqDiff, reduceCtorEq, Nat.reduceLeDiff, Nat.reduceBEq, Nat.reduceMul, Int.reduceToNat, natsV, elt25, esz25, tsz23, agg23, gk, hXl]; rfl) (by first | exact hf | (repeat' first | exact trivial | exact hf | constructor)) ?_
          intro a w h
          have := Rel.ren (s := 32) (s' := 300) (Rel.keep [6, 5, 0, 1] [32] h) (by decide) rfl rfl
          rw [fjB, if_neg (by omega), hXs, fjA, if_neg (by omega), List.map_append]
          exact this
      · intro σ hσ
        refine Holds.from hσ ?_
        refine Holds.region (Px := px) (T := TT) (ρ := fun _ => []) TTe (by simp (maxSteps := 100000) (disch := omega) only [go_sem, V.isAgg, V.flat, ↓reduceIte, Nat.reduceAdd, Nat.reduceSub, Nat.reduceLT, Nat.reduceEqDiff, reduceCtorEq, Nat.reduceLeDiff, Nat.reduceBEq, Nat.reduceMul, Int.reduceToNat]; rfl) (by repeat' first | exact trivial | constructor) ?_
        exact ⟨k + 1, (by show k + 1 ≤ M; omega), (show M - (k + 1) < M - k by omega), fun a w h => Rel.less [6, 5, 0, 1] (fun _ => rfl) h⟩
  · intro σ hσ
    refine Holds.from hσ ?_
    obtain ⟨X, hX⟩ : ∃ X, X = fjX ls M := ⟨_, rfl⟩
    rw [← hX] at hMX hMl
    refine Holds.from (σ' := { nt := 119, env := [(5, .v true (natsV X)), (1, .v true (.int .i64 n))], mem := [] }) (fun a w h => ?_) ?_
    · rw [fjA, fjB, ← hX] at h
      by_cases h0 : M = 0
      · rw [if_pos h0, if_pos h0] at h
        have hX0 : X = [] := List.eq_nil_of_length_eq_zero (by omega)
        rw [hX0]
        exact Rel.keep [5, 1] [] (Rel.nilV (t := 5) (z := 1) rfl h)
      · rw [if_neg h0, if_neg h0] at h
        have := Rel.keep [5, 1] [] (Rel.freeze (s := 300) (e := 23) (z := 1) (nw := true) (xs := X.map words) h rfl)
        have htk : (List.map words X).take M = List.map words X := List.take_of_length_le (by rw [List.length_map]; omega)
        rw [show natsV X = .sl 1 (((X.map words).drop 0).take M) from by rw [List.drop_zero, htk]; rfl]
        exact this
    · refine Holds.next (fun σ => ∀ a w, Rel cx w0 σ a w → Rel cx w0 { nt := 119, env := [], mem := [] } a w) ?_ ?_
      · refine Holds.step (Px := px) (T := TT) (ρ := fun _ => []) TTe (by simp (maxSteps := 100000) (disch := omega) only [go_sem, V.isAgg, V.flat, ↓reduceIte, Nat.reduceAdd, Nat.reduceSub, Nat.reduceLT, Nat.reduceEqDiff, reduceCtorEq, Nat.reduceLeDiff, Nat.reduceBEq, Nat.reduceMul, Int.reduceToNat]; rfl) (by repeat' first | exact trivial | constructor) ?_
        refine Holds.loopB (fun i : Nat × Int => { nt := 119, env := [(7, .v true (.int .i64 (i.1 : Int))), (5, .v true (natsV X)), (1, .v true (.int .i64 i.2))], mem := [] }) (fun i => i.1 ≤ 2) (fun i => 2 - i.1) (0, n) (Nat.zero_le _) (fun a w h => Rel.keep [7, 5, 1] [] h) ?_
        rintro ⟨i, n⟩ hi
        simp only at hi
        by_cases hend : i = 2
        · refine Holds.seq ?_
          refine Holds.step (Px := px) (T := TT) (ρ := fun _ => []) TTe (by simp (maxSteps := 100000) (disch := omega) only [go_sem, V.isAgg, V.flat, ↓reduceIte, Nat.reduceAdd, Nat.reduceSub, Nat.reduceLT, Nat.reduceEqDiff, reduceCtorEq, Nat.reduceLeDiff, Nat.reduceBEq, Nat.reduceMul, Int.reduceToNat]; rfl) (by repeat' first | exact trivial | constructor) ?_
          exact Holds.condF rfl (Holds.exit ⟨rfl, fun a w h => Rel.keep [] [] h⟩)
        · refine Holds.seq ?_
          refine Holds.step (Px := px) (T := TT) (ρ := fun _ => []) TTe (by simp (maxSteps := 100000) (disch := omega) only [go_sem, V.isAgg, V.flat, ↓reduceIte, Nat.reduceAdd, Nat.reduceSub, Nat.reduceLT, Nat.reduceEqDiff, reduceCtorEq, Nat.reduceLeDiff, Nat.reduceBEq, Nat.reduceMul, Int.reduceToNat]; rfl) (by repeat' first | exact trivial | constructor) ?_
          refine Holds.condT rfl (Holds.skip ?_)
          obtain ⟨j, hj⟩ : ∃ j : Nat, j = ((n % 18446744073709551616).tmod 9).toNat := ⟨_, rfl⟩
          have hj1 : (n % 18446744073709551616).tmod 9 = (n % 18446744073709551616) % 9 := Int.tmod_eq_emod_of_nonneg (by omega)
          have hjm : (n % 18446744073709551616).tmod 9 = j := by omega
          have hj7 : j < 9 := by omega
          refine Holds.next (fun σ => ∀ a w, Rel cx w0 σ a w → Rel cx w0 { nt := 119, env := [(7, .v true (.int .i64 (i : Int))), (5, .v true (natsV X)), (1, .v true (.int .i64 (1 + (j : Int))))], mem := [] } a w) ?_ ?_
          · refine Holds.blockN ?_
            by_cases hb : n < 1 ∨ 1000 < n
            · have hs := Join_arg X n (by omega) (fun l hl => by have := (hMl l hl).1; omega) (by omega)
              refine Holds.step (Px := px) (T := TT) (ρ := fun _ => [.v true (words []), .v true (.int .i64 1)]) TTe (by simp (maxSteps := 100000) (disch := omega) only [go_sem, V.isAgg, V.flat, ↓reduceIte, Nat.reduceAdd, Nat.reduceSub, Nat.reduceLT, Nat.reduceEqDiff, reduceCtorEq, Nat.reduceLeDiff, Nat.reduceBEq, Nat.reduceMul, Int.reduceToNat]; rfl) (by first | exact hs | (repeat' first | exact trivial | exact hs | constructor)) ?_
              refine Holds.next (fun σ => ∀ a w, Rel cx w0 σ a w → Rel cx w0 { nt := 119, env := [(7, .v true (.int .i64 (i : Int))), (5, .v true (natsV X)), (1, .v true (.int .i64 n))], mem := [] } a w) ?tl ?_
              case tl =>
                by_cases h1 : n < 1
                · refine Holds.step (Px := px) (T := TT) (ρ := fun _ => []) TTe (by simp (maxSteps := 100000) (disch := omega) only [go_sem, V.isAgg, V.flat, ↓reduceIte, Nat.reduceAdd, Nat.reduceSub, Nat.reduceLT, Nat.reduceEqDiff, reduceCtorEq, Nat.reduceLeDiff, Nat.reduceBEq, Nat.reduceMul, Int.reduceToNat, h1]; rfl) (by repeat' first | exact trivial | constructor) ?_
                  refine Holds.condT rfl ?_
                  refine Holds.step (Px := px) (T := TT) (ρ := fun _ => []) TTe (by simp (maxSteps := 100000) (disch := omega) only [go_sem, V.isAgg, V.flat, ↓reduceIte, Nat.reduceAdd, Nat.reduceSub, Nat.reduceLT, Nat.reduceEqDiff, reduceCtorEq, Nat.reduceLeDiff, Nat.reduceBEq, Nat.reduceMul, Int.reduceToNat]; rfl) (by repeat' first | exact trivial | constructor) ?_
                  exact Holds.condF rfl (Holds.skip fun a w h => Rel.keep [7, 5, 1] [] h)
                · have h2 : 1000 < n := by omega
                  refine Holds.step (Px := px) (T := TT) (ρ := fun _ => []) TTe (by simp (maxSteps := 100000) (disch := omega) only [go_sem, V.isAgg, V.flat, ↓reduceIte, Nat.reduceAdd, Nat.reduceSub, Nat.reduceLT, Nat.reduceEqDiff, reduceCtorEq, Nat.reduceLeDiff, Nat.reduceBEq, Nat.reduceMul, Int.reduceToNat, h1, h2]; rfl) (by repeat' first | exact trivial | constructor) ?_
                  refine Holds.condT rfl ?_
                  refine Holds.step (Px := px) (T := TT) (ρ := fun _ => []) TTe (by simp (maxSteps := 100000) (disch := omega) only [go_sem, V.isAgg, V.flat, ↓reduceIte, Nat.reduceAdd, Nat.reduceSub, Nat.reduceLT, Nat.reduceEqDiff, reduceCtorEq, Nat.reduceLeDiff, Nat.reduceBEq, Nat.reduceMul, Int.reduceToNat]; rfl) (by repeat' first | exact trivial | constructor) ?_
                  exact Holds.condF rfl (Holds.skip fun a w h => Rel.keep [7, 5, 1] [] h)
              intro σ hσ
              refine Holds.from hσ ?_
              refine Holds.region (Px := px) (T := TT) (ρ := fun _ => []) TTe (by simp (maxSteps := 100000) (disch := omega) only [go_sem, V.isAgg, V.flat, ↓reduceIte, Nat.reduceAdd, Nat.reduceSub, Nat.reduceLT, Nat.reduceEqDiff, reduceCtorEq, Nat.reduceLeDiff, Nat.reduceBEq, Nat.reduceMul, Int.reduceToNat, ikd31, ikd3, und3, und31, wrap_u64, hjm]; rfl) (by repeat' first | exact trivial | constructor) ?_
              exact fun a w h => Rel.keep [7, 5, 1] [] h
            · obtain ⟨m, rfl⟩ : ∃ m : Nat, n = m := ⟨n.toNat, by omega⟩
              have h1 : ¬ (m : Int) < 1 := by omega
              have h2 : ¬ 1000 < (m : Int) := by omega
              have hm : 1 ≤ m := by omega
              have hXM : X.length ≤ 12 := by omega
              have hMl' : ∀ l ∈ X, l.length ≤ 4096 ∧ okW l := fun l hl => ⟨by have := (hMl l hl).1; omega, (hMl l hl).2⟩
              have hsz : ∀ k, k ≤ X.length → (digs (jv X m k)).length ≤ 12012 := fun k hk => by
                have h1 := digs_len (jv_lt hm hMl k hk)
                have h2 : k * m ≤ 12 * 1000 := Nat.mul_le_mul (by omega) (by omega)
                omega
              have hs := JoinG_ok X m (by omega) hm (by omega) hMl' (fun k hk => by have := hsz k hk; omega)
              have hr := rJoin_ok X m (by omega) hm (by omega) hMl'
              have hszX := hsz X.length (Nat.le_refl _)
              obtain ⟨oD, zD, vD⟩ := digs_ok (jv X m X.length)
              obtain ⟨D, hD⟩ : ∃ D, D = digs (jv X m X.length) := ⟨_, rfl⟩
              rw [← hD] at hs hr hszX
              have hLg := rLarge_ok D (by omega)
              have hIs := Is_ok D D (by omega) (by omega) (by rw [hD, vD, ← hD]; omega) (by rw [hD]; exact oD)
              rw [show digs (val D) = D from by rw [hD, vD], decide_eq_true rfl] at hIs
              refine Holds.next (fun σ => ∀ a w, Rel cx w0 σ a w → Rel cx w0 { nt := 119, env := [(8, .v true (words (fitR D).1)), (9, .v true (.int .i64 (fitR D).2)), (7, .v true (.int .i64 (i : Int))), (5, .v true (natsV X)), (1, .v true (.int .i64 m))], mem := [] } a w) ?h0 ?_
              case h0 =>
                refine Holds.region (Px := px) (T := TT) (ρ := fun _ => [.v true (words (fitR D).1), .v true (.int .i64 (fitR D).2)]) TTe (by simp (maxSteps := 100000) (disch := omega) only [go_sem, V.isAgg, V.flat, ↓reduceIte, Nat.reduceAdd, Nat.reduceSub, Nat.reduceLT, Nat.reduceEqDiff, reduceCtorEq, Nat.reduceLeDiff, Nat.reduceBEq, Nat.reduceMul, Int.reduceToNat]; rfl) (by first | exact hs | (repeat' first | exact trivial | exact hs | constructor)) ?_
                exact fun a w h => Rel.keep [8, 9, 7, 5, 1] [] h
              intro σ hσ
              refine Holds.from hσ ?_
              refine Holds.next (fun σ => ∀ a w, Rel cx w0 σ a w → Rel cx w0 { nt := 119, env := [(7, .v true (.int .i64 (i : Int))), (5, .v true (natsV X)), (1, .v true (.int .i64 m))], mem := [] } a w) ?tl ?_
              case tl =>
                refine Holds.step (Px := px) (T := TT) (ρ := fun _ => []) TTe (by simp (maxSteps := 100000) (disch := omega) only [go_sem, V.isAgg, V.flat, ↓reduceIte, Nat.reduceAdd, Nat.reduceSub, Nat.reduceLT, Nat.reduceEqDiff, reduceCtorEq, Nat.reduceLeDiff, Nat.reduceBEq, Nat.reduceMul, Int.reduceToNat, h1, h2]; rfl) (by repeat' first | exact trivial | constructor) ?_
                refine Holds.condF rfl ?_
                refine Holds.step (Px := px) (T := TT) (ρ := fun _ => [.v true (words D)]) TTe (by simp (maxSteps := 100000) (disch := omega) only [go_sem, V.isAgg, V.flat, ↓reduceIte, Nat.reduceAdd, Nat.reduceSub, Nat.reduceLT, Nat.reduceEqDiff, reduceCtorEq, Nat.reduceLeDiff, Nat.reduceBEq, Nat.reduceMul, Int.reduceToNat]; rfl) (by first | exact hr | (repeat' first | exact trivial | exact hr | constructor)) ?_
                by_cases hl : 4096 < D.length
                · rw [fitR, if_pos hl]
                  rw [decide_eq_true hl] at hLg
                  refine Holds.step (Px := px) (T := TT) (ρ := fun _ => [.v true (.bool true)]) TTe (by simp (maxSteps := 100000) (disch := omega) only [go_sem, V.isAgg, V.flat, ↓reduceIte, Nat.reduceAdd, Nat.reduceSub, Nat.reduceLT, Nat.reduceEqDiff, reduceCtorEq, Nat.reduceLeDiff, Nat.reduceBEq, Nat.reduceMul, Int.reduceToNat, unA]; rfl) (by first | exact ⟨hLg, hLg⟩ | (repeat' first | exact trivial | exact hLg | exact hLg | constructor)) ?_
                  exact Holds.condF rfl (Holds.skip fun a w h => Rel.keep [7, 5, 1] [] h)
                · rw [fitR, if_neg hl]
                  rw [decide_eq_false hl] at hLg
                  refine Holds.step (Px := px) (T := TT) (ρ := fun d => if d = 80 then [.v true (.bool true)] else [.v true (.bool false)]) TTe (by simp (maxSteps := 100000) (disch := omega) only [go_sem, V.isAgg, V.flat, ↓reduceIte, Nat.reduceAdd, Nat.reduceSub, Nat.reduceLT, Nat.reduceEqDiff, reduceCtorEq, Nat.reduceLeDiff, Nat.reduceBEq, Nat.reduceMul, Int.reduceToNat, unA]; rfl) (by first | exact ⟨hLg, hLg, hIs⟩ | (repeat' first | exact trivial | exact hLg | exact hLg | exact hIs | constructor)) ?_
                  exact Holds.condF rfl (Holds.skip fun a w h => Rel.keep [7, 5, 1] [] h)
              intro σ hσ
              refine Holds.from hσ ?_
              refine Holds.region (Px := px) (T := TT) (ρ := fun _ => []) TTe (by simp (maxSteps := 100000) (disch := omega) only [go_sem, V.isAgg, V.flat, ↓reduceIte, Nat.reduceAdd, Nat.reduceSub, Nat.reduceLT, Nat.reduceEqDiff, reduceCtorEq, Nat.reduceLeDiff, Nat.reduceBEq, Nat.reduceMul, Int.reduceToNat, ikd31, ikd3, und3, und31, wrap_u64, hjm]; rfl) (by repeat' first | exact trivial | constructor) ?_
              exact fun a w h => Rel.keep [7, 5, 1] [] h
          · intro σ hσ
            refine Holds.from hσ ?_
            refine Holds.region (Px := px) (T := TT) (ρ := fun _ => []) TTe (by simp (maxSteps := 100000) (disch := omega) only [go_sem, V.isAgg, V.flat, ↓reduceIte, Nat.reduceAdd, Nat.reduceSub, Nat.reduceLT, Nat.reduceEqDiff, reduceCtorEq, Nat.reduceLeDiff, Nat.reduceBEq, Nat.reduceMul, Int.reduceToNat]; rfl) (by repeat' first | exact trivial | constructor) ?_
            exact ⟨(i + 1, 1 + (j : Int)), by show i + 1 ≤ 2; omega, (show 2 - (i + 1) < 2 - i by omega), fun a w h => Rel.keep [7, 5, 1] [] h⟩
      · intro σ hσ
        refine Holds.from hσ ?_
        refine Holds.step (Px := px3) (T := TT3) (ρ := fun _ => [.v true (words []), .v true (.int .i64 1)]) TT3e (by simp (maxSteps := 100000) (disch := omega) only [-List.reduceReplicate, rep_nats, natsV, zt3_23, elt25, esz25, tsz23, tby23, go_sem, V.isAgg, V.flat, ↓reduceIte, Nat.reduceAdd, Nat.reduceSub, Nat.reduceLT, Nat.reduceEqDiff, reduceCtorEq, Nat.reduceLeDiff, Nat.reduceBEq, Nat.reduceMul, Int.reduceToNat]; rfl) (by exact long_args) ?_
        refine Holds.step (Px := px3) (T := TT3) (ρ := fun _ => [.v true (words []), .v true (.int .i64 0)]) TT3e (by simp (maxSteps := 100000) (disch := omega) only [-List.reduceReplicate, rep_nats, natsV, zt3_23, elt25, esz25, tsz23, tby23, go_sem, V.isAgg, V.flat, ↓reduceIte, Nat.reduceAdd, Nat.reduceSub, Nat.reduceLT, Nat.reduceEqDiff, reduceCtorEq, Nat.reduceLeDiff, Nat.reduceBEq, Nat.reduceMul, Int.reduceToNat]; rfl) (by exact zero_args) ?_
        refine Holds.step (Px := px) (T := TT) (ρ := fun _ => [.v true (.bool true)]) TTe (by simp (maxSteps := 100000) (disch := omega) only [go_sem, V.isAgg, V.flat, ↓reduceIte, Nat.reduceAdd, Nat.reduceSub, Nat.reduceLT, Nat.reduceEqDiff, reduceCtorEq, Nat.reduceLeDiff, Nat.reduceBEq, Nat.reduceMul, Int.reduceToNat]; rfl) (by first | exact awake_ok | (repeat' first | exact trivial | exact awake_ok | constructor)) ?_
        exact Holds.ret (RetOk.vs rfl (by exact ⟨⟨rfl, fun h => h⟩, trivial⟩) rfl)
end Go.Proofs.Ytjmclobbfabnpaa.L
