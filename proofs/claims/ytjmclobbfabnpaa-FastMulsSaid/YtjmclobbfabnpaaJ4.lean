/-
  Pe
-/
import Derived.Test.YtjmclobbfabnpaaJ3
set_option linter.unusedSimpArgs false
set_option linter.unusedVariables false
/-
  reckonerref02: Low, Right by whole words; reckonerref03.Split.
-/
namespace Go.Proofs.Ytjmclobbfabnpaa.L
open Go Go.RowKit Go.Proofs
attribute [local go_sem] evalOps_nil evalOps_cons runW_t runW_f runE_s runP_s wantA evalOp effOp letters okDst coreA St.opv St.get St.at look constA St.put St.upd St.set decide_true List.all_nil List.all_cons Bool.and_true Bool.true_and and_self and_true true_and if_true if_false true_or Int.sub_zero List.nil_append List.cons_append List.append_nil Option.isSome_some List.getElem?_toArray List.getElem?_cons_succ List.getElem?_cons_zero Option.bind_some Option.map_some Option.map_none beq_self_eq_true Bool.false_beq Bool.true_beq Bool.not_true Bool.not_false Bool.false_eq_true cond_true cond_false binA binI List.map_cons List.map_nil boundA List.length_nil List.length_cons Nat.zero_mul Nat.one_mul Nat.mul_one Nat.zero_add Nat.add_zero Nat.zero_le Option.toList St.freshB AV.ment AV.ments Blk.ment V.sizes Nat.lt_add_one Bool.or_true Bool.true_or Bool.or_false Bool.false_or Bool.or_self if_pos if_neg decide_false decide_eq_true decide_eq_false wrap_i64 Int.toNat_natCast minA maxA Int.natCast_add Int.cast_ofNat_Int Option.isSome_none false_implies true_implies forall_const List.drop_zero Int.toNat_zero Int.add_sub_cancel lenA sliceA loadA indexAddrA partA fitsT V.atP V.offP V.size List.length_map List.getElem?_map Int.toNat_natCast_add_one Int.ofNat_eq_natCast TY calleeA capArg knotA capArgs toArgs toArg callA R.res R.mems R.blks R.av R.names R.nw invokeA storeA storeV fieldAddrA liveB V.off V.offs V.setP List.set_cons_zero List.set_cons_succ buildA buildP partsA appendA srcA copyA boxOk makeA AV.pure List.take_succ_cons List.take_zero nilA words entry List.zipIdx_cons List.zipIdx_nil Arg.av Arg.avs

theorem okW_drop {l : List Int} (h : okW l) (k : Nat) : okW (l.drop k) := fun n hn => h n (List.mem_of_mem_drop hn)
theorem noZ_drop : ∀ {l : List Int}, noZ l → ∀ k, noZ (l.drop k)
  | _, h, 0 => h
  | [], _, k + 1 => by simp [noZ]
  | x :: r, h, k + 1 => by rw [List.drop_succ_cons]; exact noZ_drop (noZ_cons h) k

def loA (k : Nat) : AV := if k = 0 then .nil else .own 300 0 k
def loB (x : List Int) (k : Nat) : List (Nat × Blk) := if k = 0 then [] else [(300, .buf 69 1 true ((x.take k).map fun n => .int .u64 n))]

theorem loA_s (k : Nat) : loA (k + 1) = .own 300 0 (k + 1) := if_neg (by omega)
theorem loB_s (x : List Int) (k : Nat) : loB x (k + 1) = [(300, .buf 69 1 true ((x.take (k + 1)).map fun n => .int .u64 n))] := if_neg (by omega)
theorem Low_ok (x : List Int) (m : Nat) (hx : x.length < 100000) (hm : m < 1000000) (ox : okW x) : FnOk Try.prog 35 [.v (words x), .v (.int .i64 (64 * (m : Int)))] [.v true (words (digs (val (x.take m))))] := by
  obtain ⟨M, hM⟩ : ∃ M, M = min m x.length := ⟨_, rfl⟩
  have htk : x.take M = x.take m := by
    rw [hM]
    by_cases h : m ≤ x.length
    · rw [Nat.min_eq_left h]
    · rw [Nat.min_eq_right (by omega), List.take_length, List.take_of_length_le (by omega)]
  have hT := rTrim_ok (x.take m) (by rw [List.length_take]; omega) (okW_take ox m)
  rw [← htk] at hT
  rw [← htk]
  refine FnOk.of Try.func35 rfl rfl fun cx w0 => ?_
  rw [show Try.f35.ntmps = 42 from rfl]
  refine Holds.step (Px := px) (T := TT) (ρ := fun _ => []) TTe (by simp (maxSteps := 100000) (disch := omega) only [go_sem, V.isAgg, V.flat, ↓reduceIte, Nat.reduceAdd, Nat.reduceSub, Nat.reduceLT, Nat.reduceEqDiff, reduceCtorEq, Nat.reduceLeDiff, Nat.reduceBEq, Nat.reduceMul, Int.reduceToNat, List.length_cons, List.length_nil]; rfl) (by repeat' first | exact trivial | constructor) ?_
  refine Holds.step (Px := px) (T := TT) (ρ := fun _ => []) TTe (by simp (maxSteps := 100000) (disch := omega) only [go_sem, V.isAgg, V.flat, ↓reduceIte, Nat.reduceAdd, Nat.reduceSub, Nat.reduceLT, Nat.reduceEqDiff, reduceCtorEq, Nat.reduceLeDiff, Nat.reduceBEq, Nat.reduceMul, Int.reduceToNat]; rfl) (by repeat' first | exact trivial | constructor) ?_
  refine Holds.next (fun σ => ∀ a w, Rel cx w0 σ a w → Rel cx w0 { nt := 42, env := [(5, loA M)], mem := loB x M } a w) ?_ ?_
  · refine Holds.step (Px := px) (T := TT) (ρ := fun _ => []) TTe (by simp (maxSteps := 100000) (disch := omega) only [go_sem, V.isAgg, V.flat, ↓reduceIte, Nat.reduceAdd, Nat.reduceSub, Nat.reduceLT, Nat.reduceEqDiff, reduceCtorEq, Nat.reduceLeDiff, Nat.reduceBEq, Nat.reduceMul, Int.reduceToNat]; rfl) (by repeat' first | exact trivial | constructor) ?_
    refine Holds.loopB (fun k : Nat => { nt := 42, env := [(6, .v true (.int .i64 k)), (5, loA k), (0, .v false (words x)), (1, .v true (.int .i64 (64 * (m : Int))))], mem := loB x k }) (fun k => k ≤ M) (fun k => M - k) 0 (Nat.zero_le _) (fun a w hr => Rel.keep [6, 5, 0, 1] [] hr) ?_
    intro k hk
    by_cases hend : k = M
    · refine Holds.seq ?_
      by_cases h1 : k < x.length
      · have h2 : ¬ 64 * (k : Int) < 64 * m := by omega
        refine Holds.step (Px := px) (T := TT) (ρ := fun _ => []) TTe (by simp (maxSteps := 100000) (disch := omega) only [go_sem, V.isAgg, V.flat, ↓reduceIte, Nat.reduceAdd, Nat.reduceSub, Nat.reduceLT, Nat.reduceEqDiff, reduceCtorEq, Nat.reduceLeDiff, Nat.reduceBEq, Nat.reduceMul, Int.reduceToNat, h1, h2]; rfl) (by repeat' first | exact trivial | constructor) ?_
        refine Holds.condF rfl (Holds.exit ⟨rfl, fun a w hr => ?_⟩)
        rw [← hend]
        exact Rel.less [5] (fun _ => rfl) hr
      · refine Holds.step (Px := px) (T := TT) (ρ := fun _ => []) TTe (by simp (maxSteps := 100000) (disch := omega) only [go_sem, V.isAgg, V.flat, ↓reduceIte, Nat.reduceAdd, Nat.reduceSub, Nat.reduceLT, Nat.reduceEqDiff, reduceCtorEq, Nat.reduceLeDiff, Nat.reduceBEq, Nat.reduceMul, Int.reduceToNat, h1]; rfl) (by repeat' first | exact trivial | constructor) ?_
        refine Holds.condF rfl (Holds.exit ⟨rfl, fun a w hr => ?_⟩)
        rw [← hend]
        exact Rel.less [5] (fun _ => rfl) hr
    · have hkx : k < x.length := by omega
      have hkm : k < m := by omega
      have hlt : (x.take k).length = k := by rw [List.length_take]; omega
      refine Holds.seq ?_
      refine Holds.step (Px := px) (T := TT) (ρ := fun _ => []) TTe (by simp (maxSteps := 100000) (disch := omega) only [go_sem, V.isAgg, V.flat, ↓reduceIte, Nat.reduceAdd, Nat.reduceSub, Nat.reduceLT, Nat.reduceEqDiff, reduceCtorEq, Nat.reduceLeDiff, Nat.reduceBEq, Nat.reduceMul, Int.reduceToNat]; rfl) (by repeat' first | exact trivial | constructor) ?_
      refine Holds.condT rfl (Holds.skip ?_)
      refine Holds.next (fun σ => ∀ a w, Rel cx w0 σ a w → Rel cx w0 { nt := 42, env := [(6, .v true (.int .i64 k)), (5, loA (k + 1)), (0, .v false (words x)), (1, .v true (.int .i64 (64 * (m : Int))))], mem := loB x (k + 1) } a w) ?_ ?_
      · refine Holds.blockN ?_
        refine Holds.step (Px := px) (T := TT) (ρ := fun _ => []) TTe (by simp (maxSteps := 100000) (disch := omega) only [go_sem, V.isAgg, V.flat, ↓reduceIte, Nat.reduceAdd, Nat.reduceSub, Nat.reduceLT, Nat.reduceEqDiff, reduceCtorEq, Nat.reduceLeDiff, Nat.reduceBEq, Nat.reduceMul, Int.reduceToNat, get_map hkx]; rfl) (by repeat' first | exact trivial | constructor) ?_
        refine Holds.next (fun σ => ∀ a w, Rel cx w0 σ a w → Rel cx w0 { nt := 42, env := [(7, .v true (.int .u64 (x.getD k 0))), (6, .v true (.int .i64 k)), (5, loA k), (0, .v false (words x)), (1, .v true (.int .i64 (64 * (m : Int))))], mem := loB x k } a w) ?_ ?_
        · refine Holds.step (Px := px) (T := TT) (ρ := fun _ => []) TTe (by simp (maxSteps := 100000) (disch := omega) only [go_sem, V.isAgg, V.flat, ↓reduceIte, Nat.reduceAdd, Nat.reduceSub, Nat.reduceLT, Nat.reduceEqDiff, reduceCtorEq, Nat.reduceLeDiff, Nat.reduceBEq, Nat.reduceMul, Int.reduceToNat]; rfl) (by repeat' first | exact trivial | constructor) ?_
          exact Holds.condF rfl (Holds.skip fun a w hr => Rel.less [7, 6, 5, 0, 1] (fun _ => rfl) hr)
        · intro σ hσ
          refine Holds.from hσ ?_
          rcases k with _ | k
          · refine Holds.region (Px := px) (T := TT) (ρ := fun _ => []) TTe (by simp (maxSteps := 100000) (disch := omega) only [go_sem, V.isAgg, V.flat, ↓reduceIte, Nat.reduceAdd, Nat.reduceSub, Nat.reduceLT, Nat.reduceEqDiff, reduceCtorEq, Nat.reduceLeDiff, Nat.reduceBEq, Nat.reduceMul, Int.reduceToNat, loA, loB]; rfl) (by repeat' first | exact trivial | constructor) ?_
            intro a w h
            have := Rel.ren (s := 39) (s' := 300) (Rel.keep [6, 5, 0, 1] [39] h) (by decide) rfl rfl
            rw [loB, if_neg (by omega), take_succ hkx, loA, if_neg (by omega)]
            exact this
          · rw [loA_s, loB_s]
            refine Holds.region (Px := px) (T := TT) (ρ := fun _ => []) TTe (by simp (maxSteps := 100000) (disch := omega) only [go_sem, V.isAgg, V.flat, ↓reduceIte, Nat.reduceAdd, Nat.reduceSub, Nat.reduceLT, Nat.reduceEqDiff, reduceCtorEq, Nat.reduceLeDiff, Nat.reduceBEq, Nat.reduceMul, Int.reduceToNat, hlt]; rfl) (by repeat' first | exact trivial | constructor) ?_
            intro a w h
            have := Rel.ren (s := 39) (s' := 300) (Rel.keep [6, 5, 0, 1] [39] h) (by decide) rfl rfl
            rw [loB, if_neg (by omega), take_succ hkx, loA, if_neg (by omega), List.map_append]
            exact this
      · intro σ hσ
        refine Holds.from hσ ?_
        refine Holds.region (Px := px) (T := TT) (ρ := fun _ => []) TTe (by simp (maxSteps := 100000) (disch := omega) only [go_sem, V.isAgg, V.flat, ↓reduceIte, Nat.reduceAdd, Nat.reduceSub, Nat.reduceLT, Nat.reduceEqDiff, reduceCtorEq, Nat.reduceLeDiff, Nat.reduceBEq, Nat.reduceMul, Int.reduceToNat]; rfl) (by repeat' first | exact trivial | constructor) ?_
        exact ⟨k + 1, (by show k + 1 ≤ M; omega), (show M - (k + 1) < M - k by omega), fun a w hr => Rel.less [6, 5, 0, 1] (fun _ => rfl) hr⟩
  · intro σ hσ
    refine Holds.from hσ ?_
    have hlM : (x.take M).length = M := by rw [List.length_take]; omega
    rw [loA, loB]
    by_cases h0 : M = 0
    · rw [if_pos h0, if_pos h0]
      rw [h0, List.take_zero] at hT ⊢
      refine Holds.step (Px := px) (T := TT) (ρ := fun _ => [.v true (words (digs (val [])))]) TTe (by simp (maxSteps := 100000) (disch := omega) only [go_sem, V.isAgg, V.flat, ↓reduceIte, Nat.reduceAdd, Nat.reduceSub, Nat.reduceLT, Nat.reduceEqDiff, reduceCtorEq, Nat.reduceLeDiff, Nat.reduceBEq, Nat.reduceMul, Int.reduceToNat]; rfl) (by first | exact hT | (repeat' first | exact trivial | exact hT | constructor)) ?_
      exact Holds.ret (RetOk.vs rfl (by exact ⟨⟨rfl, fun h => h⟩, trivial⟩) rfl)
    · rw [if_neg h0, if_neg h0]
      have htM : List.take M (List.map (fun n => V.int .u64 n) (x.take M)) = List.map (fun n => V.int .u64 n) (x.take M) := List.take_of_length_le (by rw [List.length_map]; omega)
      refine Holds.step (Px := px) (T := TT) (ρ := fun _ => [.v true (words (digs (val (x.take M))))]) TTe (by simp (maxSteps := 100000) (disch := omega) only [go_sem, V.isAgg, V.flat, ↓reduceIte, Nat.reduceAdd, Nat.reduceSub, Nat.reduceLT, Nat.reduceEqDiff, reduceCtorEq, Nat.reduceLeDiff, Nat.reduceBEq, Nat.reduceMul, Int.reduceToNat, htM]; rfl) (by first | exact hT | (repeat' first | exact trivial | exact hT | constructor)) ?_
      exact Holds.ret (RetOk.vs rfl (by exact ⟨⟨rfl, fun h => h⟩, trivial⟩) rfl)

theorem Right78_ok (x : List Int) (hx : x.length < 1000000) (ox : okW x) : FnOk Try.prog 78 [.v (words x), .v (.int .i64 0)] [.v true (words x), .v true (.int .u64 0)] := by
  have hshr : ∀ a : Int, Int.fdiv a (2 ^ min 0 64) = a := fun a => by
    show Int.fdiv a 1 = a
    exact Int.fdiv_one a
  refine FnOk.of Try.func78 rfl rfl fun cx w0 => ?_
  rw [show Try.f78.ntmps = 41 from rfl]
  refine Holds.step (Px := px) (T := TT) (ρ := fun _ => []) TTe (by simp (maxSteps := 100000) (disch := omega) only [go_sem, V.isAgg, V.flat, ↓reduceIte, Nat.reduceAdd, Nat.reduceSub, Nat.reduceLT, Nat.reduceEqDiff, reduceCtorEq, Nat.reduceLeDiff, Nat.reduceBEq, Nat.reduceMul, Int.reduceToNat, List.length_cons, List.length_nil]; rfl) (by repeat' first | exact trivial | constructor) ?_
  refine Holds.step (Px := px) (T := TT) (ρ := fun _ => []) TTe (by simp (maxSteps := 100000) (disch := omega) only [go_sem, V.isAgg, V.flat, ↓reduceIte, Nat.reduceAdd, Nat.reduceSub, Nat.reduceLT, Nat.reduceEqDiff, reduceCtorEq, Nat.reduceLeDiff, Nat.reduceBEq, Nat.reduceMul, Int.reduceToNat]; rfl) (by repeat' first | exact trivial | constructor) ?_
  refine Holds.step (Px := px) (T := TT) (ρ := fun _ => []) TTe (by simp (maxSteps := 100000) (disch := omega) only [go_sem, V.isAgg, V.flat, ↓reduceIte, Nat.reduceAdd, Nat.reduceSub, Nat.reduceLT, Nat.reduceEqDiff, reduceCtorEq, Nat.reduceLeDiff, Nat.reduceBEq, Nat.reduceMul, Int.reduceToNat]; rfl) (by repeat' first | exact trivial | constructor) ?_
  refine Holds.next (fun σ => ∀ a w, Rel cx w0 σ a w → Rel cx w0 { nt := 41, env := [(6, .own 300 0 x.length), (7, .v true (.int .u64 0))], mem := [(300, .buf 69 1 true (x.map fun n => .int .u64 n))] } a w) ?_ ?_
  · refine Holds.step (Px := px) (T := TT) (ρ := fun _ => []) TTe (by simp (maxSteps := 100000) (disch := omega) only [go_sem, V.isAgg, V.flat, ↓reduceIte, Nat.reduceAdd, Nat.reduceSub, Nat.reduceLT, Nat.reduceEqDiff, reduceCtorEq, Nat.reduceLeDiff, Nat.reduceBEq, Nat.reduceMul, Int.reduceToNat]; rfl) (by repeat' first | exact trivial | constructor) ?_
    refine Holds.loopB (fun j : Nat => { nt := 41, env := [(8, .v true (.int .i64 ((j : Int) - 1))), (7, .v true (.int .u64 0)), (6, .own 300 0 x.length), (0, .v false (words x)), (1, .v true (.int .i64 0))], mem := [(300, .buf 69 1 true ((List.replicate j 0 ++ x.drop j).map fun n => .int .u64 n))] }) (fun j => j ≤ x.length) id x.length (Nat.le_refl _) (fun a w hr => by
      have := Rel.ren (s := 11) (s' := 300) (Rel.keep [8, 7, 6, 0, 1] [11] hr) (by decide) rfl rfl
      rw [List.drop_length, List.append_nil, List.map_replicate]
      exact this) ?_
    intro j hj
    rcases j with _ | j
    · refine Holds.seq ?_
      refine Holds.step (Px := px) (T := TT) (ρ := fun _ => []) TTe (by simp (maxSteps := 100000) (disch := omega) only [go_sem, V.isAgg, V.flat, ↓reduceIte, Nat.reduceAdd, Nat.reduceSub, Nat.reduceLT, Nat.reduceEqDiff, reduceCtorEq, Nat.reduceLeDiff, Nat.reduceBEq, Nat.reduceMul, Int.reduceToNat]; rfl) (by repeat' first | exact trivial | constructor) ?_
      exact Holds.condF rfl (Holds.exit ⟨rfl, fun a w hr => Rel.keep [6, 7] [300] hr⟩)
    · have hjx : j < x.length := by omega
      have hw := okW_getD ox j
      obtain ⟨L, hL⟩ : ∃ L, L = List.replicate (j + 1) 0 ++ x.drop (j + 1) := ⟨_, rfl⟩
      have hLl : L.length = x.length := by rw [hL, List.length_append, List.length_replicate, List.length_drop]; omega
      have hjL : j < L.length := by omega
      have e3 : IntKind.u64.wrap (0 + x.getD j 0) = x.getD j 0 := by rw [wrap_u64]; omega
      have eL : List.replicate j 0 ++ x.drop j = L.set j (x.getD j 0) := by
        have hd : x.drop j = x.getD j 0 :: x.drop (j + 1) := by rw [List.drop_eq_getElem_cons hjx, List.getD_eq_getElem?_getD, List.getElem?_eq_getElem hjx]; rfl
        rw [hL, List.replicate_succ', List.append_assoc, List.set_append_right _ _ (by simp), List.length_replicate, Nat.sub_self, hd]
        rfl
      rw [← hL]
      refine Holds.seq ?_
      refine Holds.step (Px := px) (T := TT) (ρ := fun _ => []) TTe (by simp (maxSteps := 100000) (disch := omega) only [go_sem, V.isAgg, V.flat, ↓reduceIte, Nat.reduceAdd, Nat.reduceSub, Nat.reduceLT, Nat.reduceEqDiff, reduceCtorEq, Nat.reduceLeDiff, Nat.reduceBEq, Nat.reduceMul, Int.reduceToNat]; rfl) (by repeat' first | exact trivial | constructor) ?_
      refine Holds.condT rfl (Holds.skip ?_)
      refine Holds.next (fun σ => ∀ a w, Rel cx w0 σ a w → Rel cx w0 { nt := 41, env := [(8, .v true (.int .i64 (j : Int))), (7, .v true (.int .u64 0)), (6, .own 300 0 x.length), (0, .v false (words x)), (1, .v true (.int .i64 0))], mem := [(300, .buf 69 1 true ((List.replicate j 0 ++ x.drop j).map fun n => .int .u64 n))] } a w) ?_ ?_
      · refine Holds.blockN ?_
        refine Holds.step (Px := px) (T := TT) (ρ := fun _ => []) TTe (by simp (maxSteps := 100000) (disch := omega) only [go_sem, V.isAgg, V.flat, ↓reduceIte, Nat.reduceAdd, Nat.reduceSub, Nat.reduceLT, Nat.reduceEqDiff, reduceCtorEq, Nat.reduceLeDiff, Nat.reduceBEq, Nat.reduceMul, Int.reduceToNat, get_map hjx, get_map hjL, hLl, hshr, e3]; rfl) (by repeat' first | exact trivial | constructor) ?_
        refine Holds.step (Px := px) (T := TT) (ρ := fun _ => []) TTe (by simp (maxSteps := 100000) (disch := omega) only [go_sem, V.isAgg, V.flat, ↓reduceIte, Nat.reduceAdd, Nat.reduceSub, Nat.reduceLT, Nat.reduceEqDiff, reduceCtorEq, Nat.reduceLeDiff, Nat.reduceBEq, Nat.reduceMul, Int.reduceToNat]; rfl) (by repeat' first | exact trivial | constructor) ?_
        refine Holds.step (Px := px) (T := TT) (ρ := fun _ => []) TTe (by simp (maxSteps := 100000) (disch := omega) only [go_sem, V.isAgg, V.flat, ↓reduceIte, Nat.reduceAdd, Nat.reduceSub, Nat.reduceLT, Nat.reduceEqDiff, reduceCtorEq, Nat.reduceLeDiff, Nat.reduceBEq, Nat.reduceMul, Int.reduceToNat]; rfl) (by repeat' first | exact trivial | constructor) ?_
        refine Holds.condF rfl (Holds.skip fun a w hr => ?_)
        rw [eL, List.map_set]
        exact Rel.keep [8, 7, 6, 0, 1] [300] hr
      · intro σ hσ
        refine Holds.from hσ ?_
        refine Holds.region (Px := px) (T := TT) (ρ := fun _ => []) TTe (by simp (maxSteps := 100000) (disch := omega) only [go_sem, V.isAgg, V.flat, ↓reduceIte, Nat.reduceAdd, Nat.reduceSub, Nat.reduceLT, Nat.reduceEqDiff, reduceCtorEq, Nat.reduceLeDiff, Nat.reduceBEq, Nat.reduceMul, Int.reduceToNat]; rfl) (by repeat' first | exact trivial | constructor) ?_
        exact ⟨j, (by show j ≤ x.length; omega), (show j < j + 1 by omega), fun a w hr => Rel.keep [8, 7, 6, 0, 1] [300] hr⟩
  · intro σ hσ
    refine Holds.from hσ ?_
    refine Holds.step (Px := px) (T := TT) (ρ := fun _ => []) TTe (by simp (maxSteps := 100000) (disch := omega) only [go_sem, V.isAgg, V.flat, ↓reduceIte, Nat.reduceAdd, Nat.reduceSub, Nat.reduceLT, Nat.reduceEqDiff, reduceCtorEq, Nat.reduceLeDiff, Nat.reduceBEq, Nat.reduceMul, Int.reduceToNat]; rfl) (by repeat' first | exact trivial | constructor) ?_
    exact Holds.ret ⟨_, [], rfl, ⟨⟨rfl, by rw [List.drop_zero, List.take_of_length_le (by rw [List.length_map]; exact Nat.le_refl _)], fun h => h, rfl⟩, ⟨rfl, fun h => h⟩, trivial⟩, by simp [R.names, R.mems, R.blks], by simp, rfl⟩

theorem Right_ok (x : List Int) (m : Nat) (hx : x.length < 100000) (hm : m < 1000000) (ox : okW x) : FnOk Try.prog 45 [.v (words x), .v (.int .i64 (64 * (m : Int)))] [.v true (words (digs (val (x.drop m))))] := by
  have hq : (64 * (m : Int)).tdiv 64 = m := by rw [Int.mul_comm, Int.mul_tdiv_cancel _ (by decide)]
  have hr : (64 * (m : Int)).tmod 64 = 0 := by rw [Int.tmod_eq_emod_of_nonneg (by omega)]; omega
  refine FnOk.of Try.func45 rfl rfl fun cx w0 => ?_
  rw [show Try.f45.ntmps = 24 from rfl]
  refine Holds.step (Px := px) (T := TT) (ρ := fun _ => []) TTe (by simp (maxSteps := 100000) (disch := omega) only [go_sem, V.isAgg, V.flat, ↓reduceIte, Nat.reduceAdd, Nat.reduceSub, Nat.reduceLT, Nat.reduceEqDiff, reduceCtorEq, Nat.reduceLeDiff, Nat.reduceBEq, Nat.reduceMul, Int.reduceToNat, List.length_cons, List.length_nil]; rfl) (by repeat' first | exact trivial | constructor) ?_
  refine Holds.next (fun σ => m < x.length ∧ ∀ a w, Rel cx w0 σ a w → Rel cx w0 { nt := 24, env := [(0, .v false (words x)), (1, .v true (.int .i64 (64 * (m : Int))))], mem := [] } a w) ?_ ?_
  · by_cases h : x.length ≤ m
    · refine Holds.step (Px := px) (T := TT) (ρ := fun _ => []) TTe (by simp (maxSteps := 100000) (disch := omega) only [go_sem, V.isAgg, V.flat, ↓reduceIte, Nat.reduceAdd, Nat.reduceSub, Nat.reduceLT, Nat.reduceEqDiff, reduceCtorEq, Nat.reduceLeDiff, Nat.reduceBEq, Nat.reduceMul, Int.reduceToNat, hq]; rfl) (by repeat' first | exact trivial | constructor) ?_
      refine Holds.condT rfl ?_
      refine Holds.step (Px := px) (T := TT) (ρ := fun _ => []) TTe (by simp (maxSteps := 100000) (disch := omega) only [go_sem, V.isAgg, V.flat, ↓reduceIte, Nat.reduceAdd, Nat.reduceSub, Nat.reduceLT, Nat.reduceEqDiff, reduceCtorEq, Nat.reduceLeDiff, Nat.reduceBEq, Nat.reduceMul, Int.reduceToNat]; rfl) (by repeat' first | exact trivial | constructor) ?_
      have e : x.drop m = [] := List.drop_of_length_le h
      rw [e]
      exact Holds.ret ⟨_, [], rfl, ⟨rfl, trivial⟩, by simp [R.names, R.mems, R.blks], by simp, rfl⟩
    · refine Holds.step (Px := px) (T := TT) (ρ := fun _ => []) TTe (by simp (maxSteps := 100000) (disch := omega) only [go_sem, V.isAgg, V.flat, ↓reduceIte, Nat.reduceAdd, Nat.reduceSub, Nat.reduceLT, Nat.reduceEqDiff, reduceCtorEq, Nat.reduceLeDiff, Nat.reduceBEq, Nat.reduceMul, Int.reduceToNat, hq]; rfl) (by repeat' first | exact trivial | constructor) ?_
      exact Holds.condF rfl (Holds.skip ⟨by omega, fun a w hr => Rel.keep [0, 1] [] hr⟩)
  · rintro σ ⟨hlt, hσ⟩
    refine Holds.from hσ ?_
    have hdr : List.drop m (List.take x.length (List.map (fun n => V.int .u64 n) x)) = List.map (fun n => V.int .u64 n) (x.drop m) := by
      rw [List.take_of_length_le (by rw [List.length_map]; exact Nat.le_refl _), List.map_drop]
    have h78 := Right78_ok (x.drop m) (by rw [List.length_drop]; omega) (okW_drop ox m)
    have hT := rTrim_ok (x.drop m) (by rw [List.length_drop]; omega) (okW_drop ox m)
    refine Holds.step (Px := px) (T := TT) (ρ := fun _ => [.v true (words (x.drop m)), .v true (.int .u64 0)]) TTe (by simp (maxSteps := 100000) (disch := omega) only [go_sem, V.isAgg, V.flat, ↓reduceIte, Nat.reduceAdd, Nat.reduceSub, Nat.reduceLT, Nat.reduceEqDiff, reduceCtorEq, Nat.reduceLeDiff, Nat.reduceBEq, Nat.reduceMul, Int.reduceToNat, hq, hr, hdr]; rfl) (by first | exact h78 | (repeat' first | exact trivial | exact h78 | constructor)) ?_
    refine Holds.step (Px := px) (T := TT) (ρ := fun _ => [.v true (words (digs (val (x.drop m))))]) TTe (by simp (maxSteps := 100000) (disch := omega) only [go_sem, V.isAgg, V.flat, ↓reduceIte, Nat.reduceAdd, Nat.reduceSub, Nat.reduceLT, Nat.reduceEqDiff, reduceCtorEq, Nat.reduceLeDiff, Nat.reduceBEq, Nat.reduceMul, Int.reduceToNat]; rfl) (by first | exact hT | (repeat' first | exact trivial | exact hT | constructor)) ?_
    exact Holds.ret (RetOk.vs rfl (by exact ⟨⟨rfl, fun h => h⟩, trivial⟩) rfl)

def rsA (k : Nat) : AV := if k = 0 then .nil else .own 300 0 k
def rsB (x : List Int) (n k : Nat) : List (Nat × Blk) := if k = 0 then [] else [(300, .buf 23 1 true ((pcs x n k).map words))]

theorem rsA_s (k : Nat) : rsA (k + 1) = .own 300 0 (k + 1) := if_neg (by omega)
theorem rsB_s (x : List Int) (n k : Nat) : rsB x n (k + 1) = [(300, .buf 23 1 true ((pcs x n (k + 1)).map words))] := if_neg (by omega)

theorem rSplit_ok (x : List Int) (n : Nat) (hx : x.length < 100000) (hn : 0 < n) (hn2 : n ≤ 1000) (ox : okW x) (hy : (digs (val x)).length < 100000) :
    FnOk Try.prog 15 [.v (words x), .v (.int .i64 n)] [.v true (natsV (pcs (digs (val x)) n (pcsM (digs (val x)) n)))] := by
  have hT := rTrim_ok x hx ox
  have oy := (digs_ok (val x)).1
  have zy := (digs_ok (val x)).2.1
  obtain ⟨y, hyy⟩ : ∃ y, y = digs (val x) := ⟨_, rfl⟩
  rw [← hyy] at hT hy oy zy ⊢
  obtain ⟨M, hM⟩ : ∃ M, M = pcsM y n := ⟨_, rfl⟩
  rw [← hM]
  refine FnOk.of Try.func15 rfl rfl fun cx w0 => ?_
  rw [show Try.f15.ntmps = 23 from rfl]
  refine Holds.step (Px := px) (T := TT) (ρ := fun _ => []) TTe (by simp (maxSteps := 100000) (disch := omega) only [go_sem, V.isAgg, V.flat, ↓reduceIte, Nat.reduceAdd, Nat.reduceSub, Nat.reduceLT, Nat.reduceEqDiff, reduceCtorEq, Nat.reduceLeDiff, Nat.reduceBEq, Nat.reduceMul, Int.reduceToNat, List.length_cons, List.length_nil]; rfl) (by repeat' first | exact trivial | constructor) ?_
  refine Holds.step (Px := px) (T := TT) (ρ := fun _ => []) TTe (by simp (maxSteps := 100000) (disch := omega) only [go_sem, V.isAgg, V.flat, ↓reduceIte, Nat.reduceAdd, Nat.reduceSub, Nat.reduceLT, Nat.reduceEqDiff, reduceCtorEq, Nat.reduceLeDiff, Nat.reduceBEq, Nat.reduceMul, Int.reduceToNat]; rfl) (by repeat' first | exact trivial | constructor) ?_
  refine Holds.next (fun σ => ∀ a w, Rel cx w0 σ a w → Rel cx w0 { nt := 23, env := [(5, rsA M)], mem := rsB y n M } a w) ?_ ?_
  · refine Holds.step (Px := px) (T := TT) (ρ := fun _ => [.v true (words y)]) TTe (by simp (maxSteps := 100000) (disch := omega) only [go_sem, V.isAgg, V.flat, ↓reduceIte, Nat.reduceAdd, Nat.reduceSub, Nat.reduceLT, Nat.reduceEqDiff, reduceCtorEq, Nat.reduceLeDiff, Nat.reduceBEq, Nat.reduceMul, Int.reduceToNat]; rfl) (by first | exact hT | (repeat' first | exact trivial | exact hT | constructor)) ?_
    refine Holds.loopB (fun k : Nat => { nt := 23, env := [(5, rsA k), (0, .v true (words (y.drop (k * n)))), (1, .v true (.int .i64 n))], mem := rsB y n k }) (fun k => k ≤ M) (fun k => M - k) 0 (Nat.zero_le _) (fun a w hr => by
      have := Rel.keep [5, 0, 1] [] hr
      rw [Nat.zero_mul, List.drop_zero]
      exact this) ?_
    intro k hk
    have hlt : k < M ↔ k * n < y.length := by rw [hM]; exact pcsM_lt hn
    have hdl : (y.drop (k * n)).length = y.length - k * n := List.length_drop
    by_cases hend : k = M
    · have h0 : ¬ 0 < (y.drop (k * n)).length := by omega
      refine Holds.seq ?_
      refine Holds.step (Px := px) (T := TT) (ρ := fun _ => []) TTe (by simp (maxSteps := 100000) (disch := omega) only [go_sem, V.isAgg, V.flat, ↓reduceIte, Nat.reduceAdd, Nat.reduceSub, Nat.reduceLT, Nat.reduceEqDiff, reduceCtorEq, Nat.reduceLeDiff, Nat.reduceBEq, Nat.reduceMul, Int.reduceToNat]; rfl) (by repeat' first | exact trivial | constructor) ?_
      refine Holds.condF rfl (Holds.exit ⟨rfl, fun a w hr => ?_⟩)
      rw [← hend]
      exact Rel.less [5] (fun _ => rfl) hr
    · have hkl : k * n < y.length := hlt.1 (by omega)
      have h0 : 0 < (y.drop (k * n)).length := by omega
      have hkM : k < y.length := Nat.lt_of_le_of_lt (Nat.le_mul_of_pos_right k hn) hkl
      have hpl := pcs_len y n k
      have oyd := okW_drop oy (k * n)
      have hLow := Low_ok (y.drop (k * n)) n (by omega) (by omega) oyd
      rw [← trim_digs (okW_take oyd n)] at hLow
      have hRight := Right_ok (y.drop (k * n)) n (by omega) (by omega) oyd
      rw [List.drop_drop, show k * n + n = (k + 1) * n from by rw [Nat.succ_mul], ← digs_of (okW_drop oy _) (noZ_drop zy _)] at hRight
      refine Holds.seq ?_
      refine Holds.step (Px := px) (T := TT) (ρ := fun _ => []) TTe (by simp (maxSteps := 100000) (disch := omega) only [go_sem, V.isAgg, V.flat, ↓reduceIte, Nat.reduceAdd, Nat.reduceSub, Nat.reduceLT, Nat.reduceEqDiff, reduceCtorEq, Nat.reduceLeDiff, Nat.reduceBEq, Nat.reduceMul, Int.reduceToNat]; rfl) (by repeat' first | exact trivial | constructor) ?_
      refine Holds.condT rfl (Holds.skip ?_)
      refine Holds.next (fun σ => ∀ a w, Rel cx w0 σ a w → Rel cx w0 { nt := 23, env := [(5, rsA (k + 1)), (0, .v true (words (y.drop (k * n)))), (1, .v true (.int .i64 n))], mem := rsB y n (k + 1) } a w) ?_ ?_
      · refine Holds.blockN ?_
        rcases k with _ | k
        · rw [Nat.zero_mul, List.drop_zero] at hLow ⊢
          refine Holds.region (Px := px) (T := TT) (ρ := fun _ => [.v true (words (trimL (y.take n)))]) TTe (by simp (maxSteps := 100000) (disch := omega) only [go_sem, V.isAgg, V.flat, ↓reduceIte, Nat.reduceAdd, Nat.reduceSub, Nat.reduceLT, Nat.reduceEqDiff, reduceCtorEq, Nat.reduceLeDiff, Nat.reduceBEq, Nat.reduceMul, Int.reduceToNat, rsA, rsB]; rfl) (by first | exact hLow | (repeat' first | exact trivial | exact hLow | constructor)) ?_
          intro a w h
          have := Rel.ren (s := 21) (s' := 300) (Rel.keep [5, 0, 1] [21] h) (by decide) rfl rfl
          rw [rsB, if_neg (by omega), pcs_succ, Nat.zero_mul, List.drop_zero, rsA, if_neg (by omega)]
          exact this
        · rw [rsA_s, rsB_s]
          refine Holds.region (Px := px) (T := TT) (ρ := fun _ => [.v true (words (trimL ((y.drop ((k + 1) * n)).take n)))]) TTe (by simp (maxSteps := 100000) (disch := omega) only [go_sem, V.isAgg, V.flat, ↓reduceIte, Nat.reduceAdd, Nat.reduceSub, Nat.reduceLT, Nat.reduceEqDiff, reduceCtorEq, Nat.reduceLeDiff, Nat.reduceBEq, Nat.reduceMul, Int.reduceToNat, hpl]; rfl) (by first | exact hLow | (repeat' first | exact trivial | exact hLow | constructor)) ?_
          intro a w h
          have := Rel.ren (s := 21) (s' := 300) (Rel.keep [5, 0, 1] [21] h) (by decide) rfl rfl
          rw [rsB, if_neg (by omega), pcs_succ, rsA, if_neg (by omega), List.map_append]
          exact this
      · intro σ hσ
        refine Holds.from hσ ?_
        refine Holds.region (Px := px) (T := TT) (ρ := fun _ => [.v true (words (y.drop ((k + 1) * n)))]) TTe (by simp (maxSteps := 100000) (disch := omega) only [go_sem, V.isAgg, V.flat, ↓reduceIte, Nat.reduceAdd, Nat.reduceSub, Nat.reduceLT, Nat.reduceEqDiff, reduceCtorEq, Nat.reduceLeDiff, Nat.reduceBEq, Nat.reduceMul, Int.reduceToNat]; rfl) (by first | exact hRight | (repeat' first | exact trivial | exact hRight | constructor)) ?_
        exact ⟨k + 1, (by show k + 1 ≤ M; omega), (show M - (k + 1) < M - k by omega), fun a w hr => Rel.less [5, 0, 1] (fun _ => rfl) hr⟩
  · intro σ hσ
    refine Holds.from hσ ?_
    have hpl := pcs_len y n M
    rw [rsA, rsB]
    by_cases h0 : M = 0
    · rw [if_pos h0, if_pos h0, h0]
      refine Holds.step (Px := px) (T := TT) (ρ := fun _ => []) TTe (by simp (maxSteps := 100000) (disch := omega) only [go_sem, V.isAgg, V.flat, ↓reduceIte, Nat.reduceAdd, Nat.reduceSub, Nat.reduceLT, Nat.reduceEqDiff, reduceCtorEq, Nat.reduceLeDiff, Nat.reduceBEq, Nat.reduceMul, Int.reduceToNat]; rfl) (by repeat' first | exact trivial | constructor) ?_
      exact Holds.ret ⟨_, [], rfl, ⟨rfl, trivial⟩, by simp [R.names, R.mems, R.blks], by simp, rfl⟩
    · rw [if_neg h0, if_neg h0]
      refine Holds.step (Px := px) (T := TT) (ρ := fun _ => []) TTe (by simp (maxSteps := 100000) (disch := omega) only [go_sem, V.isAgg, V.flat, ↓reduceIte, Nat.reduceAdd, Nat.reduceSub, Nat.reduceLT, Nat.reduceEqDiff, reduceCtorEq, Nat.reduceLeDiff, Nat.reduceBEq, Nat.reduceMul, Int.reduceToNat]; rfl) (by repeat' first | exact trivial | constructor) ?_
      exact Holds.ret ⟨_, [], rfl, ⟨⟨rfl, by rw [List.drop_zero, List.take_of_length_le (by rw [List.length_map, hpl]; exact Nat.le_refl _)], fun h => h, rfl⟩, trivial⟩, by simp [R.names, R.mems, R.blks], by simp, rfl⟩
end Go.Proofs.Ytjmclobbfabnpaa.L
