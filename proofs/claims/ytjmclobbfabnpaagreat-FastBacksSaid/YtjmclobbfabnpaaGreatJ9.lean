/-
  Ra Rb Rc
-/
import Derived.Test.YtjmclobbfabnpaaGreatJ7
import Derived.Test.YtjmclobbfabnpaaGreatJ8
set_option linter.unusedSimpArgs false
set_option linter.unusedVariables false
/-
  reckonerref01: digit, Plus, Compare of equal numbers; reckonerref02: Add, Cmp of equal numbers.
-/
namespace Go.Proofs.YtjmclobbfabnpaaGreat.L
open Go Go.RowKit Go.Proofs
attribute [local go_sem] evalOps_nil evalOps_cons runW_t runW_f runE_s runP_s wantA evalOp effOp letters okDst coreA St.opv St.get St.at look constA St.put St.upd St.set decide_true List.all_nil List.all_cons Bool.and_true Bool.true_and and_self and_true true_and if_true if_false true_or Int.sub_zero List.nil_append List.cons_append List.append_nil Option.isSome_some List.getElem?_toArray List.getElem?_cons_succ List.getElem?_cons_zero Option.bind_some Option.map_some Option.map_none beq_self_eq_true Bool.false_beq Bool.true_beq Bool.not_true Bool.not_false Bool.false_eq_true cond_true cond_false binA binI List.map_cons List.map_nil boundA List.length_nil List.length_cons Nat.zero_mul Nat.one_mul Nat.mul_one Nat.zero_add Nat.add_zero Nat.zero_le Option.toList St.freshB AV.ment AV.ments Blk.ment V.sizes Nat.lt_add_one Bool.or_true Bool.true_or Bool.or_false Bool.false_or Bool.or_self if_pos if_neg decide_false decide_eq_true decide_eq_false wrap_i64 Int.toNat_natCast minA maxA Int.natCast_add Int.cast_ofNat_Int Option.isSome_none false_implies true_implies forall_const List.drop_zero Int.toNat_zero Int.add_sub_cancel lenA sliceA loadA indexAddrA partA fitsT V.atP V.offP V.size List.length_map List.getElem?_map Int.toNat_natCast_add_one Int.ofNat_eq_natCast TY calleeA capArg knotA capArgs toArgs toArg callA R.res R.mems R.blks R.av R.names R.nw invokeA storeA storeV fieldAddrA liveB V.off V.offs V.setP List.set_cons_zero List.set_cons_succ buildA buildP partsA appendA srcA copyA boxOk makeA AV.pure List.take_succ_cons List.take_zero nilA words entry List.zipIdx_cons List.zipIdx_nil Arg.av Arg.avs

theorem digit_ok (a : List Int) (i : Nat) (hl : a.length < 1000000) : FnOk Tryz.prog 81 [.v (words a), .v (.int .i64 i)] [.v true (.int .u64 (a.getD i 0))] := by
  refine FnOk.of Tryz.func81 rfl rfl fun cx w0 => ?_
  rw [show Tryz.f81.ntmps = 13 from rfl]
  refine Holds.step (Px := px) (T := TT) (ρ := fun _ => []) TTe (by simp (maxSteps := 100000) (disch := omega) only [go_sem, V.isAgg, V.flat, ↓reduceIte, Nat.reduceAdd, Nat.reduceSub, Nat.reduceLT, Nat.reduceEqDiff, reduceCtorEq, Nat.reduceLeDiff, Nat.reduceBEq, Nat.reduceMul, Int.reduceToNat, List.length_cons, List.length_nil]; rfl) (by repeat' first | exact trivial | constructor) ?_
  refine Holds.next (fun σ => a.getD i 0 = 0 ∧ ∀ x w, Rel cx w0 σ x w → Rel cx w0 { nt := 13, env := [], mem := [] } x w) ?_ ?_
  · by_cases h : i < a.length
    · refine Holds.step (Px := px) (T := TT) (ρ := fun _ => []) TTe (by simp (maxSteps := 100000) (disch := omega) only [go_sem, V.isAgg, V.flat, ↓reduceIte, Nat.reduceAdd, Nat.reduceSub, Nat.reduceLT, Nat.reduceEqDiff, reduceCtorEq, Nat.reduceLeDiff, Nat.reduceBEq, Nat.reduceMul, Int.reduceToNat]; rfl) (by repeat' first | exact trivial | constructor) ?_
      refine Holds.condT rfl ?_
      refine Holds.step (Px := px) (T := TT) (ρ := fun _ => []) TTe (by simp (maxSteps := 100000) (disch := omega) only [go_sem, V.isAgg, V.flat, ↓reduceIte, Nat.reduceAdd, Nat.reduceSub, Nat.reduceLT, Nat.reduceEqDiff, reduceCtorEq, Nat.reduceLeDiff, Nat.reduceBEq, Nat.reduceMul, Int.reduceToNat, get_map h]; rfl) (by repeat' first | exact trivial | constructor) ?_
      exact Holds.ret (RetOk.vs rfl (by exact ⟨⟨rfl, fun h => h⟩, trivial⟩) rfl)
    · refine Holds.step (Px := px) (T := TT) (ρ := fun _ => []) TTe (by simp (maxSteps := 100000) (disch := omega) only [go_sem, V.isAgg, V.flat, ↓reduceIte, Nat.reduceAdd, Nat.reduceSub, Nat.reduceLT, Nat.reduceEqDiff, reduceCtorEq, Nat.reduceLeDiff, Nat.reduceBEq, Nat.reduceMul, Int.reduceToNat]; rfl) (by repeat' first | exact trivial | constructor) ?_
      refine Holds.condF rfl (Holds.skip ⟨?_, fun x w h => Rel.keep [] [] h⟩)
      rw [List.getD_eq_getElem?_getD, List.getElem?_eq_none (by omega)]; rfl
  · rintro σ ⟨h0, hσ⟩
    rw [h0]
    refine Holds.from hσ ?_
    refine Holds.step (Px := px) (T := TT) (ρ := fun _ => []) TTe (by simp (maxSteps := 100000) (disch := omega) only [go_sem, V.isAgg, V.flat, ↓reduceIte, Nat.reduceAdd, Nat.reduceSub, Nat.reduceLT, Nat.reduceEqDiff, reduceCtorEq, Nat.reduceLeDiff, Nat.reduceBEq, Nat.reduceMul, Int.reduceToNat]; rfl) (by repeat' first | exact trivial | constructor) ?_
    exact Holds.ret (RetOk.vs rfl (by exact ⟨⟨rfl, fun h => h⟩, trivial⟩) rfl)

def psI (a b : List Int) : Nat → List Int × Int
  | 0 => ([], 0)
  | k + 1 => ((psI a b k).1 ++ [((psI a b k).2 + a.getD k 0 + b.getD k 0) % 4294967296], ((psI a b k).2 + a.getD k 0 + b.getD k 0) / 4294967296)
theorem psI_ok {a b : List Int} (oa : okH a) (ob : okH b) : ∀ k, okH (psI a b k).1 ∧ (0 ≤ (psI a b k).2 ∧ (psI a b k).2 ≤ 1) ∧ (psI a b k).1.length = k ∧ valH (psI a b k).1 + 4294967296 ^ k * (psI a b k).2.toNat = valH (a.take k) + valH (b.take k)
  | 0 => ⟨(fun n h => by cases h), by simp [psI], rfl, by simp [psI, valH]⟩
  | k + 1 => by
    obtain ⟨h1, h2, h3, h4⟩ := psI_ok oa ob k
    have ha := okH_getD oa k
    have hb := okH_getD ob k
    rw [psI, valH_take_succ, valH_take_succ]
    simp only
    refine ⟨fun n hn => ?_, by omega, by rw [List.length_append, h3]; rfl, ?_⟩
    · rcases List.mem_append.1 hn with hn | hn
      · exact h1 n hn
      · rw [List.mem_singleton] at hn; omega
    · rw [valH_append, h3, valH, valH, Nat.mul_zero, Nat.add_zero, Nat.pow_succ, Nat.mul_assoc]
      generalize a.getD k 0 = u at *
      generalize b.getD k 0 = v at *
      generalize (psI a b k).2 = c at *
      have er : ((c + u + v) % 4294967296).toNat + 4294967296 * ((c + u + v) / 4294967296).toNat = c.toNat + u.toNat + v.toNat := by omega
      have em : 4294967296 ^ k * ((c + u + v) % 4294967296).toNat + 4294967296 ^ k * (4294967296 * ((c + u + v) / 4294967296).toNat) = 4294967296 ^ k * c.toNat + 4294967296 ^ k * u.toNat + 4294967296 ^ k * v.toNat := by
        rw [← Nat.mul_add, er, Nat.mul_add, Nat.mul_add]
      omega
def plusH (a b : List Int) : List Int := (psI a b (max a.length b.length)).1 ++ [(psI a b (max a.length b.length)).2]
theorem plusH_ok {a b : List Int} (oa : okH a) (ob : okH b) : okH (plusH a b) ∧ (plusH a b).length = max a.length b.length + 1 ∧ valH (plusH a b) = valH a + valH b := by
  obtain ⟨h1, h2, h3, h4⟩ := psI_ok oa ob (max a.length b.length)
  refine ⟨fun n hn => ?_, by rw [plusH, List.length_append, h3]; rfl, ?_⟩
  · rcases List.mem_append.1 hn with hn | hn
    · exact h1 n hn
    · rw [List.mem_singleton] at hn; omega
  · rw [plusH, valH_append, h3, valH, valH, Nat.mul_zero, Nat.add_zero, h4, List.take_of_length_le (Nat.le_max_left _ _), List.take_of_length_le (Nat.le_max_right _ _)]

def psA (k : Nat) : AV := if k = 0 then .nil else .own 300 0 k
def psB (a b : List Int) (k : Nat) : List (Nat × Blk) := if k = 0 then [] else [(300, .buf 52 1 true ((psI a b k).1.map fun n => .int .u64 n))]

theorem Plus_ok (a b : List Int) (hal : a.length < 100000) (hbl : b.length < 100000) (oa : okH a) (ob : okH b) : FnOk Tryz.prog 67 [.v (words a), .v (words b)] [.v true (words (plusH a b))] := by
  obtain ⟨M, hM⟩ : ∃ M, M = max a.length b.length := ⟨_, rfl⟩
  rw [plusH, ← hM]
  refine FnOk.of Tryz.func67 rfl rfl fun cx w0 => ?_
  rw [show Tryz.f67.ntmps = 40 from rfl]
  refine Holds.step (Px := px) (T := TT) (ρ := fun _ => []) TTe (by simp (maxSteps := 100000) (disch := omega) only [go_sem, V.isAgg, V.flat, ↓reduceIte, Nat.reduceAdd, Nat.reduceSub, Nat.reduceLT, Nat.reduceEqDiff, reduceCtorEq, Nat.reduceLeDiff, Nat.reduceBEq, Nat.reduceMul, Int.reduceToNat, List.length_cons, List.length_nil]; rfl) (by repeat' first | exact trivial | constructor) ?_
  refine Holds.step (Px := px) (T := TT) (ρ := fun _ => []) TTe (by simp (maxSteps := 100000) (disch := omega) only [go_sem, V.isAgg, V.flat, ↓reduceIte, Nat.reduceAdd, Nat.reduceSub, Nat.reduceLT, Nat.reduceEqDiff, reduceCtorEq, Nat.reduceLeDiff, Nat.reduceBEq, Nat.reduceMul, Int.reduceToNat]; rfl) (by repeat' first | exact trivial | constructor) ?_
  refine Holds.step (Px := px) (T := TT) (ρ := fun _ => []) TTe (by simp (maxSteps := 100000) (disch := omega) only [go_sem, V.isAgg, V.flat, ↓reduceIte, Nat.reduceAdd, Nat.reduceSub, Nat.reduceLT, Nat.reduceEqDiff, reduceCtorEq, Nat.reduceLeDiff, Nat.reduceBEq, Nat.reduceMul, Int.reduceToNat]; rfl) (by repeat' first | exact trivial | constructor) ?_
  refine Holds.next (fun σ => ∀ x w, Rel cx w0 σ x w → Rel cx w0 { nt := 40, env := [(6, .v true (.int .u64 (psI a b M).2)), (5, psA M)], mem := psB a b M } x w) ?_ ?_
  · refine Holds.step (Px := px) (T := TT) (ρ := fun _ => []) TTe (by simp (maxSteps := 100000) (disch := omega) only [go_sem, V.isAgg, V.flat, ↓reduceIte, Nat.reduceAdd, Nat.reduceSub, Nat.reduceLT, Nat.reduceEqDiff, reduceCtorEq, Nat.reduceLeDiff, Nat.reduceBEq, Nat.reduceMul, Int.reduceToNat]; rfl) (by repeat' first | exact trivial | constructor) ?_
    refine Holds.loopB (fun k : Nat => { nt := 40, env := [(7, .v true (.int .i64 k)), (6, .v true (.int .u64 (psI a b k).2)), (5, psA k), (0, .v false (words a)), (1, .v false (words b))], mem := psB a b k }) (fun k => k ≤ M) (fun k => M - k) 0 (Nat.zero_le _) (fun x w hr => Rel.keep [7, 6, 5, 0, 1] [] hr) ?_
    intro k hk
    obtain ⟨h1, h2, h3, _⟩ := psI_ok oa ob k
    by_cases hend : k = M
    · have n1 : ¬ (k : Int) < a.length := by omega
      have n2 : ¬ (k : Int) < b.length := by omega
      refine Holds.seq ?_
      refine Holds.step (Px := px) (T := TT) (ρ := fun _ => []) TTe (by simp (maxSteps := 100000) (disch := omega) only [go_sem, V.isAgg, V.flat, ↓reduceIte, Nat.reduceAdd, Nat.reduceSub, Nat.reduceLT, Nat.reduceEqDiff, reduceCtorEq, Nat.reduceLeDiff, Nat.reduceBEq, Nat.reduceMul, Int.reduceToNat, n1, n2]; rfl) (by repeat' first | exact trivial | constructor) ?_
      refine Holds.condF rfl (Holds.exit ⟨rfl, fun x w hr => ?_⟩)
      rw [← hend]
      exact Rel.less [6, 5] (fun _ => rfl) hr
    · have hlt : k < a.length ∨ k < b.length := by omega
      have hA := okH_getD oa k
      have hB := okH_getD ob k
      have dA := digit_ok a k (by omega)
      have dB := digit_ok b k (by omega)
      have esucc : psI a b (k + 1) = ((psI a b k).1 ++ [((psI a b k).2 + a.getD k 0 + b.getD k 0) % 4294967296], ((psI a b k).2 + a.getD k 0 + b.getD k 0) / 4294967296) := rfl
      have eB : psB a b (k + 1) = [(300, .buf 52 1 true ((psI a b (k + 1)).1.map fun n => .int .u64 n))] := if_neg (by omega)
      have eA : psA (k + 1) = .own 300 0 (k + 1) := if_neg (by omega)
      rw [esucc] at eB
      simp only at eB
      obtain ⟨u, hu⟩ : ∃ u, u = a.getD k 0 := ⟨_, rfl⟩
      obtain ⟨v, hv⟩ : ∃ v, v = b.getD k 0 := ⟨_, rfl⟩
      rw [← hu] at hA dA esucc eB
      rw [← hv] at hB dB esucc eB
      obtain ⟨T, hT⟩ : ∃ T, T = psI a b k := ⟨_, rfl⟩
      rw [← hT] at h1 h2 h3 esucc eB ⊢
      obtain ⟨q, hq⟩ : ∃ q, q = T.2 + u + v := ⟨_, rfl⟩
      rw [← hq] at esucc eB
      have e1 : IntKind.u64.wrap (T.2 + u) = T.2 + u := by rw [wrap_u64]; omega
      have e3 : IntKind.u64.wrap (T.2 + u + v) = q := by rw [wrap_u64, hq]; omega
      have hq0 : 0 ≤ q ∧ q < 18446744073709551616 := by omega
      have e4 : q.tmod 4294967296 = q % 4294967296 := Int.tmod_eq_emod_of_nonneg hq0.1
      have e5 : q.tdiv 4294967296 = q / 4294967296 := Int.tdiv_eq_ediv_of_nonneg hq0.1
      have e6 : IntKind.u64.wrap (q / 4294967296) = q / 4294967296 := by rw [wrap_u64]; omega
      refine Holds.seq ?_
      refine Holds.next (fun σ => ∀ x w, Rel cx w0 σ x w → Rel cx w0 { nt := 40, env := [(7, .v true (.int .i64 k)), (6, .v true (.int .u64 T.2)), (5, psA k), (0, .v false (words a)), (1, .v false (words b)), (17, .v true (.bool true))], mem := psB a b k } x w) ?_ ?_
      · by_cases ha : (k : Int) < a.length
        · refine Holds.region (Px := px) (T := TT) (ρ := fun _ => []) TTe (by simp (maxSteps := 100000) (disch := omega) only [go_sem, V.isAgg, V.flat, ↓reduceIte, Nat.reduceAdd, Nat.reduceSub, Nat.reduceLT, Nat.reduceEqDiff, reduceCtorEq, Nat.reduceLeDiff, Nat.reduceBEq, Nat.reduceMul, Int.reduceToNat, ha]; rfl) (by repeat' first | exact trivial | constructor) ?_
          exact fun x w hr => Rel.less [7, 6, 5, 0, 1, 17] (fun _ => rfl) hr
        · have hb : (k : Int) < b.length := by omega
          refine Holds.region (Px := px) (T := TT) (ρ := fun _ => []) TTe (by simp (maxSteps := 100000) (disch := omega) only [go_sem, V.isAgg, V.flat, ↓reduceIte, Nat.reduceAdd, Nat.reduceSub, Nat.reduceLT, Nat.reduceEqDiff, reduceCtorEq, Nat.reduceLeDiff, Nat.reduceBEq, Nat.reduceMul, Int.reduceToNat, ha, hb]; rfl) (by repeat' first | exact trivial | constructor) ?_
          exact fun x w hr => Rel.less [7, 6, 5, 0, 1, 17] (fun _ => rfl) hr
      · intro σ hσ
        refine Holds.from hσ ?_
        refine Holds.condT rfl (Holds.skip ?_)
        refine Holds.next (fun σ => ∀ x w, Rel cx w0 σ x w → Rel cx w0 { nt := 40, env := [(7, .v true (.int .i64 k)), (6, .v true (.int .u64 (psI a b (k + 1)).2)), (5, psA (k + 1)), (0, .v false (words a)), (1, .v false (words b))], mem := psB a b (k + 1) } x w) ?_ ?_
        · rw [eA, eB, esucc]
          refine Holds.blockN ?_
          refine Holds.step (Px := px) (T := TT) (ρ := fun d => if d = 23 then [.v true (.int .u64 u)] else [.v true (.int .u64 v)]) TTe (by simp (maxSteps := 100000) (disch := omega) only [go_sem, V.isAgg, V.flat, ↓reduceIte, Nat.reduceAdd, Nat.reduceSub, Nat.reduceLT, Nat.reduceEqDiff, reduceCtorEq, Nat.reduceLeDiff, Nat.reduceBEq, Nat.reduceMul, Int.reduceToNat, e1, e3]; rfl) (by first | exact ⟨dA, dB⟩ | (repeat' first | exact trivial | exact dA | exact dB | constructor)) ?_
          rcases Nat.eq_zero_or_pos k with h0 | h0
          · have ea : psA k = .nil := if_pos h0
            have eb : psB a b k = [] := if_pos h0
            have et : T.1 = [] := List.eq_nil_of_length_eq_zero (by omega)
            have hk1 : k + 1 = 1 := by omega
            rw [ea, eb]
            refine Holds.step (Px := px) (T := TT) (ρ := fun _ => []) TTe (by simp (maxSteps := 100000) (disch := omega) only [go_sem, V.isAgg, V.flat, ↓reduceIte, Nat.reduceAdd, Nat.reduceSub, Nat.reduceLT, Nat.reduceEqDiff, reduceCtorEq, Nat.reduceLeDiff, Nat.reduceBEq, Nat.reduceMul, Int.reduceToNat, e4]; rfl) (by repeat' first | exact trivial | constructor) ?_
            refine Holds.region (Px := px) (T := TT) (ρ := fun _ => []) TTe (by simp (maxSteps := 100000) (disch := omega) only [go_sem, V.isAgg, V.flat, ↓reduceIte, Nat.reduceAdd, Nat.reduceSub, Nat.reduceLT, Nat.reduceEqDiff, reduceCtorEq, Nat.reduceLeDiff, Nat.reduceBEq, Nat.reduceMul, Int.reduceToNat, e5, e6]; rfl) (by repeat' first | exact trivial | constructor) ?_
            intro x w h
            have := Rel.ren (s := 33) (s' := 300) (Rel.keep [7, 6, 5, 0, 1] [33] h) (by decide) rfl rfl
            rw [et, hk1]
            exact this
          · have ea : psA k = .own 300 0 k := if_neg (by omega)
            have eb : psB a b k = [(300, .buf 52 1 true (T.1.map fun n => .int .u64 n))] := by rw [hT]; exact if_neg (by omega)
            rw [ea, eb]
            refine Holds.step (Px := px) (T := TT) (ρ := fun _ => []) TTe (by simp (maxSteps := 100000) (disch := omega) only [go_sem, V.isAgg, V.flat, ↓reduceIte, Nat.reduceAdd, Nat.reduceSub, Nat.reduceLT, Nat.reduceEqDiff, reduceCtorEq, Nat.reduceLeDiff, Nat.reduceBEq, Nat.reduceMul, Int.reduceToNat, e4, h3]; rfl) (by repeat' first | exact trivial | constructor) ?_
            refine Holds.region (Px := px) (T := TT) (ρ := fun _ => []) TTe (by simp (maxSteps := 100000) (disch := omega) only [go_sem, V.isAgg, V.flat, ↓reduceIte, Nat.reduceAdd, Nat.reduceSub, Nat.reduceLT, Nat.reduceEqDiff, reduceCtorEq, Nat.reduceLeDiff, Nat.reduceBEq, Nat.reduceMul, Int.reduceToNat, e5, e6]; rfl) (by repeat' first | exact trivial | constructor) ?_
            intro x w h
            have := Rel.ren (s := 33) (s' := 300) (Rel.keep [7, 6, 5, 0, 1] [33] h) (by decide) rfl rfl
            rw [List.map_append]
            exact this
        · intro σ hσ
          refine Holds.from hσ ?_
          refine Holds.region (Px := px) (T := TT) (ρ := fun _ => []) TTe (by simp (maxSteps := 100000) (disch := omega) only [go_sem, V.isAgg, V.flat, ↓reduceIte, Nat.reduceAdd, Nat.reduceSub, Nat.reduceLT, Nat.reduceEqDiff, reduceCtorEq, Nat.reduceLeDiff, Nat.reduceBEq, Nat.reduceMul, Int.reduceToNat]; rfl) (by repeat' first | exact trivial | constructor) ?_
          exact ⟨k + 1, (by show k + 1 ≤ M; omega), (show M - (k + 1) < M - k by omega), fun x w hr => Rel.less [7, 6, 5, 0, 1] (fun _ => rfl) hr⟩
  · intro σ hσ
    refine Holds.from hσ ?_
    obtain ⟨h1, h2, h3, _⟩ := psI_ok oa ob M
    rw [psA, psB]
    by_cases h0 : M = 0
    · rw [if_pos h0, if_pos h0]
      have et : (psI a b M).1 = [] := List.eq_nil_of_length_eq_zero (by omega)
      rw [et]
      refine Holds.step (Px := px) (T := TT) (ρ := fun _ => []) TTe (by simp (maxSteps := 100000) (disch := omega) only [go_sem, V.isAgg, V.flat, ↓reduceIte, Nat.reduceAdd, Nat.reduceSub, Nat.reduceLT, Nat.reduceEqDiff, reduceCtorEq, Nat.reduceLeDiff, Nat.reduceBEq, Nat.reduceMul, Int.reduceToNat]; rfl) (by repeat' first | exact trivial | constructor) ?_
      exact Holds.ret ⟨_, [], rfl, ⟨⟨rfl, rfl, fun h => h, rfl⟩, trivial⟩, by simp [R.names, R.mems, R.blks], by simp, rfl⟩
    · rw [if_neg h0, if_neg h0]
      refine Holds.step (Px := px) (T := TT) (ρ := fun _ => []) TTe (by simp (maxSteps := 100000) (disch := omega) only [go_sem, V.isAgg, V.flat, ↓reduceIte, Nat.reduceAdd, Nat.reduceSub, Nat.reduceLT, Nat.reduceEqDiff, reduceCtorEq, Nat.reduceLeDiff, Nat.reduceBEq, Nat.reduceMul, Int.reduceToNat, h3]; rfl) (by repeat' first | exact trivial | constructor) ?_
      exact Holds.ret ⟨_, [], rfl, ⟨⟨rfl, by rw [List.drop_zero, List.take_of_length_le (by simp [h3]), List.map_append]; rfl, fun h => h, rfl⟩, trivial⟩, by simp [R.names, R.mems, R.blks], by simp, rfl⟩

theorem rAdd_ok (x y : List Int) (hx : x.length < 40000) (hy : y.length < 40000) (ox : okW x) (oy : okW y) : FnOk Tryz.prog 42 [.v (words x), .v (words y)] [.v true (words (digs (val x + val y)))] := by
  have h1 := Digits_ok x (by omega) ox
  have h2 := Digits_ok y (by omega) oy
  have lx := digL_len x
  have ly := digL_len y
  have h3 := Plus_ok (digL x) (digL y) (by omega) (by omega) (digL_ok ox) (digL_ok oy)
  obtain ⟨t1, t2, t3⟩ := plusH_ok (digL_ok ox) (digL_ok oy)
  have h4 := nat_ok (plusH (digL x) (digL y)) (by omega) t1
  rw [t3, val_dig ox, val_dig oy] at h4
  refine FnOk.of Tryz.func42 rfl rfl fun cx w0 => ?_
  rw [show Tryz.f42.ntmps = 11 from rfl]
  refine Holds.step (Px := px) (T := TT) (ρ := fun _ => []) TTe (by simp (maxSteps := 100000) (disch := omega) only [go_sem, V.isAgg, V.flat, ↓reduceIte, Nat.reduceAdd, Nat.reduceSub, Nat.reduceLT, Nat.reduceEqDiff, reduceCtorEq, Nat.reduceLeDiff, Nat.reduceBEq, Nat.reduceMul, Int.reduceToNat, List.length_cons, List.length_nil]; rfl) (by repeat' first | exact trivial | constructor) ?_
  refine Holds.step (Px := px) (T := TT) (ρ := fun d => if d = 6 then [.v true (words (digL x))] else if d = 8 then [.v true (words (digL y))] else if d = 9 then [.v true (words (plusH (digL x) (digL y)))] else [.v true (words (digs (val x + val y)))]) TTe (by simp (maxSteps := 100000) (disch := omega) only [go_sem, V.isAgg, V.flat, ↓reduceIte, Nat.reduceAdd, Nat.reduceSub, Nat.reduceLT, Nat.reduceEqDiff, reduceCtorEq, Nat.reduceLeDiff, Nat.reduceBEq, Nat.reduceMul, Int.reduceToNat]; rfl) (by first | exact ⟨h1, h2, h3, h4⟩ | (repeat' first | exact trivial | exact h1 | exact h2 | exact h3 | exact h4 | constructor)) ?_
  exact Holds.ret (RetOk.vs rfl (by exact ⟨⟨rfl, fun h => h⟩, trivial⟩) rfl)

theorem Compare0_ok (a b : List Int) (hal : a.length < 100000) (hbl : b.length < 100000) (h : ∀ i, a.getD i 0 = b.getD i 0) : FnOk Tryz.prog 68 [.v (words a), .v (words b)] [.v true (.int .i64 0)] := by
  obtain ⟨M, hM⟩ : ∃ M, M = max a.length b.length := ⟨_, rfl⟩
  have hmax : (if (a.length : Int) < (b.length : Int) then (b.length : Int) else a.length) = M := by rw [hM]; split <;> omega
  refine FnOk.of Tryz.func68 rfl rfl fun cx w0 => ?_
  rw [show Tryz.f68.ntmps = 32 from rfl]
  refine Holds.step (Px := px) (T := TT) (ρ := fun _ => []) TTe (by simp (maxSteps := 100000) (disch := omega) only [go_sem, V.isAgg, V.flat, ↓reduceIte, Nat.reduceAdd, Nat.reduceSub, Nat.reduceLT, Nat.reduceEqDiff, reduceCtorEq, Nat.reduceLeDiff, Nat.reduceBEq, Nat.reduceMul, Int.reduceToNat, List.length_cons, List.length_nil]; rfl) (by repeat' first | exact trivial | constructor) ?_
  refine Holds.next (fun σ => ∀ x w, Rel cx w0 σ x w → Rel cx w0 { nt := 32, env := [], mem := [] } x w) ?_ ?_
  · refine Holds.step (Px := px) (T := TT) (ρ := fun _ => []) TTe (by simp (maxSteps := 100000) (disch := omega) only [go_sem, V.isAgg, V.flat, ↓reduceIte, Nat.reduceAdd, Nat.reduceSub, Nat.reduceLT, Nat.reduceEqDiff, reduceCtorEq, Nat.reduceLeDiff, Nat.reduceBEq, Nat.reduceMul, Int.reduceToNat, hmax]; rfl) (by repeat' first | exact trivial | constructor) ?_
    refine Holds.loopB (fun j : Nat => { nt := 32, env := [(5, .v true (.int .i64 ((j : Int) - 1))), (0, .v false (words a)), (1, .v false (words b))], mem := [] }) (fun j => j ≤ M) id M (Nat.le_refl _) (fun x w hr => Rel.keep [5, 0, 1] [] hr) ?_
    intro j hj
    rcases j with _ | j
    · refine Holds.seq ?_
      refine Holds.step (Px := px) (T := TT) (ρ := fun _ => []) TTe (by simp (maxSteps := 100000) (disch := omega) only [go_sem, V.isAgg, V.flat, ↓reduceIte, Nat.reduceAdd, Nat.reduceSub, Nat.reduceLT, Nat.reduceEqDiff, reduceCtorEq, Nat.reduceLeDiff, Nat.reduceBEq, Nat.reduceMul, Int.reduceToNat]; rfl) (by repeat' first | exact trivial | constructor) ?_
      exact Holds.condF rfl (Holds.exit ⟨rfl, fun x w hr => Rel.keep [] [] hr⟩)
    · have dA := digit_ok a j (by omega)
      have dB := digit_ok b j (by omega)
      rw [h j] at dA
      refine Holds.seq ?_
      refine Holds.step (Px := px) (T := TT) (ρ := fun _ => []) TTe (by simp (maxSteps := 100000) (disch := omega) only [go_sem, V.isAgg, V.flat, ↓reduceIte, Nat.reduceAdd, Nat.reduceSub, Nat.reduceLT, Nat.reduceEqDiff, reduceCtorEq, Nat.reduceLeDiff, Nat.reduceBEq, Nat.reduceMul, Int.reduceToNat]; rfl) (by repeat' first | exact trivial | constructor) ?_
      refine Holds.condT rfl (Holds.skip ?_)
      refine Holds.next (fun σ => ∀ x w, Rel cx w0 σ x w → Rel cx w0 { nt := 32, env := [(5, .v true (.int .i64 (j : Int))), (0, .v false (words a)), (1, .v false (words b))], mem := [] } x w) ?_ ?_
      · refine Holds.blockN ?_
        refine Holds.step (Px := px) (T := TT) (ρ := fun d => if d = 20 then [.v true (.int .u64 (b.getD j 0))] else [.v true (.int .u64 (b.getD j 0))]) TTe (by simp (maxSteps := 100000) (disch := omega) only [go_sem, V.isAgg, V.flat, ↓reduceIte, Nat.reduceAdd, Nat.reduceSub, Nat.reduceLT, Nat.reduceEqDiff, reduceCtorEq, Nat.reduceLeDiff, Nat.reduceBEq, Nat.reduceMul, Int.reduceToNat]; rfl) (by first | exact ⟨dA, dB⟩ | (repeat' first | exact trivial | exact dA | exact dB | constructor)) ?_
        refine Holds.blockN ?_
        refine Holds.step (Px := px) (T := TT) (ρ := fun _ => []) TTe (by simp (maxSteps := 100000) (disch := omega) only [go_sem, V.isAgg, V.flat, ↓reduceIte, Nat.reduceAdd, Nat.reduceSub, Nat.reduceLT, Nat.reduceEqDiff, reduceCtorEq, Nat.reduceLeDiff, Nat.reduceBEq, Nat.reduceMul, Int.reduceToNat]; rfl) (by repeat' first | exact trivial | constructor) ?_
        refine Holds.condF rfl ?_
        refine Holds.step (Px := px) (T := TT) (ρ := fun _ => []) TTe (by simp (maxSteps := 100000) (disch := omega) only [go_sem, V.isAgg, V.flat, ↓reduceIte, Nat.reduceAdd, Nat.reduceSub, Nat.reduceLT, Nat.reduceEqDiff, reduceCtorEq, Nat.reduceLeDiff, Nat.reduceBEq, Nat.reduceMul, Int.reduceToNat]; rfl) (by repeat' first | exact trivial | constructor) ?_
        exact Holds.condF rfl (Holds.skip fun x w hr => Rel.keep [5, 0, 1] [] hr)
      · intro σ hσ
        refine Holds.from hσ ?_
        refine Holds.region (Px := px) (T := TT) (ρ := fun _ => []) TTe (by simp (maxSteps := 100000) (disch := omega) only [go_sem, V.isAgg, V.flat, ↓reduceIte, Nat.reduceAdd, Nat.reduceSub, Nat.reduceLT, Nat.reduceEqDiff, reduceCtorEq, Nat.reduceLeDiff, Nat.reduceBEq, Nat.reduceMul, Int.reduceToNat]; rfl) (by repeat' first | exact trivial | constructor) ?_
        exact ⟨j, (by show j ≤ M; omega), (show j < j + 1 by omega), fun x w hr => Rel.keep [5, 0, 1] [] hr⟩
  · intro σ hσ
    refine Holds.from hσ ?_
    refine Holds.step (Px := px) (T := TT) (ρ := fun _ => []) TTe (by simp (maxSteps := 100000) (disch := omega) only [go_sem, V.isAgg, V.flat, ↓reduceIte, Nat.reduceAdd, Nat.reduceSub, Nat.reduceLT, Nat.reduceEqDiff, reduceCtorEq, Nat.reduceLeDiff, Nat.reduceBEq, Nat.reduceMul, Int.reduceToNat]; rfl) (by repeat' first | exact trivial | constructor) ?_
    exact Holds.ret (RetOk.vs rfl (by exact ⟨⟨rfl, fun h => h⟩, trivial⟩) rfl)

theorem digL_zeros (n : Nat) : digL (List.replicate n 0) = List.replicate (2 * n) 0 := by
  induction n with
  | zero => rfl
  | succ n ih => rw [List.replicate_succ, digL, ih, show 2 * (n + 1) = 2 * n + 1 + 1 from by omega, List.replicate_succ, List.replicate_succ]; rfl
theorem getD_zeros (l : List Int) (n i : Nat) : (l ++ List.replicate n 0).getD i 0 = l.getD i 0 := by
  rw [List.getD_eq_getElem?_getD, List.getD_eq_getElem?_getD]
  rcases Nat.lt_or_ge i l.length with h | h
  · rw [List.getElem?_append_left h]
  · rw [List.getElem?_append_right h, List.getElem?_eq_none h]
    cases hi : (List.replicate n (0 : Int))[i - l.length]? with
    | none => rfl
    | some x => have := List.mem_of_getElem? hi; rw [List.mem_replicate] at this; exact this.2

/-- Equal numbers compare as equal. -/
theorem rCmp0_ok (x y : List Int) (hx : x.length < 40000) (hy : y.length < 40000) (ox : okW x) (oy : okW y) (h : val x = val y) : FnOk Tryz.prog 43 [.v (words x), .v (words y)] [.v true (.int .i64 0)] := by
  have h1 := Digits_ok x (by omega) ox
  have h2 := Digits_ok y (by omega) oy
  have lx := digL_len x
  have ly := digL_len y
  obtain ⟨n, hn⟩ := trimL_split x
  obtain ⟨m, hm⟩ := trimL_split y
  have e : trimL x = trimL y := by rw [trim_digs ox, trim_digs oy, h]
  have h3 := Compare0_ok (digL x) (digL y) (by omega) (by omega) (fun i => by
    have ex : digL x = digL (trimL x) ++ List.replicate (2 * n) 0 := by rw [← digL_zeros, ← digL_append, ← hn]
    have ey : digL y = digL (trimL y) ++ List.replicate (2 * m) 0 := by rw [← digL_zeros, ← digL_append, ← hm]
    rw [ex, ey, getD_zeros, getD_zeros, e])
  refine FnOk.of Tryz.func43 rfl rfl fun cx w0 => ?_
  rw [show Tryz.f43.ntmps = 10 from rfl]
  refine Holds.step (Px := px) (T := TT) (ρ := fun _ => []) TTe (by simp (maxSteps := 100000) (disch := omega) only [go_sem, V.isAgg, V.flat, ↓reduceIte, Nat.reduceAdd, Nat.reduceSub, Nat.reduceLT, Nat.reduceEqDiff, reduceCtorEq, Nat.reduceLeDiff, Nat.reduceBEq, Nat.reduceMul, Int.reduceToNat, List.length_cons, List.length_nil]; rfl) (by repeat' first | exact trivial | constructor) ?_
  refine Holds.step (Px := px) (T := TT) (ρ := fun d => if d = 6 then [.v true (words (digL x))] else if d = 8 then [.v true (words (digL y))] else [.v true (.int .i64 0)]) TTe (by simp (maxSteps := 100000) (disch := omega) only [go_sem, V.isAgg, V.flat, ↓reduceIte, Nat.reduceAdd, Nat.reduceSub, Nat.reduceLT, Nat.reduceEqDiff, reduceCtorEq, Nat.reduceLeDiff, Nat.reduceBEq, Nat.reduceMul, Int.reduceToNat]; rfl) (by first | exact ⟨h1, h2, h3⟩ | (repeat' first | exact trivial | exact h1 | exact h2 | exact h3 | constructor)) ?_
  exact Holds.ret (RetOk.vs rfl (by exact ⟨⟨rfl, fun h => h⟩, trivial⟩) rfl)
/-
  fast: fit, Join, checked and Mul with few words.
-/

/-- Nil is an empty row. -/
theorem Rel.nilV {cx : Cx} {w0 w : World} {σ : St} {a : Act} {t z : Nat} (ht : σ.get t = .nil) (h : Rel cx w0 σ a w) : Rel cx w0 (σ.set t (.v true (.sl z []))) a w := by
  obtain ⟨hd, μ, hr⟩ := h
  refine ⟨hd, μ, hr.below, hr.hB, hr.size, hr.sites, hr.mem, fun t' => ?_, hr.roots, hr.fix⟩
  show RepA cx w μ σ.at (look ((t, _) :: σ.env) t') _
  rw [look]
  split
  · next he =>
    simp only at he
    subst he
    have h1 := hr.env t
    rw [ht, repA_nil] at h1
    rw [RepA]
    exact ⟨[.slice none 0 0], by rw [Rep]; exact .inl ⟨rfl, _, _, rfl⟩, h1⟩
  · exact hr.env t'

theorem blockQ_exit {id : Nat} {Q : Exit → St → Prop} {σ : St} (h : Q .normal σ) : blockQ id Q (.exit id) σ := by
  unfold blockQ
  simp only [if_true]
  exact h

theorem seqQ_exit {P : Program} {ro : Option Nat} {cx : Cx} {w0 : World} {y : Code} {id : Nat} {Q : Exit → St → Prop} {σ : St} (h : Q (.exit id) σ) : seqQ P ro cx w0 y Q (.exit id) σ := h

theorem ffit_ok (l : List Int) (hl : l.length < 1000000) (h : (trimL l).length ≤ 4096) : FnOk Tryz.prog 62 [.v (words l)] [.v true (words (trimL l)), .v true (.int .i64 0)] := by
  refine FnOk.of Tryz.func62 rfl rfl fun cx w0 => ?_
  rw [show Tryz.f62.ntmps = 10 from rfl]
  refine Holds.step (Px := px) (T := TT) (ρ := fun _ => []) TTe (by simp (maxSteps := 100000) (disch := omega) only [go_sem, V.isAgg, V.flat, ↓reduceIte, Nat.reduceAdd, Nat.reduceSub, Nat.reduceLT, Nat.reduceEqDiff, reduceCtorEq, Nat.reduceLeDiff, Nat.reduceBEq, Nat.reduceMul, Int.reduceToNat, List.length_cons, List.length_nil]; rfl) (by repeat' first | exact trivial | constructor) ?_
  refine Holds.step (Px := px) (T := TT) (ρ := fun _ => [.v true (words (trimL l))]) TTe (by simp (maxSteps := 100000) (disch := omega) only [go_sem, V.isAgg, V.flat, ↓reduceIte, Nat.reduceAdd, Nat.reduceSub, Nat.reduceLT, Nat.reduceEqDiff, reduceCtorEq, Nat.reduceLeDiff, Nat.reduceBEq, Nat.reduceMul, Int.reduceToNat]; rfl) (by first | exact Trim_ok l (by omega) | (repeat' first | exact trivial | exact Trim_ok l (by omega) | constructor)) ?_
  refine Holds.next (fun σ => ∀ a w, Rel cx w0 σ a w → Rel cx w0 { nt := 10, env := [(0, .v true (words (trimL l)))], mem := [] } a w) ?_ ?_
  · refine Holds.step (Px := px) (T := TT) (ρ := fun _ => []) TTe (by simp (maxSteps := 100000) (disch := omega) only [go_sem, V.isAgg, V.flat, ↓reduceIte, Nat.reduceAdd, Nat.reduceSub, Nat.reduceLT, Nat.reduceEqDiff, reduceCtorEq, Nat.reduceLeDiff, Nat.reduceBEq, Nat.reduceMul, Int.reduceToNat]; rfl) (by repeat' first | exact trivial | constructor) ?_
    exact Holds.condF rfl (Holds.skip fun a w h => Rel.keep [0] [] h)
  · intro σ hσ
    refine Holds.from hσ ?_
    refine Holds.step (Px := px) (T := TT) (ρ := fun _ => []) TTe (by simp (maxSteps := 100000) (disch := omega) only [go_sem, V.isAgg, V.flat, ↓reduceIte, Nat.reduceAdd, Nat.reduceSub, Nat.reduceLT, Nat.reduceEqDiff, reduceCtorEq, Nat.reduceLeDiff, Nat.reduceBEq, Nat.reduceMul, Int.reduceToNat]; rfl) (by repeat' first | exact trivial | constructor) ?_
    exact Holds.ret (RetOk.vs rfl (by exact ⟨⟨rfl, fun h => h⟩, ⟨rfl, fun h => h⟩, trivial⟩) rfl)

/-- The sum of the first k pieces. -/
def jv (ls : List (List Int)) (n : Nat) : Nat → Nat
  | 0 => 0
  | k + 1 => jv ls n k + 18446744073709551616 ^ (k * n) * val (ls.getD k [])

theorem mtK : TT.mt 94 "reckoner/fast.mul" = some 100 := by kernel_rfl
theorem ifc96 : ifcT Tryz.prog 94 = some false := by kernel_rfl

theorem checkedK_ok (X Y : List Int) (least : Int) (p : List Int) (hX : X.length ≤ 4096) (hY : Y.length ≤ 4096) (hl : 3 ≤ least ∧ least ≤ 64) (hp : p.length < 1000000) (hp2 : (trimL p).length ≤ 4096)
    (h : FnOk Tryz.prog 100 [.v (wayV least), .v (words (trimL X)), .v (words (trimL Y))] [.v true (words p)]) :
    FnOk Tryz.prog 49 [.v (words X), .v (words Y), .v (.int .i64 least), .v (.iface 94 (wayV least))] [.v true (words (trimL p)), .v true (.int .i64 0)] := by
  have hlg : FnOk Tryz.prog 31 [.v (.sl 1 [.sl 1 (X.map fun n => .int .u64 n), .sl 1 (Y.map fun n => .int .u64 n)])] [.v true (.bool false)] := by
    have := large_ok [X, Y] (by simp) (by intro l hl; simp only [List.mem_cons, List.not_mem_nil, or_false] at hl; rcases hl with rfl | rfl <;> omega)
    rw [show ([X, Y].any fun l => decide (4096 < l.length)) = false from by simp; omega] at this
    exact this
  have h1 := Trim_ok X (by omega)
  have h2 := Trim_ok Y (by omega)
  have h3 := ffit_ok p hp hp2
  obtain ⟨x, hx⟩ : ∃ x, x = trimL X := ⟨_, rfl⟩
  obtain ⟨y, hy⟩ : ∃ y, y = trimL Y := ⟨_, rfl⟩
  rw [← hx] at h1 h
  rw [← hy] at h2 h
  have n1 : ¬ least < 3 := by omega
  have n2 : ¬ 64 < least := by omega
  refine FnOk.of Tryz.func49 rfl rfl fun cx w0 => ?_
  rw [show Tryz.f49.ntmps = 33 from rfl]
  refine Holds.step (Px := px) (T := TT) (ρ := fun _ => []) TTe (by simp (maxSteps := 100000) (disch := omega) only [go_sem, V.isAgg, V.flat, ↓reduceIte, Nat.reduceAdd, Nat.reduceSub, Nat.reduceLT, Nat.reduceEqDiff, reduceCtorEq, Nat.reduceLeDiff, Nat.reduceBEq, Nat.reduceMul, Int.reduceToNat, List.length_cons, List.length_nil, wayV]; rfl) (by repeat' first | exact trivial | constructor) ?_
  refine Holds.next (fun σ => ∀ a w, Rel cx w0 σ a w → Rel cx w0 { nt := 33, env := [(0, .v false (words X)), (1, .v false (words Y)), (2, .v true (.int .i64 least)), (3, .v false (.iface 94 (wayV least)))], mem := [] } a w) ?_ ?_
  · refine Holds.step (Px := px) (T := TT) (ρ := fun _ => [.v true (.bool false)]) TTe (by simp (maxSteps := 100000) (disch := omega) only [go_sem, V.isAgg, V.flat, ↓reduceIte, Nat.reduceAdd, Nat.reduceSub, Nat.reduceLT, Nat.reduceEqDiff, reduceCtorEq, Nat.reduceLeDiff, Nat.reduceBEq, Nat.reduceMul, Int.reduceToNat]; rfl) (by first | exact hlg | (repeat' first | exact trivial | exact hlg | constructor)) ?_
    exact Holds.condF rfl (Holds.skip fun a w h => Rel.keep [0, 1, 2, 3] [] h)
  · intro σ hσ
    refine Holds.from hσ ?_
    refine Holds.next (fun σ => ∀ a w, Rel cx w0 σ a w → Rel cx w0 { nt := 33, env := [(0, .v false (words X)), (1, .v false (words Y)), (2, .v true (.int .i64 least)), (3, .v false (.iface 94 (wayV least)))], mem := [] } a w) ?_ ?_
    · refine Holds.step (Px := px) (T := TT) (ρ := fun _ => []) TTe (by simp (maxSteps := 100000) (disch := omega) only [go_sem, V.isAgg, V.flat, ↓reduceIte, Nat.reduceAdd, Nat.reduceSub, Nat.reduceLT, Nat.reduceEqDiff, reduceCtorEq, Nat.reduceLeDiff, Nat.reduceBEq, Nat.reduceMul, Int.reduceToNat, n1, n2]; rfl) (by repeat' first | exact trivial | constructor) ?_
      exact Holds.condF rfl (Holds.skip fun a w h => Rel.keep [0, 1, 2, 3] [] h)
    · intro σ hσ
      refine Holds.from hσ ?_
      refine Holds.step (Px := px) (T := TT) (ρ := fun _ => []) TTe (by simp (maxSteps := 100000) (disch := omega) only [go_sem, V.isAgg, V.flat, ↓reduceIte, Nat.reduceAdd, Nat.reduceSub, Nat.reduceLT, Nat.reduceEqDiff, reduceCtorEq, Nat.reduceLeDiff, Nat.reduceBEq, Nat.reduceMul, Int.reduceToNat]; rfl) (by repeat' first | exact trivial | constructor) ?_
      refine Holds.step (Px := px) (T := TT) (ρ := fun d => if d = 26 then [.v true (words x)] else if d = 28 then [.v true (words y)] else if d = 29 then [.v true (words p)] else [.v true (words (trimL p)), .v true (.int .i64 0)]) TTe (by simp (maxSteps := 100000) (disch := omega) only [go_sem, V.isAgg, V.flat, ↓reduceIte, Nat.reduceAdd, Nat.reduceSub, Nat.reduceLT, Nat.reduceEqDiff, reduceCtorEq, Nat.reduceLeDiff, Nat.reduceBEq, Nat.reduceMul, Int.reduceToNat, mtK, wayV]; rfl) (by first | exact ⟨h1, h2, h, h3⟩ | (repeat' first | exact trivial | exact h1 | exact h2 | exact h | exact h3 | constructor)) ?_
      exact Holds.ret (RetOk.vs rfl (by exact ⟨⟨rfl, fun h => h⟩, ⟨rfl, fun h => h⟩, trivial⟩) rfl)

def fitR (l : List Int) : List Int × Int := if 4096 < l.length then ([], 2) else (l, 0)
theorem ffitG_ok (l : List Int) (hl : l.length < 1000000) : FnOk Tryz.prog 62 [.v (words l)] [.v true (words (fitR (trimL l)).1), .v true (.int .i64 (fitR (trimL l)).2)] := by
  by_cases h : 4096 < (trimL l).length
  · rw [fitR, if_pos h]
    have hT := Trim_ok l (by omega)
    obtain ⟨t, ht⟩ : ∃ t, t = trimL l := ⟨_, rfl⟩
    rw [← ht] at h hT
    refine FnOk.of Tryz.func62 rfl rfl fun cx w0 => ?_
    rw [show Tryz.f62.ntmps = 10 from rfl]
    refine Holds.step (Px := px) (T := TT) (ρ := fun _ => []) TTe (by simp (maxSteps := 100000) (disch := omega) only [go_sem, V.isAgg, V.flat, ↓reduceIte, Nat.reduceAdd, Nat.reduceSub, Nat.reduceLT, Nat.reduceEqDiff, reduceCtorEq, Nat.reduceLeDiff, Nat.reduceBEq, Nat.reduceMul, Int.reduceToNat, List.length_cons, List.length_nil]; rfl) (by repeat' first | exact trivial | constructor) ?_
    refine Holds.step (Px := px) (T := TT) (ρ := fun _ => [.v true (words t)]) TTe (by simp (maxSteps := 100000) (disch := omega) only [go_sem, V.isAgg, V.flat, ↓reduceIte, Nat.reduceAdd, Nat.reduceSub, Nat.reduceLT, Nat.reduceEqDiff, reduceCtorEq, Nat.reduceLeDiff, Nat.reduceBEq, Nat.reduceMul, Int.reduceToNat]; rfl) (by first | exact hT | (repeat' first | exact trivial | exact hT | constructor)) ?_
    refine Holds.seq ?_
    refine Holds.step (Px := px) (T := TT) (ρ := fun _ => []) TTe (by simp (maxSteps := 100000) (disch := omega) only [go_sem, V.isAgg, V.flat, ↓reduceIte, Nat.reduceAdd, Nat.reduceSub, Nat.reduceLT, Nat.reduceEqDiff, reduceCtorEq, Nat.reduceLeDiff, Nat.reduceBEq, Nat.reduceMul, Int.reduceToNat]; rfl) (by repeat' first | exact trivial | constructor) ?_
    refine Holds.condT rfl ?_
    refine Holds.step (Px := px) (T := TT) (ρ := fun _ => []) TTe (by simp (maxSteps := 100000) (disch := omega) only [go_sem, V.isAgg, V.flat, ↓reduceIte, Nat.reduceAdd, Nat.reduceSub, Nat.reduceLT, Nat.reduceEqDiff, reduceCtorEq, Nat.reduceLeDiff, Nat.reduceBEq, Nat.reduceMul, Int.reduceToNat]; rfl) (by repeat' first | exact trivial | constructor) ?_
    exact Holds.ret ⟨_, [], rfl, ⟨rfl, ⟨rfl, fun h => h⟩, trivial⟩, by simp [R.names, R.mems, R.blks], by simp, rfl⟩
  · rw [fitR, if_neg h]
    exact ffit_ok l hl (by omega)
/-
  Plain laws: sums of pieces, products by pieces.
-/

theorem digs_len {v m : Nat} (h : v < 18446744073709551616 ^ m) : (digs v).length ≤ m := by
  obtain ⟨o, _, hv⟩ := digs_ok v
  have e := trim_digs o
  rw [hv] at e
  rcases trimL_last (digs v) with h0 | ⟨t, z, ht, hz⟩
  · rw [e] at h0; rw [h0]; exact Nat.zero_le _
  · rw [e] at ht
    have oz := o z (by rw [ht]; simp)
    have hval : v = val t + 18446744073709551616 ^ t.length * (z.toNat + 18446744073709551616 * 0) := by
      have := val_append t [z]
      rw [← ht, hv] at this
      exact this
    have hz1 : 1 ≤ z.toNat := by omega
    have hge : 18446744073709551616 ^ t.length ≤ v := by
      have h1 : 18446744073709551616 ^ t.length * 1 ≤ 18446744073709551616 ^ t.length * z.toNat := Nat.mul_le_mul_left _ hz1
      rw [Nat.mul_zero, Nat.add_zero] at hval
      omega
    rw [ht, List.length_append]
    refine Nat.lt_of_not_le fun hle => ?_
    have : 18446744073709551616 ^ m ≤ 18446744073709551616 ^ t.length := Nat.pow_le_pow_right (by decide) hle
    omega

theorem val_take_add {l : List Int} (i j : Nat) : val (l.take (i + j)) = val (l.take i) + 18446744073709551616 ^ i * val ((l.drop i).take j) := by
  rcases Nat.le_total i l.length with h | h
  · have e : l.take (i + j) = l.take i ++ (l.drop i).take j := List.take_add
    rw [e, val_append, List.length_take, Nat.min_eq_left h]
  · rw [List.take_of_length_le (by omega), List.take_of_length_le h, List.drop_of_length_le h, List.take_nil]
    simp [val]

theorem pcs_getD {y : List Int} {n K k : Nat} (hk : k < K) : (pcs y n K).getD k [] = trimL ((y.drop (k * n)).take n) := by
  rw [pcs, List.getD_eq_getElem?_getD, List.getElem?_map, List.getElem?_range hk]; rfl

theorem jv_pcs {y : List Int} {n K : Nat} : ∀ k, k ≤ K → jv (pcs y n K) n k = val (y.take (k * n))
  | 0, _ => by rw [jv, Nat.zero_mul, List.take_zero]; rfl
  | k + 1, h => by
    rw [jv, jv_pcs k (by omega), pcs_getD (by omega), val_trim, Nat.succ_mul, val_take_add]

theorem pcsM_all {y : List Int} {n : Nat} (hn : 0 < n) : y.length ≤ pcsM y n * n := by
  refine Nat.le_of_not_lt fun h => ?_
  have := (pcsM_lt (x := y) (n := n) (k := pcsM y n) hn).2 h
  omega
theorem jv_all {y : List Int} {n : Nat} (hn : 0 < n) : jv (pcs y n (pcsM y n)) n (pcsM y n) = val y := by
  rw [jv_pcs _ (Nat.le_refl _), List.take_of_length_le (pcsM_all hn)]
theorem pcsM_le {y : List Int} {n : Nat} (hn : 0 < n) : pcsM y n ≤ y.length := by
  refine Nat.le_of_not_lt fun h => ?_
  have h1 := (pcsM_lt (x := y) (n := n) (k := y.length) hn).1 h
  have h2 := Nat.le_mul_of_pos_right y.length hn
  omega

/-- The sum of values with their places. -/
def wS (S : Nat → Nat) (n : Nat) : Nat → Nat
  | 0 => 0
  | k + 1 => wS S n k + 18446744073709551616 ^ (k * n) * S k
theorem wS_congr {S T : Nat → Nat} {n : Nat} : ∀ {k}, (∀ j, j < k → S j = T j) → wS S n k = wS T n k
  | 0, _ => rfl
  | k + 1, h => by rw [wS, wS, wS_congr (fun j hj => h j (by omega)), h k (by omega)]
theorem wS_add {S : Nat → Nat} {n m d : Nat} : ∀ k, m < k → wS (fun j => if j = m then S j + d else S j) n k = wS S n k + 18446744073709551616 ^ (m * n) * d
  | k + 1, h => by
    rw [wS, wS]
    by_cases hm : m = k
    · subst hm
      rw [if_pos rfl, wS_congr (T := S) (fun j hj => if_neg (by omega)), Nat.mul_add, Nat.add_assoc]
    · rw [if_neg (fun h => hm h.symm), wS_add k (by omega)]
      omega
theorem wS_le {S : Nat → Nat} {n : Nat} : ∀ {k j}, j ≤ k → wS S n j ≤ wS S n k
  | 0, j, h => by rw [show j = 0 from by omega]; exact Nat.le_refl _
  | k + 1, j, h => by
    rcases Nat.lt_or_ge k j with h1 | h1
    · rw [show j = k + 1 from by omega]; exact Nat.le_refl _
    · rw [wS]
      have := wS_le (S := S) (n := n) h1
      omega
theorem wS_one {S : Nat → Nat} {n : Nat} {k j : Nat} (h : j < k) : S j ≤ wS S n k := by
  have h1 := wS_le (S := S) (n := n) (k := k) (j := j + 1) (by omega)
  rw [wS] at h1
  have h2 : 1 * S j ≤ 18446744073709551616 ^ (j * n) * S j := Nat.mul_le_mul_right _ (Nat.pow_pos (by decide))
  omega

def cvI (u : Nat) (qs : Nat → Nat) (i : Nat) (S : Nat → Nat) : Nat → Nat → Nat
  | 0 => S
  | k + 1 => fun j => if j = i + k then cvI u qs i S k j + u * qs k else cvI u qs i S k j
def cvO (ps qs : Nat → Nat) (Q : Nat) : Nat → Nat → Nat
  | 0 => fun _ => 0
  | i + 1 => cvI (ps i) qs i (cvO ps qs Q i) Q
theorem cvI_ok {u : Nat} {qs : Nat → Nat} {i : Nat} {S : Nat → Nat} {n N : Nat} : ∀ k, i + k ≤ N → wS (cvI u qs i S k) n N = wS S n N + 18446744073709551616 ^ (i * n) * (u * wS qs n k)
  | 0, _ => by rw [cvI, wS, Nat.mul_zero, Nat.mul_zero, Nat.add_zero]
  | k + 1, h => by
    have ih := cvI_ok (u := u) (qs := qs) (i := i) (S := S) (n := n) (N := N) k (by omega)
    rw [cvI, wS_add (m := i + k) N (by omega), ih, wS, Nat.add_mul, Nat.pow_add, Nat.mul_add, Nat.mul_add, Nat.add_assoc]
    congr 2
    rw [Nat.mul_assoc]
    congr 1
    rw [Nat.mul_left_comm]
theorem cvO_ok {ps qs : Nat → Nat} {Q n N : Nat} : ∀ i, i + Q ≤ N → wS (cvO ps qs Q i) n N = wS ps n i * wS qs n Q
  | 0, _ => by
    rw [cvO, wS, Nat.zero_mul]
    have : ∀ k, wS (fun _ => 0) n k = 0 := by
      intro k
      induction k with
      | zero => rfl
      | succ k ih => rw [wS, ih]; rfl
    exact this N
  | i + 1, h => by
    rw [cvO, cvI_ok Q (by omega), cvO_ok (N := N) i (by omega), wS, Nat.add_mul, Nat.mul_assoc]

/-- A list of numbers by their values. -/
def lstS (S : Nat → Nat) (N : Nat) : List (List Int) := (List.range N).map fun j => digs (S j)
theorem lstS_len (S : Nat → Nat) (N : Nat) : (lstS S N).length = N := by rw [lstS, List.length_map, List.length_range]
theorem lstS_getD {S : Nat → Nat} {N j : Nat} (h : j < N) : (lstS S N).getD j [] = digs (S j) := by
  rw [lstS, List.getD_eq_getElem?_getD, List.getElem?_map, List.getElem?_range h]; rfl
theorem jv_lst {S : Nat → Nat} {n N : Nat} : ∀ k, k ≤ N → jv (lstS S N) n k = wS S n k
  | 0, _ => rfl
  | k + 1, h => by rw [jv, wS, jv_lst k (by omega), lstS_getD (by omega), (digs_ok _).2.2]
theorem lstS_set {S : Nat → Nat} {N m d : Nat} : lstS (fun j => if j = m then S j + d else S j) N = (lstS S N).set m (digs (S m + d)) := by
  apply List.ext_getElem?
  intro i
  rw [lstS, lstS, List.getElem?_map]
  by_cases hi : i < N
  · rw [List.getElem?_range hi, Option.map_some]
    by_cases hm : m = i
    · subst hm
      rw [List.getElem?_set_self (by simp; exact hi), if_pos rfl]
    · rw [List.getElem?_set_ne hm, List.getElem?_map, List.getElem?_range hi, if_neg (fun h => hm h.symm)]
      rfl
  · rw [List.getElem?_eq_none (by simp; omega), Option.map_none, List.getElem?_eq_none (by simp; omega)]
end Go.Proofs.YtjmclobbfabnpaaGreat.L
