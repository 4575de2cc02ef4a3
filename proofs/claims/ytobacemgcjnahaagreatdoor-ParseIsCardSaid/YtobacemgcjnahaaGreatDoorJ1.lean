/-
  ParseIs0
-/
import Derived.Test.YtobacemgcjnahaaGreatDoorH8
import Derived.Test.YtobacemgcjnahaaGreatDoorH7
set_option linter.unusedSimpArgs false
set_option linter.unusedVariables false
/-
  ParseIs: the walk.
-/
namespace Go.Proofs.YtobacemgcjnahaaGreatDoor.L
open Go Go.RowKit Go.Proofs
attribute [local go_sem] evalOps_nil evalOps_cons runW_t runW_f runE_s runP_s wantA evalOp effOp letters okDst coreA St.opv St.get St.at look constA St.put St.upd St.set decide_true List.all_nil List.all_cons Bool.and_true Bool.true_and and_self and_true true_and if_true if_false true_or Int.sub_zero List.nil_append List.cons_append List.append_nil Option.isSome_some List.getElem?_toArray List.getElem?_cons_succ List.getElem?_cons_zero Option.bind_some Option.map_some Option.map_none beq_self_eq_true Bool.false_beq Bool.true_beq Bool.not_true Bool.not_false Bool.false_eq_true cond_true cond_false binA binI List.map_cons List.map_nil boundA List.length_nil List.length_cons Nat.zero_mul Nat.one_mul Nat.mul_one Nat.zero_add Nat.add_zero Nat.zero_le Option.toList St.freshB AV.ment AV.ments Blk.ment V.sizes Nat.lt_add_one Bool.or_true Bool.true_or Bool.or_false Bool.false_or Bool.or_self if_pos if_neg decide_false decide_eq_true decide_eq_false wrap_i64 Int.toNat_natCast minA maxA Int.natCast_add Int.cast_ofNat_Int Option.isSome_none false_implies true_implies forall_const List.drop_zero Int.toNat_zero Int.add_sub_cancel lenA sliceA loadA indexAddrA partA fitsT V.atP V.offP V.size List.length_map List.getElem?_map Int.toNat_natCast_add_one Int.ofNat_eq_natCast TY calleeA capArg knotA capArgs toArgs toArg callA R.res R.mems R.blks R.av R.names R.nw invokeA storeA storeV fieldAddrA liveB V.off V.offs V.setP List.set_cons_zero List.set_cons_succ buildA buildP partsA appendA srcA copyA boxOk makeA AV.pure List.take_succ_cons List.take_zero nilA words entry List.zipIdx_cons List.zipIdx_nil Arg.av Arg.avs

set_option maxRecDepth 100000 in
set_option maxHeartbeats 4000000 in
theorem ParseIs_ok (t : ByteArray) : FnOk Tryz.prog 3 [.v (.str t)] [.v true (.bool true)] := by
  refine FnOk.of Tryz.func3 rfl rfl fun cx w0 => ?_
  rw [show Tryz.f3.ntmps = 57 from rfl]
  refine Holds.step (Px := px) (T := TT) (ρ := fun _ => []) TTe (by simp (maxSteps := 100000) (disch := omega) only [go_sem, V.isAgg, V.flat, ↓reduceIte, Nat.reduceAdd, Nat.reduceSub, Nat.reduceLT, Nat.reduceEqDiff, reduceCtorEq, Nat.reduceLeDiff, Nat.reduceBEq, Nat.reduceMul, Int.reduceToNat, List.length_cons, List.length_nil]; rfl) (by repeat' first | exact trivial | constructor) ?_
  by_cases h300 : 300 < t.size
  · have g : (300 : Int) < t.size := by omega
    refine Holds.seq ?_
    refine Holds.step (Px := px) (T := TT) (ρ := fun _ => []) TTe (by simp (maxSteps := 100000) (disch := omega) only [go_sem, V.isAgg, V.flat, ↓reduceIte, Nat.reduceAdd, Nat.reduceSub, Nat.reduceLT, Nat.reduceEqDiff, reduceCtorEq, Nat.reduceLeDiff, Nat.reduceBEq, Nat.reduceMul, Int.reduceToNat, g]; rfl) (by repeat' first | exact trivial | constructor) ?_
    refine Holds.condT rfl ?_
    refine Holds.step (Px := px) (T := TT) (ρ := fun _ => [.v true (.bool true)]) TTe (by simp (maxSteps := 100000) (disch := omega) only [go_sem, V.isAgg, V.flat, ↓reduceIte, Nat.reduceAdd, Nat.reduceSub, Nat.reduceLT, Nat.reduceEqDiff, reduceCtorEq, Nat.reduceLeDiff, Nat.reduceBEq, Nat.reduceMul, Int.reduceToNat]; rfl) (by first | exact awake_ok | (repeat' first | exact trivial | exact awake_ok | constructor)) ?_
    exact Holds.ret (RetOk.vs rfl (by exact ⟨⟨rfl, fun h => h⟩, trivial⟩) rfl)
  have hp := pPrefix_ok t (by omega)
  have hi := pIs_ok t (by omega)
  have hj := rIs_ok t (by omega)
  have hq := rPrefix_ok t (by omega)
  have hall := pf_all t
  have hle := rPf_le t t.size
  have hpi := rPf_is t t.size
  rw [← rd_is t] at hj
  rw [← pf_is t] at hq hle hpi
  have hex := pIs_ok (t.extract 0 (pfN t)) (by simp; omega)
  rw [rd_is] at hex
  refine Holds.next (fun σ => ∀ a w, Rel cx w0 σ a w → Rel cx w0 { nt := 57, env := [(0, .v true (.str t))], mem := [] } a w) ?_ ?_
  · have g : ¬ (300 : Int) < t.size := by omega
    refine Holds.step (Px := px) (T := TT) (ρ := fun _ => []) TTe (by simp (maxSteps := 100000) (disch := omega) only [go_sem, V.isAgg, V.flat, ↓reduceIte, Nat.reduceAdd, Nat.reduceSub, Nat.reduceLT, Nat.reduceEqDiff, reduceCtorEq, Nat.reduceLeDiff, Nat.reduceBEq, Nat.reduceMul, Int.reduceToNat, g]; rfl) (by repeat' first | exact trivial | constructor) ?_
    exact Holds.condF rfl (Holds.skip fun a w h => Rel.keep [0] [] h)
  intro σ hσ
  refine Holds.from hσ ?_
  clear hσ
  obtain ⟨n, hn⟩ : ∃ n, n = pfN t := ⟨_, rfl⟩
  obtain ⟨b, hb⟩ : ∃ b, b = rdB t := ⟨_, rfl⟩
  rw [← hn] at hp hq hle hpi hall hex
  rw [← hb] at hi hj hall
  refine Holds.step (Px := px) (T := TT) (ρ := fun _ => [.v true (.int .i64 (n : Nat))]) TTe (by simp (maxSteps := 100000) (disch := omega) only [go_sem, V.isAgg, V.flat, ↓reduceIte, Nat.reduceAdd, Nat.reduceSub, Nat.reduceLT, Nat.reduceEqDiff, reduceCtorEq, Nat.reduceLeDiff, Nat.reduceBEq, Nat.reduceMul, Int.reduceToNat]; rfl) (by first | exact hp | (repeat' first | exact trivial | exact hp | constructor)) ?_
  refine Holds.from (σ' := { nt := 57, env := [(3, .v true (.int .i64 (n : Nat))), (0, .v true (.str t))], mem := [] }) (fun a w h => Rel.keep [3, 0] [] h) ?_
  have gl : (n : Int) ≤ t.size := by omega
  have g0 : (0 : Int) ≤ n := by omega
  by_cases hn0 : n = 0
  · have gz : (n : Int) = 0 := by omega
    have gp : ¬ (0 : Int) < n := by omega
    rw [decide_eq_false (show ¬ 0 < n by omega), Bool.and_false] at hall
    subst hall
    subst hn0
    by_cases hs : t.size = 0
    · have hs : (t.size : Int) = ((0 : Nat) : Int) := by omega
      refine Holds.step (Px := px) (T := TT) (ρ := fun d => if d = 18 then [.v true (.int .i64 (0 : Nat))] else if d = 55 then [.v true (.bool true)] else [.v true (.bool false)]) TTe (by simp (maxSteps := 100000) (disch := omega) only [go_sem, V.isAgg, V.flat, ↓reduceIte, Nat.reduceAdd, Nat.reduceSub, Nat.reduceLT, Nat.reduceEqDiff, reduceCtorEq, Nat.reduceLeDiff, Nat.reduceBEq, Nat.reduceMul, Int.reduceToNat, gl, g0, hs]; rfl) (by first | exact ⟨hi, hj, hq, hi, awake_ok⟩ | (repeat' first | exact trivial | exact hi | exact hj | exact hq | exact hi | exact awake_ok | constructor)) ?_
      exact Holds.ret (RetOk.vs rfl (by exact ⟨⟨rfl, fun h => h⟩, trivial⟩) rfl)
    · have hs : ¬ ((0 : Nat) : Int) = t.size := by omega
      refine Holds.step (Px := px) (T := TT) (ρ := fun d => if d = 18 then [.v true (.int .i64 (0 : Nat))] else if d = 55 then [.v true (.bool true)] else [.v true (.bool false)]) TTe (by simp (maxSteps := 100000) (disch := omega) only [go_sem, V.isAgg, V.flat, ↓reduceIte, Nat.reduceAdd, Nat.reduceSub, Nat.reduceLT, Nat.reduceEqDiff, reduceCtorEq, Nat.reduceLeDiff, Nat.reduceBEq, Nat.reduceMul, Int.reduceToNat, gl, g0, hs]; rfl) (by first | exact ⟨hi, hj, hq, hi, awake_ok⟩ | (repeat' first | exact trivial | exact hi | exact hj | exact hq | exact hi | exact awake_ok | constructor)) ?_
      exact Holds.ret (RetOk.vs rfl (by exact ⟨⟨rfl, fun h => h⟩, trivial⟩) rfl)
  · have gz : ¬ (n : Int) = 0 := by omega
    have gp : (0 : Int) < n := by omega
    rw [hpi (by omega)] at hex
    rw [decide_eq_true (show 0 < n by omega), Bool.and_true] at hall
    by_cases hs : n = t.size
    · rw [decide_eq_true hs] at hall
      subst hall
      have gs : (t.size : Int) = n := by omega
      refine Holds.step (Px := px) (T := TT) (ρ := fun d => if d = 18 then [.v true (.int .i64 (n : Nat))] else [.v true (.bool true)]) TTe (by simp (maxSteps := 100000) (disch := omega) only [go_sem, V.isAgg, V.flat, ↓reduceIte, Nat.reduceAdd, Nat.reduceSub, Nat.reduceLT, Nat.reduceEqDiff, reduceCtorEq, Nat.reduceLeDiff, Nat.reduceBEq, Nat.reduceMul, Int.reduceToNat, gl, g0, gz, gp, gs]; rfl) (by first | exact ⟨hi, hj, hq, hex, hi, awake_ok⟩ | (repeat' first | exact trivial | exact hi | exact hj | exact hq | exact hex | exact hi | exact awake_ok | constructor)) ?_
      exact Holds.ret (RetOk.vs rfl (by exact ⟨⟨rfl, fun h => h⟩, trivial⟩) rfl)
    · rw [decide_eq_false hs] at hall
      subst hall
      have gs : ¬ (n : Int) = t.size := by omega
      refine Holds.step (Px := px) (T := TT) (ρ := fun d => if d = 18 then [.v true (.int .i64 (n : Nat))] else if d = 38 then [.v true (.bool true)] else if d = 55 then [.v true (.bool true)] else [.v true (.bool false)]) TTe (by simp (maxSteps := 100000) (disch := omega) only [go_sem, V.isAgg, V.flat, ↓reduceIte, Nat.reduceAdd, Nat.reduceSub, Nat.reduceLT, Nat.reduceEqDiff, reduceCtorEq, Nat.reduceLeDiff, Nat.reduceBEq, Nat.reduceMul, Int.reduceToNat, gl, g0, gz, gp, gs]; rfl) (by first | exact ⟨hi, hj, hq, hex, hi, awake_ok⟩ | (repeat' first | exact trivial | exact hi | exact hj | exact hq | exact hex | exact hi | exact awake_ok | constructor)) ?_
      exact Holds.ret (RetOk.vs rfl (by exact ⟨⟨rfl, fun h => h⟩, trivial⟩) rfl)
end Go.Proofs.YtobacemgcjnahaaGreatDoor.L
