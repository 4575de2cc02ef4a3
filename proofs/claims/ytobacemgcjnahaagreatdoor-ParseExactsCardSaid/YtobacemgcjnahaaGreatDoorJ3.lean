/-
  ParseExacts0
-/
import Derived.Test.YtobacemgcjnahaaGreatDoorI1
import Derived.Test.YtobacemgcjnahaaGreatDoorH7
set_option linter.unusedSimpArgs false
set_option linter.unusedVariables false
/-
  ParseExacts: the walk.
-/
namespace Go.Proofs.YtobacemgcjnahaaGreatDoor.L
open Go Go.RowKit Go.Proofs
attribute [local go_sem] evalOps_nil evalOps_cons runW_t runW_f runE_s runP_s wantA evalOp effOp letters okDst coreA St.opv St.get St.at look constA St.put St.upd St.set decide_true List.all_nil List.all_cons Bool.and_true Bool.true_and and_self and_true true_and if_true if_false true_or Int.sub_zero List.nil_append List.cons_append List.append_nil Option.isSome_some List.getElem?_toArray List.getElem?_cons_succ List.getElem?_cons_zero Option.bind_some Option.map_some Option.map_none beq_self_eq_true Bool.false_beq Bool.true_beq Bool.not_true Bool.not_false Bool.false_eq_true cond_true cond_false binA binI List.map_cons List.map_nil boundA List.length_nil List.length_cons Nat.zero_mul Nat.one_mul Nat.mul_one Nat.zero_add Nat.add_zero Nat.zero_le Option.toList St.freshB AV.ment AV.ments Blk.ment V.sizes Nat.lt_add_one Bool.or_true Bool.true_or Bool.or_false Bool.false_or Bool.or_self if_pos if_neg decide_false decide_eq_true decide_eq_false wrap_i64 Int.toNat_natCast minA maxA Int.natCast_add Int.cast_ofNat_Int Option.isSome_none false_implies true_implies forall_const List.drop_zero Int.toNat_zero Int.add_sub_cancel lenA sliceA loadA indexAddrA partA fitsT V.atP V.offP V.size List.length_map List.getElem?_map Int.toNat_natCast_add_one Int.ofNat_eq_natCast TY calleeA capArg knotA capArgs toArgs toArg callA R.res R.mems R.blks R.av R.names R.nw invokeA storeA storeV fieldAddrA liveB V.off V.offs V.setP List.set_cons_zero List.set_cons_succ buildA buildP partsA appendA srcA copyA boxOk makeA AV.pure List.take_succ_cons List.take_zero nilA words entry List.zipIdx_cons List.zipIdx_nil Arg.av Arg.avs

def rxW (r : RNum) : Int := if r.kind = 0 ∨ r.kind = 2 then 6 else if rexB r = true then 0 else 4
def rxY (r : RNum) : V := if r.kind = 0 ∨ r.kind = 2 then decV 0 false 0 0 else if rexB r = true then rexV r else decV 0 false 0 0
theorem rexV_form (r : RNum) : ∃ k neg m e, rexV r = decV k neg m e := by
  unfold rexV
  split
  · exact ⟨_, _, _, _, rfl⟩
  · split <;> exact ⟨_, _, _, _, rfl⟩

set_option maxRecDepth 100000 in
set_option maxHeartbeats 4000000 in
theorem PE_main (t : ByteArray) (ht : t.size ≤ 300) (kx : Nat) (nx : Bool) (mx : Nat) (ex E : Int) (hX : FnOk Tryz.prog 24 [.v (.str t)] [.v true (decV kx nx mx ex), .v true (.int .i64 E)])
    (hF : FnOk Tryz.prog 21 [.v (decV kx nx mx ex), .v (.int .i64 0), .v (.int .i64 E), .v (rxY (rRead (lowS t))), .v (.int .i64 0), .v (.int .i64 (rxW (rRead (lowS t))))] [.v true (.bool true)]) :
    FnOk Tryz.prog 6 [.v (.str t)] [.v true (.bool true)] := by
  have hR := rRead_ok t (by omega) (by rw [lowS_size]; omega)
  obtain ⟨r, hr⟩ : ∃ r, r = rRead (lowS t) := ⟨_, rfl⟩
  rw [← hr] at hF hR
  have hE := rExact_ok r
  unfold rxY rxW at hF
  rw [decV_zero] at hF
  obtain ⟨k, neg, m, e, he⟩ := rexV_form r
  obtain ⟨b, hb⟩ : ∃ b, b = rexB r := ⟨_, rfl⟩
  rw [he, ← hb] at hF hE
  rw [decV_eq] at hX
  rw [decV_eq kx] at hF
  rw [decV_eq] at hE hF
  obtain ⟨lx, hlx⟩ : ∃ l, l = digs mx := ⟨_, rfl⟩
  obtain ⟨ly, hly⟩ : ∃ l, l = digs m := ⟨_, rfl⟩
  rw [← hlx] at hX hF
  rw [← hly] at hE hF
  clear he hr hb hlx hly
  obtain ⟨rk, rn, rm, re, rg⟩ := r
  unfold RNum.v at hR hE
  simp only [words] at hR hE hF
  obtain ⟨lr, hlr⟩ : ∃ l, l = digs rm := ⟨_, rfl⟩
  rw [← hlr] at hR hE
  clear hlr
  refine FnOk.of Tryz.func6 rfl rfl fun cx w0 => ?_
  rw [show Tryz.f6.ntmps = 55 from rfl]
  have g : ¬ (300 : Int) < t.size := by omega
  refine Holds.step (Px := px) (T := TT) (ρ := fun _ => []) TTe (by simp (maxSteps := 100000) (disch := omega) only [go_sem, V.isAgg, V.flat, ↓reduceIte, Nat.reduceAdd, Nat.reduceSub, Nat.reduceLT, Nat.reduceEqDiff, reduceCtorEq, Nat.reduceLeDiff, Nat.reduceBEq, Nat.reduceMul, Int.reduceToNat, List.length_cons, List.length_nil]; rfl) (by repeat' first | exact trivial | constructor) ?_
  refine Holds.seq ?_
  refine Holds.step (Px := px) (T := TT) (ρ := fun _ => []) TTe (by simp (maxSteps := 100000) (disch := omega) only [go_sem, V.isAgg, V.flat, ↓reduceIte, Nat.reduceAdd, Nat.reduceSub, Nat.reduceLT, Nat.reduceEqDiff, reduceCtorEq, Nat.reduceLeDiff, Nat.reduceBEq, Nat.reduceMul, Int.reduceToNat, g]; rfl) (by repeat' first | exact trivial | constructor) ?_
  refine Holds.condF rfl (Holds.skip ?_)
  refine Holds.step (Px := px) (T := TT) (ρ := fun _ => [.v true (.agg [.int .i64 (kx : Nat), .bool nx, .sl 1 (lx.map fun n => .int .u64 n), .int .i64 ex]), .v true (.int .i64 E)]) TTe (by simp (maxSteps := 100000) (disch := omega) only [go_sem, V.isAgg, V.flat, ↓reduceIte, Nat.reduceAdd, Nat.reduceSub, Nat.reduceLT, Nat.reduceEqDiff, reduceCtorEq, Nat.reduceLeDiff, Nat.reduceBEq, Nat.reduceMul, Int.reduceToNat]; rfl) (by first | exact hX | (repeat' first | exact trivial | exact hX | constructor)) ?_
  refine Holds.step (Px := px) (T := TT) (ρ := fun _ => [.v true (.agg [.int .i64 (rk : Nat), .bool rn, .sl 1 (lr.map fun n => .int .u64 n), .int .i64 re, .bool rg])]) TTe (by simp (maxSteps := 100000) (disch := omega) only [go_sem, V.isAgg, V.flat, ↓reduceIte, Nat.reduceAdd, Nat.reduceSub, Nat.reduceLT, Nat.reduceEqDiff, reduceCtorEq, Nat.reduceLeDiff, Nat.reduceBEq, Nat.reduceMul, Int.reduceToNat]; rfl) (by first | exact hR | (repeat' first | exact trivial | exact hR | constructor)) ?_
  refine Holds.from (σ' := { nt := 55, env := [(2, .v true (.bool false)), (3, .ptr 3 0 [] 0), (4, .v true (.int .i64 E)), (5, .ptr 5 0 [] 0)], mem := [(3, .box 53 (.v true (.agg [.int .i64 (kx : Nat), .bool nx, .sl 1 (lx.map fun n => .int .u64 n), .int .i64 ex]))), (5, .box 39 (.v true (.agg [.int .i64 (rk : Nat), .bool rn, .sl 1 (lr.map fun n => .int .u64 n), .int .i64 re, .bool rg])))] }) (fun a w h => Rel.keep [2, 3, 4, 5] [3, 5] h) ?_
  by_cases h0 : rk = 0 ∨ rk = 2
  · rw [if_pos h0, if_pos h0] at hF
    refine Holds.next (fun σ => False) ?_ fun σ h => h.elim
    rcases h0 with rfl | rfl
    · refine Holds.step (Px := px) (T := TT) (ρ := fun _ => []) TTe (by simp (maxSteps := 100000) (disch := omega) only [go_sem, V.isAgg, V.flat, ↓reduceIte, Nat.reduceAdd, Nat.reduceSub, Nat.reduceLT, Nat.reduceEqDiff, reduceCtorEq, Nat.reduceLeDiff, Nat.reduceBEq, Nat.reduceMul, Int.reduceToNat]; rfl) (by repeat' first | exact trivial | constructor) ?_
      refine Holds.condT rfl ?_
      refine Holds.step (Px := px) (T := TT) (ρ := fun _ => [.v true (.bool true)]) TTe (by simp (maxSteps := 100000) (disch := omega) only [go_sem, V.isAgg, V.flat, ↓reduceIte, Nat.reduceAdd, Nat.reduceSub, Nat.reduceLT, Nat.reduceEqDiff, reduceCtorEq, Nat.reduceLeDiff, Nat.reduceBEq, Nat.reduceMul, Int.reduceToNat]; rfl) (by first | exact ⟨hF, awake_ok⟩ | (repeat' first | exact trivial | exact hF | exact awake_ok | constructor)) ?_
      exact Holds.ret (RetOk.vs rfl (by exact ⟨⟨rfl, fun h => h⟩, trivial⟩) rfl)
    · refine Holds.step (Px := px) (T := TT) (ρ := fun _ => []) TTe (by simp (maxSteps := 100000) (disch := omega) only [go_sem, V.isAgg, V.flat, ↓reduceIte, Nat.reduceAdd, Nat.reduceSub, Nat.reduceLT, Nat.reduceEqDiff, reduceCtorEq, Nat.reduceLeDiff, Nat.reduceBEq, Nat.reduceMul, Int.reduceToNat]; rfl) (by repeat' first | exact trivial | constructor) ?_
      refine Holds.condT rfl ?_
      refine Holds.step (Px := px) (T := TT) (ρ := fun _ => [.v true (.bool true)]) TTe (by simp (maxSteps := 100000) (disch := omega) only [go_sem, V.isAgg, V.flat, ↓reduceIte, Nat.reduceAdd, Nat.reduceSub, Nat.reduceLT, Nat.reduceEqDiff, reduceCtorEq, Nat.reduceLeDiff, Nat.reduceBEq, Nat.reduceMul, Int.reduceToNat]; rfl) (by first | exact ⟨hF, awake_ok⟩ | (repeat' first | exact trivial | exact hF | exact awake_ok | constructor)) ?_
      exact Holds.ret (RetOk.vs rfl (by exact ⟨⟨rfl, fun h => h⟩, trivial⟩) rfl)
  · rw [if_neg h0, if_neg h0] at hF
    have g0 : ¬ (rk : Int) = 0 := by omega
    have g2 : ¬ (rk : Int) = 2 := by omega
    refine Holds.seq ?_
    refine Holds.step (Px := px) (T := TT) (ρ := fun _ => []) TTe (by simp (maxSteps := 100000) (disch := omega) only [go_sem, V.isAgg, V.flat, ↓reduceIte, Nat.reduceAdd, Nat.reduceSub, Nat.reduceLT, Nat.reduceEqDiff, reduceCtorEq, Nat.reduceLeDiff, Nat.reduceBEq, Nat.reduceMul, Int.reduceToNat, g0, g2]; rfl) (by repeat' first | exact trivial | constructor) ?_
    refine Holds.condF rfl (Holds.skip ?_)
    refine Holds.step (Px := px) (T := TT) (ρ := fun _ => [.v false (.agg [.int .i64 (k : Nat), .bool neg, .sl 1 (ly.map fun n => .int .u64 n), .int .i64 e]), .v true (.bool b)]) TTe (by simp (maxSteps := 100000) (disch := omega) only [go_sem, V.isAgg, V.flat, ↓reduceIte, Nat.reduceAdd, Nat.reduceSub, Nat.reduceLT, Nat.reduceEqDiff, reduceCtorEq, Nat.reduceLeDiff, Nat.reduceBEq, Nat.reduceMul, Int.reduceToNat]; rfl) (by first | exact hE | (repeat' first | exact trivial | exact hE | constructor)) ?_
    cases b with
    | false =>
      rw [if_neg (by simp), if_neg (by simp)] at hF
      refine Holds.seq ?_
      refine Holds.step (Px := px) (T := TT) (ρ := fun _ => []) TTe (by simp (maxSteps := 100000) (disch := omega) only [go_sem, V.isAgg, V.flat, ↓reduceIte, Nat.reduceAdd, Nat.reduceSub, Nat.reduceLT, Nat.reduceEqDiff, reduceCtorEq, Nat.reduceLeDiff, Nat.reduceBEq, Nat.reduceMul, Int.reduceToNat, unA]; rfl) (by repeat' first | exact trivial | constructor) ?_
      refine Holds.condT rfl ?_
      refine Holds.step (Px := px) (T := TT) (ρ := fun _ => [.v true (.bool true)]) TTe (by simp (maxSteps := 100000) (disch := omega) only [go_sem, V.isAgg, V.flat, ↓reduceIte, Nat.reduceAdd, Nat.reduceSub, Nat.reduceLT, Nat.reduceEqDiff, reduceCtorEq, Nat.reduceLeDiff, Nat.reduceBEq, Nat.reduceMul, Int.reduceToNat]; rfl) (by first | exact ⟨hF, awake_ok⟩ | (repeat' first | exact trivial | exact hF | exact awake_ok | constructor)) ?_
      exact Holds.ret (RetOk.vs rfl (by exact ⟨⟨rfl, fun h => h⟩, trivial⟩) rfl)
    | true =>
      rw [if_pos rfl, if_pos rfl] at hF
      refine Holds.seq ?_
      refine Holds.step (Px := px) (T := TT) (ρ := fun _ => []) TTe (by simp (maxSteps := 100000) (disch := omega) only [go_sem, V.isAgg, V.flat, ↓reduceIte, Nat.reduceAdd, Nat.reduceSub, Nat.reduceLT, Nat.reduceEqDiff, reduceCtorEq, Nat.reduceLeDiff, Nat.reduceBEq, Nat.reduceMul, Int.reduceToNat, unA]; rfl) (by repeat' first | exact trivial | constructor) ?_
      refine Holds.condF rfl (Holds.skip ?_)
      refine Holds.step (Px := px) (T := TT) (ρ := fun _ => [.v true (.bool true)]) TTe (by simp (maxSteps := 100000) (disch := omega) only [go_sem, V.isAgg, V.flat, ↓reduceIte, Nat.reduceAdd, Nat.reduceSub, Nat.reduceLT, Nat.reduceEqDiff, reduceCtorEq, Nat.reduceLeDiff, Nat.reduceBEq, Nat.reduceMul, Int.reduceToNat]; rfl) (by first | exact ⟨hF, awake_ok⟩ | (repeat' first | exact trivial | exact hF | exact awake_ok | constructor)) ?_
      exact Holds.ret (RetOk.vs rfl (by exact ⟨⟨rfl, fun h => h⟩, trivial⟩) rfl)

set_option maxRecDepth 100000 in
theorem PE_awake (t : ByteArray) (ht : 300 < t.size) : FnOk Tryz.prog 6 [.v (.str t)] [.v true (.bool true)] := by
  refine FnOk.of Tryz.func6 rfl rfl fun cx w0 => ?_
  rw [show Tryz.f6.ntmps = 55 from rfl]
  have g : (300 : Int) < t.size := by omega
  refine Holds.step (Px := px) (T := TT) (ρ := fun _ => []) TTe (by simp (maxSteps := 100000) (disch := omega) only [go_sem, V.isAgg, V.flat, ↓reduceIte, Nat.reduceAdd, Nat.reduceSub, Nat.reduceLT, Nat.reduceEqDiff, reduceCtorEq, Nat.reduceLeDiff, Nat.reduceBEq, Nat.reduceMul, Int.reduceToNat, List.length_cons, List.length_nil]; rfl) (by repeat' first | exact trivial | constructor) ?_
  refine Holds.seq ?_
  refine Holds.step (Px := px) (T := TT) (ρ := fun _ => []) TTe (by simp (maxSteps := 100000) (disch := omega) only [go_sem, V.isAgg, V.flat, ↓reduceIte, Nat.reduceAdd, Nat.reduceSub, Nat.reduceLT, Nat.reduceEqDiff, reduceCtorEq, Nat.reduceLeDiff, Nat.reduceBEq, Nat.reduceMul, Int.reduceToNat, g]; rfl) (by repeat' first | exact trivial | constructor) ?_
  refine Holds.condT rfl ?_
  refine Holds.step (Px := px) (T := TT) (ρ := fun _ => [.v true (.bool true)]) TTe (by simp (maxSteps := 100000) (disch := omega) only [go_sem, V.isAgg, V.flat, ↓reduceIte, Nat.reduceAdd, Nat.reduceSub, Nat.reduceLT, Nat.reduceEqDiff, reduceCtorEq, Nat.reduceLeDiff, Nat.reduceBEq, Nat.reduceMul, Int.reduceToNat]; rfl) (by first | exact awake_ok | (repeat' first | exact trivial | exact awake_ok | constructor)) ?_
  exact Holds.ret (RetOk.vs rfl (by exact ⟨⟨rfl, fun h => h⟩, trivial⟩) rfl)

theorem ParseExacts_ok (t : ByteArray) : FnOk Tryz.prog 6 [.v (.str t)] [.v true (.bool true)] := by
  by_cases ht : 300 < t.size
  · exact PE_awake t ht
  have z : ∃ ky ny my ey, decV 0 false 0 0 = decV ky ny my ey := ⟨_, _, _, _, rfl⟩
  rcases whole t with ⟨h1, h2⟩ | ⟨n, h1, h2, h3, h4⟩
  · refine PE_main t (by omega) 0 false 0 0 6 (exact_none t (by omega) (.inl h1)) ?_
    unfold rxY rxW
    rw [if_pos (.inl h2), if_pos (.inl h2)]
    exact dFits_err 6 (by decide) _ z 0
  · by_cases hk1 : n.kind = 1
    · refine PE_main t (by omega) 0 false 0 0 6 (exact_none t (by omega) (.inr ⟨n, h1, hk1⟩)) ?_
      obtain ⟨g, hg⟩ := h4.num (by omega)
      have : (rRead (lowS t)).kind = 2 := by rw [hg]; show n.kind + 1 = 2; omega
      unfold rxY rxW
      rw [if_pos (.inr this), if_pos (.inr this)]
      exact dFits_err 6 (by decide) _ z 0
    · by_cases hk0 : n.kind = 0
      · obtain ⟨g, hg⟩ := h4.num (by omega)
        have hX := exact_num t (by omega) h1 h2 h3 hk0
        have hw := num_words h3 (by omega)
        have e1 : n.each = 1 := by unfold Nm.each; rw [if_neg (by omega)]
        rw [hk0] at hg
        rw [e1, Nat.one_mul] at hX hg
        have hb := h3.beh
        have hlo := h3.lo
        have hhi := h3.hi
        by_cases hin : -1000000 ≤ n.exp - (n.behind : Nat) ∧ n.exp - (n.behind : Nat) ≤ 1000000
        · rw [if_pos hin] at hX
          have hc : clampE n.exp = n.exp := by unfold clampE; rw [if_neg (by omega), if_neg (by omega)]
          refine PE_main t (by omega) _ _ _ _ _ hX ?_
          have hB : rexB (rRead (lowS t)) = true := by rw [hg, hc]; exact decide_eq_true (.inr (.inr hin))
          unfold rxY rxW
          have hK : ¬ ((rRead (lowS t)).kind = 0 ∨ (rRead (lowS t)).kind = 2) := by rw [hg]; simp
          rw [if_neg hK, if_neg hK, if_pos hB, if_pos hB]
          unfold rexV
          rw [if_neg (by rw [hg]; simp), if_neg (by rw [hg]; simp), hg, hc]
          exact dFits_ok 0 n.neg n.num _ (by omega) 0
        · rw [if_neg hin] at hX
          refine PE_main t (by omega) _ _ _ _ _ hX ?_
          have hB : ¬ rexB (rRead (lowS t)) = true := by
            rw [hg]
            unfold rexB clampE
            simp only [decide_eq_true_eq]
            split
            · omega
            · split <;> omega
          unfold rxY rxW
          have hK : ¬ ((rRead (lowS t)).kind = 0 ∨ (rRead (lowS t)).kind = 2) := by rw [hg]; simp
          rw [if_neg hK, if_neg hK, if_neg hB, if_neg hB]
          exact dFits_err 4 (by decide) _ z 0
      · have hX := exact_spec t (by omega) h1 h2 (by have := h3.kd; omega)
        rcases h4 with ⟨k, _⟩ | ⟨k, _⟩ | ⟨k, hg⟩ | ⟨k, hn, hg⟩
        · omega
        · omega
        · have hs : spV n = decV 1 n.neg 0 0 := by unfold spV; rw [if_neg (by omega), if_pos k]
          rw [hs] at hX
          refine PE_main t (by omega) _ _ _ _ _ hX ?_
          rw [hg]
          exact dFits_ok 1 n.neg 0 0 (by decide) 0
        · have hs : spV n = decV 2 false 0 0 := by unfold spV; rw [if_pos k]
          rw [hs] at hX
          refine PE_main t (by omega) _ _ _ _ _ hX ?_
          rw [hg]
          exact dFits_ok 2 false 0 0 (by decide) 0
end Go.Proofs.YtobacemgcjnahaaGreatDoor.L
