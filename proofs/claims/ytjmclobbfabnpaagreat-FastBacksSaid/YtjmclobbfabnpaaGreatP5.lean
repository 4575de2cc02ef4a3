/-
  Tj Tk
-/
import Derived.Test.YtjmclobbfabnpaaGreatP4
import Derived.Test.YtjmclobbfabnpaaGreatH9
set_option linter.unusedSimpArgs false
set_option linter.unusedVariables false
/-
  The reference's five values.
-/
namespace Go.Proofs.YtjmclobbfabnpaaGreat.L
open Go Go.RowKit Go.Proofs
attribute [local go_sem] evalOps_nil evalOps_cons runW_t runW_f runE_s runP_s wantA evalOp effOp letters okDst coreA St.opv St.get St.at look constA St.put St.upd St.set decide_true List.all_nil List.all_cons Bool.and_true Bool.true_and and_self and_true true_and if_true if_false true_or Int.sub_zero List.nil_append List.cons_append List.append_nil Option.isSome_some List.getElem?_toArray List.getElem?_cons_succ List.getElem?_cons_zero Option.bind_some Option.map_some Option.map_none beq_self_eq_true Bool.false_beq Bool.true_beq Bool.not_true Bool.not_false Bool.false_eq_true cond_true cond_false binA binI List.map_cons List.map_nil boundA List.length_nil List.length_cons Nat.zero_mul Nat.one_mul Nat.mul_one Nat.zero_add Nat.add_zero Nat.zero_le Option.toList St.freshB AV.ment AV.ments Blk.ment V.sizes Nat.lt_add_one Bool.or_true Bool.true_or Bool.or_false Bool.false_or Bool.or_self if_pos if_neg decide_false decide_eq_true decide_eq_false wrap_i64 Int.toNat_natCast minA maxA Int.natCast_add Int.cast_ofNat_Int Option.isSome_none false_implies true_implies forall_const List.drop_zero Int.toNat_zero Int.add_sub_cancel lenA sliceA loadA indexAddrA partA fitsT V.atP V.offP V.size List.length_map List.getElem?_map Int.toNat_natCast_add_one Int.ofNat_eq_natCast TY calleeA capArg knotA capArgs toArgs toArg callA R.res R.mems R.blks R.av R.names R.nw invokeA storeA storeV fieldAddrA liveB V.off V.offs V.setP List.set_cons_zero List.set_cons_succ buildA buildP partsA appendA srcA copyA boxOk makeA AV.pure List.take_succ_cons List.take_zero nilA words entry List.zipIdx_cons List.zipIdx_nil Arg.av Arg.avs

theorem horn0 (zs : List Int) : hornZ 0 zs = zs.getD 0 0 := by cases zs <;> simp [hornZ]

theorem rValue_use (ps : List (Bool × List Int)) (t : Int) (ht : t.natAbs ≤ 10) (hn : ps.length ≤ 8) (hps : ∀ p ∈ ps, p.2.length ≤ 8 ∧ okW p.2) :
    FnOk Tryz.prog 21 [.v (intsV ps), .v (.int .i64 t)] [.v true (pV (zp (hornZ t (ps.map ival))))] :=
  rValue_ok ps t 9 (by decide) (by omega) (by omega) (by omega) (fun p hp => ⟨by have := (hps p hp).1; omega, (hps p hp).2⟩) (fun j hj => horn_lt (M := 8) ht (by rw [List.length_map]; exact hn) (ivals_lt hps) j (by rw [List.length_map]; exact hj))

theorem rFive_ok (ps : List (Bool × List Int)) (hn : ps.length ≤ 5) (hps : ∀ p ∈ ps, p.2.length ≤ 8 ∧ okW p.2) : FnOk Tryz.prog 8 [.v (intsV ps)] [.v true (arrV (fiveZ (ps.map ival)))] := by
  obtain ⟨Z, hZ⟩ : ∃ Z, Z = V.agg [.bool false, .sl 1 []] := ⟨_, rfl⟩
  have Zs : Z.size = 2 := by rw [hZ]; rfl
  obtain ⟨H, hH⟩ : ∃ H, H = (fiveZ (ps.map ival)).map fun z => pV (zp z) := ⟨_, rfl⟩
  obtain ⟨T, hT⟩ : ∃ T, T = [V.int .i64 0, .int .i64 1, .int .i64 (-1), .int .i64 2] := ⟨_, rfl⟩
  have hHl : H.length = 5 := by rw [hH]; rfl
  have hTl : T.length = 4 := by rw [hT]; rfl
  have hHs : ∀ x ∈ H, x.size = 2 ∧ x.isAgg = true := fun x hx => by
    rw [hH] at hx
    obtain ⟨z, _, rfl⟩ := List.mem_map.1 hx
    exact ⟨rfl, rfl⟩
  have oT : ∀ k, k ≤ 4 → V.off T k = k * 1 := fun k hk => off_all (fun x hx => by
    rw [hT] at hx
    simp only [List.mem_cons, List.not_mem_nil, or_false] at hx
    rcases hx with rfl | rfl | rfl | rfl <;> rfl) (by omega)
  have hr : ∀ k, k < 4 → ∃ t x, T[k]? = some (.int .i64 t) ∧ H[k]? = some x ∧ FnOk Tryz.prog 21 [.v (intsV ps), .v (.int .i64 t)] [.v true x] := fun k hk => by
    have key := fun t ht => rValue_use ps t ht (by omega) hps
    match k, hk with
    | 0, _ => exact ⟨0, _, by rw [hT]; rfl, by rw [hH]; rfl, by have := key 0 (by decide); rw [horn0] at this; exact this⟩
    | 1, _ => exact ⟨1, _, by rw [hT]; rfl, by rw [hH]; rfl, key 1 (by decide)⟩
    | 2, _ => exact ⟨-1, _, by rw [hT]; rfl, by rw [hH]; rfl, key (-1) (by decide)⟩
    | 3, _ => exact ⟨2, _, by rw [hT]; rfl, by rw [hH]; rfl, key 2 (by decide)⟩
  have sT : (V.agg T).size = 4 := by rw [hT]; rfl
  show FnOk Tryz.prog 8 _ [.v true (.agg ((fiveZ (ps.map ival)).map fun z => pV (zp z)))]
  rw [← hH]
  refine FnOk.of Tryz.func8 rfl rfl fun cx w0 => ?_
  rw [show Tryz.f8.ntmps = 27 from rfl]
  refine Holds.step (Px := px) (T := TT) (ρ := fun _ => []) TTe (by simp (maxSteps := 100000) (disch := omega) only [go_sem, V.isAgg, V.flat, ↓reduceIte, Nat.reduceAdd, Nat.reduceSub, Nat.reduceLT, Nat.reduceEqDiff, reduceCtorEq, Nat.reduceLeDiff, Nat.reduceBEq, Nat.reduceMul, Int.reduceToNat, List.length_cons, List.length_nil]; rfl) (by repeat' first | exact trivial | constructor) ?_
  refine Holds.step (Px := px) (T := TT) (ρ := fun _ => []) TTe (by simp (maxSteps := 100000) (disch := omega) only [go_sem, V.isAgg, V.flat, ↓reduceIte, Nat.reduceAdd, Nat.reduceSub, Nat.reduceLT, Nat.reduceEqDiff, reduceCtorEq, Nat.reduceLeDiff, Nat.reduceBEq, Nat.reduceMul, Int.reduceToNat]; rfl) (by repeat' first | exact trivial | constructor) ?_
  refine Holds.step (Px := px) (T := TT) (ρ := fun _ => []) TTe (by simp (maxSteps := 100000) (disch := omega) only [go_sem, V.isAgg, V.flat, ↓reduceIte, Nat.reduceAdd, Nat.reduceSub, Nat.reduceLT, Nat.reduceEqDiff, reduceCtorEq, Nat.reduceLeDiff, Nat.reduceBEq, Nat.reduceMul, Int.reduceToNat]; rfl) (by repeat' first | exact trivial | constructor) ?_
  refine Holds.next (fun σ => ∀ a w, Rel cx w0 σ a w → Rel cx w0 { nt := 27, env := [(3, .ptr 3 0 [] 0), (2, .ptr 2 0 [] 0), (0, .v false (intsV ps))], mem := [(3, .box 27 (.v true (.agg (H.take 4 ++ List.replicate 1 Z)))), (2, .box 27 (.v true (.agg [Z, Z, Z, Z, Z])))] } a w) ?_ ?_
  · refine Holds.step (Px := px) (T := TT) (ρ := fun _ => []) TTe (by simp (maxSteps := 100000) (disch := omega) only [go_sem, V.isAgg, V.flat, ↓reduceIte, Nat.reduceAdd, Nat.reduceSub, Nat.reduceLT, Nat.reduceEqDiff, reduceCtorEq, Nat.reduceLeDiff, Nat.reduceBEq, Nat.reduceMul, Int.reduceToNat]; rfl) (by repeat' first | exact trivial | constructor) ?_
    refine Holds.loopB (fun k : Nat => { nt := 27, env := [(5, .v true (.int .i64 k)), (4, .ptr 4 0 [] 0), (3, .ptr 3 0 [] 0), (2, .ptr 2 0 [] 0), (0, .v false (intsV ps))], mem := [(4, .box 55 (.v true (.agg T))), (3, .box 27 (.v true (.agg (H.take k ++ List.replicate (5 - k) Z)))), (2, .box 27 (.v true (.agg [Z, Z, Z, Z, Z])))] }) (fun k => k ≤ 4) (fun k => 4 - k) 0 (Nat.zero_le _) (fun a w h => by
      rw [hZ, hT]
      exact Rel.keep [5, 4, 3, 2, 0] [4, 3, 2] h) ?_
    intro k hk
    by_cases hend : k = 4
    · refine Holds.seq ?_
      refine Holds.step (Px := px) (T := TT) (ρ := fun _ => []) TTe (by simp (maxSteps := 100000) (disch := omega) only [go_sem, V.isAgg, V.flat, ↓reduceIte, Nat.reduceAdd, Nat.reduceSub, Nat.reduceLT, Nat.reduceEqDiff, reduceCtorEq, Nat.reduceLeDiff, Nat.reduceBEq, Nat.reduceMul, Int.reduceToNat]; rfl) (by repeat' first | exact trivial | constructor) ?_
      refine Holds.condF rfl (Holds.exit ⟨rfl, fun a w h => ?_⟩)
      rw [hend] at h
      exact Rel.keep [3, 2, 0] [3, 2] h
    · have hk4 : k < 4 := by omega
      obtain ⟨t, x, gT, gH, hF⟩ := hr k hk4
      obtain ⟨s1, s2⟩ := hHs x (List.mem_of_getElem? gH)
      have ok := oT k (by omega)
      rw [Nat.mul_one] at ok
      have g1 := outV_get (z := Z) hHl (show k < 5 by omega)
      have g2 := outV_set (z := Z) hHl (show k < 5 by omega) gH
      have g3 := outV_off (z := Z) (k := k) (j := k) hHl (by omega) Zs (fun x hx => (hHs x hx).1) (by omega)
      obtain ⟨Y, hY⟩ : ∃ Y, Y = H.take k ++ List.replicate (5 - k) Z := ⟨_, rfl⟩
      rw [← hY] at g1 g2 g3 ⊢
      refine Holds.seq ?_
      refine Holds.step (Px := px) (T := TT) (ρ := fun _ => []) TTe (by simp (maxSteps := 100000) (disch := omega) only [go_sem, V.isAgg, V.flat, ↓reduceIte, Nat.reduceAdd, Nat.reduceSub, Nat.reduceLT, Nat.reduceEqDiff, reduceCtorEq, Nat.reduceLeDiff, Nat.reduceBEq, Nat.reduceMul, Int.reduceToNat]; rfl) (by repeat' first | exact trivial | constructor) ?_
      refine Holds.condT rfl (Holds.skip ?_)
      refine Holds.next (fun σ => ∀ a w, Rel cx w0 σ a w → Rel cx w0 { nt := 27, env := [(5, .v true (.int .i64 k)), (4, .ptr 4 0 [] 0), (3, .ptr 3 0 [] 0), (2, .ptr 2 0 [] 0), (0, .v false (intsV ps))], mem := [(4, .box 55 (.v true (.agg T))), (3, .box 27 (.v true (.agg (Y.set k x)))), (2, .box 27 (.v true (.agg [Z, Z, Z, Z, Z])))] } a w) ?_ ?_
      · refine Holds.blockN ?_
        refine Holds.region (Px := px) (T := TT) (ρ := fun _ => [.v true x]) TTe (by simp (maxSteps := 100000) (disch := omega) only [go_sem, V.isAgg, V.flat, ↓reduceIte, Nat.reduceAdd, Nat.reduceSub, Nat.reduceLT, Nat.reduceEqDiff, reduceCtorEq, Nat.reduceLeDiff, Nat.reduceBEq, Nat.reduceMul, Int.reduceToNat, -V.isAgg, -V.flat, isAgg_agg, isAgg_int, isAgg_bool, isAgg_sl, flat_agg, flat_int, flat_bool, flat_sl, gT, ok, g1, g3, s1, s2, Zs]; rfl) (by first | exact hF | (repeat' first | exact trivial | exact hF | constructor)) ?_
        exact fun a w h => Rel.keep [5, 4, 3, 2, 0] [4, 3, 2] h
      · intro σ hσ
        refine Holds.from hσ ?_
        refine Holds.region (Px := px) (T := TT) (ρ := fun _ => []) TTe (by simp (maxSteps := 100000) (disch := omega) only [go_sem, V.isAgg, V.flat, ↓reduceIte, Nat.reduceAdd, Nat.reduceSub, Nat.reduceLT, Nat.reduceEqDiff, reduceCtorEq, Nat.reduceLeDiff, Nat.reduceBEq, Nat.reduceMul, Int.reduceToNat]; rfl) (by repeat' first | exact trivial | constructor) ?_
        refine ⟨k + 1, (by show k + 1 ≤ 4; omega), (show 4 - (k + 1) < 4 - k by omega), fun a w h => ?_⟩
        have := Rel.keep [5, 4, 3, 2, 0] [4, 3, 2] h
        rw [g2] at this
        exact this
  · intro σ hσ
    refine Holds.from hσ ?_
    refine Holds.next (fun σ => ∀ a w, Rel cx w0 σ a w → Rel cx w0 { nt := 27, env := [(3, .ptr 3 0 [] 0), (2, .ptr 2 0 [] 0)], mem := [(3, .box 27 (.v true (.agg H))), (2, .box 27 (.v true (.agg [Z, Z, Z, Z, Z])))] } a w) ?_ ?_
    · have gH : H[4]? = some (pV (zp ((ps.map ival).getD 4 0))) := by rw [hH]; rfl
      have g1 := outV_get (z := Z) hHl (show 4 < 5 by omega)
      have g2 := outV_set (z := Z) hHl (show 4 < 5 by omega) gH
      rw [show H.take (4 + 1) ++ List.replicate (5 - (4 + 1)) Z = H from by rw [Nat.sub_self, List.replicate_zero, List.append_nil, List.take_of_length_le (by omega)]] at g2
      have g3 := outV_off (z := Z) (k := 4) (j := 4) hHl (by omega) Zs (fun x hx => (hHs x hx).1) (by omega)
      obtain ⟨Y, hY⟩ : ∃ Y, Y = H.take 4 ++ List.replicate 1 Z := ⟨_, rfl⟩
      rw [show H.take 4 ++ List.replicate (5 - 4) Z = Y from hY.symm] at g1 g2 g3
      rw [← hY]
      by_cases h5 : ps.length = 5
      · have gp := get_mapP (ps := ps) (i := 4) (by omega)
        have hm := List.mem_of_getElem? gp
        have hTr := TrimI_ok (ps.getD 4 (false, [])) (by have := (hps _ hm).1; omega) (hps _ hm).2
        rw [getD_ival] at g2
        obtain ⟨p4, hp4⟩ : ∃ p, p = ps.getD 4 (false, []) := ⟨_, rfl⟩
        rw [← hp4] at gp hTr g2
        refine Holds.step (Px := px) (T := TT) (ρ := fun _ => []) TTe (by simp (maxSteps := 100000) (disch := omega) only [go_sem, V.isAgg, V.flat, ↓reduceIte, Nat.reduceAdd, Nat.reduceSub, Nat.reduceLT, Nat.reduceEqDiff, reduceCtorEq, Nat.reduceLeDiff, Nat.reduceBEq, Nat.reduceMul, Int.reduceToNat, intsV, h5]; rfl) (by repeat' first | exact trivial | constructor) ?_
        refine Holds.condT rfl ?_
        refine Holds.region (Px := px) (T := TT) (ρ := fun _ => [.v true (pV (zp (ival p4)))]) TTe (by simp (maxSteps := 100000) (disch := omega) only [go_sem, V.isAgg, V.flat, ↓reduceIte, Nat.reduceAdd, Nat.reduceSub, Nat.reduceLT, Nat.reduceEqDiff, reduceCtorEq, Nat.reduceLeDiff, Nat.reduceBEq, Nat.reduceMul, Int.reduceToNat, -V.isAgg, -V.flat, isAgg_agg, isAgg_int, isAgg_bool, isAgg_sl, flat_agg, flat_int, flat_bool, flat_sl, intsV, h5, gp, g1, g3, Zs, pV_size, pV_agg]; rfl) (by first | exact hTr | (repeat' first | exact trivial | exact hTr | constructor)) ?_
        intro a w h
        have := Rel.keep [3, 2] [3, 2] h
        rw [← g2]
        exact this
      · have h5' : ¬ (ps.length : Int) = 5 := by omega
        have e : (ps.map ival).getD 4 0 = 0 := by rw [List.getD_eq_getElem?_getD, List.getElem?_eq_none (by rw [List.length_map]; omega)]; rfl
        rw [e, show pV (zp 0) = Z from by rw [hZ]; rfl] at g2
        refine Holds.step (Px := px) (T := TT) (ρ := fun _ => []) TTe (by simp (maxSteps := 100000) (disch := omega) only [go_sem, V.isAgg, V.flat, ↓reduceIte, Nat.reduceAdd, Nat.reduceSub, Nat.reduceLT, Nat.reduceEqDiff, reduceCtorEq, Nat.reduceLeDiff, Nat.reduceBEq, Nat.reduceMul, Int.reduceToNat, intsV, h5']; rfl) (by repeat' first | exact trivial | constructor) ?_
        refine Holds.condF rfl (Holds.skip fun a w h => ?_)
        have := Rel.keep [3, 2] [3, 2] h
        have e2 : Y.set 4 Z = Y := by
          rw [hY, List.set_append_right _ _ (by rw [List.length_take]; omega)]
          rw [List.length_take, hHl]; rfl
        rw [← g2, e2]
        exact this
    · intro σ hσ
      refine Holds.from hσ ?_
      have sH : V.sizes H = 10 := by rw [hH]; rfl
      refine Holds.step (Px := px) (T := TT) (ρ := fun _ => []) TTe (by simp (maxSteps := 100000) (disch := omega) only [go_sem, V.isAgg, V.flat, ↓reduceIte, Nat.reduceAdd, Nat.reduceSub, Nat.reduceLT, Nat.reduceEqDiff, reduceCtorEq, Nat.reduceLeDiff, Nat.reduceBEq, Nat.reduceMul, Int.reduceToNat, sH, Zs]; rfl) (by repeat' first | exact trivial | constructor) ?_
      exact Holds.ret (RetOk.vs (show resAVs Tryz.prog _ _ [ResultVar.cell 2 27] = _ from by simp (maxSteps := 100000) (disch := omega) only [resAVs, AV.isPtr, go_sem, V.isAgg, V.flat, ↓reduceIte, Nat.reduceAdd, Nat.reduceSub, Nat.reduceLT, Nat.reduceEqDiff, reduceCtorEq, Nat.reduceLeDiff, Nat.reduceBEq, Nat.reduceMul, Int.reduceToNat, sH]; rfl) (by exact ⟨⟨rfl, fun h => h⟩, trivial⟩) rfl)
/-
  The law FastValues: the walk.
-/

theorem zeros_same : FnOk Tryz.prog 7 [.v (.sl 2 [.agg [.bool false, .sl 1 []], .agg [.bool false, .sl 1 []], .agg [.bool false, .sl 1 []], .agg [.bool false, .sl 1 []], .agg [.bool false, .sl 1 []]]), .v (.sl 2 [.agg [.bool false, .sl 1 []], .agg [.bool false, .sl 1 []], .agg [.bool false, .sl 1 []], .agg [.bool false, .sl 1 []], .agg [.bool false, .sl 1 []]])] [.v true (.bool true)] :=
  sameZ_ok [0, 0, 0, 0, 0] [(false, []), (false, []), (false, []), (false, []), (false, [])] (by decide) (fun z hz => by
    simp only [List.mem_cons, List.not_mem_nil, or_false, or_self] at hz
    subst hz; decide) (fun p hp => by
    simp only [List.mem_cons, List.not_mem_nil, or_false, or_self] at hp
    subst hp
    exact ⟨by decide, fun n hn => by cases hn⟩) rfl
theorem rep_ints (N : Nat) : List.take N (List.replicate N (V.agg [.bool false, .sl 1 []])) = (List.replicate N (false, [])).map pV := by
  rw [List.take_of_length_le (by simp), List.map_replicate]; rfl
/-- The five values' array, its elements told. -/
theorem fives_same (zs : List Int) (M : Nat) (hM : M < 39990) (hn : zs.length ≤ 5) (hz : ∀ z ∈ zs, z.natAbs < 18446744073709551616 ^ M) :
    FnOk Tryz.prog 7 [.v (.sl 2 ((fiveZ zs).map fun z => pV (zp z))), .v (.sl 2 ((fiveZ zs).map fun z => pV (zp z)))] [.v true (.bool true)] := by
  have h := five_lt hn hz
  have := sameZ_ok (fiveZ zs) ((fiveZ zs).map zp) (by simp [fiveZ]) (fun z hz => by have := zp_len (h z hz); omega) (fun p hp => by
    obtain ⟨z, hz, rfl⟩ := List.mem_map.1 hp
    exact ⟨by have := zp_len (h z hz); omega, zp_ok z⟩) (by rw [List.map_map]; simp [Function.comp_def, ival_zp])
  rw [intsV, List.map_map] at this
  exact this
end Go.Proofs.YtjmclobbfabnpaaGreat.L
