/-
  Ug
-/
import Derived.Test.YtjmclobbfabnpaaQ3
import Derived.Test.YtjmclobbfabnpaaH9
set_option linter.unusedSimpArgs false
set_option linter.unusedVariables false
/-
  The law FastPoints: the walk.
-/
namespace Go.Proofs.Ytjmclobbfabnpaa.L
open Go Go.RowKit Go.Proofs
attribute [local go_sem] evalOps_nil evalOps_cons runW_t runW_f runE_s runP_s wantA evalOp effOp letters okDst coreA St.opv St.get St.at look constA St.put St.upd St.set decide_true List.all_nil List.all_cons Bool.and_true Bool.true_and and_self and_true true_and if_true if_false true_or Int.sub_zero List.nil_append List.cons_append List.append_nil Option.isSome_some List.getElem?_toArray List.getElem?_cons_succ List.getElem?_cons_zero Option.bind_some Option.map_some Option.map_none beq_self_eq_true Bool.false_beq Bool.true_beq Bool.not_true Bool.not_false Bool.false_eq_true cond_true cond_false binA binI List.map_cons List.map_nil boundA List.length_nil List.length_cons Nat.zero_mul Nat.one_mul Nat.mul_one Nat.zero_add Nat.add_zero Nat.zero_le Option.toList St.freshB AV.ment AV.ments Blk.ment V.sizes Nat.lt_add_one Bool.or_true Bool.true_or Bool.or_false Bool.false_or Bool.or_self if_pos if_neg decide_false decide_eq_true decide_eq_false wrap_i64 Int.toNat_natCast minA maxA Int.natCast_add Int.cast_ofNat_Int Option.isSome_none false_implies true_implies forall_const List.drop_zero Int.toNat_zero Int.add_sub_cancel lenA sliceA loadA indexAddrA partA fitsT V.atP V.offP V.size List.length_map List.getElem?_map Int.toNat_natCast_add_one Int.ofNat_eq_natCast TY calleeA capArg knotA capArgs toArgs toArg callA R.res R.mems R.blks R.av R.names R.nw invokeA storeA storeV fieldAddrA liveB V.off V.offs V.setP List.set_cons_zero List.set_cons_succ buildA buildP partsA appendA srcA copyA boxOk makeA AV.pure List.take_succ_cons List.take_zero nilA words entry List.zipIdx_cons List.zipIdx_nil Arg.av Arg.avs

def fpV (L : List Int) : V := .agg (L.map fun z => pV (zp z))

set_option maxHeartbeats 1000000 in
set_option maxRecDepth 100000 in
theorem FastPoints_ok (ps qs : List (Bool × List Int)) (ops : ∀ p ∈ ps, okW p.2) (oqs : ∀ p ∈ qs, okW p.2) : FnOk Try.prog 5 [.v (intsV ps), .v (intsV qs)] [.v true (.bool true)] := by
  have hI1 := integers_ok ps 3 6 (by decide) (by decide)
  have hI2 := integers_ok qs 3 6 (by decide) (by decide)
  obtain ⟨hA1, hA2⟩ := fewP_all (ps := ps) (many := 3) (most := 6) ops
  obtain ⟨hB1, hB2⟩ := fewP_all (ps := qs) (many := 3) (most := 6) oqs
  obtain ⟨A, hA⟩ : ∃ A, A = fewP ps 3 6 := ⟨_, rfl⟩
  obtain ⟨B, hB⟩ : ∃ B, B = fewP qs 3 6 := ⟨_, rfl⟩
  rw [← hA] at hI1 hA1 hA2
  rw [← hB] at hI2 hB1 hB2
  have zA := ivals_lt hA2
  have zB := ivals_lt hB2
  have lA : (A.map ival).length ≤ 3 := by rw [List.length_map]; exact hA1
  have lB : (B.map ival).length ≤ 3 := by rw [List.length_map]; exact hB1
  have hF1 := Five_ok A (by omega) (fun p hp => ⟨by have := (hA2 p hp).1; omega, (hA2 p hp).2⟩)
  have hF2 := Five_ok B (by omega) (fun p hp => ⟨by have := (hB2 p hp).1; omega, (hB2 p hp).2⟩)
  have fA := five_lt (by omega) zA
  have fB := five_lt (by omega) zB
  have gA : ∀ j, ((A.map ival).getD j 0).natAbs < 18446744073709551616 ^ 6 := fun j => getD_lt (Nat.pow_pos (by decide)) zA
  have gB : ∀ j, ((B.map ival).getD j 0).natAbs < 18446744073709551616 ^ 6 := fun j => getD_lt (Nat.pow_pos (by decide)) zB
  obtain ⟨c0, c1, c2, c3, c4, hc, m0, m1, m2, m3, m4⟩ := fives_mul lA lB
  have hpr := prows_all lA lB
  rw [hc] at hpr
  have hbd := prows_bnd (B := 18446744073709551616 ^ 6) (Nat.pow_pos (by decide)) zA zB lB
  have hbr : ∀ i k, i ≤ (A.map ival).length → k ≤ (B.map ival).length → ∀ m, ((prow (A.map ival) (B.map ival) (prows (A.map ival) (B.map ival) i) i k).getD m 0).natAbs < 18446744073709551616 ^ 13 := fun i k hi hk m => by
    have h1 := prow_bnd (i := i) (Nat.pow_pos (n := 6) (by decide : 0 < 18446744073709551616)) zA zB (hbd i) k m
    have h2 : i * (3 * (18446744073709551616 ^ 6 * 18446744073709551616 ^ 6)) ≤ 3 * (3 * (18446744073709551616 ^ 6 * 18446744073709551616 ^ 6)) := Nat.mul_le_mul_right _ (by omega)
    have h3 : k * (18446744073709551616 ^ 6 * 18446744073709551616 ^ 6) ≤ 3 * (18446744073709551616 ^ 6 * 18446744073709551616 ^ 6) := Nat.mul_le_mul_right _ (by omega)
    have h4 : 12 * (18446744073709551616 ^ 6 * 18446744073709551616 ^ 6) < 18446744073709551616 ^ 13 := by decide +kernel
    omega
  have hcl : ∀ c ∈ [c0, c1, c2, c3, c4], c.natAbs < 18446744073709551616 ^ 13 := fun c h => by
    have h1 := hbr (A.map ival).length 0 (Nat.le_refl _) (Nat.zero_le _)
    rw [prow, hpr] at h1
    obtain ⟨j, hj⟩ := List.mem_iff_getElem?.1 h
    have := h1 j
    rw [List.getD_eq_getElem?_getD, hj] at this
    exact this
  have hz3 : ∀ j, 3 ≤ j → (A.map ival).getD j 0 = 0 := fun j hj => by rw [List.getD_eq_getElem?_getD, List.getElem?_eq_none (by omega)]; rfl
  have hw3 : ∀ j, 3 ≤ j → (B.map ival).getD j 0 = 0 := fun j hj => by rw [List.getD_eq_getElem?_getD, List.getElem?_eq_none (by omega)]; rfl
  have e1 := horn_few (t := 1) lA
  have e2 := horn_few (t := -1) lA
  have e3 := horn_few (t := 2) lA
  obtain ⟨zs, hzs⟩ : ∃ zs, zs = A.map ival := ⟨_, rfl⟩
  obtain ⟨ws, hws⟩ : ∃ ws, ws = B.map ival := ⟨_, rfl⟩
  rw [← hzs] at hF1 fA lA m0 m1 m2 m3 m4 e1 e2 e3
  rw [← hws] at hF2 fB lB m0 m1 m2 m3 m4
  -- Back of Five
  obtain ⟨PZ, hPZ⟩ : ∃ PZ, PZ = fiveZ zs := ⟨_, rfl⟩
  obtain ⟨QZ, hQZ⟩ : ∃ QZ, QZ = fiveZ ws := ⟨_, rfl⟩
  have lP : PZ.length = 5 := by rw [hPZ]; rfl
  have lQ : QZ.length = 5 := by rw [hQZ]; rfl
  have hBk : FnOk Try.prog 21 [.v (fpV PZ)] [.v false (fpV [zs.getD 0 0, zs.getD 1 0, zs.getD 2 0, 0, 0]), .v true (.int .i64 0)] := by
    rw [hPZ]
    refine Back_vals 13 (by decide) (zp (zs.getD 0 0)) (zp (hornZ 1 zs)) (zp (hornZ (-1) zs)) (zp (hornZ 2 zs)) (zp (zs.getD 4 0)) (zs.getD 0 0) (zs.getD 1 0) (zs.getD 2 0) 0 0 (fun p hp => ?_) (fun c hc => ?_) ?_ ?_ ?_ ?_ ?_
    · have : ∀ z ∈ fiveZ zs, (zp z).2.length ≤ 4000 ∧ okW (zp z).2 := fun z hz => ⟨by have := zp_len (fA z hz); omega, zp_ok z⟩
      have hm : p ∈ (fiveZ zs).map zp := hp
      obtain ⟨z, hz, rfl⟩ := List.mem_map.1 hm
      exact this z hz
    · have h0 : (0 : Int).natAbs < 18446744073709551616 ^ 6 := by decide +kernel
      simp only [List.mem_cons, List.not_mem_nil, or_false] at hc
      rw [hzs] at hc
      rcases hc with rfl | rfl | rfl | rfl | rfl
      · exact bnd_to (gA 0) (by decide)
      · exact bnd_to (gA 1) (by decide)
      · exact bnd_to (gA 2) (by decide)
      · exact bnd_to h0 (by decide)
      · exact bnd_to h0 (by decide)
    · rw [ival_zp]
    · rw [ival_zp, e1]; omega
    · rw [ival_zp, e2]; omega
    · rw [ival_zp, e3]; omega
    · rw [ival_zp, hzs]; exact hz3 4 (by decide)
  -- the values' products
  obtain ⟨VZ, hVZ⟩ : ∃ VZ : List Int, VZ = [zs.getD 0 0 * ws.getD 0 0, hornZ 1 zs * hornZ 1 ws, hornZ (-1) zs * hornZ (-1) ws, hornZ 2 zs * hornZ 2 ws, zs.getD 4 0 * ws.getD 4 0] := ⟨_, rfl⟩
  have lV : VZ.length = 5 := by rw [hVZ]; rfl
  have hVk : ∀ k, k < 5 → VZ.getD k 0 = PZ.getD k 0 * QZ.getD k 0 := fun k hk => by
    rw [hVZ, hPZ, hQZ]
    match k, hk with
    | 0, _ | 1, _ | 2, _ | 3, _ | 4, _ => rfl
  have hPk : ∀ k, (PZ.getD k 0).natAbs < 18446744073709551616 ^ 7 := fun k => getD_lt (Nat.pow_pos (by decide)) (by rw [hPZ]; exact fA)
  have hQk : ∀ k, (QZ.getD k 0).natAbs < 18446744073709551616 ^ 7 := fun k => getD_lt (Nat.pow_pos (by decide)) (by rw [hQZ]; exact fB)
  have hBv : FnOk Try.prog 21 [.v (fpV (VZ.set 4 c4))] [.v false (fpV [c0, c1, c2, c3, c4]), .v true (.int .i64 0)] := by
    rw [hVZ]
    refine Back_vals 13 (by decide) (zp (zs.getD 0 0 * ws.getD 0 0)) (zp (hornZ 1 zs * hornZ 1 ws)) (zp (hornZ (-1) zs * hornZ (-1) ws)) (zp (hornZ 2 zs * hornZ 2 ws)) (zp c4) c0 c1 c2 c3 c4 (fun p hp => ?_) (fun c hc => hcl c hc) ?_ ?_ ?_ ?_ ?_
    · have hm : p ∈ (VZ.set 4 c4).map zp := by rw [hVZ]; exact hp
      obtain ⟨z, hz, rfl⟩ := List.mem_map.1 hm
      have hz14 : z.natAbs < 18446744073709551616 ^ 14 := by
        rcases List.mem_or_eq_of_mem_set hz with hz | rfl
        · obtain ⟨j, hj⟩ := List.mem_iff_getElem?.1 hz
          have hj5 : j < 5 := by
            have := (List.getElem?_eq_some_iff.1 hj).1
            omega
          have := hVk j hj5
          rw [List.getD_eq_getElem?_getD, hj] at this
          rw [show z = PZ.getD j 0 * QZ.getD j 0 from this, Int.natAbs_mul, show (14 : Nat) = 7 + 7 from rfl, Nat.pow_add]
          exact Nat.mul_lt_mul'' (hPk j) (hQk j)
        · exact bnd_to (hcl _ (by simp)) (by decide)
      exact ⟨by have := zp_len hz14; omega, zp_ok z⟩
    · rw [ival_zp]; exact m0
    · rw [ival_zp]; exact m1
    · rw [ival_zp]; exact m2
    · rw [ival_zp]; exact m3
    · rw [ival_zp]
  have hSame : FnOk Try.prog 26 [.v (.sl 2 ([c0, c1, c2, c3, c4].map fun z => pV (zp z))), .v (.sl 2 ([c0, c1, c2, c3, c4].map fun z => pV (zp z)))] [.v true (.bool true)] := by
    have := sameZ_ok [c0, c1, c2, c3, c4] ([c0, c1, c2, c3, c4].map zp) (by simp) (fun z hz => by have := zp_len (hcl z hz); omega) (fun p hp => by
      obtain ⟨z, hz, rfl⟩ := List.mem_map.1 hp
      exact ⟨by have := zp_len (hcl z hz); omega, zp_ok z⟩) (by rw [List.map_map]; simp [Function.comp_def, ival_zp])
    rw [intsV, List.map_map] at this
    exact this
  have hFrom : FnOk Try.prog 22 [.v (.int .i64 0)] [.v true (pV (zp 0))] := From_ok 0 (by decide) (by decide)
  rw [show arrV (fiveZ zs) = fpV PZ from by rw [hPZ]; rfl] at hF1
  rw [show arrV (fiveZ ws) = fpV QZ from by rw [hQZ]; rfl] at hF2
  have sz5 : ∀ L : List Int, L.length = 5 → V.sizes (L.map fun z => pV (zp z)) = 10 := fun L hL => by
    match L, hL with
    | [a, b, c, d, e], _ => rfl
  have sP := sz5 PZ lP
  have sQ := sz5 QZ lQ
  have zero5 : fpV [0, 0, 0, 0, 0] = .agg [.agg [.bool false, .sl 1 []], .agg [.bool false, .sl 1 []], .agg [.bool false, .sl 1 []], .agg [.bool false, .sl 1 []], .agg [.bool false, .sl 1 []]] := rfl
  clear m0 m1 m2 m3 hVZ hPZ hQZ e1 e2 e3 fA fB
  refine FnOk.of Try.func5 rfl rfl fun cx w0 => ?_
  rw [show Try.f5.ntmps = 142 from rfl]
  refine Holds.step (Px := px) (T := TT) (ρ := fun _ => []) TTe (by simp (maxSteps := 100000) (disch := omega) only [go_sem, V.isAgg, V.flat, ↓reduceIte, Nat.reduceAdd, Nat.reduceSub, Nat.reduceLT, Nat.reduceEqDiff, reduceCtorEq, Nat.reduceLeDiff, Nat.reduceBEq, Nat.reduceMul, Int.reduceToNat, List.length_cons, List.length_nil]; rfl) (by repeat' first | exact trivial | constructor) ?_
  refine Holds.step (Px := px) (T := TT) (ρ := fun d => if d = 22 then [.v true (intsV A)] else [.v true (intsV B)]) TTe (by simp (maxSteps := 100000) (disch := omega) only [go_sem, V.isAgg, V.flat, ↓reduceIte, Nat.reduceAdd, Nat.reduceSub, Nat.reduceLT, Nat.reduceEqDiff, reduceCtorEq, Nat.reduceLeDiff, Nat.reduceBEq, Nat.reduceMul, Int.reduceToNat]; rfl) (by first | exact ⟨hI1, hI2⟩ | (repeat' first | exact trivial | exact hI1 | exact hI2 | constructor)) ?_
  refine Holds.step (Px := px) (T := TT) (ρ := fun _ => [.v false (fpV PZ), .v true (.int .i64 0)]) TTe (by simp (maxSteps := 100000) (disch := omega) only [go_sem, V.isAgg, V.flat, ↓reduceIte, Nat.reduceAdd, Nat.reduceSub, Nat.reduceLT, Nat.reduceEqDiff, reduceCtorEq, Nat.reduceLeDiff, Nat.reduceBEq, Nat.reduceMul, Int.reduceToNat, -V.isAgg, -V.flat, isAgg_agg, isAgg_int, isAgg_bool, isAgg_sl, flat_agg, flat_int, flat_bool, flat_sl, fpV, sP]; rfl) (by first | exact hF1 | (repeat' first | exact trivial | exact hF1 | constructor)) ?_
  refine Holds.step (Px := px) (T := TT) (ρ := fun _ => [.v false (fpV QZ), .v true (.int .i64 0)]) TTe (by simp (maxSteps := 100000) (disch := omega) only [go_sem, V.isAgg, V.flat, ↓reduceIte, Nat.reduceAdd, Nat.reduceSub, Nat.reduceLT, Nat.reduceEqDiff, reduceCtorEq, Nat.reduceLeDiff, Nat.reduceBEq, Nat.reduceMul, Int.reduceToNat, -V.isAgg, -V.flat, isAgg_agg, isAgg_int, isAgg_bool, isAgg_sl, flat_agg, flat_int, flat_bool, flat_sl, fpV, sQ]; rfl) (by first | exact hF2 | (repeat' first | exact trivial | exact hF2 | constructor)) ?_
  refine Holds.step (Px := px) (T := TT) (ρ := fun _ => [.v false (fpV [zs.getD 0 0, zs.getD 1 0, zs.getD 2 0, 0, 0]), .v true (.int .i64 0)]) TTe (by simp (maxSteps := 100000) (disch := omega) only [go_sem, V.isAgg, V.flat, ↓reduceIte, Nat.reduceAdd, Nat.reduceSub, Nat.reduceLT, Nat.reduceEqDiff, reduceCtorEq, Nat.reduceLeDiff, Nat.reduceBEq, Nat.reduceMul, Int.reduceToNat, -V.isAgg, -V.flat, isAgg_agg, isAgg_int, isAgg_bool, isAgg_sl, flat_agg, flat_int, flat_bool, flat_sl, fpV, sP, pV_size]; rfl) (by first | exact hBk | (repeat' first | exact trivial | exact hBk | constructor)) ?_
  refine Holds.next (fun σ => ∀ a w, Rel cx w0 σ a w → Rel cx w0 { nt := 142, env := [(5, .v false (intsV A)), (6, .v false (intsV B)), (7, .ptr 7 0 [] 0), (9, .ptr 9 0 [] 0), (11, .ptr 11 0 [] 0)], mem := [(7, .box 43 (.v false (fpV PZ))), (9, .box 43 (.v false (fpV QZ))), (11, .box 43 (.v false (fpV [zs.getD 0 0, zs.getD 1 0, zs.getD 2 0, 0, 0])))] } a w) ?_ ?_
  · refine Holds.step (Px := px) (T := TT) (ρ := fun _ => []) TTe (by simp (maxSteps := 100000) (disch := omega) only [go_sem, V.isAgg, V.flat, ↓reduceIte, Nat.reduceAdd, Nat.reduceSub, Nat.reduceLT, Nat.reduceEqDiff, reduceCtorEq, Nat.reduceLeDiff, Nat.reduceBEq, Nat.reduceMul, Int.reduceToNat]; rfl) (by repeat' first | exact trivial | constructor) ?_
    exact Holds.condF rfl (Holds.skip fun a w h => Rel.dim (Rel.keep [5, 6, 7, 9, 11] [7, 9, 11] h))
  · intro σ hσ
    refine Holds.from hσ ?_
    obtain ⟨ZZ, hZZ⟩ : ∃ ZZ : List Int, ZZ = [zs.getD 0 0, zs.getD 1 0, zs.getD 2 0, 0, 0] := ⟨_, rfl⟩
    have lZ : ZZ.length = 5 := by rw [hZZ]; rfl
    have hZk : ∀ k, k < 5 → ZZ.getD k 0 = zs.getD k 0 := fun k hk => by
      rw [hZZ]
      match k, hk with
      | 0, _ | 1, _ | 2, _ => rfl
      | 3, _ => rw [hzs, hz3 3 (by decide)]; rfl
      | 4, _ => rw [hzs, hz3 4 (by decide)]; rfl
    rw [← hZZ]
    refine Holds.step (Px := px) (T := TT) (ρ := fun _ => []) TTe (by simp (maxSteps := 100000) (disch := omega) only [go_sem, V.isAgg, V.flat, ↓reduceIte, Nat.reduceAdd, Nat.reduceSub, Nat.reduceLT, Nat.reduceEqDiff, reduceCtorEq, Nat.reduceLeDiff, Nat.reduceBEq, Nat.reduceMul, Int.reduceToNat]; rfl) (by repeat' first | exact trivial | constructor) ?_
    refine Holds.next (fun σ => ∀ a w, Rel cx w0 σ a w → Rel cx w0 { nt := 142, env := [(5, .v false (intsV A)), (6, .v false (intsV B)), (13, .ptr 13 0 [] 0), (14, .ptr 14 0 [] 0)], mem := [(13, .box 43 (.v false (fpV [0, 0, 0, 0, 0]))), (14, .box 43 (.v false (fpV VZ)))] } a w) ?_ ?_
    · refine Holds.step (Px := px) (T := TT) (ρ := fun _ => []) TTe (by simp (maxSteps := 100000) (disch := omega) only [go_sem, V.isAgg, V.flat, ↓reduceIte, Nat.reduceAdd, Nat.reduceSub, Nat.reduceLT, Nat.reduceEqDiff, reduceCtorEq, Nat.reduceLeDiff, Nat.reduceBEq, Nat.reduceMul, Int.reduceToNat]; rfl) (by repeat' first | exact trivial | constructor) ?_
      refine Holds.loopB (fun k : Nat => { nt := 142, env := [(15, .v false (.int .i64 k)), (5, .v false (intsV A)), (6, .v false (intsV B)), (7, .ptr 7 0 [] 0), (9, .ptr 9 0 [] 0), (11, .ptr 11 0 [] 0), (13, .ptr 13 0 [] 0), (14, .ptr 14 0 [] 0)], mem := [(7, .box 43 (.v false (fpV PZ))), (9, .box 43 (.v false (fpV QZ))), (11, .box 43 (.v false (fpV ZZ))), (13, .box 43 (.v false (fpV [0, 0, 0, 0, 0]))), (14, .box 43 (.v false (fpV (VZ.take k ++ List.replicate (5 - k) 0))))] }) (fun k => k ≤ 5) (fun k => 5 - k) 0 (Nat.zero_le _) (fun a w h => Rel.dim (Rel.keep [15, 5, 6, 7, 9, 11, 13, 14] [7, 9, 11, 13, 14] h)) ?_
      intro k hk
      by_cases hend : k = 5
      · refine Holds.seq ?_
        refine Holds.step (Px := px) (T := TT) (ρ := fun _ => []) TTe (by simp (maxSteps := 100000) (disch := omega) only [go_sem, V.isAgg, V.flat, ↓reduceIte, Nat.reduceAdd, Nat.reduceSub, Nat.reduceLT, Nat.reduceEqDiff, reduceCtorEq, Nat.reduceLeDiff, Nat.reduceBEq, Nat.reduceMul, Int.reduceToNat]; rfl) (by repeat' first | exact trivial | constructor) ?_
        refine Holds.condF rfl (Holds.exit ⟨rfl, fun a w h => ?_⟩)
        have := Rel.dim (Rel.keep [5, 6, 13, 14] [13, 14] h)
        rw [hend, Nat.sub_self, List.replicate_zero, List.append_nil, List.take_of_length_le (by omega)] at this
        exact this
      · have hk5 : k < 5 := by omega
        refine Holds.seq ?_
        refine Holds.step (Px := px) (T := TT) (ρ := fun _ => []) TTe (by simp (maxSteps := 100000) (disch := omega) only [go_sem, V.isAgg, V.flat, ↓reduceIte, Nat.reduceAdd, Nat.reduceSub, Nat.reduceLT, Nat.reduceEqDiff, reduceCtorEq, Nat.reduceLeDiff, Nat.reduceBEq, Nat.reduceMul, Int.reduceToNat]; rfl) (by repeat' first | exact trivial | constructor) ?_
        refine Holds.condT rfl (Holds.skip ?_)
        have iP := get_mapI (zs := PZ) (i := k) (by omega)
        have iQ := get_mapI (zs := QZ) (i := k) (by omega)
        have iZ := get_mapI (zs := ZZ) (i := k) (by omega)
        have oP := offZ (L := PZ) (k := k) (by omega)
        have oQ := offZ (L := QZ) (k := k) (by omega)
        have oZ := offZ (L := ZZ) (k := k) (by omega)
        have bP := hPk k
        have bQ := hQk k
        have eV := hVk k hk5
        have eZ := hZk k hk5
        have bz : (zs.getD k 0).natAbs < 18446744073709551616 ^ 6 := by rw [hzs]; exact gA k
        have hM := MulI_ok (zp (PZ.getD k 0)) (zp (QZ.getD k 0)) (by have := zp_len bP; omega) (by have := zp_len bQ; omega) (zp_ok _) (zp_ok _)
        rw [ival_zp, ival_zp, ← eV] at hM
        have oO := offZ (L := VZ.take k ++ List.replicate (5 - k) 0) (k := k) (by rw [outI_len lV (by omega)]; omega)
        have gO := outI_get lV hk5
        have sO := outI_set lV hk5
        obtain ⟨O, hO⟩ : ∃ O, O = VZ.take k ++ List.replicate (5 - k) 0 := ⟨_, rfl⟩
        rw [← hO] at oO gO sO ⊢
        obtain ⟨v, hv⟩ : ∃ v, v = VZ.getD k 0 := ⟨_, rfl⟩
        rw [← hv] at hM sO
        obtain ⟨z, hz⟩ : ∃ z, z = ZZ.getD k 0 := ⟨_, rfl⟩
        rw [← hz] at iZ eZ
        rw [← eZ] at bz
        refine Holds.next (fun σ => ∀ a w, Rel cx w0 σ a w → Rel cx w0 { nt := 142, env := [(15, .v false (.int .i64 k)), (5, .v false (intsV A)), (6, .v false (intsV B)), (7, .ptr 7 0 [] 0), (9, .ptr 9 0 [] 0), (11, .ptr 11 0 [] 0), (13, .ptr 13 0 [] 0), (14, .ptr 14 0 [] 0)], mem := [(7, .box 43 (.v false (fpV PZ))), (9, .box 43 (.v false (fpV QZ))), (11, .box 43 (.v false (fpV ZZ))), (13, .box 43 (.v false (fpV [0, 0, 0, 0, 0]))), (14, .box 43 (.v false (fpV (O.set k v))))] } a w) ?_ ?_
        · refine Holds.blockN ?_
          refine Holds.step (Px := px) (T := TT) (ρ := fun _ => [.v true (pV (zp 0))]) TTe (by simp (maxSteps := 100000) (disch := omega) only [go_sem, V.isAgg, V.flat, ↓reduceIte, Nat.reduceAdd, Nat.reduceSub, Nat.reduceLT, Nat.reduceEqDiff, reduceCtorEq, Nat.reduceLeDiff, Nat.reduceBEq, Nat.reduceMul, Int.reduceToNat, -V.isAgg, -V.flat, isAgg_agg, isAgg_int, isAgg_bool, isAgg_sl, flat_agg, flat_int, flat_bool, flat_sl, pV_size, pV_agg]; rfl) (by first | exact hFrom | (repeat' first | exact trivial | exact hFrom | constructor)) ?_
          refine Holds.next (fun σ => ∃ q : Bool × List Int, (ival q = z ∧ q.2.length ≤ 6 ∧ okW q.2) ∧ ∀ a w, Rel cx w0 σ a w → Rel cx w0 { nt := 142, env := [(16, .ptr 16 0 [] 0), (15, .v false (.int .i64 k)), (5, .v false (intsV A)), (6, .v false (intsV B)), (7, .ptr 7 0 [] 0), (9, .ptr 9 0 [] 0), (11, .ptr 11 0 [] 0), (13, .ptr 13 0 [] 0), (14, .ptr 14 0 [] 0)], mem := [(16, .box 42 (.v false (pV q))), (7, .box 43 (.v false (fpV PZ))), (9, .box 43 (.v false (fpV QZ))), (11, .box 43 (.v false (fpV ZZ))), (13, .box 43 (.v false (fpV [0, 0, 0, 0, 0]))), (14, .box 43 (.v false (fpV O)))] } a w) ?_ ?_
          · by_cases hkA : k < A.length
            · have gk := get_mapP hkA
              have hm := List.mem_of_getElem? gk
              have ei : ival (A.getD k (false, [])) = z := by rw [eZ, hzs, getD_ival]
              obtain ⟨q, hq⟩ : ∃ q, q = A.getD k (false, []) := ⟨_, rfl⟩
              rw [← hq] at gk hm ei
              refine Holds.step (Px := px) (T := TT) (ρ := fun _ => []) TTe (by simp (maxSteps := 100000) (disch := omega) only [go_sem, V.isAgg, V.flat, ↓reduceIte, Nat.reduceAdd, Nat.reduceSub, Nat.reduceLT, Nat.reduceEqDiff, reduceCtorEq, Nat.reduceLeDiff, Nat.reduceBEq, Nat.reduceMul, Int.reduceToNat, intsV, hkA]; rfl) (by repeat' first | exact trivial | constructor) ?_
              refine Holds.condT rfl ?_
              refine Holds.region (Px := px) (T := TT) (ρ := fun _ => []) TTe (by simp (maxSteps := 100000) (disch := omega) only [go_sem, V.isAgg, V.flat, ↓reduceIte, Nat.reduceAdd, Nat.reduceSub, Nat.reduceLT, Nat.reduceEqDiff, reduceCtorEq, Nat.reduceLeDiff, Nat.reduceBEq, Nat.reduceMul, Int.reduceToNat, -V.isAgg, -V.flat, isAgg_agg, isAgg_int, isAgg_bool, isAgg_sl, flat_agg, flat_int, flat_bool, flat_sl, intsV, gk, pV_size, pV_agg]; rfl) (by repeat' first | exact trivial | constructor) ?_
              exact ⟨q, ⟨ei, hA2 q hm⟩, fun a w h => Rel.dim (Rel.keep [16, 15, 5, 6, 7, 9, 11, 13, 14] [16, 7, 9, 11, 13, 14] h)⟩
            · have ez0 : z = 0 := by rw [eZ, hzs, List.getD_eq_getElem?_getD, List.getElem?_eq_none (by rw [List.length_map]; omega)]; rfl
              refine Holds.step (Px := px) (T := TT) (ρ := fun _ => []) TTe (by simp (maxSteps := 100000) (disch := omega) only [go_sem, V.isAgg, V.flat, ↓reduceIte, Nat.reduceAdd, Nat.reduceSub, Nat.reduceLT, Nat.reduceEqDiff, reduceCtorEq, Nat.reduceLeDiff, Nat.reduceBEq, Nat.reduceMul, Int.reduceToNat, intsV, hkA]; rfl) (by repeat' first | exact trivial | constructor) ?_
              refine Holds.condF rfl (Holds.skip ?_)
              refine ⟨zp 0, ⟨by rw [ez0]; rfl, by decide, zp_ok 0⟩, fun a w h => ?_⟩
              exact Rel.dim (Rel.keep [16, 15, 5, 6, 7, 9, 11, 13, 14] [16, 7, 9, 11, 13, 14] h)
          · rintro σ ⟨q, ⟨q1, q2, q3⟩, hσ⟩
            refine Holds.from hσ ?_
            have hIs := IsI_ok z q (by have := zp_len bz; omega) (by omega) q3 q1
            refine Holds.next (fun σ => ∀ a w, Rel cx w0 σ a w → Rel cx w0 { nt := 142, env := [(15, .v false (.int .i64 k)), (5, .v false (intsV A)), (6, .v false (intsV B)), (7, .ptr 7 0 [] 0), (9, .ptr 9 0 [] 0), (11, .ptr 11 0 [] 0), (13, .ptr 13 0 [] 0), (14, .ptr 14 0 [] 0)], mem := [(7, .box 43 (.v false (fpV PZ))), (9, .box 43 (.v false (fpV QZ))), (11, .box 43 (.v false (fpV ZZ))), (13, .box 43 (.v false (fpV [0, 0, 0, 0, 0]))), (14, .box 43 (.v false (fpV O)))] } a w) ?_ ?_
            · refine Holds.dstep (Px := px) (T := TT) (ρ := fun _ => [.v true (.bool true)]) [] mixed (by kernel_rfl) TTe (by simp (maxSteps := 100000) (disch := omega) only [go_sem, V.isAgg, V.flat, ↓reduceIte, Nat.reduceAdd, Nat.reduceSub, Nat.reduceLT, Nat.reduceEqDiff, reduceCtorEq, Nat.reduceLeDiff, Nat.reduceBEq, Nat.reduceMul, Int.reduceToNat, -V.isAgg, -V.flat, isAgg_agg, isAgg_int, isAgg_bool, isAgg_sl, flat_agg, flat_int, flat_bool, flat_sl, fpV, pV_size, pV_agg, iZ, oZ, unA]; rfl) (by first | exact hIs | (repeat' first | exact trivial | exact hIs | constructor)) (by rfl) (by rfl) (by rfl) ?_
              exact Holds.condF rfl (Holds.skip fun a w h => Rel.dim (Rel.keep [15, 5, 6, 7, 9, 11, 13, 14] [7, 9, 11, 13, 14] h))
            · intro σ hσ
              refine Holds.from hσ ?_
              refine Holds.dregion (Px := px) (T := TT) (ρ := fun _ => [.v true (pV (zp v))]) [] mixed (by kernel_rfl) TTe (by simp (maxSteps := 100000) (disch := omega) only [go_sem, V.isAgg, V.flat, ↓reduceIte, Nat.reduceAdd, Nat.reduceSub, Nat.reduceLT, Nat.reduceEqDiff, reduceCtorEq, Nat.reduceLeDiff, Nat.reduceBEq, Nat.reduceMul, Int.reduceToNat, -V.isAgg, -V.flat, isAgg_agg, isAgg_int, isAgg_bool, isAgg_sl, flat_agg, flat_int, flat_bool, flat_sl, fpV, pV_size, pV_agg, iP, oP, iQ, oQ, gO, oO]; rfl) (by first | exact hM | (repeat' first | exact trivial | exact hM | constructor)) (by rfl) (by rfl) (by rfl) ?_
              intro a w h
              have := Rel.dim (Rel.keep [15, 5, 6, 7, 9, 11, 13, 14] [7, 9, 11, 13, 14] h)
              rw [fpV, fpV, fpV, fpV, fpV, List.map_set]
              exact this
        · intro σ hσ
          refine Holds.from hσ ?_
          refine Holds.region (Px := px) (T := TT) (ρ := fun _ => []) TTe (by simp (maxSteps := 100000) (disch := omega) only [go_sem, V.isAgg, V.flat, ↓reduceIte, Nat.reduceAdd, Nat.reduceSub, Nat.reduceLT, Nat.reduceEqDiff, reduceCtorEq, Nat.reduceLeDiff, Nat.reduceBEq, Nat.reduceMul, Int.reduceToNat]; rfl) (by repeat' first | exact trivial | constructor) ?_
          refine ⟨k + 1, (by show k + 1 ≤ 5; omega), (show 5 - (k + 1) < 5 - k by omega), fun a w h => ?_⟩
          have := Rel.dim (Rel.keep [15, 5, 6, 7, 9, 11, 13, 14] [7, 9, 11, 13, 14] h)
          rw [sO] at this
          exact this
    · intro σ hσ
      refine Holds.from hσ ?_
      -- the value at infinity
      have g4 := get_mapI (zs := VZ) (i := 4) (by omega)
      have o4 := offZ (L := VZ) (k := 4) (by omega)
      have g40 : (VZ.set 4 0)[4]? = some 0 := by rw [List.getElem?_set_self (by omega)]
      have o40 := offZ (L := VZ.set 4 0) (k := 4) (by rw [List.length_set]; omega)
      have oV : ∀ j, j ≤ 5 → V.off (VZ.map fun z => pV (zp z)) j = j * 2 := fun j hj => offZ (by omega)
      refine Holds.step (Px := px) (T := TT) (ρ := fun _ => [.v true (pV (zp 0))]) TTe (by simp (maxSteps := 100000) (disch := omega) only [go_sem, V.isAgg, V.flat, ↓reduceIte, Nat.reduceAdd, Nat.reduceSub, Nat.reduceLT, Nat.reduceEqDiff, reduceCtorEq, Nat.reduceLeDiff, Nat.reduceBEq, Nat.reduceMul, Int.reduceToNat, -V.isAgg, -V.flat, isAgg_agg, isAgg_int, isAgg_bool, isAgg_sl, flat_agg, flat_int, flat_bool, flat_sl, fpV, pV_size, pV_agg, g4, o4]; rfl) (by first | exact hFrom | (repeat' first | exact trivial | exact hFrom | constructor)) ?_
      refine Holds.next (fun σ => ∀ a w, Rel cx w0 σ a w → Rel cx w0 { nt := 142, env := [(5, .v false (intsV A)), (6, .v false (intsV B)), (13, .ptr 13 0 [] 0), (14, .ptr 14 0 [] 0)], mem := [(13, .box 43 (.v false (fpV [0, 0, 0, 0, 0]))), (14, .box 43 (.v false (fpV (VZ.set 4 c4))))] } a w) ?_ ?_
      · have es : List.set (List.map (fun z => pV (zp z)) VZ) 4 (pV (zp 0)) = List.map (fun z => pV (zp z)) (VZ.set 4 0) := (List.map_set ..).symm
        rw [es]
        by_cases h3 : A.length = 3
        · by_cases h4 : B.length = 3
          · have ga := get_mapP (ps := A) (i := 2) (by omega)
            have gb := get_mapP (ps := B) (i := 2) (by omega)
            have ma := hA2 _ (List.mem_of_getElem? ga)
            have mb := hB2 _ (List.mem_of_getElem? gb)
            have hM := MulI_ok (A.getD 2 (false, [])) (B.getD 2 (false, [])) (by omega) (by omega) ma.2 mb.2
            rw [← getD_ival, ← getD_ival, ← hzs, ← hws, m4] at hM
            obtain ⟨x, hx⟩ : ∃ x, x = A.getD 2 (false, []) := ⟨_, rfl⟩
            obtain ⟨y, hy⟩ : ∃ y, y = B.getD 2 (false, []) := ⟨_, rfl⟩
            rw [← hx] at ga hM
            rw [← hy] at gb hM
            refine Holds.step (Px := px) (T := TT) (ρ := fun _ => []) TTe (by simp (maxSteps := 100000) (disch := omega) only [go_sem, V.isAgg, V.flat, ↓reduceIte, Nat.reduceAdd, Nat.reduceSub, Nat.reduceLT, Nat.reduceEqDiff, reduceCtorEq, Nat.reduceLeDiff, Nat.reduceBEq, Nat.reduceMul, Int.reduceToNat, intsV, h3, h4]; rfl) (by repeat' first | exact trivial | constructor) ?_
            refine Holds.condT rfl ?_
            refine Holds.dregion (Px := px) (T := TT) (ρ := fun _ => [.v true (pV (zp c4))]) [] mixed (by kernel_rfl) TTe (by simp (maxSteps := 100000) (disch := omega) only [go_sem, V.isAgg, V.flat, ↓reduceIte, Nat.reduceAdd, Nat.reduceSub, Nat.reduceLT, Nat.reduceEqDiff, reduceCtorEq, Nat.reduceLeDiff, Nat.reduceBEq, Nat.reduceMul, Int.reduceToNat, -V.isAgg, -V.flat, isAgg_agg, isAgg_int, isAgg_bool, isAgg_sl, flat_agg, flat_int, flat_bool, flat_sl, intsV, ga, gb, pV_size, pV_agg, g40, o40]; rfl) (by first | exact hM | (repeat' first | exact trivial | exact hM | constructor)) (by rfl) (by rfl) (by rfl) ?_
            intro a w h
            have := Rel.dim (Rel.keep [5, 6, 13, 14] [13, 14] h)
            rw [show fpV (VZ.set 4 c4) = .agg (List.set (List.map (fun z => pV (zp z)) (VZ.set 4 0)) 4 (pV (zp c4))) from by rw [fpV, ← List.map_set, List.set_set]]
            exact this
          · have e0 : c4 = 0 := by rw [← m4, hws, List.getD_eq_getElem?_getD (l := B.map ival), List.getElem?_eq_none (l := B.map ival) (by rw [List.length_map]; omega)]; simp
            have h4' : ¬ (B.length : Int) = 3 := by omega
            rw [e0]
            refine Holds.step (Px := px) (T := TT) (ρ := fun _ => []) TTe (by simp (maxSteps := 100000) (disch := omega) only [go_sem, V.isAgg, V.flat, ↓reduceIte, Nat.reduceAdd, Nat.reduceSub, Nat.reduceLT, Nat.reduceEqDiff, reduceCtorEq, Nat.reduceLeDiff, Nat.reduceBEq, Nat.reduceMul, Int.reduceToNat, intsV, h3, h4']; rfl) (by repeat' first | exact trivial | constructor) ?_
            refine Holds.condF rfl (Holds.skip fun a w h => ?_)
            exact Rel.dim (Rel.keep [5, 6, 13, 14] [13, 14] h)
        · have e0 : c4 = 0 := by rw [← m4, hzs, List.getD_eq_getElem?_getD (l := A.map ival), List.getElem?_eq_none (l := A.map ival) (by rw [List.length_map]; omega)]; simp
          have h3' : ¬ (A.length : Int) = 3 := by omega
          rw [e0]
          refine Holds.step (Px := px) (T := TT) (ρ := fun _ => []) TTe (by simp (maxSteps := 100000) (disch := omega) only [go_sem, V.isAgg, V.flat, ↓reduceIte, Nat.reduceAdd, Nat.reduceSub, Nat.reduceLT, Nat.reduceEqDiff, reduceCtorEq, Nat.reduceLeDiff, Nat.reduceBEq, Nat.reduceMul, Int.reduceToNat, intsV, h3']; rfl) (by repeat' first | exact trivial | constructor) ?_
          refine Holds.condF rfl (Holds.skip fun a w h => ?_)
          exact Rel.dim (Rel.keep [5, 6, 13, 14] [13, 14] h)
      · intro σ hσ
        refine Holds.from hσ ?_
        refine Holds.next (fun σ => ∀ a w, Rel cx w0 σ a w → Rel cx w0 { nt := 142, env := [(13, .ptr 13 0 [] 0), (14, .ptr 14 0 [] 0)], mem := [(13, .box 43 (.v false (fpV [c0, c1, c2, c3, c4]))), (14, .box 43 (.v false (fpV (VZ.set 4 c4))))] } a w) ?_ ?_
        · refine Holds.step (Px := px) (T := TT) (ρ := fun _ => []) TTe (by simp (maxSteps := 100000) (disch := omega) only [go_sem, V.isAgg, V.flat, ↓reduceIte, Nat.reduceAdd, Nat.reduceSub, Nat.reduceLT, Nat.reduceEqDiff, reduceCtorEq, Nat.reduceLeDiff, Nat.reduceBEq, Nat.reduceMul, Int.reduceToNat]; rfl) (by repeat' first | exact trivial | constructor) ?_
          refine Holds.loopB (fun i : Nat => { nt := 142, env := [(17, .v false (.int .i64 i)), (5, .v false (intsV A)), (6, .v false (intsV B)), (13, .ptr 13 0 [] 0), (14, .ptr 14 0 [] 0)], mem := [(13, .box 43 (.v false (fpV (prows zs ws i)))), (14, .box 43 (.v false (fpV (VZ.set 4 c4))))] }) (fun i => i ≤ A.length) (fun i => A.length - i) 0 (Nat.zero_le _) (fun a w h => Rel.dim (Rel.keep [17, 5, 6, 13, 14] [13, 14] h)) ?_
          intro i hi
          by_cases hend : i = A.length
          · refine Holds.seq ?_
            refine Holds.step (Px := px) (T := TT) (ρ := fun _ => []) TTe (by simp (maxSteps := 100000) (disch := omega) only [go_sem, V.isAgg, V.flat, ↓reduceIte, Nat.reduceAdd, Nat.reduceSub, Nat.reduceLT, Nat.reduceEqDiff, reduceCtorEq, Nat.reduceLeDiff, Nat.reduceBEq, Nat.reduceMul, Int.reduceToNat, intsV]; rfl) (by repeat' first | exact trivial | constructor) ?_
            refine Holds.condF rfl (Holds.exit ⟨rfl, fun a w h => ?_⟩)
            have := Rel.keep [13, 14] [13, 14] h
            rw [hend, show prows zs ws A.length = [c0, c1, c2, c3, c4] from by rw [← hpr, ← hzs, ← hws]; rw [hzs, List.length_map]] at this
            exact this
          · have hiA : i < A.length := by omega
            refine Holds.seq ?_
            refine Holds.step (Px := px) (T := TT) (ρ := fun _ => []) TTe (by simp (maxSteps := 100000) (disch := omega) only [go_sem, V.isAgg, V.flat, ↓reduceIte, Nat.reduceAdd, Nat.reduceSub, Nat.reduceLT, Nat.reduceEqDiff, reduceCtorEq, Nat.reduceLeDiff, Nat.reduceBEq, Nat.reduceMul, Int.reduceToNat, intsV]; rfl) (by repeat' first | exact trivial | constructor) ?_
            refine Holds.condT rfl (Holds.skip ?_)
            refine Holds.next (fun σ => ∀ a w, Rel cx w0 σ a w → Rel cx w0 { nt := 142, env := [(17, .v false (.int .i64 i)), (5, .v false (intsV A)), (6, .v false (intsV B)), (13, .ptr 13 0 [] 0), (14, .ptr 14 0 [] 0)], mem := [(13, .box 43 (.v false (fpV (prows zs ws (i + 1))))), (14, .box 43 (.v false (fpV (VZ.set 4 c4))))] } a w) ?_ ?_
            · refine Holds.blockN ?_
              refine Holds.step (Px := px) (T := TT) (ρ := fun _ => []) TTe (by simp (maxSteps := 100000) (disch := omega) only [go_sem, V.isAgg, V.flat, ↓reduceIte, Nat.reduceAdd, Nat.reduceSub, Nat.reduceLT, Nat.reduceEqDiff, reduceCtorEq, Nat.reduceLeDiff, Nat.reduceBEq, Nat.reduceMul, Int.reduceToNat]; rfl) (by repeat' first | exact trivial | constructor) ?_
              refine Holds.loopB (fun k : Nat => { nt := 142, env := [(18, .v false (.int .i64 k)), (17, .v false (.int .i64 i)), (5, .v false (intsV A)), (6, .v false (intsV B)), (13, .ptr 13 0 [] 0), (14, .ptr 14 0 [] 0)], mem := [(13, .box 43 (.v false (fpV (prow zs ws (prows zs ws i) i k)))), (14, .box 43 (.v false (fpV (VZ.set 4 c4))))] }) (fun k => k ≤ B.length) (fun k => B.length - k) 0 (Nat.zero_le _) (fun a w h => Rel.dim (Rel.keep [18, 17, 5, 6, 13, 14] [13, 14] h)) ?_
              intro k hk
              by_cases hke : k = B.length
              · refine Holds.seq ?_
                refine Holds.step (Px := px) (T := TT) (ρ := fun _ => []) TTe (by simp (maxSteps := 100000) (disch := omega) only [go_sem, V.isAgg, V.flat, ↓reduceIte, Nat.reduceAdd, Nat.reduceSub, Nat.reduceLT, Nat.reduceEqDiff, reduceCtorEq, Nat.reduceLeDiff, Nat.reduceBEq, Nat.reduceMul, Int.reduceToNat, intsV]; rfl) (by repeat' first | exact trivial | constructor) ?_
                refine Holds.condF rfl (Holds.exit ⟨rfl, fun a w h => ?_⟩)
                have := Rel.dim (Rel.keep [17, 5, 6, 13, 14] [13, 14] h)
                rw [prows, show ws.length = k from by rw [hws, List.length_map, hke]]
                exact this
              · have hkB : k < B.length := by omega
                have ga := get_mapP hiA
                have gb := get_mapP hkB
                have ma := hA2 _ (List.mem_of_getElem? ga)
                have mb := hB2 _ (List.mem_of_getElem? gb)
                have hM := MulI_ok (A.getD i (false, [])) (B.getD k (false, [])) (by omega) (by omega) ma.2 mb.2
                rw [← getD_ival, ← getD_ival, ← hzs, ← hws] at hM
                have hLb := hbr i k (by rw [List.length_map]; omega) (by rw [List.length_map]; omega)
                rw [← hzs, ← hws] at hLb
                have hLl : (prow zs ws (prows zs ws i) i k).length = 5 := by rw [prow_len, prows_len]
                have hst : prow zs ws (prows zs ws i) i (k + 1) = (prow zs ws (prows zs ws i) i k).set (i + k) ((prow zs ws (prows zs ws i) i k).getD (i + k) 0 + zs.getD i 0 * ws.getD k 0) := by rw [prow, pstep]
                obtain ⟨L, hL⟩ : ∃ L, L = prow zs ws (prows zs ws i) i k := ⟨_, rfl⟩
                rw [← hL] at hLb hLl hst ⊢
                have gL := get_mapI (zs := L) (i := i + k) (by omega)
                have oL := offZ (L := L) (k := i + k) (by omega)
                have bL := hLb (i + k)
                have bm : (zs.getD i 0 * ws.getD k 0).natAbs < 18446744073709551616 ^ 12 := by
                  rw [Int.natAbs_mul, show (12 : Nat) = 6 + 6 from rfl, Nat.pow_add, hzs, hws]
                  exact Nat.mul_lt_mul'' (gA i) (gB k)
                obtain ⟨l, hl⟩ : ∃ l, l = L.getD (i + k) 0 := ⟨_, rfl⟩
                obtain ⟨m, hm⟩ : ∃ m, m = zs.getD i 0 * ws.getD k 0 := ⟨_, rfl⟩
                rw [← hl] at gL bL hst
                rw [← hm] at bm hM hst
                have hAd := AddI_ok (zp l) (zp m) (by have := zp_len bL; omega) (by have := zp_len bm; omega) (zp_ok _) (zp_ok _)
                rw [ival_zp, ival_zp] at hAd
                have hik : ((i : Int) + (k : Int)).toNat = i + k := by omega
                obtain ⟨x, hx⟩ : ∃ x, x = A.getD i (false, []) := ⟨_, rfl⟩
                obtain ⟨y, hy⟩ : ∃ y, y = B.getD k (false, []) := ⟨_, rfl⟩
                rw [← hx] at ga hM
                rw [← hy] at gb hM
                refine Holds.seq ?_
                refine Holds.step (Px := px) (T := TT) (ρ := fun _ => []) TTe (by simp (maxSteps := 100000) (disch := omega) only [go_sem, V.isAgg, V.flat, ↓reduceIte, Nat.reduceAdd, Nat.reduceSub, Nat.reduceLT, Nat.reduceEqDiff, reduceCtorEq, Nat.reduceLeDiff, Nat.reduceBEq, Nat.reduceMul, Int.reduceToNat, intsV]; rfl) (by repeat' first | exact trivial | constructor) ?_
                refine Holds.condT rfl (Holds.skip ?_)
                refine Holds.next (fun σ => ∀ a w, Rel cx w0 σ a w → Rel cx w0 { nt := 142, env := [(18, .v false (.int .i64 k)), (17, .v false (.int .i64 i)), (5, .v false (intsV A)), (6, .v false (intsV B)), (13, .ptr 13 0 [] 0), (14, .ptr 14 0 [] 0)], mem := [(13, .box 43 (.v false (fpV (L.set (i + k) (l + m))))), (14, .box 43 (.v false (fpV (VZ.set 4 c4))))] } a w) ?_ ?_
                · refine Holds.blockN ?_
                  refine Holds.dregion (Px := px) (T := TT) (ρ := fun d => if d = 124 then [.v true (pV (zp m))] else [.v true (pV (zp (l + m)))]) [] mixed (by kernel_rfl) TTe (by simp (maxSteps := 100000) (disch := omega) only [go_sem, V.isAgg, V.flat, ↓reduceIte, Nat.reduceAdd, Nat.reduceSub, Nat.reduceLT, Nat.reduceEqDiff, reduceCtorEq, Nat.reduceLeDiff, Nat.reduceBEq, Nat.reduceMul, Int.reduceToNat, -V.isAgg, -V.flat, isAgg_agg, isAgg_int, isAgg_bool, isAgg_sl, flat_agg, flat_int, flat_bool, flat_sl, intsV, fpV, pV_size, pV_agg, hik, gL, oL, ga, gb]; rfl) (by first | exact ⟨hM, hAd⟩ | (repeat' first | exact trivial | exact hM | exact hAd | constructor)) (by rfl) (by rfl) (by rfl) ?_
                  intro a w h
                  have := Rel.dim (Rel.keep [18, 17, 5, 6, 13, 14] [13, 14] h)
                  rw [fpV, fpV, List.map_set]
                  exact this
                · intro σ hσ
                  refine Holds.from hσ ?_
                  refine Holds.region (Px := px) (T := TT) (ρ := fun _ => []) TTe (by simp (maxSteps := 100000) (disch := omega) only [go_sem, V.isAgg, V.flat, ↓reduceIte, Nat.reduceAdd, Nat.reduceSub, Nat.reduceLT, Nat.reduceEqDiff, reduceCtorEq, Nat.reduceLeDiff, Nat.reduceBEq, Nat.reduceMul, Int.reduceToNat]; rfl) (by repeat' first | exact trivial | constructor) ?_
                  refine ⟨k + 1, (by show k + 1 ≤ B.length; omega), (show B.length - (k + 1) < B.length - k by omega), fun a w h => ?_⟩
                  have := Rel.dim (Rel.keep [18, 17, 5, 6, 13, 14] [13, 14] h)
                  simp only [hst]
                  exact this
            · intro σ hσ
              refine Holds.from hσ ?_
              refine Holds.region (Px := px) (T := TT) (ρ := fun _ => []) TTe (by simp (maxSteps := 100000) (disch := omega) only [go_sem, V.isAgg, V.flat, ↓reduceIte, Nat.reduceAdd, Nat.reduceSub, Nat.reduceLT, Nat.reduceEqDiff, reduceCtorEq, Nat.reduceLeDiff, Nat.reduceBEq, Nat.reduceMul, Int.reduceToNat]; rfl) (by repeat' first | exact trivial | constructor) ?_
              exact ⟨i + 1, (by show i + 1 ≤ A.length; omega), (show A.length - (i + 1) < A.length - i by omega), fun a w h => Rel.dim (Rel.keep [17, 5, 6, 13, 14] [13, 14] h)⟩
        · intro σ hσ
          refine Holds.from hσ ?_
          have sV := sz5 (VZ.set 4 c4) (by rw [List.length_set]; exact lV)
          refine Holds.step (Px := px) (T := TT) (ρ := fun _ => [.v false (fpV [c0, c1, c2, c3, c4]), .v true (.int .i64 0)]) TTe (by simp (maxSteps := 100000) (disch := omega) only [go_sem, V.isAgg, V.flat, ↓reduceIte, Nat.reduceAdd, Nat.reduceSub, Nat.reduceLT, Nat.reduceEqDiff, reduceCtorEq, Nat.reduceLeDiff, Nat.reduceBEq, Nat.reduceMul, Int.reduceToNat, -V.isAgg, -V.flat, isAgg_agg, isAgg_int, isAgg_bool, isAgg_sl, flat_agg, flat_int, flat_bool, flat_sl, fpV, sV, pV_size, pV_agg]; rfl) (by first | exact hBv | (repeat' first | exact trivial | exact hBv | constructor)) ?_
          refine Holds.dstep (Px := px) (T := TT) (ρ := fun _ => [.v true (.bool true)]) [] mixed (by kernel_rfl) TTe (by simp (maxSteps := 100000) (disch := omega) only [go_sem, V.isAgg, V.flat, ↓reduceIte, Nat.reduceAdd, Nat.reduceSub, Nat.reduceLT, Nat.reduceEqDiff, reduceCtorEq, Nat.reduceLeDiff, Nat.reduceBEq, Nat.reduceMul, Int.reduceToNat, -V.isAgg, -V.flat, isAgg_agg, isAgg_int, isAgg_bool, isAgg_sl, flat_agg, flat_int, flat_bool, flat_sl, pV_size, pV_agg]; rfl) (by first | exact ⟨hSame, awake_ok⟩ | (repeat' first | exact trivial | exact hSame | exact awake_ok | constructor)) (by rfl) (by rfl) (by rfl) ?_
          exact Holds.ret (RetOk.vs rfl (by exact ⟨⟨rfl, fun h => h⟩, trivial⟩) rfl)
end Go.Proofs.Ytjmclobbfabnpaa.L
