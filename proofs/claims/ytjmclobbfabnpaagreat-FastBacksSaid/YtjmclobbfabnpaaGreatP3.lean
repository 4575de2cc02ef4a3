/-
  Tf Tg
-/
import Derived.Test.YtjmclobbfabnpaaGreatP2
set_option linter.unusedSimpArgs false
set_option linter.unusedVariables false
/-
  Whole numbers of the package: sum, shared, told.
-/
namespace Go.Proofs.YtjmclobbfabnpaaGreat.L
open Go Go.RowKit Go.Proofs
attribute [local go_sem] evalOps_nil evalOps_cons runW_t runW_f runE_s runP_s wantA evalOp effOp letters okDst coreA St.opv St.get St.at look constA St.put St.upd St.set decide_true List.all_nil List.all_cons Bool.and_true Bool.true_and and_self and_true true_and if_true if_false true_or Int.sub_zero List.nil_append List.cons_append List.append_nil Option.isSome_some List.getElem?_toArray List.getElem?_cons_succ List.getElem?_cons_zero Option.bind_some Option.map_some Option.map_none beq_self_eq_true Bool.false_beq Bool.true_beq Bool.not_true Bool.not_false Bool.false_eq_true cond_true cond_false binA binI List.map_cons List.map_nil boundA List.length_nil List.length_cons Nat.zero_mul Nat.one_mul Nat.mul_one Nat.zero_add Nat.add_zero Nat.zero_le Option.toList St.freshB AV.ment AV.ments Blk.ment V.sizes Nat.lt_add_one Bool.or_true Bool.true_or Bool.or_false Bool.false_or Bool.or_self if_pos if_neg decide_false decide_eq_true decide_eq_false wrap_i64 Int.toNat_natCast minA maxA Int.natCast_add Int.cast_ofNat_Int Option.isSome_none false_implies true_implies forall_const List.drop_zero Int.toNat_zero Int.add_sub_cancel lenA sliceA loadA indexAddrA partA fitsT V.atP V.offP V.size List.length_map List.getElem?_map Int.toNat_natCast_add_one Int.ofNat_eq_natCast TY calleeA capArg knotA capArgs toArgs toArg callA R.res R.mems R.blks R.av R.names R.nw invokeA storeA storeV fieldAddrA liveB V.off V.offs V.setP List.set_cons_zero List.set_cons_succ buildA buildP partsA appendA srcA copyA boxOk makeA AV.pure List.take_succ_cons List.take_zero nilA words entry List.zipIdx_cons List.zipIdx_nil Arg.av Arg.avs

def sgS (s : Bool × Nat) (z : Int) : Bool × Nat :=
  if s.1 = decide (z < 0) then (s.1, s.2 + z.natAbs) else if z.natAbs ≤ s.2 then (s.1, s.2 - z.natAbs) else (decide (z < 0), z.natAbs - s.2)
def sgV (s : Bool × Nat) : Int := if s.1 then -(s.2 : Int) else s.2
theorem sgV_step (s : Bool × Nat) (z : Int) : sgV (sgS s z) = sgV s + z := by
  obtain ⟨b, m⟩ := s
  unfold sgS sgV
  by_cases hz : z < 0
  · cases b
    · by_cases h : z.natAbs ≤ m
      · simp [hz, h]; omega
      · simp [hz, h]; omega
    · simp [hz]; omega
  · cases b
    · simp [hz]; omega
    · by_cases h : z.natAbs ≤ m
      · simp [hz, h]; omega
      · simp [hz, h]; omega
def sumS (zs : List Int) : Nat → Bool × Nat
  | 0 => (false, 0)
  | k + 1 => sgS (sumS zs k) (zs.getD k 0)
def sumZ (zs : List Int) : Nat → Int
  | 0 => 0
  | k + 1 => sumZ zs k + zs.getD k 0
def absZ (zs : List Int) : Nat → Nat
  | 0 => 0
  | k + 1 => absZ zs k + (zs.getD k 0).natAbs
theorem sumS_val (zs : List Int) : ∀ k, sgV (sumS zs k) = sumZ zs k
  | 0 => rfl
  | k + 1 => by rw [sumS, sgV_step, sumS_val zs k, sumZ]
theorem sumS_abs (zs : List Int) : ∀ k, (sumS zs k).2 ≤ absZ zs k
  | 0 => Nat.zero_le _
  | k + 1 => by
    have := sumS_abs zs k
    rw [sumS, absZ, sgS]
    split
    · show (sumS zs k).2 + _ ≤ _; omega
    · split
      · show (sumS zs k).2 - _ ≤ _; omega
      · show _ - (sumS zs k).2 ≤ _; omega
theorem absZ_mono (zs : List Int) {j k : Nat} (h : j ≤ k) : absZ zs j ≤ absZ zs k := by
  induction h with
  | refl => exact Nat.le_refl _
  | step _ ih => rw [absZ]; omega

def wholesV (zs : List Int) : V := .sl 2 (zs.map fun z => pV (zp z))
theorem get_mapI {zs : List Int} {i : Nat} (h : i < zs.length) : zs[i]? = some (zs.getD i 0) := by
  rw [List.getD_eq_getElem?_getD, List.getElem?_eq_getElem h]; rfl

theorem sum_ok (zs : List Int) (M : Nat) (hM : M < 100000) (hn : zs.length < 1000000) (hz : absZ zs zs.length < 18446744073709551616 ^ M) :
    FnOk Tryz.prog 33 [.v (wholesV zs)] [.v true (pV (zp (sumZ zs zs.length)))] := by
  have lle : ∀ {v : Nat} {k : Nat}, k ≤ zs.length → v ≤ absZ zs k → (digs v).length ≤ M := fun hk h => digs_len (Nat.lt_of_le_of_lt (Nat.le_trans h (absZ_mono zs hk)) hz)
  have labs := sumS_abs zs
  have hvS := sumS_val zs
  have hs0 : sumS zs 0 = (false, 0) := rfl
  have hss : ∀ k, sumS zs (k + 1) = sgS (sumS zs k) (zs.getD k 0) := fun _ => rfl
  have hab : ∀ k, absZ zs (k + 1) = absZ zs k + (zs.getD k 0).natAbs := fun _ => rfl
  obtain ⟨S, hS⟩ : ∃ S, S = sumS zs := ⟨_, rfl⟩
  rw [← hS] at labs hvS hs0 hss
  refine FnOk.of Tryz.func33 rfl rfl fun cx w0 => ?_
  rw [show Tryz.f33.ntmps = 57 from rfl]
  refine Holds.step (Px := px) (T := TT) (ρ := fun _ => []) TTe (by simp (maxSteps := 100000) (disch := omega) only [go_sem, V.isAgg, V.flat, ↓reduceIte, Nat.reduceAdd, Nat.reduceSub, Nat.reduceLT, Nat.reduceEqDiff, reduceCtorEq, Nat.reduceLeDiff, Nat.reduceBEq, Nat.reduceMul, Int.reduceToNat, List.length_cons, List.length_nil]; rfl) (by repeat' first | exact trivial | constructor) ?_
  refine Holds.step (Px := px) (T := TT) (ρ := fun _ => []) TTe (by simp (maxSteps := 100000) (disch := omega) only [go_sem, V.isAgg, V.flat, ↓reduceIte, Nat.reduceAdd, Nat.reduceSub, Nat.reduceLT, Nat.reduceEqDiff, reduceCtorEq, Nat.reduceLeDiff, Nat.reduceBEq, Nat.reduceMul, Int.reduceToNat]; rfl) (by repeat' first | exact trivial | constructor) ?_
  refine Holds.next (fun σ => ∀ a w, Rel cx w0 σ a w → Rel cx w0 { nt := 57, env := [(3, .ptr 3 0 [] 0), (2, .ptr 2 0 [] 0)], mem := [(3, .box 43 (.v true (pV ((S zs.length).1, digs (S zs.length).2)))), (2, .box 43 (.v true (.agg [.bool false, .sl 1 []])))] } a w) ?_ ?_
  · refine Holds.step (Px := px) (T := TT) (ρ := fun _ => []) TTe (by simp (maxSteps := 100000) (disch := omega) only [go_sem, V.isAgg, V.flat, ↓reduceIte, Nat.reduceAdd, Nat.reduceSub, Nat.reduceLT, Nat.reduceEqDiff, reduceCtorEq, Nat.reduceLeDiff, Nat.reduceBEq, Nat.reduceMul, Int.reduceToNat, wholesV]; rfl) (by repeat' first | exact trivial | constructor) ?_
    refine Holds.loopB (fun k : Nat => { nt := 57, env := [(8, .v true (.int .i64 k)), (7, .v true (.int .i64 zs.length)), (6, .v false (wholesV zs)), (3, .ptr 3 0 [] 0), (2, .ptr 2 0 [] 0)], mem := [(3, .box 43 (.v true (pV ((S k).1, digs (S k).2)))), (2, .box 43 (.v true (.agg [.bool false, .sl 1 []])))] }) (fun k => k ≤ zs.length) (fun k => zs.length - k) 0 (Nat.zero_le _) (fun a w hr => by
      rw [hs0]
      exact Rel.keep [8, 7, 6, 3, 2] [3, 2] hr) ?_
    intro k hk
    by_cases hend : k = zs.length
    · refine Holds.step (Px := px) (T := TT) (ρ := fun _ => []) TTe (by simp (maxSteps := 100000) (disch := omega) only [go_sem, V.isAgg, V.flat, ↓reduceIte, Nat.reduceAdd, Nat.reduceSub, Nat.reduceLT, Nat.reduceEqDiff, reduceCtorEq, Nat.reduceLeDiff, Nat.reduceBEq, Nat.reduceMul, Int.reduceToNat]; rfl) (by repeat' first | exact trivial | constructor) ?_
      refine Holds.seq ?_
      refine Holds.condF rfl (Holds.exit ⟨rfl, fun a w hr => ?_⟩)
      rw [← hend]
      exact Rel.keep [3, 2] [3, 2] hr
    · have hkl : k < zs.length := by omega
      have gk := get_mapI hkl
      have hsk := hss k
      have habk := hab k
      have lk := labs k
      have lk1 := lle (v := (S k).2) hk lk
      obtain ⟨z, hz'⟩ : ∃ z, z = zs.getD k 0 := ⟨_, rfl⟩
      rw [← hz'] at gk hsk habk
      have lz := lle (v := z.natAbs) (k := k + 1) hkl (by omega)
      obtain ⟨s, hs⟩ : ∃ s, s = S k := ⟨_, rfl⟩
      rw [← hs] at hsk lk lk1 ⊢
      obtain ⟨b, m⟩ := s
      simp only at lk lk1 ⊢
      obtain ⟨zb, hzb⟩ : ∃ zb, zb = decide (z < 0) := ⟨_, rfl⟩
      have ezp : zp z = (zb, digs z.natAbs) := by rw [hzb]; rfl
      rw [sgS, ← hzb] at hsk
      simp only at hsk
      obtain ⟨u, hu⟩ : ∃ u, u = z.natAbs := ⟨_, rfl⟩
      rw [← hu] at hsk ezp lz
      refine Holds.step (Px := px) (T := TT) (ρ := fun _ => []) TTe (by simp (maxSteps := 100000) (disch := omega) only [go_sem, V.isAgg, V.flat, ↓reduceIte, Nat.reduceAdd, Nat.reduceSub, Nat.reduceLT, Nat.reduceEqDiff, reduceCtorEq, Nat.reduceLeDiff, Nat.reduceBEq, Nat.reduceMul, Int.reduceToNat]; rfl) (by repeat' first | exact trivial | constructor) ?_
      refine Holds.seq ?_
      refine Holds.condT rfl (Holds.skip ?_)
      refine Holds.next (fun σ => ∀ a w, Rel cx w0 σ a w → Rel cx w0 { nt := 57, env := [(8, .v true (.int .i64 k)), (7, .v true (.int .i64 zs.length)), (6, .v false (wholesV zs)), (3, .ptr 3 0 [] 0), (2, .ptr 2 0 [] 0)], mem := [(3, .box 43 (.v true (pV ((S (k + 1)).1, digs (S (k + 1)).2)))), (2, .box 43 (.v true (.agg [.bool false, .sl 1 []])))] } a w) ?_ ?_
      · refine Holds.blockN ?_
        refine Holds.step (Px := px) (T := TT) (ρ := fun _ => []) TTe (by simp (maxSteps := 100000) (disch := omega) only [go_sem, V.isAgg, V.flat, ↓reduceIte, Nat.reduceAdd, Nat.reduceSub, Nat.reduceLT, Nat.reduceEqDiff, reduceCtorEq, Nat.reduceLeDiff, Nat.reduceBEq, Nat.reduceMul, Int.reduceToNat, wholesV, gk, ezp, pV]; rfl) (by repeat' first | exact trivial | constructor) ?_
        refine Holds.blockN ?_
        by_cases hb : b = zb
        · rw [if_pos hb] at hsk
          rw [hsk]
          have hp := plus_val (x := digs m) (y := digs u) (at_ := 0) (by omega) (by omega) (by omega) (digs_ok _).1 (digs_ok _).1
          rw [(digs_ok _).2.2, (digs_ok _).2.2, Nat.pow_zero, Nat.one_mul] at hp
          have hbb : (b == zb) = true := by rw [hb]; exact beq_self_eq_true zb
          refine Holds.step (Px := px) (T := TT) (ρ := fun _ => []) TTe (by simp (maxSteps := 100000) (disch := omega) only [go_sem, V.isAgg, V.flat, ↓reduceIte, Nat.reduceAdd, Nat.reduceSub, Nat.reduceLT, Nat.reduceEqDiff, reduceCtorEq, Nat.reduceLeDiff, Nat.reduceBEq, Nat.reduceMul, Int.reduceToNat, hbb]; rfl) (by repeat' first | exact trivial | constructor) ?_
          refine Holds.condT rfl ?_
          refine Holds.region (Px := px) (T := TT) (ρ := fun _ => [.v true (words (digs (m + u)))]) TTe (by simp (maxSteps := 100000) (disch := omega) only [go_sem, V.isAgg, V.flat, ↓reduceIte, Nat.reduceAdd, Nat.reduceSub, Nat.reduceLT, Nat.reduceEqDiff, reduceCtorEq, Nat.reduceLeDiff, Nat.reduceBEq, Nat.reduceMul, Int.reduceToNat]; rfl) (by first | exact hp | (repeat' first | exact trivial | exact hp | constructor)) ?_
          exact fun a w hr => Rel.keep [8, 7, 6, 3, 2] [3, 2] hr
        · rw [if_neg hb] at hsk
          have hbb : (b == zb) = false := beq_eq_false_iff_ne.2 hb
          have hC := Cmp_ok (digs m) (digs u) (by omega) (by omega) (digs_ok _).1 (digs_ok _).1
          rw [(digs_ok _).2.2, (digs_ok _).2.2] at hC
          refine Holds.step (Px := px) (T := TT) (ρ := fun _ => []) TTe (by simp (maxSteps := 100000) (disch := omega) only [go_sem, V.isAgg, V.flat, ↓reduceIte, Nat.reduceAdd, Nat.reduceSub, Nat.reduceLT, Nat.reduceEqDiff, reduceCtorEq, Nat.reduceLeDiff, Nat.reduceBEq, Nat.reduceMul, Int.reduceToNat, hbb]; rfl) (by repeat' first | exact trivial | constructor) ?_
          refine Holds.condF rfl ?_
          by_cases hle : u ≤ m
          · rw [if_pos hle] at hsk
            rw [hsk]
            have hlen : (digs u).length ≤ (digs m).length := digs_len (Nat.lt_of_le_of_lt hle (by have := val_lt (digs_ok m).1; rw [(digs_ok m).2.2] at this; exact this))
            have hm := minus_ok (digs m) (digs u) (by omega) (digs_ok _).1 (digs_ok _).1 hlen (by rw [(digs_ok _).2.2, (digs_ok _).2.2]; exact hle)
            rw [(digs_ok _).2.2, (digs_ok _).2.2] at hm
            have hge : 0 ≤ cmpN m u := by rw [cmpN, if_neg (by omega)]; split <;> decide
            have hle1 : cmpN m u ≤ 1 := by rw [cmpN, if_neg (by omega)]; split <;> decide
            obtain ⟨c, hc⟩ : ∃ c, c = cmpN m u := ⟨_, rfl⟩
            rw [← hc] at hC hge hle1
            refine Holds.step (Px := px) (T := TT) (ρ := fun _ => [.v true (.int .i64 c)]) TTe (by simp (maxSteps := 100000) (disch := omega) only [go_sem, V.isAgg, V.flat, ↓reduceIte, Nat.reduceAdd, Nat.reduceSub, Nat.reduceLT, Nat.reduceEqDiff, reduceCtorEq, Nat.reduceLeDiff, Nat.reduceBEq, Nat.reduceMul, Int.reduceToNat]; rfl) (by first | exact hC | (repeat' first | exact trivial | exact hC | constructor)) ?_
            refine Holds.condT rfl ?_
            refine Holds.region (Px := px) (T := TT) (ρ := fun _ => [.v true (words (digs (m - u)))]) TTe (by simp (maxSteps := 100000) (disch := omega) only [go_sem, V.isAgg, V.flat, ↓reduceIte, Nat.reduceAdd, Nat.reduceSub, Nat.reduceLT, Nat.reduceEqDiff, reduceCtorEq, Nat.reduceLeDiff, Nat.reduceBEq, Nat.reduceMul, Int.reduceToNat]; rfl) (by first | exact hm | (repeat' first | exact trivial | exact hm | constructor)) ?_
            exact fun a w hr => Rel.keep [8, 7, 6, 3, 2] [3, 2] hr
          · rw [if_neg hle] at hsk
            rw [hsk]
            have hlen : (digs m).length ≤ (digs u).length := digs_len (Nat.lt_of_le_of_lt (Nat.le_of_lt (Nat.lt_of_not_le hle)) (by have := val_lt (digs_ok u).1; rw [(digs_ok u).2.2] at this; exact this))
            have hm := minus_ok (digs u) (digs m) (by omega) (digs_ok _).1 (digs_ok _).1 hlen (by rw [(digs_ok _).2.2, (digs_ok _).2.2]; omega)
            rw [(digs_ok _).2.2, (digs_ok _).2.2] at hm
            rw [cmpN, if_pos (by omega)] at hC
            refine Holds.step (Px := px) (T := TT) (ρ := fun _ => [.v true (.int .i64 (-1))]) TTe (by simp (maxSteps := 100000) (disch := omega) only [go_sem, V.isAgg, V.flat, ↓reduceIte, Nat.reduceAdd, Nat.reduceSub, Nat.reduceLT, Nat.reduceEqDiff, reduceCtorEq, Nat.reduceLeDiff, Nat.reduceBEq, Nat.reduceMul, Int.reduceToNat]; rfl) (by first | exact hC | (repeat' first | exact trivial | exact hC | constructor)) ?_
            refine Holds.condF rfl ?_
            refine Holds.dregion (Px := px) (T := TT) (ρ := fun _ => [.v true (words (digs (u - m)))]) [] mixed (by kernel_rfl) TTe (by simp (maxSteps := 100000) (disch := omega) only [go_sem, V.isAgg, V.flat, ↓reduceIte, Nat.reduceAdd, Nat.reduceSub, Nat.reduceLT, Nat.reduceEqDiff, reduceCtorEq, Nat.reduceLeDiff, Nat.reduceBEq, Nat.reduceMul, Int.reduceToNat]; rfl) (by first | exact hm | (repeat' first | exact trivial | exact hm | constructor)) (by rfl) (by rfl) (by rfl) ?_
            exact fun a w hr => Rel.keep [8, 7, 6, 3, 2] [3, 2] hr
      · intro σ hσ
        refine Holds.from hσ ?_
        refine Holds.region (Px := px) (T := TT) (ρ := fun _ => []) TTe (by simp (maxSteps := 100000) (disch := omega) only [go_sem, V.isAgg, V.flat, ↓reduceIte, Nat.reduceAdd, Nat.reduceSub, Nat.reduceLT, Nat.reduceEqDiff, reduceCtorEq, Nat.reduceLeDiff, Nat.reduceBEq, Nat.reduceMul, Int.reduceToNat]; rfl) (by repeat' first | exact trivial | constructor) ?_
        exact ⟨k + 1, (by show k + 1 ≤ zs.length; omega), (show zs.length - (k + 1) < zs.length - k by omega), fun a w hr => Rel.keep [8, 7, 6, 3, 2] [3, 2] hr⟩
  · intro σ hσ
    refine Holds.from hσ ?_
    have hv := hvS zs.length
    rw [← hv]
    obtain ⟨s, hs⟩ : ∃ s, s = S zs.length := ⟨_, rfl⟩
    rw [← hs]
    obtain ⟨b, m⟩ := s
    have e : zp (sgV (b, m)) = (b && decide (0 < (digs m).length), digs m) := zp_of b m
    rw [e]
    simp only
    obtain ⟨D, hD⟩ : ∃ D, D = digs m := ⟨_, rfl⟩
    rw [← hD]
    have lk := lle (Nat.le_refl _) (labs zs.length)
    rw [← hs, ← hD] at lk
    cases b
    · refine Holds.step (Px := px) (T := TT) (ρ := fun _ => []) TTe (by simp (maxSteps := 100000) (disch := omega) only [go_sem, V.isAgg, V.flat, ↓reduceIte, Nat.reduceAdd, Nat.reduceSub, Nat.reduceLT, Nat.reduceEqDiff, reduceCtorEq, Nat.reduceLeDiff, Nat.reduceBEq, Nat.reduceMul, Int.reduceToNat, pV]; rfl) (by repeat' first | exact trivial | constructor) ?_
      exact Holds.ret (RetOk.vs (show resAVs Tryz.prog _ _ [ResultVar.cell 2 43] = _ from by simp (maxSteps := 100000) (disch := omega) only [resAVs, AV.isPtr, go_sem, V.isAgg, V.flat, ↓reduceIte, Nat.reduceAdd, Nat.reduceSub, Nat.reduceLT, Nat.reduceEqDiff, reduceCtorEq, Nat.reduceLeDiff, Nat.reduceBEq, Nat.reduceMul, Int.reduceToNat, pV]; rfl) (by exact ⟨⟨rfl, fun h => h⟩, trivial⟩) rfl)
    · by_cases h : 0 < D.length
      · refine Holds.step (Px := px) (T := TT) (ρ := fun _ => []) TTe (by simp (maxSteps := 100000) (disch := omega) only [go_sem, V.isAgg, V.flat, ↓reduceIte, Nat.reduceAdd, Nat.reduceSub, Nat.reduceLT, Nat.reduceEqDiff, reduceCtorEq, Nat.reduceLeDiff, Nat.reduceBEq, Nat.reduceMul, Int.reduceToNat, pV, h]; rfl) (by repeat' first | exact trivial | constructor) ?_
        rw [decide_eq_true h]
        exact Holds.ret (RetOk.vs (show resAVs Tryz.prog _ _ [ResultVar.cell 2 43] = _ from by simp (maxSteps := 100000) (disch := omega) only [resAVs, AV.isPtr, go_sem, V.isAgg, V.flat, ↓reduceIte, Nat.reduceAdd, Nat.reduceSub, Nat.reduceLT, Nat.reduceEqDiff, reduceCtorEq, Nat.reduceLeDiff, Nat.reduceBEq, Nat.reduceMul, Int.reduceToNat, pV]; rfl) (by exact ⟨⟨rfl, fun h => h⟩, trivial⟩) rfl)
      · refine Holds.step (Px := px) (T := TT) (ρ := fun _ => []) TTe (by simp (maxSteps := 100000) (disch := omega) only [go_sem, V.isAgg, V.flat, ↓reduceIte, Nat.reduceAdd, Nat.reduceSub, Nat.reduceLT, Nat.reduceEqDiff, reduceCtorEq, Nat.reduceLeDiff, Nat.reduceBEq, Nat.reduceMul, Int.reduceToNat, pV, h]; rfl) (by repeat' first | exact trivial | constructor) ?_
        rw [decide_eq_false h]
        exact Holds.ret (RetOk.vs (show resAVs Tryz.prog _ _ [ResultVar.cell 2 43] = _ from by simp (maxSteps := 100000) (disch := omega) only [resAVs, AV.isPtr, go_sem, V.isAgg, V.flat, ↓reduceIte, Nat.reduceAdd, Nat.reduceSub, Nat.reduceLT, Nat.reduceEqDiff, reduceCtorEq, Nat.reduceLeDiff, Nat.reduceBEq, Nat.reduceMul, Int.reduceToNat, pV]; rfl) (by exact ⟨⟨rfl, fun h => h⟩, trivial⟩) rfl)

theorem shared_ok (b : Bool) (v : Nat) (hl : (digs v).length < 1000000) : FnOk Tryz.prog 63 [.v (pV (b, digs v))] [.v false (pV (zp (if b then -(v : Int) else v)))] := by
  rw [zp_of]
  obtain ⟨D, hD⟩ : ∃ D, D = digs v := ⟨_, rfl⟩
  rw [← hD] at hl ⊢
  refine FnOk.of Tryz.func63 rfl rfl fun cx w0 => ?_
  rw [show Tryz.f63.ntmps = 14 from rfl]
  refine Holds.step (Px := px) (T := TT) (ρ := fun _ => []) TTe (by simp (maxSteps := 100000) (disch := omega) only [go_sem, V.isAgg, V.flat, ↓reduceIte, Nat.reduceAdd, Nat.reduceSub, Nat.reduceLT, Nat.reduceEqDiff, reduceCtorEq, Nat.reduceLeDiff, Nat.reduceBEq, Nat.reduceMul, Int.reduceToNat, pV]; rfl) (by repeat' first | exact trivial | constructor) ?_
  cases b
  · refine Holds.step (Px := px) (T := TT) (ρ := fun _ => []) TTe (by simp (maxSteps := 100000) (disch := omega) only [go_sem, V.isAgg, V.flat, ↓reduceIte, Nat.reduceAdd, Nat.reduceSub, Nat.reduceLT, Nat.reduceEqDiff, reduceCtorEq, Nat.reduceLeDiff, Nat.reduceBEq, Nat.reduceMul, Int.reduceToNat, pV]; rfl) (by repeat' first | exact trivial | constructor) ?_
    exact Holds.ret (RetOk.vs (show resAVs Tryz.prog _ _ [ResultVar.cell 2 26] = _ from by simp (maxSteps := 100000) (disch := omega) only [resAVs, AV.isPtr, go_sem, V.isAgg, V.flat, ↓reduceIte, Nat.reduceAdd, Nat.reduceSub, Nat.reduceLT, Nat.reduceEqDiff, reduceCtorEq, Nat.reduceLeDiff, Nat.reduceBEq, Nat.reduceMul, Int.reduceToNat, pV]; rfl) (by exact ⟨⟨rfl, fun h => by cases h⟩, trivial⟩) rfl)
  · by_cases h : 0 < D.length
    · refine Holds.step (Px := px) (T := TT) (ρ := fun _ => []) TTe (by simp (maxSteps := 100000) (disch := omega) only [go_sem, V.isAgg, V.flat, ↓reduceIte, Nat.reduceAdd, Nat.reduceSub, Nat.reduceLT, Nat.reduceEqDiff, reduceCtorEq, Nat.reduceLeDiff, Nat.reduceBEq, Nat.reduceMul, Int.reduceToNat, pV, h]; rfl) (by repeat' first | exact trivial | constructor) ?_
      rw [decide_eq_true h]
      exact Holds.ret (RetOk.vs (show resAVs Tryz.prog _ _ [ResultVar.cell 2 26] = _ from by simp (maxSteps := 100000) (disch := omega) only [resAVs, AV.isPtr, go_sem, V.isAgg, V.flat, ↓reduceIte, Nat.reduceAdd, Nat.reduceSub, Nat.reduceLT, Nat.reduceEqDiff, reduceCtorEq, Nat.reduceLeDiff, Nat.reduceBEq, Nat.reduceMul, Int.reduceToNat, pV]; rfl) (by exact ⟨⟨rfl, fun h => by cases h⟩, trivial⟩) rfl)
    · refine Holds.step (Px := px) (T := TT) (ρ := fun _ => []) TTe (by simp (maxSteps := 100000) (disch := omega) only [go_sem, V.isAgg, V.flat, ↓reduceIte, Nat.reduceAdd, Nat.reduceSub, Nat.reduceLT, Nat.reduceEqDiff, reduceCtorEq, Nat.reduceLeDiff, Nat.reduceBEq, Nat.reduceMul, Int.reduceToNat, pV, h]; rfl) (by repeat' first | exact trivial | constructor) ?_
      rw [decide_eq_false h]
      exact Holds.ret (RetOk.vs (show resAVs Tryz.prog _ _ [ResultVar.cell 2 26] = _ from by simp (maxSteps := 100000) (disch := omega) only [resAVs, AV.isPtr, go_sem, V.isAgg, V.flat, ↓reduceIte, Nat.reduceAdd, Nat.reduceSub, Nat.reduceLT, Nat.reduceEqDiff, reduceCtorEq, Nat.reduceLeDiff, Nat.reduceBEq, Nat.reduceMul, Int.reduceToNat, pV]; rfl) (by exact ⟨⟨rfl, fun h => by cases h⟩, trivial⟩) rfl)

theorem told_ok (z : Int) (M : Nat) (hM : M ≤ 4096) (h : z.natAbs < 18446744073709551616 ^ M) : FnOk Tryz.prog 36 [.v (pV (zp z))] [.v false (pV (zp z)), .v true (.int .i64 0)] := by
  have hl : (digs z.natAbs).length ≤ M := digs_len h
  clear h
  have h1 := ffitG_ok (digs z.natAbs) (by omega)
  obtain ⟨od, zd, vd⟩ := digs_ok z.natAbs
  rw [trim_digs od, vd, fitR, if_neg (by omega)] at h1
  have h2 := shared_ok (decide (z < 0)) z.natAbs (by omega)
  rw [show (if decide (z < 0) = true then -(z.natAbs : Int) else z.natAbs) = z from by by_cases hz : z < 0 <;> simp [hz] <;> omega] at h2
  obtain ⟨Z, hZ⟩ : ∃ Z, Z = zp z := ⟨_, rfl⟩
  rw [← hZ] at h2
  obtain ⟨b, hb⟩ : ∃ b, b = decide (z < 0) := ⟨_, rfl⟩
  obtain ⟨D, hD⟩ : ∃ D, D = digs z.natAbs := ⟨_, rfl⟩
  rw [← hD] at h1 hl
  rw [← hD, ← hb] at h2
  rw [show zp z = (b, D) from by rw [hb, hD]; rfl] at hZ ⊢
  subst hZ
  refine FnOk.of Tryz.func36 rfl rfl fun cx w0 => ?_
  rw [show Tryz.f36.ntmps = 21 from rfl]
  refine Holds.step (Px := px) (T := TT) (ρ := fun _ => []) TTe (by simp (maxSteps := 100000) (disch := omega) only [go_sem, V.isAgg, V.flat, ↓reduceIte, Nat.reduceAdd, Nat.reduceSub, Nat.reduceLT, Nat.reduceEqDiff, reduceCtorEq, Nat.reduceLeDiff, Nat.reduceBEq, Nat.reduceMul, Int.reduceToNat, pV]; rfl) (by repeat' first | exact trivial | constructor) ?_
  refine Holds.step (Px := px) (T := TT) (ρ := fun _ => [.v true (words D), .v true (.int .i64 0)]) TTe (by simp (maxSteps := 100000) (disch := omega) only [go_sem, V.isAgg, V.flat, ↓reduceIte, Nat.reduceAdd, Nat.reduceSub, Nat.reduceLT, Nat.reduceEqDiff, reduceCtorEq, Nat.reduceLeDiff, Nat.reduceBEq, Nat.reduceMul, Int.reduceToNat, pV]; rfl) (by first | exact h1 | (repeat' first | exact trivial | exact h1 | constructor)) ?_
  refine Holds.next (fun σ => ∀ a w, Rel cx w0 σ a w → Rel cx w0 { nt := 21, env := [(4, .v true (words D)), (1, .ptr 1 0 [] 0), (2, .ptr 2 0 [] 0)], mem := [(1, .box 43 (.v false (pV (b, D)))), (2, .box 26 (.v true (.agg [.bool false, .sl 1 []])))] } a w) ?_ ?_
  · refine Holds.step (Px := px) (T := TT) (ρ := fun _ => []) TTe (by simp (maxSteps := 100000) (disch := omega) only [go_sem, V.isAgg, V.flat, ↓reduceIte, Nat.reduceAdd, Nat.reduceSub, Nat.reduceLT, Nat.reduceEqDiff, reduceCtorEq, Nat.reduceLeDiff, Nat.reduceBEq, Nat.reduceMul, Int.reduceToNat]; rfl) (by repeat' first | exact trivial | constructor) ?_
    exact Holds.condF rfl (Holds.skip fun a w hr => Rel.keep [4, 1, 2] [1, 2] hr)
  · intro σ hσ
    refine Holds.from hσ ?_
    refine Holds.step (Px := px) (T := TT) (ρ := fun _ => [.v false (pV (b, D))]) TTe (by simp (maxSteps := 100000) (disch := omega) only [go_sem, V.isAgg, V.flat, ↓reduceIte, Nat.reduceAdd, Nat.reduceSub, Nat.reduceLT, Nat.reduceEqDiff, reduceCtorEq, Nat.reduceLeDiff, Nat.reduceBEq, Nat.reduceMul, Int.reduceToNat, pV]; rfl) (by first | exact h2 | (repeat' first | exact trivial | exact h2 | constructor)) ?_
    exact Holds.ret (RetOk.vs (show resAVs Tryz.prog _ _ [ResultVar.cell 2 26, ResultVar.tmp 3] = _ from by simp (maxSteps := 100000) (disch := omega) only [resAVs, AV.isPtr, go_sem, V.isAgg, V.flat, ↓reduceIte, Nat.reduceAdd, Nat.reduceSub, Nat.reduceLT, Nat.reduceEqDiff, reduceCtorEq, Nat.reduceLeDiff, Nat.reduceBEq, Nat.reduceMul, Int.reduceToNat, pV]; rfl) (by exact ⟨⟨rfl, fun h => by cases h⟩, ⟨rfl, fun h => h⟩, trivial⟩) rfl)
/-
  Polynomials of the package: value, opened, Value, five.
-/

theorem value_ok (zs : List Int) (t : Int) (M : Nat) (hM : M < 90000) (ht : t.natAbs < 9223372036854775808) (hn : zs.length < 1000000) (hz : ∀ z ∈ zs, z.natAbs < 18446744073709551616 ^ M)
    (hb : ∀ j, j ≤ zs.length → (hornZ t (zs.drop j)).natAbs < 18446744073709551616 ^ M) :
    FnOk Tryz.prog 73 [.v (wholesV zs), .v (.int .i64 t)] [.v true (pV (zp (hornZ t zs)))] := by
  refine FnOk.of Tryz.func73 rfl rfl fun cx w0 => ?_
  rw [show Tryz.f73.ntmps = 24 from rfl]
  refine Holds.step (Px := px) (T := TT) (ρ := fun _ => []) TTe (by simp (maxSteps := 100000) (disch := omega) only [go_sem, V.isAgg, V.flat, ↓reduceIte, Nat.reduceAdd, Nat.reduceSub, Nat.reduceLT, Nat.reduceEqDiff, reduceCtorEq, Nat.reduceLeDiff, Nat.reduceBEq, Nat.reduceMul, Int.reduceToNat, List.length_cons, List.length_nil]; rfl) (by repeat' first | exact trivial | constructor) ?_
  refine Holds.step (Px := px) (T := TT) (ρ := fun _ => []) TTe (by simp (maxSteps := 100000) (disch := omega) only [go_sem, V.isAgg, V.flat, ↓reduceIte, Nat.reduceAdd, Nat.reduceSub, Nat.reduceLT, Nat.reduceEqDiff, reduceCtorEq, Nat.reduceLeDiff, Nat.reduceBEq, Nat.reduceMul, Int.reduceToNat]; rfl) (by repeat' first | exact trivial | constructor) ?_
  refine Holds.next (fun σ => ∀ a w, Rel cx w0 σ a w → Rel cx w0 { nt := 24, env := [(5, .ptr 5 0 [] 0), (4, .ptr 4 0 [] 0)], mem := [(5, .box 43 (.v true (pV (zp (hornZ t zs))))), (4, .box 43 (.v true (.agg [.bool false, .sl 1 []])))] } a w) ?_ ?_
  · refine Holds.step (Px := px) (T := TT) (ρ := fun _ => []) TTe (by simp (maxSteps := 100000) (disch := omega) only [go_sem, V.isAgg, V.flat, ↓reduceIte, Nat.reduceAdd, Nat.reduceSub, Nat.reduceLT, Nat.reduceEqDiff, reduceCtorEq, Nat.reduceLeDiff, Nat.reduceBEq, Nat.reduceMul, Int.reduceToNat, wholesV]; rfl) (by repeat' first | exact trivial | constructor) ?_
    refine Holds.loopB (fun j : Nat => { nt := 24, env := [(6, .v true (.int .i64 ((j : Int) - 1))), (5, .ptr 5 0 [] 0), (4, .ptr 4 0 [] 0), (0, .v false (wholesV zs)), (1, .v true (.int .i64 t))], mem := [(5, .box 43 (.v true (pV (zp (hornZ t (zs.drop j)))))), (4, .box 43 (.v true (.agg [.bool false, .sl 1 []])))] }) (fun j => j ≤ zs.length) id zs.length (Nat.le_refl _) (fun a w hr => by
      have := Rel.keep [6, 5, 4, 0, 1] [5, 4] hr
      rw [List.drop_length]
      exact this) ?_
    intro j hj
    rcases j with _ | j
    · refine Holds.seq ?_
      refine Holds.step (Px := px) (T := TT) (ρ := fun _ => []) TTe (by simp (maxSteps := 100000) (disch := omega) only [go_sem, V.isAgg, V.flat, ↓reduceIte, Nat.reduceAdd, Nat.reduceSub, Nat.reduceLT, Nat.reduceEqDiff, reduceCtorEq, Nat.reduceLeDiff, Nat.reduceBEq, Nat.reduceMul, Int.reduceToNat]; rfl) (by repeat' first | exact trivial | constructor) ?_
      exact Holds.condF rfl (Holds.exit ⟨rfl, fun a w hr => Rel.keep [5, 4] [5, 4] hr⟩)
    · have hjl : j < zs.length := by omega
      have gj := get_mapI hjl
      have hm : zs.getD j 0 ∈ zs := by rw [List.getD_eq_getElem?_getD, List.getElem?_eq_getElem hjl]; exact List.getElem_mem hjl
      have hzj := hz _ hm
      have hs := hornZ_drop (t := t) hjl
      have hb1 := hb (j + 1) hj
      obtain ⟨y, hy⟩ : ∃ y, y = zs.getD j 0 := ⟨_, rfl⟩
      rw [← hy] at gj hzj hs
      obtain ⟨h, hh⟩ : ∃ h, h = hornZ t (zs.drop (j + 1)) := ⟨_, rfl⟩
      rw [← hh] at hs hb1 ⊢
      have lh := zp_len hb1
      have h1 := times_ok (zp h) t (by omega) (zp_ok _) (by omega) (by omega)
      rw [ival_zp] at h1
      have hm1 : (h * t).natAbs < 18446744073709551616 ^ M * 18446744073709551616 := by
        rw [Int.natAbs_mul]
        exact Nat.mul_lt_mul'' hb1 (by omega)
      have hpos : 0 < 18446744073709551616 ^ M := Nat.pow_pos (by decide)
      have h2 := sum_ok [h * t, y] (M + 2) (by omega) (by simp) (by
        show 0 + (h * t).natAbs + y.natAbs < _
        rw [Nat.pow_succ, Nat.pow_succ]
        omega)
      rw [show sumZ [h * t, y] [h * t, y].length = hornZ t (zs.drop j) from by rw [hs]; show 0 + h * t + y = _; omega] at h2
      refine Holds.seq ?_
      refine Holds.step (Px := px) (T := TT) (ρ := fun _ => []) TTe (by simp (maxSteps := 100000) (disch := omega) only [go_sem, V.isAgg, V.flat, ↓reduceIte, Nat.reduceAdd, Nat.reduceSub, Nat.reduceLT, Nat.reduceEqDiff, reduceCtorEq, Nat.reduceLeDiff, Nat.reduceBEq, Nat.reduceMul, Int.reduceToNat]; rfl) (by repeat' first | exact trivial | constructor) ?_
      refine Holds.condT rfl (Holds.skip ?_)
      refine Holds.next (fun σ => ∀ a w, Rel cx w0 σ a w → Rel cx w0 { nt := 24, env := [(6, .v true (.int .i64 (j : Int))), (5, .ptr 5 0 [] 0), (4, .ptr 4 0 [] 0), (0, .v false (wholesV zs)), (1, .v true (.int .i64 t))], mem := [(5, .box 43 (.v true (pV (zp (hornZ t (zs.drop j)))))), (4, .box 43 (.v true (.agg [.bool false, .sl 1 []])))] } a w) ?_ ?_
      · refine Holds.blockN ?_
        refine Holds.dregion (Px := px) (T := TT) (ρ := fun d => if d = 16 then [.v true (pV (zp (h * t)))] else [.v true (pV (zp (hornZ t (zs.drop j))))]) [] mixed (by kernel_rfl) TTe (by simp (maxSteps := 100000) (disch := omega) only [go_sem, V.isAgg, V.flat, ↓reduceIte, Nat.reduceAdd, Nat.reduceSub, Nat.reduceLT, Nat.reduceEqDiff, reduceCtorEq, Nat.reduceLeDiff, Nat.reduceBEq, Nat.reduceMul, Int.reduceToNat, wholesV, pV, gj]; rfl) (by first | exact ⟨h1, h2⟩ | (repeat' first | exact trivial | exact h1 | exact h2 | constructor)) (by rfl) (by rfl) (by rfl) ?_
        exact fun a w hr => Rel.keep [6, 5, 4, 0, 1] [5, 4] hr
      · intro σ hσ
        refine Holds.from hσ ?_
        refine Holds.region (Px := px) (T := TT) (ρ := fun _ => []) TTe (by simp (maxSteps := 100000) (disch := omega) only [go_sem, V.isAgg, V.flat, ↓reduceIte, Nat.reduceAdd, Nat.reduceSub, Nat.reduceLT, Nat.reduceEqDiff, reduceCtorEq, Nat.reduceLeDiff, Nat.reduceBEq, Nat.reduceMul, Int.reduceToNat]; rfl) (by repeat' first | exact trivial | constructor) ?_
        exact ⟨j, (by show j ≤ zs.length; omega), (show j < j + 1 by omega), fun a w hr => Rel.keep [6, 5, 4, 0, 1] [5, 4] hr⟩
  · intro σ hσ
    refine Holds.from hσ ?_
    refine Holds.step (Px := px) (T := TT) (ρ := fun _ => []) TTe (by simp (maxSteps := 100000) (disch := omega) only [go_sem, V.isAgg, V.flat, ↓reduceIte, Nat.reduceAdd, Nat.reduceSub, Nat.reduceLT, Nat.reduceEqDiff, reduceCtorEq, Nat.reduceLeDiff, Nat.reduceBEq, Nat.reduceMul, Int.reduceToNat, pV]; rfl) (by repeat' first | exact trivial | constructor) ?_
    exact Holds.ret (RetOk.vs (show resAVs Tryz.prog _ _ [ResultVar.cell 4 43] = _ from by simp (maxSteps := 100000) (disch := omega) only [resAVs, AV.isPtr, go_sem, V.isAgg, V.flat, ↓reduceIte, Nat.reduceAdd, Nat.reduceSub, Nat.reduceLT, Nat.reduceEqDiff, reduceCtorEq, Nat.reduceLeDiff, Nat.reduceBEq, Nat.reduceMul, Int.reduceToNat, pV]; rfl) (by exact ⟨⟨rfl, fun h => h⟩, trivial⟩) rfl)

/-! opened -/
def opA (k : Nat) : AV := if k = 0 then .nil else .own 300 0 k
def opB (ps : List (Bool × List Int)) (k : Nat) : List (Nat × Blk) := if k = 0 then [] else [(300, .buf 43 2 true ((ps.take k).map fun p => pV (zp (ival p))))]
theorem opA_s (k : Nat) : opA (k + 1) = .own 300 0 (k + 1) := if_neg (by omega)
theorem opB_s (ps : List (Bool × List Int)) (k : Nat) : opB ps (k + 1) = [(300, .buf 43 2 true ((ps.take (k + 1)).map fun p => pV (zp (ival p))))] := if_neg (by omega)
theorem takeP_succ {ps : List (Bool × List Int)} {k : Nat} (h : k < ps.length) : ps.take (k + 1) = ps.take k ++ [ps.getD k (false, [])] := by
  rw [List.take_add_one, List.getElem?_eq_getElem h, List.getD_eq_getElem?_getD, List.getElem?_eq_getElem h]; rfl

def bigP (ps : List (Bool × List Int)) : Bool := ps.any fun p => decide (4096 < p.2.length)
def opR (ps : List (Bool × List Int)) : List Int × Bool := if bigP ps = true then ([], false) else (ps.map ival, true)

theorem opened_ok (ps : List (Bool × List Int)) (hn : ps.length < 1000000) (hps : ∀ p ∈ ps, p.2.length < 1000000 ∧ okW p.2) :
    FnOk Tryz.prog 11 [.v (intsV ps)] [.v true (wholesV (opR ps).1), .v true (.bool (opR ps).2)] := by
  refine FnOk.of Tryz.func11 rfl rfl fun cx w0 => ?_
  rw [show Tryz.f11.ntmps = 24 from rfl]
  refine Holds.step (Px := px) (T := TT) (ρ := fun _ => []) TTe (by simp (maxSteps := 100000) (disch := omega) only [go_sem, V.isAgg, V.flat, ↓reduceIte, Nat.reduceAdd, Nat.reduceSub, Nat.reduceLT, Nat.reduceEqDiff, reduceCtorEq, Nat.reduceLeDiff, Nat.reduceBEq, Nat.reduceMul, Int.reduceToNat, List.length_cons, List.length_nil]; rfl) (by repeat' first | exact trivial | constructor) ?_
  refine Holds.step (Px := px) (T := TT) (ρ := fun _ => []) TTe (by simp (maxSteps := 100000) (disch := omega) only [go_sem, V.isAgg, V.flat, ↓reduceIte, Nat.reduceAdd, Nat.reduceSub, Nat.reduceLT, Nat.reduceEqDiff, reduceCtorEq, Nat.reduceLeDiff, Nat.reduceBEq, Nat.reduceMul, Int.reduceToNat]; rfl) (by repeat' first | exact trivial | constructor) ?_
  refine Holds.next (fun σ => bigP ps = false ∧ ∀ a w, Rel cx w0 σ a w → Rel cx w0 { nt := 24, env := [(4, opA ps.length)], mem := opB ps ps.length } a w) ?_ ?_
  · refine Holds.step (Px := px) (T := TT) (ρ := fun _ => []) TTe (by simp (maxSteps := 100000) (disch := omega) only [go_sem, V.isAgg, V.flat, ↓reduceIte, Nat.reduceAdd, Nat.reduceSub, Nat.reduceLT, Nat.reduceEqDiff, reduceCtorEq, Nat.reduceLeDiff, Nat.reduceBEq, Nat.reduceMul, Int.reduceToNat, intsV]; rfl) (by repeat' first | exact trivial | constructor) ?_
    refine Holds.loopB (fun k : Nat => { nt := 24, env := [(9, .v true (.int .i64 k)), (8, .v true (.int .i64 ps.length)), (7, .v false (intsV ps)), (4, opA k)], mem := opB ps k }) (fun k => k ≤ ps.length ∧ bigP (ps.take k) = false) (fun k => ps.length - k) 0 ⟨Nat.zero_le _, rfl⟩ (fun a w hr => Rel.keep [9, 8, 7, 4] [] hr) ?_
    rintro k ⟨hk, hbk⟩
    by_cases hend : k = ps.length
    · refine Holds.step (Px := px) (T := TT) (ρ := fun _ => []) TTe (by simp (maxSteps := 100000) (disch := omega) only [go_sem, V.isAgg, V.flat, ↓reduceIte, Nat.reduceAdd, Nat.reduceSub, Nat.reduceLT, Nat.reduceEqDiff, reduceCtorEq, Nat.reduceLeDiff, Nat.reduceBEq, Nat.reduceMul, Int.reduceToNat]; rfl) (by repeat' first | exact trivial | constructor) ?_
      refine Holds.seq ?_
      refine Holds.condF rfl (Holds.exit ⟨rfl, ?_, fun a w hr => ?_⟩)
      · rw [hend, List.take_length] at hbk; exact hbk
      · rw [← hend]
        exact Rel.less [4] (fun _ => rfl) hr
    · have hkl : k < ps.length := by omega
      have gk := get_mapP hkl
      have hm : ps.getD k (false, []) ∈ ps := by rw [List.getD_eq_getElem?_getD, List.getElem?_eq_getElem hkl]; exact List.getElem_mem hkl
      obtain ⟨hlm, olm⟩ := hps _ hm
      have hts := takeP_succ hkl
      have htl : (ps.take k).length = k := by rw [List.length_take]; omega
      have hO := of_ok (ps.getD k (false, [])) (by omega) olm
      have hL := large_ok [(ps.getD k (false, [])).2] (by simp) (fun l hl => by rw [List.mem_singleton] at hl; rw [hl]; omega)
      have hbs : bigP (ps.take (k + 1)) = decide (4096 < (ps.getD k (false, [])).2.length) := by
        unfold bigP at hbk ⊢
        rw [hts, List.any_append, hbk]; simp
      obtain ⟨y, hy⟩ : ∃ y, y = ps.getD k (false, []) := ⟨_, rfl⟩
      rw [← hy] at gk hlm olm hts hO hL hbs hm
      obtain ⟨yb, yl⟩ := y
      simp only at hlm olm hL hbs
      obtain ⟨Z, hZ⟩ : ∃ Z, Z = zp (ival (yb, yl)) := ⟨_, rfl⟩
      rw [← hZ] at hO
      refine Holds.step (Px := px) (T := TT) (ρ := fun _ => []) TTe (by simp (maxSteps := 100000) (disch := omega) only [go_sem, V.isAgg, V.flat, ↓reduceIte, Nat.reduceAdd, Nat.reduceSub, Nat.reduceLT, Nat.reduceEqDiff, reduceCtorEq, Nat.reduceLeDiff, Nat.reduceBEq, Nat.reduceMul, Int.reduceToNat]; rfl) (by repeat' first | exact trivial | constructor) ?_
      refine Holds.seq ?_
      refine Holds.condT rfl (Holds.skip ?_)
      refine Holds.next (fun σ => bigP (ps.take (k + 1)) = false ∧ ∀ a w, Rel cx w0 σ a w → Rel cx w0 { nt := 24, env := [(9, .v true (.int .i64 k)), (8, .v true (.int .i64 ps.length)), (7, .v false (intsV ps)), (4, opA (k + 1))], mem := opB ps (k + 1) } a w) ?_ ?_
      · refine Holds.blockN ?_
        rcases k with _ | k
        · rw [opA, opB, if_pos rfl, if_pos rfl]
          refine Holds.step (Px := px) (T := TT) (ρ := fun _ => []) TTe (by simp (maxSteps := 100000) (disch := omega) only [go_sem, V.isAgg, V.flat, ↓reduceIte, Nat.reduceAdd, Nat.reduceSub, Nat.reduceLT, Nat.reduceEqDiff, reduceCtorEq, Nat.reduceLeDiff, Nat.reduceBEq, Nat.reduceMul, Int.reduceToNat, intsV, gk, pV]; rfl) (by repeat' first | exact trivial | constructor) ?_
          by_cases hbig : 4096 < yl.length
          · have e : ([yl].any fun l => decide (4096 < l.length)) = true := by simpa using hbig
            rw [e] at hL
            have hB : bigP ps = true := List.any_eq_true.2 ⟨_, hm, by simpa using hbig⟩
            refine Holds.seq ?_
            refine Holds.step (Px := px) (T := TT) (ρ := fun _ => [.v true (.bool true)]) TTe (by simp (maxSteps := 100000) (disch := omega) only [go_sem, V.isAgg, V.flat, ↓reduceIte, Nat.reduceAdd, Nat.reduceSub, Nat.reduceLT, Nat.reduceEqDiff, reduceCtorEq, Nat.reduceLeDiff, Nat.reduceBEq, Nat.reduceMul, Int.reduceToNat, pV]; rfl) (by first | exact hL | (repeat' first | exact trivial | exact hL | constructor)) ?_
            refine Holds.condT rfl ?_
            rw [opR, if_pos hB]
            refine Holds.step (Px := px) (T := TT) (ρ := fun _ => []) TTe (by simp (maxSteps := 100000) (disch := omega) only [go_sem, V.isAgg, V.flat, ↓reduceIte, Nat.reduceAdd, Nat.reduceSub, Nat.reduceLT, Nat.reduceEqDiff, reduceCtorEq, Nat.reduceLeDiff, Nat.reduceBEq, Nat.reduceMul, Int.reduceToNat]; rfl) (by repeat' first | exact trivial | constructor) ?_
            exact Holds.ret ⟨_, [], rfl, ⟨rfl, ⟨rfl, fun h => h⟩, trivial⟩, by simp [R.names, R.mems, R.blks], by simp, rfl⟩
          · have e : ([yl].any fun l => decide (4096 < l.length)) = false := by simpa using hbig
            rw [e] at hL
            refine Holds.seq ?_
            refine Holds.step (Px := px) (T := TT) (ρ := fun _ => [.v true (.bool false)]) TTe (by simp (maxSteps := 100000) (disch := omega) only [go_sem, V.isAgg, V.flat, ↓reduceIte, Nat.reduceAdd, Nat.reduceSub, Nat.reduceLT, Nat.reduceEqDiff, reduceCtorEq, Nat.reduceLeDiff, Nat.reduceBEq, Nat.reduceMul, Int.reduceToNat, pV]; rfl) (by first | exact hL | (repeat' first | exact trivial | exact hL | constructor)) ?_
            refine Holds.condF rfl (Holds.skip ?_)
            show Holds _ _ _ _ _ _ _
            refine Holds.region (Px := px) (T := TT) (ρ := fun _ => [.v true (pV Z)]) TTe (by simp (maxSteps := 100000) (disch := omega) only [go_sem, V.isAgg, V.flat, ↓reduceIte, Nat.reduceAdd, Nat.reduceSub, Nat.reduceLT, Nat.reduceEqDiff, reduceCtorEq, Nat.reduceLeDiff, Nat.reduceBEq, Nat.reduceMul, Int.reduceToNat, pV]; rfl) (by first | exact hO | (repeat' first | exact trivial | exact hO | constructor)) ?_
            refine ⟨by rw [hbs]; simpa using hbig, fun a w h => ?_⟩
            have := Rel.ren (s := 21) (s' := 300) (Rel.keep [9, 8, 7, 4] [21] h) (by decide) rfl rfl
            rw [opB, if_neg (by omega), hts, opA, if_neg (by omega)]
            simp only [List.take_zero, List.nil_append, List.map_cons, List.map_nil]
            rw [← hZ]
            exact this
        · rw [opA_s, opB_s]
          refine Holds.step (Px := px) (T := TT) (ρ := fun _ => []) TTe (by simp (maxSteps := 100000) (disch := omega) only [go_sem, V.isAgg, V.flat, ↓reduceIte, Nat.reduceAdd, Nat.reduceSub, Nat.reduceLT, Nat.reduceEqDiff, reduceCtorEq, Nat.reduceLeDiff, Nat.reduceBEq, Nat.reduceMul, Int.reduceToNat, intsV, gk, pV]; rfl) (by repeat' first | exact trivial | constructor) ?_
          by_cases hbig : 4096 < yl.length
          · have e : ([yl].any fun l => decide (4096 < l.length)) = true := by simpa using hbig
            rw [e] at hL
            have hB : bigP ps = true := List.any_eq_true.2 ⟨_, hm, by simpa using hbig⟩
            refine Holds.seq ?_
            refine Holds.step (Px := px) (T := TT) (ρ := fun _ => [.v true (.bool true)]) TTe (by simp (maxSteps := 100000) (disch := omega) only [go_sem, V.isAgg, V.flat, ↓reduceIte, Nat.reduceAdd, Nat.reduceSub, Nat.reduceLT, Nat.reduceEqDiff, reduceCtorEq, Nat.reduceLeDiff, Nat.reduceBEq, Nat.reduceMul, Int.reduceToNat, pV]; rfl) (by first | exact hL | (repeat' first | exact trivial | exact hL | constructor)) ?_
            refine Holds.condT rfl ?_
            rw [opR, if_pos hB]
            refine Holds.step (Px := px) (T := TT) (ρ := fun _ => []) TTe (by simp (maxSteps := 100000) (disch := omega) only [go_sem, V.isAgg, V.flat, ↓reduceIte, Nat.reduceAdd, Nat.reduceSub, Nat.reduceLT, Nat.reduceEqDiff, reduceCtorEq, Nat.reduceLeDiff, Nat.reduceBEq, Nat.reduceMul, Int.reduceToNat]; rfl) (by repeat' first | exact trivial | constructor) ?_
            exact Holds.ret ⟨_, [], rfl, ⟨rfl, ⟨rfl, fun h => h⟩, trivial⟩, by simp [R.names, R.mems, R.blks], by simp, rfl⟩
          · have e : ([yl].any fun l => decide (4096 < l.length)) = false := by simpa using hbig
            rw [e] at hL
            refine Holds.seq ?_
            refine Holds.step (Px := px) (T := TT) (ρ := fun _ => [.v true (.bool false)]) TTe (by simp (maxSteps := 100000) (disch := omega) only [go_sem, V.isAgg, V.flat, ↓reduceIte, Nat.reduceAdd, Nat.reduceSub, Nat.reduceLT, Nat.reduceEqDiff, reduceCtorEq, Nat.reduceLeDiff, Nat.reduceBEq, Nat.reduceMul, Int.reduceToNat, pV]; rfl) (by first | exact hL | (repeat' first | exact trivial | exact hL | constructor)) ?_
            refine Holds.condF rfl (Holds.skip ?_)
            show Holds _ _ _ _ _ _ _
            refine Holds.region (Px := px) (T := TT) (ρ := fun _ => [.v true (pV Z)]) TTe (by simp (maxSteps := 100000) (disch := omega) only [go_sem, V.isAgg, V.flat, ↓reduceIte, Nat.reduceAdd, Nat.reduceSub, Nat.reduceLT, Nat.reduceEqDiff, reduceCtorEq, Nat.reduceLeDiff, Nat.reduceBEq, Nat.reduceMul, Int.reduceToNat, pV, htl]; rfl) (by first | exact hO | (repeat' first | exact trivial | exact hO | constructor)) ?_
            refine ⟨by rw [hbs]; simpa using hbig, fun a w h => ?_⟩
            have := Rel.ren (s := 21) (s' := 300) (Rel.keep [9, 8, 7, 4] [21] h) (by decide) rfl rfl
            rw [opB, if_neg (by omega), hts, opA, if_neg (by omega), List.map_append]
            simp only [List.map_cons, List.map_nil]
            rw [← hZ]
            exact this
      · rintro σ ⟨hb2, hσ⟩
        refine Holds.from hσ ?_
        refine Holds.region (Px := px) (T := TT) (ρ := fun _ => []) TTe (by simp (maxSteps := 100000) (disch := omega) only [go_sem, V.isAgg, V.flat, ↓reduceIte, Nat.reduceAdd, Nat.reduceSub, Nat.reduceLT, Nat.reduceEqDiff, reduceCtorEq, Nat.reduceLeDiff, Nat.reduceBEq, Nat.reduceMul, Int.reduceToNat]; rfl) (by repeat' first | exact trivial | constructor) ?_
        exact ⟨k + 1, ⟨by omega, hb2⟩, (show ps.length - (k + 1) < ps.length - k by omega), fun a w hr => Rel.less [9, 8, 7, 4] (fun _ => rfl) hr⟩
  · rintro σ ⟨hB, hσ⟩
    refine Holds.from hσ ?_
    rw [opR, if_neg (by rw [hB]; simp), opA, opB]
    by_cases h0 : ps.length = 0
    · rw [if_pos h0, if_pos h0, List.eq_nil_of_length_eq_zero h0]
      refine Holds.step (Px := px) (T := TT) (ρ := fun _ => []) TTe (by simp (maxSteps := 100000) (disch := omega) only [go_sem, V.isAgg, V.flat, ↓reduceIte, Nat.reduceAdd, Nat.reduceSub, Nat.reduceLT, Nat.reduceEqDiff, reduceCtorEq, Nat.reduceLeDiff, Nat.reduceBEq, Nat.reduceMul, Int.reduceToNat]; rfl) (by repeat' first | exact trivial | constructor) ?_
      exact Holds.ret ⟨_, [], rfl, ⟨rfl, ⟨rfl, fun h => h⟩, trivial⟩, by simp [R.names, R.mems, R.blks], by simp, rfl⟩
    · rw [if_neg h0, if_neg h0, List.take_length]
      refine Holds.step (Px := px) (T := TT) (ρ := fun _ => []) TTe (by simp (maxSteps := 100000) (disch := omega) only [go_sem, V.isAgg, V.flat, ↓reduceIte, Nat.reduceAdd, Nat.reduceSub, Nat.reduceLT, Nat.reduceEqDiff, reduceCtorEq, Nat.reduceLeDiff, Nat.reduceBEq, Nat.reduceMul, Int.reduceToNat]; rfl) (by repeat' first | exact trivial | constructor) ?_
      exact Holds.ret ⟨_, [], rfl, ⟨⟨rfl, by rw [List.drop_zero, List.take_of_length_le (by rw [List.length_map]; exact Nat.le_refl _), List.map_map]; rfl, fun h => h, rfl⟩, ⟨rfl, fun h => h⟩, trivial⟩, by simp [R.names, R.mems, R.blks], by simp, rfl⟩
end Go.Proofs.YtjmclobbfabnpaaGreat.L
