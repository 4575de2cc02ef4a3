/-
  Th Ti
-/
import Derived.Test.YtjmclobbfabnpaaGreatP3
import Derived.Test.YtjmclobbfabnpaaGreatJ1
set_option linter.unusedSimpArgs false
set_option linter.unusedVariables false
/-
  Polynomials of the package: five, all, Five, Value.
-/
namespace Go.Proofs.YtjmclobbfabnpaaGreat.L
open Go Go.RowKit Go.Proofs
attribute [local go_sem] evalOps_nil evalOps_cons runW_t runW_f runE_s runP_s wantA evalOp effOp letters okDst coreA St.opv St.get St.at look constA St.put St.upd St.set decide_true List.all_nil List.all_cons Bool.and_true Bool.true_and and_self and_true true_and if_true if_false true_or Int.sub_zero List.nil_append List.cons_append List.append_nil Option.isSome_some List.getElem?_toArray List.getElem?_cons_succ List.getElem?_cons_zero Option.bind_some Option.map_some Option.map_none beq_self_eq_true Bool.false_beq Bool.true_beq Bool.not_true Bool.not_false Bool.false_eq_true cond_true cond_false binA binI List.map_cons List.map_nil boundA List.length_nil List.length_cons Nat.zero_mul Nat.one_mul Nat.mul_one Nat.zero_add Nat.add_zero Nat.zero_le Option.toList St.freshB AV.ment AV.ments Blk.ment V.sizes Nat.lt_add_one Bool.or_true Bool.true_or Bool.or_false Bool.false_or Bool.or_self if_pos if_neg decide_false decide_eq_true decide_eq_false wrap_i64 Int.toNat_natCast minA maxA Int.natCast_add Int.cast_ofNat_Int Option.isSome_none false_implies true_implies forall_const List.drop_zero Int.toNat_zero Int.add_sub_cancel lenA sliceA loadA indexAddrA partA fitsT V.atP V.offP V.size List.length_map List.getElem?_map Int.toNat_natCast_add_one Int.ofNat_eq_natCast TY calleeA capArg knotA capArgs toArgs toArg callA R.res R.mems R.blks R.av R.names R.nw invokeA storeA storeV fieldAddrA liveB V.off V.offs V.setP List.set_cons_zero List.set_cons_succ buildA buildP partsA appendA srcA copyA boxOk makeA AV.pure List.take_succ_cons List.take_zero nilA words entry List.zipIdx_cons List.zipIdx_nil Arg.av Arg.avs

theorem horn_bd {t : Int} {U : Nat} (ht : t.natAbs ≤ 10) : ∀ {l : List Int}, (∀ z ∈ l, z.natAbs ≤ U) → (hornZ t l).natAbs ≤ U * 11 ^ l.length
  | [], _ => Nat.zero_le _
  | z :: r, h => by
    have ih := horn_bd (l := r) ht fun y hy => h y (by simp [hy])
    have hz := h z (by simp)
    rw [hornZ, List.length_cons, Nat.pow_succ, ← Nat.mul_assoc]
    have h1 : (hornZ t r * t).natAbs ≤ U * 11 ^ r.length * 10 := by rw [Int.natAbs_mul]; exact Nat.mul_le_mul ih ht
    have h2 : U * 1 ≤ U * 11 ^ r.length := Nat.mul_le_mul_left _ (Nat.pow_pos (by decide))
    omega
theorem horn_lt {t : Int} {M : Nat} {l : List Int} (ht : t.natAbs ≤ 10) (hl : l.length ≤ 8) (h : ∀ z ∈ l, z.natAbs < 18446744073709551616 ^ M) : ∀ j, j ≤ l.length → (hornZ t (l.drop j)).natAbs < 18446744073709551616 ^ (M + 1) := fun j _ => by
  have hp : 0 < 18446744073709551616 ^ M := Nat.pow_pos (by decide)
  have h1 := horn_bd (U := 18446744073709551616 ^ M - 1) ht (l := l.drop j) fun z hz => by have := h z (List.mem_of_mem_drop hz); omega
  have h2 : 11 ^ (l.drop j).length ≤ 11 ^ 8 := Nat.pow_le_pow_right (by decide) (by rw [List.length_drop]; omega)
  have h3 : (18446744073709551616 ^ M - 1) * 11 ^ (l.drop j).length ≤ (18446744073709551616 ^ M - 1) * 11 ^ 8 := Nat.mul_le_mul_left _ h2
  rw [Nat.pow_succ]
  omega
theorem lt_up {n M : Nat} (h : n < 18446744073709551616 ^ M) : n < 18446744073709551616 ^ (M + 1) := Nat.lt_of_lt_of_le h (Nat.pow_le_pow_right (by decide) (by omega))

theorem value_use (zs : List Int) (t : Int) (M : Nat) (hM : M < 80000) (ht : t.natAbs ≤ 10) (hn : zs.length ≤ 8) (hz : ∀ z ∈ zs, z.natAbs < 18446744073709551616 ^ M) :
    FnOk Tryz.prog 73 [.v (wholesV zs), .v (.int .i64 t)] [.v true (pV (zp (hornZ t zs)))] :=
  value_ok zs t (M + 1) (by omega) (by omega) (by omega) (fun z h => lt_up (hz z h)) (horn_lt ht hn hz)

theorem horn_pad (t : Int) (n : Nat) : ∀ zs, hornZ t (zs ++ List.replicate n 0) = hornZ t zs
  | [] => by
    rw [List.nil_append]
    induction n with
    | zero => rfl
    | succ n ih =>
      show hornZ t (List.replicate n 0) * t + 0 = 0
      rw [ih]
      show 0 * t + 0 = 0
      simp
  | z :: r => by rw [List.cons_append, hornZ, hornZ, horn_pad t n r]
def fiveZ (zs : List Int) : List Int := [zs.getD 0 0, hornZ 1 zs, hornZ (-1) zs, hornZ 2 zs, zs.getD 4 0]
def arrV (zs : List Int) : V := .agg (zs.map fun z => pV (zp z))

theorem pV_size (p : Bool × List Int) : (pV p).size = 2 := rfl
theorem pV_agg (p : Bool × List Int) : (pV p).isAgg = true := rfl

set_option maxRecDepth 100000 in
theorem five_ok (zs : List Int) (M : Nat) (hM : M < 80000) (hn : zs.length ≤ 5) (hz : ∀ z ∈ zs, z.natAbs < 18446744073709551616 ^ M) :
    FnOk Tryz.prog 47 [.v (wholesV zs)] [.v false (arrV (fiveZ zs))] := by
  have hp : 0 < 18446744073709551616 ^ M := Nat.pow_pos (by decide)
  obtain ⟨P, hP⟩ : ∃ P, P = zs ++ List.replicate (5 - zs.length) 0 := ⟨_, rfl⟩
  have hPl : P.length = 5 := by rw [hP, List.length_append, List.length_replicate]; omega
  have hPz : ∀ z ∈ P, z.natAbs < 18446744073709551616 ^ M := fun z h => by
    rw [hP] at h
    rcases List.mem_append.1 h with h | h
    · exact hz z h
    · rw [(List.mem_replicate.1 h).2]; exact hp
  have h1 := value_use P 1 M hM (by decide) (by omega) hPz
  have h2 := value_use P (-1) M hM (by decide) (by omega) hPz
  have h3 := value_use P 2 M hM (by decide) (by omega) hPz
  have e : ∀ t, hornZ t P = hornZ t zs := fun t => by rw [hP]; exact horn_pad t _ zs
  rw [e] at h1 h2 h3
  have hg : ∀ i, P.getD i 0 = zs.getD i 0 := fun i => by
    rw [hP, List.getD_eq_getElem?_getD, List.getD_eq_getElem?_getD]
    by_cases h : i < zs.length
    · rw [List.getElem?_append_left h]
    · rw [List.getElem?_append_right (by omega), List.getElem?_eq_none (l := zs) (by omega), List.getElem?_replicate]
      split <;> rfl
  have hm : min zs.length 5 = zs.length := by omega
  have htk : List.take zs.length (List.map (fun z => pV (zp z)) zs) = List.map (fun z => pV (zp z)) zs := List.take_of_length_le (by rw [List.length_map]; exact Nat.le_refl _)
  have hcp : List.map (fun z => pV (zp z)) zs ++ List.drop zs.length (List.replicate 5 (V.agg [.bool false, .sl 1 []])) = P.map fun z => pV (zp z) := by
    rw [hP, List.map_append, List.map_replicate, show V.agg [.bool false, .sl 1 []] = pV (zp 0) from rfl, List.drop_replicate]
  rw [fiveZ, ← hg 0, ← hg 4]
  obtain ⟨a, b, c, d, f, rfl⟩ : ∃ a b c d f, P = [a, b, c, d, f] := by
    match P, hPl with
    | [a, b, c, d, f], _ => exact ⟨a, b, c, d, f, rfl⟩
  rw [show wholesV [a, b, c, d, f] = .sl 2 [pV (zp a), pV (zp b), pV (zp c), pV (zp d), pV (zp f)] from rfl] at h1 h2 h3
  rw [show [a, b, c, d, f].map (fun z => pV (zp z)) = [pV (zp a), pV (zp b), pV (zp c), pV (zp d), pV (zp f)] from rfl] at hcp
  show FnOk Tryz.prog 47 [.v (wholesV zs)] [.v false (.agg [pV (zp a), pV (zp (hornZ 1 zs)), pV (zp (hornZ (-1) zs)), pV (zp (hornZ 2 zs)), pV (zp f)])]
  refine FnOk.of Tryz.func47 rfl rfl fun cx w0 => ?_
  rw [show Tryz.f47.ntmps = 21 from rfl]
  refine Holds.step (Px := px) (T := TT) (ρ := fun _ => []) TTe (by simp (maxSteps := 100000) (disch := omega) only [go_sem, V.isAgg, V.flat, ↓reduceIte, Nat.reduceAdd, Nat.reduceSub, Nat.reduceLT, Nat.reduceEqDiff, reduceCtorEq, Nat.reduceLeDiff, Nat.reduceBEq, Nat.reduceMul, Int.reduceToNat, List.length_cons, List.length_nil]; rfl) (by repeat' first | exact trivial | constructor) ?_
  refine Holds.step (Px := px) (T := TT) (ρ := fun _ => []) TTe (by simp (maxSteps := 100000) (disch := omega) only [go_sem, V.isAgg, V.flat, ↓reduceIte, Nat.reduceAdd, Nat.reduceSub, Nat.reduceLT, Nat.reduceEqDiff, reduceCtorEq, Nat.reduceLeDiff, Nat.reduceBEq, Nat.reduceMul, Int.reduceToNat]; rfl) (by repeat' first | exact trivial | constructor) ?_
  refine Holds.step (Px := px) (T := TT) (ρ := fun _ => []) TTe (by simp (maxSteps := 100000) (disch := omega) only [go_sem, V.isAgg, V.flat, ↓reduceIte, Nat.reduceAdd, Nat.reduceSub, Nat.reduceLT, Nat.reduceEqDiff, reduceCtorEq, Nat.reduceLeDiff, Nat.reduceBEq, Nat.reduceMul, Int.reduceToNat, wholesV, hm, htk, hcp]; rfl) (by repeat' first | exact trivial | constructor) ?_
  refine Holds.from (σ' := { nt := 21, env := [(3, .own 4 0 5), (2, .ptr 2 0 [] 0)], mem := [(4, .buf 43 2 false [pV (zp a), pV (zp b), pV (zp c), pV (zp d), pV (zp f)]), (2, .box 44 (.v false (.agg [.agg [.bool false, .sl 1 []], .agg [.bool false, .sl 1 []], .agg [.bool false, .sl 1 []], .agg [.bool false, .sl 1 []], .agg [.bool false, .sl 1 []]])))] }) (fun x w h => Rel.dim (Rel.keep [3, 2] [4, 2] h)) ?_
  refine Holds.dstep (Px := px) (T := TT) (ρ := fun d => if d = 12 then [.v true (pV (zp (hornZ 1 zs)))] else if d = 14 then [.v true (pV (zp (hornZ (-1) zs)))] else [.v true (pV (zp (hornZ 2 zs)))]) [] mixed (by kernel_rfl) TTe (by simp (maxSteps := 100000) (disch := omega) only [go_sem, V.isAgg, V.flat, ↓reduceIte, Nat.reduceAdd, Nat.reduceSub, Nat.reduceLT, Nat.reduceEqDiff, reduceCtorEq, Nat.reduceLeDiff, Nat.reduceBEq, Nat.reduceMul, Int.reduceToNat, pV_size, pV_agg]; rfl) (by first | exact ⟨h1, h2, h3⟩ | (repeat' first | exact trivial | exact h1 | exact h2 | exact h3 | constructor)) (by rfl) (by rfl) (by rfl) ?_
  exact Holds.ret (RetOk.vs (show resAVs Tryz.prog _ _ [ResultVar.cell 2 44] = _ from by simp (maxSteps := 100000) (disch := omega) only [resAVs, AV.isPtr, go_sem, V.isAgg, V.flat, ↓reduceIte, Nat.reduceAdd, Nat.reduceSub, Nat.reduceLT, Nat.reduceEqDiff, reduceCtorEq, Nat.reduceLeDiff, Nat.reduceBEq, Nat.reduceMul, Int.reduceToNat, pV_size, pV_agg]; rfl) (by exact ⟨⟨rfl, fun h => by cases h⟩, trivial⟩) rfl)

theorem outV_get {A : List V} {z : V} {n k : Nat} (hA : A.length = n) (hk : k < n) : (A.take k ++ List.replicate (n - k) z)[k]? = some z := by
  rw [List.getElem?_append_right (by rw [List.length_take]; omega), List.length_take, Nat.min_eq_left (by omega), Nat.sub_self, List.getElem?_replicate, if_pos (by omega)]
theorem outV_set {A : List V} {z x : V} {n k : Nat} (hA : A.length = n) (hk : k < n) (hx : A[k]? = some x) : (A.take k ++ List.replicate (n - k) z).set k x = A.take (k + 1) ++ List.replicate (n - (k + 1)) z := by
  rw [List.set_append_right _ _ (by rw [List.length_take]; omega), List.length_take, Nat.min_eq_left (by omega), Nat.sub_self, show n - k = n - (k + 1) + 1 from by omega, List.replicate_succ, List.set_cons_zero, List.take_add_one, hx, List.append_assoc]
  rfl
theorem outV_off {A : List V} {z : V} {n k j : Nat} (hA : A.length = n) (hk : k ≤ n) (hz : z.size = 2) (hs : ∀ x ∈ A, x.size = 2) (hj : j ≤ n) : V.off (A.take k ++ List.replicate (n - k) z) j = j * 2 :=
  off_all (fun x hx => by
    rcases List.mem_append.1 hx with h | h
    · exact hs x (List.mem_of_mem_take h)
    · rw [(List.mem_replicate.1 h).2]; exact hz) (by rw [List.length_append, List.length_take, List.length_replicate]; omega)

theorem all_ok (A : List V) (hA : A.length = 5) (hs : ∀ x ∈ A, x.size = 2 ∧ x.isAgg = true ∧ FnOk Tryz.prog 36 [.v x] [.v false x, .v true (.int .i64 0)]) :
    FnOk Tryz.prog 13 [.v (.agg A)] [.v false (.agg A), .v true (.int .i64 0)] := by
  obtain ⟨Z, hZ⟩ : ∃ Z, Z = V.agg [.bool false, .sl 1 []] := ⟨_, rfl⟩
  have Zs : Z.size = 2 := by rw [hZ]; rfl
  have sA : V.sizes A = 10 := by
    obtain ⟨a, b, c, d, f, rfl⟩ : ∃ a b c d f, A = [a, b, c, d, f] := by
      match A, hA with
      | [a, b, c, d, f], _ => exact ⟨a, b, c, d, f, rfl⟩
    simp only [V.sizes, (hs a (by simp)).1, (hs b (by simp)).1, (hs c (by simp)).1, (hs d (by simp)).1, (hs f (by simp)).1]
  have oA : ∀ j, j ≤ 5 → V.off A j = j * 2 := fun j hj => off_all (fun x hx => (hs x hx).1) (by omega)
  refine FnOk.of Tryz.func13 rfl rfl fun cx w0 => ?_
  rw [show Tryz.f13.ntmps = 28 from rfl]
  refine Holds.step (Px := px) (T := TT) (ρ := fun _ => []) TTe (by simp (maxSteps := 100000) (disch := omega) only [go_sem, V.isAgg, V.flat, ↓reduceIte, Nat.reduceAdd, Nat.reduceSub, Nat.reduceLT, Nat.reduceEqDiff, reduceCtorEq, Nat.reduceLeDiff, Nat.reduceBEq, Nat.reduceMul, Int.reduceToNat, List.length_cons, List.length_nil]; rfl) (by repeat' first | exact trivial | constructor) ?_
  refine Holds.step (Px := px) (T := TT) (ρ := fun _ => []) TTe (by simp (maxSteps := 100000) (disch := omega) only [go_sem, V.isAgg, V.flat, ↓reduceIte, Nat.reduceAdd, Nat.reduceSub, Nat.reduceLT, Nat.reduceEqDiff, reduceCtorEq, Nat.reduceLeDiff, Nat.reduceBEq, Nat.reduceMul, Int.reduceToNat]; rfl) (by repeat' first | exact trivial | constructor) ?_
  refine Holds.next (fun σ => ∀ a w, Rel cx w0 σ a w → Rel cx w0 { nt := 28, env := [(4, .ptr 4 0 [] 0), (2, .ptr 2 0 [] 0)], mem := [(4, .box 27 (.v false (.agg A))), (2, .box 27 (.v false (.agg [Z, Z, Z, Z, Z])))] } a w) ?_ ?_
  · refine Holds.step (Px := px) (T := TT) (ρ := fun _ => []) TTe (by simp (maxSteps := 100000) (disch := omega) only [go_sem, V.isAgg, V.flat, ↓reduceIte, Nat.reduceAdd, Nat.reduceSub, Nat.reduceLT, Nat.reduceEqDiff, reduceCtorEq, Nat.reduceLeDiff, Nat.reduceBEq, Nat.reduceMul, Int.reduceToNat, sA]; rfl) (by repeat' first | exact trivial | constructor) ?_
    refine Holds.loopB (fun k : Nat => { nt := 28, env := [(10, .v false (.int .i64 k)), (9, .v false (.agg A)), (4, .ptr 4 0 [] 0), (2, .ptr 2 0 [] 0)], mem := [(4, .box 27 (.v false (.agg (A.take k ++ List.replicate (5 - k) Z)))), (2, .box 27 (.v false (.agg [Z, Z, Z, Z, Z])))] }) (fun k => k ≤ 5) (fun k => 5 - k) 0 (Nat.zero_le _) (fun a w h => by
      rw [hZ]
      exact Rel.dim (Rel.keep [10, 9, 4, 2] [4, 2] h)) ?_
    intro k hk
    by_cases hend : k = 5
    · refine Holds.step (Px := px) (T := TT) (ρ := fun _ => []) TTe (by simp (maxSteps := 100000) (disch := omega) only [go_sem, V.isAgg, V.flat, ↓reduceIte, Nat.reduceAdd, Nat.reduceSub, Nat.reduceLT, Nat.reduceEqDiff, reduceCtorEq, Nat.reduceLeDiff, Nat.reduceBEq, Nat.reduceMul, Int.reduceToNat]; rfl) (by repeat' first | exact trivial | constructor) ?_
      refine Holds.seq ?_
      refine Holds.condF rfl (Holds.exit ⟨rfl, fun a w h => ?_⟩)
      have := Rel.keep [4, 2] [4, 2] h
      rw [hend, Nat.sub_self, List.replicate_zero, List.append_nil, List.take_of_length_le (by omega)] at this
      exact this
    · have hk5 : k < 5 := by omega
      obtain ⟨x, hx⟩ : ∃ x, A[k]? = some x := ⟨_, List.getElem?_eq_getElem (by omega)⟩
      obtain ⟨s1, s2, hT⟩ := hs x (List.mem_of_getElem? hx)
      have ok := oA k (by omega)
      have g1 := outV_get (z := Z) hA hk5
      have g2 := outV_set (z := Z) hA hk5 hx
      have g3 := outV_off (z := Z) (k := k) (j := k) hA (by omega) Zs (fun x hx => (hs x hx).1) (by omega)
      obtain ⟨Y, hY⟩ : ∃ Y, Y = A.take k ++ List.replicate (5 - k) Z := ⟨_, rfl⟩
      rw [← hY] at g1 g2 g3 ⊢
      refine Holds.step (Px := px) (T := TT) (ρ := fun _ => []) TTe (by simp (maxSteps := 100000) (disch := omega) only [go_sem, V.isAgg, V.flat, ↓reduceIte, Nat.reduceAdd, Nat.reduceSub, Nat.reduceLT, Nat.reduceEqDiff, reduceCtorEq, Nat.reduceLeDiff, Nat.reduceBEq, Nat.reduceMul, Int.reduceToNat]; rfl) (by repeat' first | exact trivial | constructor) ?_
      refine Holds.seq ?_
      refine Holds.condT rfl (Holds.skip ?_)
      refine Holds.next (fun σ => ∀ a w, Rel cx w0 σ a w → Rel cx w0 { nt := 28, env := [(10, .v false (.int .i64 k)), (9, .v false (.agg A)), (4, .ptr 4 0 [] 0), (2, .ptr 2 0 [] 0)], mem := [(4, .box 27 (.v false (.agg (Y.set k x)))), (2, .box 27 (.v false (.agg [Z, Z, Z, Z, Z])))] } a w) ?_ ?_
      · refine Holds.blockN ?_
        refine Holds.step (Px := px) (T := TT) (ρ := fun _ => []) TTe (by simp (maxSteps := 100000) (disch := omega) only [go_sem, V.isAgg, V.flat, ↓reduceIte, Nat.reduceAdd, Nat.reduceSub, Nat.reduceLT, Nat.reduceEqDiff, reduceCtorEq, Nat.reduceLeDiff, Nat.reduceBEq, Nat.reduceMul, Int.reduceToNat, -V.isAgg, -V.flat, isAgg_agg, isAgg_int, isAgg_bool, isAgg_sl, flat_agg, flat_int, flat_bool, flat_sl, hx, ok, s1, s2, indexA]; rfl) (by repeat' first | exact trivial | constructor) ?_
        refine Holds.step (Px := px) (T := TT) (ρ := fun _ => [.v false x, .v true (.int .i64 0)]) TTe (by simp (maxSteps := 100000) (disch := omega) only [go_sem, V.isAgg, V.flat, ↓reduceIte, Nat.reduceAdd, Nat.reduceSub, Nat.reduceLT, Nat.reduceEqDiff, reduceCtorEq, Nat.reduceLeDiff, Nat.reduceBEq, Nat.reduceMul, Int.reduceToNat, -V.isAgg, -V.flat, isAgg_agg, isAgg_int, isAgg_bool, isAgg_sl, flat_agg, flat_int, flat_bool, flat_sl, s1, s2]; rfl) (by first | exact hT | (repeat' first | exact trivial | exact hT | constructor)) ?_
        refine Holds.seq ?_
        refine Holds.step (Px := px) (T := TT) (ρ := fun _ => []) TTe (by simp (maxSteps := 100000) (disch := omega) only [go_sem, V.isAgg, V.flat, ↓reduceIte, Nat.reduceAdd, Nat.reduceSub, Nat.reduceLT, Nat.reduceEqDiff, reduceCtorEq, Nat.reduceLeDiff, Nat.reduceBEq, Nat.reduceMul, Int.reduceToNat]; rfl) (by repeat' first | exact trivial | constructor) ?_
        refine Holds.condF rfl (Holds.skip ?_)
        show Holds _ _ _ _ _ _ _
        refine Holds.region (Px := px) (T := TT) (ρ := fun _ => []) TTe (by simp (maxSteps := 100000) (disch := omega) only [go_sem, V.isAgg, V.flat, ↓reduceIte, Nat.reduceAdd, Nat.reduceSub, Nat.reduceLT, Nat.reduceEqDiff, reduceCtorEq, Nat.reduceLeDiff, Nat.reduceBEq, Nat.reduceMul, Int.reduceToNat, -V.isAgg, -V.flat, isAgg_agg, isAgg_int, isAgg_bool, isAgg_sl, flat_agg, flat_int, flat_bool, flat_sl, s1, s2, g1, g3, Zs]; rfl) (by repeat' first | exact trivial | constructor) ?_
        exact fun a w h => Rel.dim (Rel.keep [10, 9, 4, 2] [4, 2] h)
      · intro σ hσ
        refine Holds.from hσ ?_
        refine Holds.region (Px := px) (T := TT) (ρ := fun _ => []) TTe (by simp (maxSteps := 100000) (disch := omega) only [go_sem, V.isAgg, V.flat, ↓reduceIte, Nat.reduceAdd, Nat.reduceSub, Nat.reduceLT, Nat.reduceEqDiff, reduceCtorEq, Nat.reduceLeDiff, Nat.reduceBEq, Nat.reduceMul, Int.reduceToNat]; rfl) (by repeat' first | exact trivial | constructor) ?_
        refine ⟨k + 1, (by show k + 1 ≤ 5; omega), (show 5 - (k + 1) < 5 - k by omega), fun a w h => ?_⟩
        have := Rel.dim (Rel.keep [10, 9, 4, 2] [4, 2] h)
        rw [g2] at this
        exact this
  · intro σ hσ
    refine Holds.from hσ ?_
    refine Holds.step (Px := px) (T := TT) (ρ := fun _ => []) TTe (by simp (maxSteps := 100000) (disch := omega) only [go_sem, V.isAgg, V.flat, ↓reduceIte, Nat.reduceAdd, Nat.reduceSub, Nat.reduceLT, Nat.reduceEqDiff, reduceCtorEq, Nat.reduceLeDiff, Nat.reduceBEq, Nat.reduceMul, Int.reduceToNat, sA, Zs]; rfl) (by repeat' first | exact trivial | constructor) ?_
    exact Holds.ret (RetOk.vs (show resAVs Tryz.prog _ _ [ResultVar.cell 2 27, ResultVar.tmp 3] = _ from by simp (maxSteps := 100000) (disch := omega) only [resAVs, AV.isPtr, go_sem, V.isAgg, V.flat, ↓reduceIte, Nat.reduceAdd, Nat.reduceSub, Nat.reduceLT, Nat.reduceEqDiff, reduceCtorEq, Nat.reduceLeDiff, Nat.reduceBEq, Nat.reduceMul, Int.reduceToNat, sA]; rfl) (by exact ⟨⟨rfl, fun h => by cases h⟩, ⟨rfl, fun h => h⟩, trivial⟩) rfl)
/-
  Polynomials: Value, Five, lists of whole numbers, and the reference's five values.
-/

theorem bigP_of {ps : List (Bool × List Int)} (h : ∀ p ∈ ps, p.2.length ≤ 4096) : bigP ps = false := by
  rw [bigP, List.any_eq_false]
  intro p hp
  have := h p hp
  simp; omega
theorem ival_lt {p : Bool × List Int} {M : Nat} (h : p.2.length ≤ M) (o : okW p.2) : (ival p).natAbs < 18446744073709551616 ^ M := by
  have h1 := val_lt o
  have h2 : 18446744073709551616 ^ p.2.length ≤ 18446744073709551616 ^ M := Nat.pow_le_pow_right (by decide) h
  unfold ival
  split <;> omega
theorem ivals_lt {ps : List (Bool × List Int)} {M : Nat} (h : ∀ p ∈ ps, p.2.length ≤ M ∧ okW p.2) : ∀ z ∈ ps.map ival, z.natAbs < 18446744073709551616 ^ M := fun z hz => by
  obtain ⟨p, hp, rfl⟩ := List.mem_map.1 hz
  exact ival_lt (h p hp).1 (h p hp).2

theorem five_lt {zs : List Int} {M : Nat} (hn : zs.length ≤ 5) (hz : ∀ z ∈ zs, z.natAbs < 18446744073709551616 ^ M) : ∀ z ∈ fiveZ zs, z.natAbs < 18446744073709551616 ^ (M + 1) := by
  have hp : 0 < 18446744073709551616 ^ M := Nat.pow_pos (by decide)
  have hg : ∀ i, (zs.getD i 0).natAbs < 18446744073709551616 ^ M := fun i => by
    rw [List.getD_eq_getElem?_getD]
    cases h : zs[i]? with
    | none => exact hp
    | some z => exact hz z (List.mem_of_getElem? h)
  have hh : ∀ t : Int, t.natAbs ≤ 10 → (hornZ t zs).natAbs < 18446744073709551616 ^ (M + 1) := fun t ht => by
    have := horn_lt ht (by omega) hz 0 (Nat.zero_le _)
    rw [List.drop_zero] at this
    exact this
  intro z h
  simp only [fiveZ, List.mem_cons, List.not_mem_nil, or_false] at h
  rcases h with rfl | rfl | rfl | rfl | rfl
  · exact lt_up (hg _)
  · exact hh _ (by decide)
  · exact hh _ (by decide)
  · exact hh _ (by decide)
  · exact lt_up (hg _)

theorem arr_told (zs : List Int) (hl : zs.length = 5) (M : Nat) (hM : M ≤ 4096) (hz : ∀ z ∈ zs, z.natAbs < 18446744073709551616 ^ M) : FnOk Tryz.prog 13 [.v (arrV zs)] [.v false (arrV zs), .v true (.int .i64 0)] :=
  all_ok _ (by rw [List.length_map]; exact hl) fun x hx => by
    obtain ⟨z, hz', rfl⟩ := List.mem_map.1 hx
    exact ⟨rfl, rfl, told_ok z M hM (hz z hz')⟩

theorem Five_ok (ps : List (Bool × List Int)) (hn : ps.length ≤ 5) (hps : ∀ p ∈ ps, p.2.length ≤ 8 ∧ okW p.2) :
    FnOk Tryz.prog 23 [.v (intsV ps)] [.v false (arrV (fiveZ (ps.map ival))), .v true (.int .i64 0)] := by
  have hO := opened_ok ps (by omega) (fun p hp => ⟨by have := (hps p hp).1; omega, (hps p hp).2⟩)
  rw [opR, if_neg (by rw [bigP_of fun p hp => by have := (hps p hp).1; omega]; simp)] at hO
  simp only at hO
  have hz := ivals_lt hps
  have hl : (ps.map ival).length ≤ 5 := by rw [List.length_map]; exact hn
  have hF := five_ok (ps.map ival) 8 (by decide) hl hz
  have hA := arr_told (fiveZ (ps.map ival)) rfl 9 (by decide) (five_lt hl hz)
  obtain ⟨zs, hzs⟩ : ∃ zs, zs = ps.map ival := ⟨_, rfl⟩
  rw [← hzs] at hO hF hA ⊢
  obtain ⟨F, hFF⟩ : ∃ F, F = arrV (fiveZ zs) := ⟨_, rfl⟩
  have sF : F.size = 10 := by rw [hFF]; rfl
  have gF : F.isAgg = true := by rw [hFF]; rfl
  rw [← hFF] at hF hA ⊢
  refine FnOk.of Tryz.func23 rfl rfl fun cx w0 => ?_
  rw [show Tryz.f23.ntmps = 23 from rfl]
  refine Holds.step (Px := px) (T := TT) (ρ := fun _ => []) TTe (by simp (maxSteps := 100000) (disch := omega) only [go_sem, V.isAgg, V.flat, ↓reduceIte, Nat.reduceAdd, Nat.reduceSub, Nat.reduceLT, Nat.reduceEqDiff, reduceCtorEq, Nat.reduceLeDiff, Nat.reduceBEq, Nat.reduceMul, Int.reduceToNat, List.length_cons, List.length_nil]; rfl) (by repeat' first | exact trivial | constructor) ?_
  refine Holds.step (Px := px) (T := TT) (ρ := fun _ => [.v true (wholesV zs), .v true (.bool true)]) TTe (by simp (maxSteps := 100000) (disch := omega) only [go_sem, V.isAgg, V.flat, ↓reduceIte, Nat.reduceAdd, Nat.reduceSub, Nat.reduceLT, Nat.reduceEqDiff, reduceCtorEq, Nat.reduceLeDiff, Nat.reduceBEq, Nat.reduceMul, Int.reduceToNat]; rfl) (by first | exact hO | (repeat' first | exact trivial | exact hO | constructor)) ?_
  refine Holds.next (fun σ => ∀ a w, Rel cx w0 σ a w → Rel cx w0 { nt := 23, env := [(4, .v true (wholesV zs)), (0, .v false (intsV ps)), (2, .ptr 2 0 [] 0)], mem := [(2, .box 27 (.v true (.agg [.agg [.bool false, .sl 1 []], .agg [.bool false, .sl 1 []], .agg [.bool false, .sl 1 []], .agg [.bool false, .sl 1 []], .agg [.bool false, .sl 1 []]])))] } a w) ?_ ?_
  · refine Holds.step (Px := px) (T := TT) (ρ := fun _ => []) TTe (by simp (maxSteps := 100000) (disch := omega) only [go_sem, V.isAgg, V.flat, ↓reduceIte, Nat.reduceAdd, Nat.reduceSub, Nat.reduceLT, Nat.reduceEqDiff, reduceCtorEq, Nat.reduceLeDiff, Nat.reduceBEq, Nat.reduceMul, Int.reduceToNat, unA]; rfl) (by repeat' first | exact trivial | constructor) ?_
    exact Holds.condF rfl (Holds.skip fun a w h => Rel.keep [4, 0, 2] [2] h)
  · intro σ hσ
    refine Holds.from hσ ?_
    refine Holds.next (fun σ => ∀ a w, Rel cx w0 σ a w → Rel cx w0 { nt := 23, env := [(4, .v true (wholesV zs)), (0, .v false (intsV ps)), (2, .ptr 2 0 [] 0)], mem := [(2, .box 27 (.v true (.agg [.agg [.bool false, .sl 1 []], .agg [.bool false, .sl 1 []], .agg [.bool false, .sl 1 []], .agg [.bool false, .sl 1 []], .agg [.bool false, .sl 1 []]])))] } a w) ?_ ?_
    · refine Holds.step (Px := px) (T := TT) (ρ := fun _ => []) TTe (by simp (maxSteps := 100000) (disch := omega) only [go_sem, V.isAgg, V.flat, ↓reduceIte, Nat.reduceAdd, Nat.reduceSub, Nat.reduceLT, Nat.reduceEqDiff, reduceCtorEq, Nat.reduceLeDiff, Nat.reduceBEq, Nat.reduceMul, Int.reduceToNat, intsV]; rfl) (by repeat' first | exact trivial | constructor) ?_
      exact Holds.condF rfl (Holds.skip fun a w h => Rel.keep [4, 0, 2] [2] h)
    · intro σ hσ
      refine Holds.from hσ ?_
      refine Holds.step (Px := px) (T := TT) (ρ := fun d => if d = 19 then [.v false F] else [.v false F, .v true (.int .i64 0)]) TTe (by simp (maxSteps := 100000) (disch := omega) only [go_sem, V.isAgg, V.flat, ↓reduceIte, Nat.reduceAdd, Nat.reduceSub, Nat.reduceLT, Nat.reduceEqDiff, reduceCtorEq, Nat.reduceLeDiff, Nat.reduceBEq, Nat.reduceMul, Int.reduceToNat, -V.isAgg, -V.flat, isAgg_agg, isAgg_int, isAgg_bool, isAgg_sl, flat_agg, flat_int, flat_bool, flat_sl, sF, gF]; rfl) (by first | exact ⟨hF, hA⟩ | (repeat' first | exact trivial | exact hF | exact hA | constructor)) ?_
      exact Holds.ret (RetOk.vs (show resAVs Tryz.prog _ _ [ResultVar.cell 2 27, ResultVar.tmp 3] = _ from by simp (maxSteps := 100000) (disch := omega) only [resAVs, AV.isPtr, go_sem, V.isAgg, V.flat, ↓reduceIte, Nat.reduceAdd, Nat.reduceSub, Nat.reduceLT, Nat.reduceEqDiff, reduceCtorEq, Nat.reduceLeDiff, Nat.reduceBEq, Nat.reduceMul, Int.reduceToNat, -V.isAgg, -V.flat, isAgg_agg, isAgg_int, isAgg_bool, isAgg_sl, flat_agg, flat_int, flat_bool, flat_sl, sF, gF]; rfl) (by exact ⟨⟨rfl, fun h => by cases h⟩, ⟨rfl, fun h => h⟩, trivial⟩) rfl)

theorem Five_arg (ps : List (Bool × List Int)) (hn : ps.length < 1000000) (hps : ∀ p ∈ ps, p.2.length ≤ 4096 ∧ okW p.2) (h : 5 < ps.length) :
    FnOk Tryz.prog 23 [.v (intsV ps)] [.v false (arrV [0, 0, 0, 0, 0]), .v true (.int .i64 1)] := by
  have hO := opened_ok ps (by omega) (fun p hp => ⟨by have := (hps p hp).1; omega, (hps p hp).2⟩)
  rw [opR, if_neg (by rw [bigP_of fun p hp => (hps p hp).1]; simp)] at hO
  simp only at hO
  obtain ⟨zs, hzs⟩ : ∃ zs, zs = ps.map ival := ⟨_, rfl⟩
  rw [← hzs] at hO
  show FnOk Tryz.prog 23 _ [.v false (.agg [.agg [.bool false, .sl 1 []], .agg [.bool false, .sl 1 []], .agg [.bool false, .sl 1 []], .agg [.bool false, .sl 1 []], .agg [.bool false, .sl 1 []]]), .v true (.int .i64 1)]
  refine FnOk.of Tryz.func23 rfl rfl fun cx w0 => ?_
  rw [show Tryz.f23.ntmps = 23 from rfl]
  refine Holds.step (Px := px) (T := TT) (ρ := fun _ => []) TTe (by simp (maxSteps := 100000) (disch := omega) only [go_sem, V.isAgg, V.flat, ↓reduceIte, Nat.reduceAdd, Nat.reduceSub, Nat.reduceLT, Nat.reduceEqDiff, reduceCtorEq, Nat.reduceLeDiff, Nat.reduceBEq, Nat.reduceMul, Int.reduceToNat, List.length_cons, List.length_nil]; rfl) (by repeat' first | exact trivial | constructor) ?_
  refine Holds.step (Px := px) (T := TT) (ρ := fun _ => [.v true (wholesV zs), .v true (.bool true)]) TTe (by simp (maxSteps := 100000) (disch := omega) only [go_sem, V.isAgg, V.flat, ↓reduceIte, Nat.reduceAdd, Nat.reduceSub, Nat.reduceLT, Nat.reduceEqDiff, reduceCtorEq, Nat.reduceLeDiff, Nat.reduceBEq, Nat.reduceMul, Int.reduceToNat]; rfl) (by first | exact hO | (repeat' first | exact trivial | exact hO | constructor)) ?_
  refine Holds.next (fun σ => ∀ a w, Rel cx w0 σ a w → Rel cx w0 { nt := 23, env := [(0, .v false (intsV ps)), (2, .ptr 2 0 [] 0)], mem := [(2, .box 27 (.v true (.agg [.agg [.bool false, .sl 1 []], .agg [.bool false, .sl 1 []], .agg [.bool false, .sl 1 []], .agg [.bool false, .sl 1 []], .agg [.bool false, .sl 1 []]])))] } a w) ?_ ?_
  · refine Holds.step (Px := px) (T := TT) (ρ := fun _ => []) TTe (by simp (maxSteps := 100000) (disch := omega) only [go_sem, V.isAgg, V.flat, ↓reduceIte, Nat.reduceAdd, Nat.reduceSub, Nat.reduceLT, Nat.reduceEqDiff, reduceCtorEq, Nat.reduceLeDiff, Nat.reduceBEq, Nat.reduceMul, Int.reduceToNat, unA]; rfl) (by repeat' first | exact trivial | constructor) ?_
    exact Holds.condF rfl (Holds.skip fun a w h => Rel.keep [0, 2] [2] h)
  · intro σ hσ
    refine Holds.from hσ ?_
    refine Holds.seq ?_
    refine Holds.step (Px := px) (T := TT) (ρ := fun _ => []) TTe (by simp (maxSteps := 100000) (disch := omega) only [go_sem, V.isAgg, V.flat, ↓reduceIte, Nat.reduceAdd, Nat.reduceSub, Nat.reduceLT, Nat.reduceEqDiff, reduceCtorEq, Nat.reduceLeDiff, Nat.reduceBEq, Nat.reduceMul, Int.reduceToNat, intsV]; rfl) (by repeat' first | exact trivial | constructor) ?_
    refine Holds.condT rfl ?_
    refine Holds.step (Px := px) (T := TT) (ρ := fun _ => []) TTe (by simp (maxSteps := 100000) (disch := omega) only [go_sem, V.isAgg, V.flat, ↓reduceIte, Nat.reduceAdd, Nat.reduceSub, Nat.reduceLT, Nat.reduceEqDiff, reduceCtorEq, Nat.reduceLeDiff, Nat.reduceBEq, Nat.reduceMul, Int.reduceToNat]; rfl) (by repeat' first | exact trivial | constructor) ?_
    exact Holds.ret (RetOk.vs (show resAVs Tryz.prog _ _ [ResultVar.cell 2 27, ResultVar.tmp 3] = _ from by simp (maxSteps := 100000) (disch := omega) only [resAVs, AV.isPtr, go_sem, V.isAgg, V.flat, ↓reduceIte, Nat.reduceAdd, Nat.reduceSub, Nat.reduceLT, Nat.reduceEqDiff, reduceCtorEq, Nat.reduceLeDiff, Nat.reduceBEq, Nat.reduceMul, Int.reduceToNat]; rfl) (by exact ⟨⟨rfl, fun h => by cases h⟩, ⟨rfl, fun h => h⟩, trivial⟩) rfl)

/-! The law's lists -/
def fewP (ps : List (Bool × List Int)) (many most : Nat) : List (Bool × List Int) := (ps.take many).map fun p => (p.1, p.2.take most)
def igB (ps : List (Bool × List Int)) (most k : Nat) : List (Nat × Blk) := if k = 0 then [] else [(300, .buf 26 2 true ((fewP ps k most).map pV))]
theorem igB_s (ps : List (Bool × List Int)) (most k : Nat) : igB ps most (k + 1) = [(300, .buf 26 2 true ((fewP ps (k + 1) most).map pV))] := if_neg (by omega)
theorem fewP_len {ps : List (Bool × List Int)} {most k : Nat} (h : k ≤ ps.length) : (fewP ps k most).length = k := by rw [fewP, List.length_map, List.length_take]; omega
theorem fewP_succ {ps : List (Bool × List Int)} {most k : Nat} (h : k < ps.length) : fewP ps (k + 1) most = fewP ps k most ++ [((ps.getD k (false, [])).1, (ps.getD k (false, [])).2.take most)] := by
  rw [fewP, takeP_succ h, List.map_append]; rfl
theorem fewP_min (ps : List (Bool × List Int)) (many most : Nat) : fewP ps (min ps.length many) most = fewP ps many most := by
  rw [fewP, fewP]
  by_cases h : many ≤ ps.length
  · rw [Nat.min_eq_right h]
  · rw [Nat.min_eq_left (by omega), List.take_length, List.take_of_length_le (by omega)]
theorem fewP_all {ps : List (Bool × List Int)} {many most : Nat} (h : ∀ p ∈ ps, okW p.2) : (fewP ps many most).length ≤ many ∧ ∀ p ∈ fewP ps many most, p.2.length ≤ most ∧ okW p.2 := by
  refine ⟨by rw [fewP, List.length_map, List.length_take]; omega, fun p hp => ?_⟩
  obtain ⟨q, hq, rfl⟩ := List.mem_map.1 hp
  exact ⟨by rw [List.length_take]; omega, okW_take (h q (List.mem_of_mem_take hq)) most⟩

theorem integers_ok (ps : List (Bool × List Int)) (many most : Nat) (h1 : many ≤ 1000) (h2 : most ≤ 1000) : FnOk Tryz.prog 4 [.v (intsV ps), .v (.int .i64 many), .v (.int .i64 most)] [.v true (intsV (fewP ps many most))] := by
  obtain ⟨M, hM⟩ : ∃ M, M = min ps.length many := ⟨_, rfl⟩
  rw [← fewP_min, ← hM]
  have hMl : (fewP ps M most).length = M := fewP_len (by omega)
  refine FnOk.of Tryz.func4 rfl rfl fun cx w0 => ?_
  rw [show Tryz.f4.ntmps = 37 from rfl]
  refine Holds.step (Px := px) (T := TT) (ρ := fun _ => []) TTe (by simp (maxSteps := 100000) (disch := omega) only [go_sem, V.isAgg, V.flat, ↓reduceIte, Nat.reduceAdd, Nat.reduceSub, Nat.reduceLT, Nat.reduceEqDiff, reduceCtorEq, Nat.reduceLeDiff, Nat.reduceBEq, Nat.reduceMul, Int.reduceToNat, List.length_cons, List.length_nil]; rfl) (by repeat' first | exact trivial | constructor) ?_
  refine Holds.step (Px := px) (T := TT) (ρ := fun _ => []) TTe (by simp (maxSteps := 100000) (disch := omega) only [go_sem, V.isAgg, V.flat, ↓reduceIte, Nat.reduceAdd, Nat.reduceSub, Nat.reduceLT, Nat.reduceEqDiff, reduceCtorEq, Nat.reduceLeDiff, Nat.reduceBEq, Nat.reduceMul, Int.reduceToNat]; rfl) (by repeat' first | exact trivial | constructor) ?_
  refine Holds.next (fun σ => ∀ a w, Rel cx w0 σ a w → Rel cx w0 { nt := 37, env := [(7, opA M)], mem := igB ps most M } a w) ?_ ?_
  · refine Holds.step (Px := px) (T := TT) (ρ := fun _ => []) TTe (by simp (maxSteps := 100000) (disch := omega) only [go_sem, V.isAgg, V.flat, ↓reduceIte, Nat.reduceAdd, Nat.reduceSub, Nat.reduceLT, Nat.reduceEqDiff, reduceCtorEq, Nat.reduceLeDiff, Nat.reduceBEq, Nat.reduceMul, Int.reduceToNat]; rfl) (by repeat' first | exact trivial | constructor) ?_
    refine Holds.loopB (fun k : Nat => { nt := 37, env := [(8, .v true (.int .i64 k)), (7, opA k), (0, .v false (intsV ps)), (1, .v true (.int .i64 many)), (2, .v true (.int .i64 most))], mem := igB ps most k }) (fun k => k ≤ M) (fun k => M - k) 0 (Nat.zero_le _) (fun a w h => Rel.keep [8, 7, 0, 1, 2] [] h) ?_
    intro k hk
    by_cases hend : k = M
    · refine Holds.seq ?_
      by_cases h1 : k < ps.length
      · have h2 : ¬ (k : Int) < many := by omega
        refine Holds.step (Px := px) (T := TT) (ρ := fun _ => []) TTe (by simp (maxSteps := 100000) (disch := omega) only [go_sem, V.isAgg, V.flat, ↓reduceIte, Nat.reduceAdd, Nat.reduceSub, Nat.reduceLT, Nat.reduceEqDiff, reduceCtorEq, Nat.reduceLeDiff, Nat.reduceBEq, Nat.reduceMul, Int.reduceToNat, intsV, h1, h2]; rfl) (by repeat' first | exact trivial | constructor) ?_
        refine Holds.condF rfl (Holds.exit ⟨rfl, fun a w h => ?_⟩)
        rw [← hend]
        exact Rel.less [7] (fun _ => rfl) h
      · refine Holds.step (Px := px) (T := TT) (ρ := fun _ => []) TTe (by simp (maxSteps := 100000) (disch := omega) only [go_sem, V.isAgg, V.flat, ↓reduceIte, Nat.reduceAdd, Nat.reduceSub, Nat.reduceLT, Nat.reduceEqDiff, reduceCtorEq, Nat.reduceLeDiff, Nat.reduceBEq, Nat.reduceMul, Int.reduceToNat, intsV, h1]; rfl) (by repeat' first | exact trivial | constructor) ?_
        refine Holds.condF rfl (Holds.exit ⟨rfl, fun a w h => ?_⟩)
        rw [← hend]
        exact Rel.less [7] (fun _ => rfl) h
    · have hkl : k < ps.length := by omega
      have hkm : (k : Int) < many := by omega
      have gk := get_mapP hkl
      have hf := few_ok (ps.getD k (false, [])).2 most h2
      have hXl := fewP_len (ps := ps) (most := most) (k := k) (by omega)
      have hXs := fewP_succ (most := most) hkl
      obtain ⟨⟨yb, yl⟩, hy⟩ : ∃ y, y = ps.getD k (false, []) := ⟨_, rfl⟩
      rw [← hy] at gk hf hXs
      simp only at hf hXs
      refine Holds.seq ?_
      refine Holds.step (Px := px) (T := TT) (ρ := fun _ => []) TTe (by simp (maxSteps := 100000) (disch := omega) only [go_sem, V.isAgg, V.flat, ↓reduceIte, Nat.reduceAdd, Nat.reduceSub, Nat.reduceLT, Nat.reduceEqDiff, reduceCtorEq, Nat.reduceLeDiff, Nat.reduceBEq, Nat.reduceMul, Int.reduceToNat, intsV, hkm]; rfl) (by repeat' first | exact trivial | constructor) ?_
      refine Holds.condT rfl (Holds.skip ?_)
      refine Holds.next (fun σ => ∀ a w, Rel cx w0 σ a w → Rel cx w0 { nt := 37, env := [(8, .v true (.int .i64 k)), (7, opA (k + 1)), (0, .v false (intsV ps)), (1, .v true (.int .i64 many)), (2, .v true (.int .i64 most))], mem := igB ps most (k + 1) } a w) ?_ ?_
      · refine Holds.blockN ?_
        rcases k with _ | k
        · refine Holds.dregionT (Px := px) (T := TT) (ρ := fun _ => [.v true (words (yl.take most))]) [(3, 15), (4, 15), (5, 15), (8, 15), (9, 15), (10, 15)] mixed (by kernel_rfl) TTe (by simp (maxSteps := 100000) (disch := omega) only [go_sem, V.isAgg, V.flat, ↓reduceIte, Nat.reduceAdd, Nat.reduceSub, Nat.reduceLT, Nat.reduceEqDiff, reduceCtorEq, Nat.reduceLeDiff, Nat.reduceBEq, Nat.reduceMul, Int.reduceToNat, opA, igB, intsV, pV, gk]; rfl) (by first | exact hf | (repeat' first | exact trivial | exact hf | constructor)) (by rfl) (by rfl) (by simp (maxSteps := 100000) (disch := omega) only [trc_nil, trc_cons, effW_t, effW_f, trcE_s, opSites_eq, sitesOf, AV.sites, AV.sitesL, Op.operands, Call.operands, List.append_toArray, List.toList_toArray, List.filter_nil, List.filter_cons, List.contains_cons, List.contains_nil, go_sem, V.isAgg, V.flat, ↓reduceIte, Nat.reduceAdd, Nat.reduceSub, Nat.reduceLT, Nat.reduceEqDiff, reduceCtorEq, Nat.reduceLeDiff, Nat.reduceBEq, Nat.reduceMul, Int.reduceToNat, opA, igB, intsV, pV, gk]; rfl) (by rfl) ?_
          intro a w h
          have := Rel.ren (s := 35) (s' := 300) (Rel.keep [8, 7, 0, 1, 2] [35] h) (by decide) rfl rfl
          rw [igB, if_neg (by omega), hXs, opA, if_neg (by omega)]
          exact this
        · rw [opA_s, igB_s]
          refine Holds.dregionT (Px := px) (T := TT) (ρ := fun _ => [.v true (words (yl.take most))]) [(3, 15), (4, 15), (5, 15), (8, 15), (9, 15), (10, 15)] mixed (by kernel_rfl) TTe (by simp (maxSteps := 100000) (disch := omega) only [go_sem, V.isAgg, V.flat, ↓reduceIte, Nat.reduceAdd, Nat.reduceSub, Nat.reduceLT, Nat.reduceEqDiff, reduceCtorEq, Nat.reduceLeDiff, Nat.reduceBEq, Nat.reduceMul, Int.reduceToNat, intsV, pV, gk, hXl]; rfl) (by first | exact hf | (repeat' first | exact trivial | exact hf | constructor)) (by rfl) (by rfl) (by simp (maxSteps := 100000) (disch := omega) only [trc_nil, trc_cons, effW_t, effW_f, trcE_s, opSites_eq, sitesOf, AV.sites, AV.sitesL, Op.operands, Call.operands, List.append_toArray, List.toList_toArray, List.filter_nil, List.filter_cons, List.contains_cons, List.contains_nil, go_sem, V.isAgg, V.flat, ↓reduceIte, Nat.reduceAdd, Nat.reduceSub, Nat.reduceLT, Nat.reduceEqDiff, reduceCtorEq, Nat.reduceLeDiff, Nat.reduceBEq, Nat.reduceMul, Int.reduceToNat, intsV, pV, gk, hXl]; rfl) (by rfl) ?_
          intro a w h
          have := Rel.ren (s := 35) (s' := 300) (Rel.keep [8, 7, 0, 1, 2] [35] h) (by decide) rfl rfl
          rw [igB, if_neg (by omega), hXs, opA, if_neg (by omega), List.map_append]
          exact this
      · intro σ hσ
        refine Holds.from hσ ?_
        refine Holds.region (Px := px) (T := TT) (ρ := fun _ => []) TTe (by simp (maxSteps := 100000) (disch := omega) only [go_sem, V.isAgg, V.flat, ↓reduceIte, Nat.reduceAdd, Nat.reduceSub, Nat.reduceLT, Nat.reduceEqDiff, reduceCtorEq, Nat.reduceLeDiff, Nat.reduceBEq, Nat.reduceMul, Int.reduceToNat]; rfl) (by repeat' first | exact trivial | constructor) ?_
        exact ⟨k + 1, (by show k + 1 ≤ M; omega), (show M - (k + 1) < M - k by omega), fun a w h => Rel.less [8, 7, 0, 1, 2] (fun _ => rfl) h⟩
  · intro σ hσ
    refine Holds.from hσ ?_
    rw [opA, igB]
    by_cases h0 : M = 0
    · rw [if_pos h0, if_pos h0, h0]
      refine Holds.step (Px := px) (T := TT) (ρ := fun _ => []) TTe (by simp (maxSteps := 100000) (disch := omega) only [go_sem, V.isAgg, V.flat, ↓reduceIte, Nat.reduceAdd, Nat.reduceSub, Nat.reduceLT, Nat.reduceEqDiff, reduceCtorEq, Nat.reduceLeDiff, Nat.reduceBEq, Nat.reduceMul, Int.reduceToNat]; rfl) (by repeat' first | exact trivial | constructor) ?_
      exact Holds.ret ⟨_, [], rfl, ⟨rfl, trivial⟩, by simp [R.names, R.mems, R.blks], by simp, rfl⟩
    · rw [if_neg h0, if_neg h0]
      refine Holds.step (Px := px) (T := TT) (ρ := fun _ => []) TTe (by simp (maxSteps := 100000) (disch := omega) only [go_sem, V.isAgg, V.flat, ↓reduceIte, Nat.reduceAdd, Nat.reduceSub, Nat.reduceLT, Nat.reduceEqDiff, reduceCtorEq, Nat.reduceLeDiff, Nat.reduceBEq, Nat.reduceMul, Int.reduceToNat]; rfl) (by repeat' first | exact trivial | constructor) ?_
      exact Holds.ret ⟨_, [], rfl, ⟨⟨rfl, by rw [List.drop_zero, List.take_of_length_le (by rw [List.length_map]; omega)], fun h => h, rfl⟩, trivial⟩, by simp [R.names, R.mems, R.blks], by simp, rfl⟩

theorem same_ok (A B : List V) (hl : A.length = B.length) (hx : A.length < 1000000) (hA : ∀ x ∈ A, x.size = 2 ∧ x.isAgg = true) (hB : ∀ x ∈ B, x.size = 2 ∧ x.isAgg = true)
    (h : ∀ (k : Nat) x y, A[k]? = some x → B[k]? = some y → FnOk Tryz.prog 20 [.v x, .v y] [.v true (.bool true)]) : FnOk Tryz.prog 7 [.v (.sl 2 A), .v (.sl 2 B)] [.v true (.bool true)] := by
  refine FnOk.of Tryz.func7 rfl rfl fun cx w0 => ?_
  rw [show Tryz.f7.ntmps = 27 from rfl]
  refine Holds.step (Px := px) (T := TT) (ρ := fun _ => []) TTe (by simp (maxSteps := 100000) (disch := omega) only [go_sem, V.isAgg, V.flat, ↓reduceIte, Nat.reduceAdd, Nat.reduceSub, Nat.reduceLT, Nat.reduceEqDiff, reduceCtorEq, Nat.reduceLeDiff, Nat.reduceBEq, Nat.reduceMul, Int.reduceToNat, List.length_cons, List.length_nil]; rfl) (by repeat' first | exact trivial | constructor) ?_
  refine Holds.next (fun σ => ∀ a w, Rel cx w0 σ a w → Rel cx w0 { nt := 27, env := [(0, .v false (.sl 2 A)), (1, .v false (.sl 2 B))], mem := [] } a w) ?_ ?_
  · refine Holds.step (Px := px) (T := TT) (ρ := fun _ => []) TTe (by simp (maxSteps := 100000) (disch := omega) only [go_sem, V.isAgg, V.flat, ↓reduceIte, Nat.reduceAdd, Nat.reduceSub, Nat.reduceLT, Nat.reduceEqDiff, reduceCtorEq, Nat.reduceLeDiff, Nat.reduceBEq, Nat.reduceMul, Int.reduceToNat, hl]; rfl) (by repeat' first | exact trivial | constructor) ?_
    exact Holds.condF rfl (Holds.skip fun a w hr => Rel.keep [0, 1] [] hr)
  · intro σ hσ
    refine Holds.from hσ ?_
    refine Holds.next (fun σ => ∀ a w, Rel cx w0 σ a w → Rel cx w0 { nt := 27, env := [], mem := [] } a w) ?_ ?_
    · refine Holds.step (Px := px) (T := TT) (ρ := fun _ => []) TTe (by simp (maxSteps := 100000) (disch := omega) only [go_sem, V.isAgg, V.flat, ↓reduceIte, Nat.reduceAdd, Nat.reduceSub, Nat.reduceLT, Nat.reduceEqDiff, reduceCtorEq, Nat.reduceLeDiff, Nat.reduceBEq, Nat.reduceMul, Int.reduceToNat]; rfl) (by repeat' first | exact trivial | constructor) ?_
      refine Holds.loopB (fun k : Nat => { nt := 27, env := [(5, .v true (.int .i64 k)), (0, .v false (.sl 2 A)), (1, .v false (.sl 2 B))], mem := [] }) (fun k => k ≤ A.length) (fun k => A.length - k) 0 (Nat.zero_le _) (fun a w hr => Rel.keep [5, 0, 1] [] hr) ?_
      intro k hk
      by_cases hend : k = A.length
      · refine Holds.seq ?_
        refine Holds.step (Px := px) (T := TT) (ρ := fun _ => []) TTe (by simp (maxSteps := 100000) (disch := omega) only [go_sem, V.isAgg, V.flat, ↓reduceIte, Nat.reduceAdd, Nat.reduceSub, Nat.reduceLT, Nat.reduceEqDiff, reduceCtorEq, Nat.reduceLeDiff, Nat.reduceBEq, Nat.reduceMul, Int.reduceToNat]; rfl) (by repeat' first | exact trivial | constructor) ?_
        exact Holds.condF rfl (Holds.exit ⟨rfl, fun a w hr => Rel.keep [] [] hr⟩)
      · have hka : k < A.length := by omega
        have hkb : k < B.length := by omega
        obtain ⟨x, gx⟩ : ∃ x, A[k]? = some x := ⟨_, List.getElem?_eq_getElem hka⟩
        obtain ⟨y, gy⟩ : ∃ y, B[k]? = some y := ⟨_, List.getElem?_eq_getElem hkb⟩
        obtain ⟨x1, x2⟩ := hA x (List.mem_of_getElem? gx)
        obtain ⟨y1, y2⟩ := hB y (List.mem_of_getElem? gy)
        refine Holds.seq ?_
        refine Holds.step (Px := px) (T := TT) (ρ := fun _ => []) TTe (by simp (maxSteps := 100000) (disch := omega) only [go_sem, V.isAgg, V.flat, ↓reduceIte, Nat.reduceAdd, Nat.reduceSub, Nat.reduceLT, Nat.reduceEqDiff, reduceCtorEq, Nat.reduceLeDiff, Nat.reduceBEq, Nat.reduceMul, Int.reduceToNat]; rfl) (by repeat' first | exact trivial | constructor) ?_
        refine Holds.condT rfl (Holds.skip ?_)
        refine Holds.next (fun σ => ∀ a w, Rel cx w0 σ a w → Rel cx w0 { nt := 27, env := [(5, .v true (.int .i64 k)), (0, .v false (.sl 2 A)), (1, .v false (.sl 2 B))], mem := [] } a w) ?_ ?_
        · refine Holds.blockN ?_
          refine Holds.dstep (Px := px) (T := TT) (ρ := fun _ => [.v true (.bool true)]) [] mixed (by kernel_rfl) TTe (by simp (maxSteps := 100000) (disch := omega) only [go_sem, V.isAgg, V.flat, ↓reduceIte, Nat.reduceAdd, Nat.reduceSub, Nat.reduceLT, Nat.reduceEqDiff, reduceCtorEq, Nat.reduceLeDiff, Nat.reduceBEq, Nat.reduceMul, Int.reduceToNat, -V.isAgg, -V.flat, isAgg_agg, isAgg_int, isAgg_bool, isAgg_sl, flat_agg, flat_int, flat_bool, flat_sl, gx, gy, x1, x2, y1, y2, unA]; rfl) (by first | exact h k x y gx gy | (repeat' first | exact trivial | exact h k x y gx gy | constructor)) (by rfl) (by rfl) (by rfl) ?_
          exact Holds.condF rfl (Holds.skip fun a w hr => Rel.keep [5, 0, 1] [] hr)
        · intro σ hσ
          refine Holds.from hσ ?_
          refine Holds.region (Px := px) (T := TT) (ρ := fun _ => []) TTe (by simp (maxSteps := 100000) (disch := omega) only [go_sem, V.isAgg, V.flat, ↓reduceIte, Nat.reduceAdd, Nat.reduceSub, Nat.reduceLT, Nat.reduceEqDiff, reduceCtorEq, Nat.reduceLeDiff, Nat.reduceBEq, Nat.reduceMul, Int.reduceToNat]; rfl) (by repeat' first | exact trivial | constructor) ?_
          exact ⟨k + 1, (by show k + 1 ≤ A.length; omega), (show A.length - (k + 1) < A.length - k by omega), fun a w hr => Rel.keep [5, 0, 1] [] hr⟩
    · intro σ hσ
      refine Holds.from hσ ?_
      refine Holds.step (Px := px) (T := TT) (ρ := fun _ => []) TTe (by simp (maxSteps := 100000) (disch := omega) only [go_sem, V.isAgg, V.flat, ↓reduceIte, Nat.reduceAdd, Nat.reduceSub, Nat.reduceLT, Nat.reduceEqDiff, reduceCtorEq, Nat.reduceLeDiff, Nat.reduceBEq, Nat.reduceMul, Int.reduceToNat]; rfl) (by repeat' first | exact trivial | constructor) ?_
      exact Holds.ret (RetOk.vs rfl (by exact ⟨⟨rfl, fun h => h⟩, trivial⟩) rfl)

theorem sameZ_ok (zs : List Int) (ps : List (Bool × List Int)) (hl : zs.length < 1000000) (hz : ∀ z ∈ zs, (zp z).2.length < 40000) (hp : ∀ p ∈ ps, p.2.length < 40000 ∧ okW p.2) (h : ps.map ival = zs) :
    FnOk Tryz.prog 7 [.v (.sl 2 (zs.map fun z => pV (zp z))), .v (intsV ps)] [.v true (.bool true)] := by
  subst h
  refine same_ok _ (ps.map pV) (by simp) (by rw [List.length_map]; exact hl) (fun x hx => ?_) (fun x hx => ?_) fun k x y hx hy => ?_
  · obtain ⟨z, _, rfl⟩ := List.mem_map.1 hx; exact ⟨rfl, rfl⟩
  · obtain ⟨z, _, rfl⟩ := List.mem_map.1 hx; exact ⟨rfl, rfl⟩
  · rw [List.map_map, List.getElem?_map] at hx
    rw [List.getElem?_map] at hy
    cases hk : ps[k]? with
    | none => rw [hk] at hx; cases hx
    | some p =>
      rw [hk] at hx hy
      cases hx
      cases hy
      have hm := List.mem_of_getElem? hk
      exact IsI_ok _ p (hz _ (List.mem_map.2 ⟨p, hm, rfl⟩)) (hp p hm).1 (hp p hm).2 rfl
end Go.Proofs.YtjmclobbfabnpaaGreat.L
