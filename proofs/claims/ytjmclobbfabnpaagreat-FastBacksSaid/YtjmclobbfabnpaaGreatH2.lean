/-
  Mg Mh Mi
-/
import Derived.Test.YtjmclobbfabnpaaGreatH1
import Derived.Test.YtjmclobbfabnpaaGreatG4
set_option linter.unusedSimpArgs false
set_option linter.unusedVariables false
/-
  fast.cut, fast.Split.
-/
namespace Go.Proofs.YtjmclobbfabnpaaGreat.L
open Go Go.RowKit Go.Proofs
attribute [local go_sem] evalOps_nil evalOps_cons runW_t runW_f runE_s runP_s wantA evalOp effOp letters okDst coreA St.opv St.get St.at look constA St.put St.upd St.set decide_true List.all_nil List.all_cons Bool.and_true Bool.true_and and_self and_true true_and if_true if_false true_or Int.sub_zero List.nil_append List.cons_append List.append_nil Option.isSome_some List.getElem?_toArray List.getElem?_cons_succ List.getElem?_cons_zero Option.bind_some Option.map_some Option.map_none beq_self_eq_true Bool.false_beq Bool.true_beq Bool.not_true Bool.not_false Bool.false_eq_true cond_true cond_false binA binI List.map_cons List.map_nil boundA List.length_nil List.length_cons Nat.zero_mul Nat.one_mul Nat.mul_one Nat.zero_add Nat.add_zero Nat.zero_le Option.toList St.freshB AV.ment AV.ments Blk.ment V.sizes Nat.lt_add_one Bool.or_true Bool.true_or Bool.or_false Bool.false_or Bool.or_self if_pos if_neg decide_false decide_eq_true decide_eq_false wrap_i64 Int.toNat_natCast minA maxA Int.natCast_add Int.cast_ofNat_Int Option.isSome_none false_implies true_implies forall_const List.drop_zero Int.toNat_zero Int.add_sub_cancel lenA sliceA loadA indexAddrA partA fitsT V.atP V.offP V.size List.length_map List.getElem?_map Int.toNat_natCast_add_one Int.ofNat_eq_natCast TY calleeA capArg knotA capArgs toArgs toArg callA R.res R.mems R.blks R.av R.names R.nw invokeA storeA storeV fieldAddrA liveB V.off V.offs V.setP List.set_cons_zero List.set_cons_succ buildA buildP partsA appendA srcA copyA boxOk makeA AV.pure List.take_succ_cons List.take_zero nilA words entry List.zipIdx_cons List.zipIdx_nil Arg.av Arg.avs

/-- The first k pieces of n words. -/
def pcs (x : List Int) (n k : Nat) : List (List Int) := (List.range k).map fun j => trimL ((x.drop (j * n)).take n)
def pcsM (x : List Int) (n : Nat) : Nat := (x.length + n - 1) / n
theorem pcs_succ (x : List Int) (n k : Nat) : pcs x n (k + 1) = pcs x n k ++ [trimL ((x.drop (k * n)).take n)] := by
  rw [pcs, List.range_succ, List.map_append]; rfl
theorem pcs_len (x : List Int) (n k : Nat) : (pcs x n k).length = k := by rw [pcs, List.length_map, List.length_range]
theorem pcsM_lt {x : List Int} {n k : Nat} (hn : 0 < n) : k < pcsM x n ↔ k * n < x.length := by
  unfold pcsM
  rw [Nat.lt_div_iff_mul_lt hn, Nat.mul_comm]
  omega

theorem cut_ok (x : List Int) (n : Int) (s1 s2 : Nat) (hs : s1 ≠ s2) : FnOk Tryz.prog 45 [.v (words x), .v (.int .i64 n)] [.clo 70 [(s1, 24, false, words x), (s2, 3, true, .int .i64 n)]] := by
  refine FnOk.of Tryz.func45 rfl rfl fun cx w0 => ?_
  rw [show Tryz.f45.ntmps = 6 from rfl]
  refine Holds.step (Px := px) (T := TT) (ρ := fun _ => []) TTe (by simp (maxSteps := 100000) (disch := omega) only [go_sem, V.isAgg, V.flat, ↓reduceIte, Nat.reduceAdd, Nat.reduceSub, Nat.reduceLT, Nat.reduceEqDiff, reduceCtorEq, Nat.reduceLeDiff, Nat.reduceBEq, Nat.reduceMul, Int.reduceToNat, entry, List.length_cons, List.length_nil, List.zipIdx_cons, List.zipIdx_nil, Arg.av, boxOk]; rfl) (by repeat' first | exact trivial | constructor) ?_
  refine Holds.step (Px := px) (T := TT) (ρ := fun _ => []) TTe (by simp (maxSteps := 100000) (disch := omega) only [go_sem, V.isAgg, V.flat, ↓reduceIte, Nat.reduceAdd, Nat.reduceSub, Nat.reduceLT, Nat.reduceEqDiff, reduceCtorEq, Nat.reduceLeDiff, Nat.reduceBEq, Nat.reduceMul, Int.reduceToNat, makeA]; rfl) (by repeat' first | exact trivial | constructor) ?_
  exact Holds.ret ⟨_, [(s1, 2), (s2, 3)], rfl, ⟨⟨rfl, by simp [retCaps, srcOf, St.at, look, hs, words, V.flat]⟩, trivial⟩, by simp [R.names, R.mems, R.blks, hs], by simp, by simp [R.names, R.mems, R.blks]⟩

def splitR (x : List Int) (n : Int) : List (List Int) × Int :=
  if 4096 < x.length then ([], 2) else if n < 1 ∨ 1000 < n then ([], 1) else (pcs (trimL x) n.toNat (pcsM (trimL x) n.toNat), 0)

/-- What the iterator and its caller have in memory behind k pieces. -/
def cutMem (y : List Int) (m k : Nat) (B : List (Nat × Blk)) : List (Nat × Blk) :=
  (201, .box 24 (.v false (words (y.drop (k * m))))) :: (202, .box 3 (.v true (.int .i64 m))) :: B

/-- A range over the pieces. -/
theorem overCut {ro : Option Nat} {cx : Cx} {w0 : World} {σ : St} {Q : Exit → St → Prop} {g : Operand} {p : Nat} {assign body : Code} {y : List Int} {m : Nat} {Bk : Nat → List (Nat × Blk)} (hm : 0 < m) (hm2 : m ≤ 1000000000) (hyl : y.length < 1000000000)
    (hg : σ.opv g = .fn 70 [.ptr 201 0 [] 0, .ptr 202 0 [] 0]) (hmem : σ.mem = cutMem y m 0 (Bk 0)) (hp : p < σ.nt) (hsm : small σ = true) (hro : ∀ l, ro = some l → ∃ r, (l, Obj.loop r) ∈ σ.fix)
    (hround : ∀ k, k < pcsM y m → ∀ (L : Nat) (fx fx' : List (Nat × Obj)) (env : List (Nat × AV)) (rt : List (AV × Value)), (∀ t, t < σ.nt → look env t = σ.get t) →
      (∀ s, s ≠ 201 → s ≠ 202 → ((List.range σ.nt).all fun t => !(σ.get t).ment s) = true → (∀ p ∈ σ.root, p.1.ment s = false) → (rt.all fun p => !p.1.ment s) = true) →
      Holds Tryz.prog (some L) cx w0 assign { nt := σ.nt, env := (p, .v true (words (trimL ((y.drop (k * m)).take m)))) :: env, mem := cutMem y m k (Bk k), root := rt, fix := fx }
        (fun e σ1 => e = .normal ∧ σ1.fix = fx ∧ Holds Tryz.prog (some L) cx w0 body { σ1 with fix := fx' }
          (fun e σ2 => e = .normal ∧ σ2.fix = fx' ∧ σ2.root = rt ∧ σ2.mem = cutMem y m k (Bk (k + 1)))))
    (hQ : ∀ F ds, (ro ≠ none → F = σ.fix ∧ ds = σ.defs) → Q .normal { σ with mem := cutMem y m (pcsM y m) (Bk (pcsM y m)), fix := F, defs := ds }) :
    Holds Tryz.prog ro cx w0 (.rangeFunc g #[p] assign body) σ Q := by
  refine Holds.rangeFunc (gf := 70) (caps := [.ptr 201 0 [] 0, .ptr 202 0 [] 0]) hg Tryz.func70 rfl rfl rfl hsm hro ?_
  intro tm L D f F1 ds htm hL hF1 hsame
  have hgv := held_vals htm
  obtain ⟨M, hM⟩ : ∃ M, M = pcsM y m := ⟨_, rfl⟩
  obtain ⟨fx, hfx⟩ : ∃ fx, fx = (L, Obj.loop (loopRec .ready f tm #[p] assign body D)) :: F1 := ⟨_, rfl⟩
  obtain ⟨rt, hrt⟩ : ∃ rt, rt = σ.held tm ++ σ.root := ⟨_, rfl⟩
  refine Holds.from (σ' := { nt := 23, env := [(0, .yld L), (1, .ptr 201 0 [] 0), (2, .ptr 202 0 [] 0)], mem := cutMem y m 0 (Bk 0), root := rt, fix := fx }) (fun a w h => by
    have := Rel.less [0, 1, 2] (fun _ => rfl) h
    rw [hrt, hfx, ← hmem]
    exact this) ?_
  have hend : M - 0 = M := rfl
  refine Holds.post (Q := NR (fun s => ∀ a w, Rel cx w0 s a w → Rel cx w0 { nt := 23, env := [(0, .yld L), (1, .ptr 201 0 [] 0), (2, .ptr 202 0 [] 0)], mem := cutMem y m M (Bk M), root := rt, fix := fx } a w) (fun _ => False)) ?_ ?_
  · refine Holds.loopB (fun k => { nt := 23, env := [(0, .yld L), (1, .ptr 201 0 [] 0), (2, .ptr 202 0 [] 0)], mem := cutMem y m k (Bk k), root := rt, fix := fx }) (fun k => k ≤ M) (fun k => M - k) 0 (Nat.zero_le _) (fun a w h => h) ?_
    intro k hk
    have hlt : k < M ↔ k * m < y.length := by rw [hM]; exact pcsM_lt hm
    have hdl : (y.drop (k * m)).length = y.length - k * m := List.length_drop
    by_cases hkM : k = M
    · refine Holds.seq ?_
      have h0 : ¬ 0 < (y.drop (k * m)).length := by omega
      refine Holds.step (Px := px) (T := TT) (ρ := fun _ => []) TTe (by simp (maxSteps := 100000) (disch := omega) only [go_sem, V.isAgg, V.flat, ↓reduceIte, Nat.reduceAdd, Nat.reduceSub, Nat.reduceLT, Nat.reduceEqDiff, reduceCtorEq, Nat.reduceLeDiff, Nat.reduceBEq, Nat.reduceMul, Int.reduceToNat, cutMem, words, elt23, tsz23, agg23]; rfl) (by repeat' first | exact trivial | constructor) ?_
      refine Holds.condF rfl (Holds.exit ⟨rfl, fun a w h => ?_⟩)
      rw [← hkM]
      exact Rel.less [0, 1, 2] (fun _ => rfl) h
    · have hkl : k * m < y.length := hlt.1 (by omega)
      obtain ⟨c, hc⟩ : ∃ c, c = min m (y.length - k * m) := ⟨_, rfl⟩
      have hcm : (if ((y.length - k * m : Nat) : Int) < (m : Int) then ((y.length - k * m : Nat) : Int) else (m : Int)) = c := by
        rw [hc]; split <;> omega
      refine Holds.seq ?_
      refine Holds.step (Px := px) (T := TT) (ρ := fun _ => []) TTe (by simp (maxSteps := 100000) (disch := omega) only [go_sem, V.isAgg, V.flat, ↓reduceIte, Nat.reduceAdd, Nat.reduceSub, Nat.reduceLT, Nat.reduceEqDiff, reduceCtorEq, Nat.reduceLeDiff, Nat.reduceBEq, Nat.reduceMul, Int.reduceToNat, cutMem, words, elt23, tsz23, agg23]; rfl) (by repeat' first | exact trivial | constructor) ?_
      refine Holds.condT rfl (Holds.skip ?_)
      refine Holds.block ?_
      refine Holds.step (Px := px) (T := TT) (ρ := fun _ => []) TTe (by simp (maxSteps := 100000) (disch := omega) only [go_sem, V.isAgg, V.flat, ↓reduceIte, Nat.reduceAdd, Nat.reduceSub, Nat.reduceLT, Nat.reduceEqDiff, reduceCtorEq, Nat.reduceLeDiff, Nat.reduceBEq, Nat.reduceMul, Int.reduceToNat, words, elt23, tsz23, agg23, tsz3, agg3, List.length_drop, hcm]; rfl) (by repeat' first | exact trivial | constructor) ?_
      have htk : ((y.drop (k * m)).take c) = (y.drop (k * m)).take m := by
        rw [hc, ← hdl]
        by_cases h : m ≤ (y.drop (k * m)).length
        · rw [Nat.min_eq_left h]
        · rw [Nat.min_eq_right (by omega), List.take_length, List.take_of_length_le (by omega)]
      have hlc : ((y.drop (k * m)).take c).length < 1000000000 := by rw [List.length_take]; omega
      have hcl : c ≤ y.length - k * m := by omega
      refine Holds.next (fun s => ∀ a w, Rel cx w0 s a w → Rel cx w0 { nt := 23, env := [(0, .yld L), (1, .ptr 201 0 [] 0), (2, .ptr 202 0 [] 0), (4, .v true (.int .i64 c))], mem := cutMem y m k (Bk (k + 1)), root := rt, fix := fx } a w) ?_ ?_
      · refine Holds.seq ?_
        refine Holds.regionY (Px := px) (T := TT) (ρ := fun _ => [.v true (words (trimL ((y.drop (k * m)).take m)))]) (k := 6) TTe (by simp (maxSteps := 100000) (disch := omega) only [List.take_succ_cons, List.take_zero, go_sem, V.isAgg, V.flat, ↓reduceIte, Nat.reduceAdd, Nat.reduceSub, Nat.reduceLT, Nat.reduceEqDiff, reduceCtorEq, Nat.reduceLeDiff, Nat.reduceBEq, Nat.reduceMul, Int.reduceToNat, words, esz23, elt23, tsz23, agg23, calleeA, capArg, knotA, capArgs, toArgs, toArg, callA, R.res, R.mems, R.blks, R.av, R.names, R.nw, List.length_drop]; rfl) (by exact by have := Trim_ok _ hlc; rw [show trimL ((y.drop (k * m)).take c) = trimL ((y.drop (k * m)).take m) from congrArg trimL htk] at this; simpa [words] using this) rfl rfl rfl rfl (Nat.le_of_ble_eq_true rfl) rfl hL hfx hF1 rfl (by intro q hq; simp only [List.mem_singleton] at hq; rw [hq, htm]; exact hp) rfl (gs := σ.held tm) (fun q hq => by show q ∈ rt; rw [hrt]; exact List.mem_append_left _ hq) hgv ?_
        intro ti hti
        rw [htm]
        refine (hround k (by omega) L fx ((L, .loop (loopRec .busy f tm #[p] assign body D)) :: F1) _ _ (fun t ht => look_held ht) ?_).mono ?_
        · intro s h1 h2 h3 h4
          show (List.all (_ ++ rt) fun p => !p.1.ment s) = true
          rw [List.all_append, Bool.and_eq_true, List.all_eq_true, List.all_eq_true, hrt]
          have b1 : (201 == s) = false := by simpa using Ne.symm h1
          have b2 : (202 == s) = false := by simpa using Ne.symm h2
          refine ⟨fun q hq => ?_, fun q hq => ?_⟩
          · exact held_all (f := fun X => !X.ment s) (by simp [List.range, List.range.loop, St.get, look, AV.ment, b1, b2]) q hq
          · rcases List.mem_append.1 hq with hq | hq
            · exact held_all (f := fun X => !X.ment s) h3 q hq
            · rw [h4 q hq]; rfl
        · rintro e s1 ⟨rfl, k1, k2⟩
          refine ⟨rfl, k1, k2.mono ?_⟩
          rintro e s2 ⟨rfl, k3, k4, k5⟩
          refine ⟨rfl, k3, k4, _, _, by rw [k5]; simp only [go_sem, V.isAgg, V.flat, ↓reduceIte, Nat.reduceAdd, Nat.reduceSub, Nat.reduceLT, Nat.reduceEqDiff, reduceCtorEq, Nat.reduceLeDiff, Nat.reduceBEq, Nat.reduceMul, Int.reduceToNat]; rfl, by exact ⟨trivial, trivial⟩, ?_⟩
          show Holds _ _ _ _ _ _ _
          exact Holds.condF rfl (Holds.skip fun a w h => Rel.less [0, 1, 2, 4] (fun _ => rfl) h)
      · intro s hs
        refine Holds.from hs ?_
        have hdr : List.drop c (List.map (fun n => V.int .u64 n) (y.drop (k * m))) = List.map (fun n => V.int .u64 n) (y.drop ((k + 1) * m)) := by
          rw [← List.map_drop, List.drop_drop]
          by_cases h : m ≤ y.length - k * m
          · rw [hc, Nat.min_eq_left h, Nat.succ_mul]
          · rw [List.drop_of_length_le (by rw [hc]; omega), List.drop_of_length_le (by rw [Nat.succ_mul]; omega)]
        have htk2 : List.take (y.length - k * m) (List.map (fun n => V.int .u64 n) (y.drop (k * m))) = List.map (fun n => V.int .u64 n) (y.drop (k * m)) := List.take_of_length_le (by rw [List.length_map, hdl]; omega)
        refine Holds.regionP (τ := { nt := 23, env := [(0, .yld L), (1, .ptr 201 0 [] 0), (2, .ptr 202 0 [] 0)], mem := cutMem y m (k + 1) (Bk (k + 1)), root := rt, fix := fx }) (Px := px) (T := TT) (ρ := fun _ => []) TTe (by simp (maxSteps := 100000) (disch := omega) only [go_sem, V.isAgg, V.flat, ↓reduceIte, Nat.reduceAdd, Nat.reduceSub, Nat.reduceLT, Nat.reduceEqDiff, reduceCtorEq, Nat.reduceLeDiff, Nat.reduceBEq, Nat.reduceMul, Int.reduceToNat, cutMem, words, esz23, elt23, tsz23, agg23, storeA, storeV, List.length_drop, htk2, hdr]; rfl) (by repeat' first | exact trivial | constructor) ?_ ?_
        · intro a w h
          refine Rel.less [0, 1, 2] (fun s => ?_) h
          show look (_ :: _) s = look (_ :: _ :: _) s
          by_cases hs : 201 = s
          · subst hs; rfl
          · simp only [look, if_neg hs]
        · exact ⟨k + 1, by show k + 1 ≤ M; omega, (show M - (k + 1) < M - k by omega), fun a w h => h⟩
  · intro e s hs
    cases e <;> try exact hs.elim
    refine ⟨_, ⟨.inl rfl, rfl, hrt, hfx, ?_⟩, hs⟩
    rw [hM]
    exact hQ F1 ds hsame
/-
  fast.Split.
-/

/-- Where Split's rows of pieces lie behind k pieces. -/
def outA (k : Nat) : AV := if k = 0 then .nil else .own 300 0 k
def outB (x : List Int) (n k : Nat) : List (Nat × Blk) := (6, .box 57 (outA k)) :: if k = 0 then [] else [(300, .buf 24 1 true ((pcs x n k).map words))]

theorem outB_succ (x : List Int) (n k : Nat) : outB x n (k + 1) = [(6, .box 57 (.own 300 0 (k + 1))), (300, .buf 24 1 true ((pcs x n (k + 1)).map words))] := by
  rw [outB, outA, if_neg (by omega), if_neg (by omega)]
theorem outB_zero (x : List Int) (n : Nat) : outB x n 0 = [(6, .box 57 .nil)] := rfl

theorem Split_ok (x : List Int) (n : Int) (hx : x.length < 1000000000) : FnOk Tryz.prog 22 [.v (words x), .v (.int .i64 n)] [.v true (natsV (splitR x n).1), .v true (.int .i64 (splitR x n).2)] := by
  refine FnOk.of Tryz.func22 rfl rfl fun cx w0 => ?_
  rw [show Tryz.f22.ntmps = 27 from rfl]
  refine Holds.step (Px := px) (T := TT) (ρ := fun _ => []) TTe (by simp (maxSteps := 100000) (disch := omega) only [go_sem, V.isAgg, V.flat, ↓reduceIte, Nat.reduceAdd, Nat.reduceSub, Nat.reduceLT, Nat.reduceEqDiff, reduceCtorEq, Nat.reduceLeDiff, Nat.reduceBEq, Nat.reduceMul, Int.reduceToNat, entry, List.length_cons, List.length_nil, List.zipIdx_cons, List.zipIdx_nil, Arg.av]; rfl) (by repeat' first | exact trivial | constructor) ?_
  refine Holds.next (fun σ => ¬ 4096 < x.length ∧ ∀ a w, Rel cx w0 σ a w → Rel cx w0 { nt := 27, env := [(0, .v false (words x)), (1, .v true (.int .i64 n))], mem := [] } a w) ?_ ?_
  · refine Holds.step (Px := px) (T := TT) (ρ := fun _ => [.v true (.bool (decide (4096 < x.length)))]) TTe (by simp (maxSteps := 100000) (disch := omega) only [go_sem, V.isAgg, V.flat, ↓reduceIte, Nat.reduceAdd, Nat.reduceSub, Nat.reduceLT, Nat.reduceEqDiff, reduceCtorEq, Nat.reduceLeDiff, Nat.reduceBEq, Nat.reduceMul, Int.reduceToNat, words, elt25, tsz23, zt23, partsA, calleeA, capArg, knotA, capArgs, toArgs, toArg, callA, R.res, R.mems, R.blks, R.av, R.names, R.nw]; rfl) (by exact by have := large_ok [x] (by simp) (by simpa using hx); simpa [natsV, words] using this) ?_
    by_cases h : 4096 < x.length
    · refine Holds.condT (nw := true) (by rw [decide_eq_true h]; rfl) ?_
      refine Holds.step (Px := px) (T := TT) (ρ := fun _ => []) TTe (by simp (maxSteps := 100000) (disch := omega) only [go_sem, V.isAgg, V.flat, ↓reduceIte, Nat.reduceAdd, Nat.reduceSub, Nat.reduceLT, Nat.reduceEqDiff, reduceCtorEq, Nat.reduceLeDiff, Nat.reduceBEq, Nat.reduceMul, Int.reduceToNat]; rfl) (by repeat' first | exact trivial | constructor) ?_
      have e : splitR x n = ([], 2) := by rw [splitR, if_pos h]
      rw [e]
      exact Holds.ret ⟨_, [], rfl, ⟨rfl, ⟨rfl, fun h => h⟩, trivial⟩, by simp [R.names, R.mems, R.blks], by simp, rfl⟩
    · exact Holds.condF (nw := true) (by rw [decide_eq_false h]; rfl) (Holds.skip ⟨h, fun a w h => Rel.keep [0, 1] [] h⟩)
  · rintro σ ⟨h1, hσ⟩
    refine Holds.from hσ ?_
    refine Holds.next (fun σ => (1 ≤ n ∧ n ≤ 1000) ∧ ∀ a w, Rel cx w0 σ a w → Rel cx w0 { nt := 27, env := [(0, .v false (words x)), (1, .v true (.int .i64 n))], mem := [] } a w) ?_ ?_
    · by_cases h2 : n < 1
      · refine Holds.step (Px := px) (T := TT) (ρ := fun _ => []) TTe (by simp (maxSteps := 100000) (disch := omega) only [go_sem, V.isAgg, V.flat, ↓reduceIte, Nat.reduceAdd, Nat.reduceSub, Nat.reduceLT, Nat.reduceEqDiff, reduceCtorEq, Nat.reduceLeDiff, Nat.reduceBEq, Nat.reduceMul, Int.reduceToNat, h2]; rfl) (by repeat' first | exact trivial | constructor) ?_
        refine Holds.condT rfl ?_
        refine Holds.step (Px := px) (T := TT) (ρ := fun _ => []) TTe (by simp (maxSteps := 100000) (disch := omega) only [go_sem, V.isAgg, V.flat, ↓reduceIte, Nat.reduceAdd, Nat.reduceSub, Nat.reduceLT, Nat.reduceEqDiff, reduceCtorEq, Nat.reduceLeDiff, Nat.reduceBEq, Nat.reduceMul, Int.reduceToNat]; rfl) (by repeat' first | exact trivial | constructor) ?_
        have e : splitR x n = ([], 1) := by rw [splitR, if_neg h1, if_pos (.inl h2)]
        rw [e]
        exact Holds.ret ⟨_, [], rfl, ⟨rfl, ⟨rfl, fun h => h⟩, trivial⟩, by simp [R.names, R.mems, R.blks], by simp, rfl⟩
      · by_cases h3 : 1000 < n
        · refine Holds.step (Px := px) (T := TT) (ρ := fun _ => []) TTe (by simp (maxSteps := 100000) (disch := omega) only [go_sem, V.isAgg, V.flat, ↓reduceIte, Nat.reduceAdd, Nat.reduceSub, Nat.reduceLT, Nat.reduceEqDiff, reduceCtorEq, Nat.reduceLeDiff, Nat.reduceBEq, Nat.reduceMul, Int.reduceToNat, h2, h3]; rfl) (by repeat' first | exact trivial | constructor) ?_
          refine Holds.condT rfl ?_
          refine Holds.step (Px := px) (T := TT) (ρ := fun _ => []) TTe (by simp (maxSteps := 100000) (disch := omega) only [go_sem, V.isAgg, V.flat, ↓reduceIte, Nat.reduceAdd, Nat.reduceSub, Nat.reduceLT, Nat.reduceEqDiff, reduceCtorEq, Nat.reduceLeDiff, Nat.reduceBEq, Nat.reduceMul, Int.reduceToNat]; rfl) (by repeat' first | exact trivial | constructor) ?_
          have e : splitR x n = ([], 1) := by rw [splitR, if_neg h1, if_pos (.inr h3)]
          rw [e]
          exact Holds.ret ⟨_, [], rfl, ⟨rfl, ⟨rfl, fun h => h⟩, trivial⟩, by simp [R.names, R.mems, R.blks], by simp, rfl⟩
        · refine Holds.step (Px := px) (T := TT) (ρ := fun _ => []) TTe (by simp (maxSteps := 100000) (disch := omega) only [go_sem, V.isAgg, V.flat, ↓reduceIte, Nat.reduceAdd, Nat.reduceSub, Nat.reduceLT, Nat.reduceEqDiff, reduceCtorEq, Nat.reduceLeDiff, Nat.reduceBEq, Nat.reduceMul, Int.reduceToNat, h2, h3]; rfl) (by repeat' first | exact trivial | constructor) ?_
          exact Holds.condF rfl (Holds.skip ⟨by omega, fun a w h => Rel.keep [0, 1] [] h⟩)
    · rintro σ ⟨⟨hn1, hn2⟩, hσ⟩
      refine Holds.from hσ ?_
      obtain ⟨m, rfl⟩ : ∃ m : Nat, n = m := ⟨n.toNat, by omega⟩
      have hm : 0 < m := by omega
      have e : splitR x m = (pcs (trimL x) m (pcsM (trimL x) m), 0) := by rw [splitR, if_neg h1, if_neg (by omega)]; rfl
      rw [e]
      have zt25 : TT.zt 57 = some .nil := rfl
      refine Holds.step (Px := px) (T := TT) (ρ := fun _ => []) TTe (by simp (maxSteps := 100000) (disch := omega) only [go_sem, V.isAgg, V.flat, ↓reduceIte, Nat.reduceAdd, Nat.reduceSub, Nat.reduceLT, Nat.reduceEqDiff, reduceCtorEq, Nat.reduceLeDiff, Nat.reduceBEq, Nat.reduceMul, Int.reduceToNat, zt25, AV.pure]; rfl) (by repeat' first | exact trivial | constructor) ?_
      obtain ⟨M, hM⟩ : ∃ M, M = pcsM (trimL x) m := ⟨_, rfl⟩
      obtain ⟨y, hy⟩ : ∃ y, y = trimL x := ⟨_, rfl⟩
      have hyl : y.length < 1000000000 := by have := trimL_len x; rw [hy]; omega
      rw [← hM]
      have hMy : M = pcsM y m := by rw [hM, hy]
      refine Holds.next (fun σ => ∃ F ds, ∀ a w, Rel cx w0 σ a w → Rel cx w0 { nt := 27, env := [(6, .ptr 6 0 [] 0)], mem := outB y m M, fix := F, defs := ds } a w) ?_ ?_
      · refine Holds.step (Px := px) (T := TT) (ρ := fun d => if d = 18 then [.v true (words (trimL x))] else [.clo 70 [(201, 24, false, words (trimL x)), (202, 3, true, .int .i64 m)]]) TTe (by simp (maxSteps := 100000) (disch := omega) only [go_sem, V.isAgg, V.flat, ↓reduceIte, Nat.reduceAdd, Nat.reduceSub, Nat.reduceLT, Nat.reduceEqDiff, reduceCtorEq, Nat.reduceLeDiff, Nat.reduceBEq, Nat.reduceMul, Int.reduceToNat, words, calleeA, capArg, knotA, capArgs, toArgs, toArg, callA, R.res, R.mems, R.blks, R.av, R.names, R.nw, List.all_cons]; rfl) (by first | exact ⟨Trim_ok x hx, cut_ok _ _ _ _ (by decide)⟩ | (repeat' first | exact trivial | exact Trim_ok x hx | exact cut_ok _ _ _ _ (by decide) | constructor)) ?_
        rw [← hy]
        refine Holds.from (σ' := { nt := 27, env := [(6, .ptr 6 0 [] 0), (20, .fn 70 [.ptr 201 0 [] 0, .ptr 202 0 [] 0])], mem := [(201, .box 24 (.v false (words y))), (202, .box 3 (.v true (.int .i64 m))), (6, .box 57 .nil)] }) (fun a w h => Rel.keep [6, 20] [201, 202, 6] h) ?_
        refine Holds.blockN ?_
        refine overCut (y := y) (m := m) (Bk := outB y m) hm (by omega) hyl rfl (by rw [cutMem, Nat.zero_mul, List.drop_zero]; rfl) (by show 21 < 27; decide) rfl (fun l h => by cases h) ?_ ?_
        · intro k hk L fx fx' env rt henv hrt
          have h6 : look env 6 = .ptr 6 0 [] 0 := henv 6 (by show 6 < 27; decide)
          have r25 : (rt.all fun p => !p.1.ment 25) = true := hrt 25 (by decide) (by decide) rfl (fun p h => by cases h)
          have r300 : (rt.all fun p => !p.1.ment 300) = true := hrt 300 (by decide) (by decide) rfl (fun p h => by cases h)
          have r24 : (rt.all fun p => !p.1.ment 24) = true := hrt 24 (by decide) (by decide) rfl (fun p h => by cases h)
          have hroot : ∀ p ∈ rt, (p.1.ment 25 || p.1.ment 300) = false := fun p hp => by
            have h1 := List.all_eq_true.1 r25 p hp
            have h2 := List.all_eq_true.1 r300 p hp
            simp only [Bool.not_eq_true'] at h1 h2
            rw [h1, h2]; rfl
          have hpl := pcs_len y m k
          have hky : k < y.length := Nat.lt_of_le_of_lt (Nat.le_mul_of_pos_right k hm) ((pcsM_lt hm).1 hk)
          refine Holds.regionP (τ := { nt := 27, env := [(7, .v true (words (trimL ((y.drop (k * m)).take m)))), (6, .ptr 6 0 [] 0)], mem := cutMem y m k (outB y m k), root := rt, fix := fx }) (Px := px) (T := TT) (ρ := fun _ => []) TTe (by simp (maxSteps := 100000) (disch := omega) only [go_sem, V.isAgg, V.flat, ↓reduceIte, Nat.reduceAdd, Nat.reduceSub, Nat.reduceLT, Nat.reduceEqDiff, reduceCtorEq, Nat.reduceLeDiff, Nat.reduceBEq, Nat.reduceMul, Int.reduceToNat]; rfl) (by repeat' first | exact trivial | constructor) ?_ ?_
          · intro a w h
            rw [← h6]
            exact Rel.less [7, 6] (fun _ => rfl) h
          refine ⟨rfl, rfl, Holds.block ?_⟩
          rcases k with _ | k
          · rw [outB_zero]
            refine Holds.regionP (τ := { nt := 27, env := [], mem := cutMem y m 0 (outB y m (0 + 1)), root := rt, fix := fx' }) (Px := px) (T := TT) (ρ := fun _ => []) TTe (by simp (maxSteps := 100000) (disch := omega) only [go_sem, V.isAgg, V.flat, ↓reduceIte, Nat.reduceAdd, Nat.reduceSub, Nat.reduceLT, Nat.reduceEqDiff, reduceCtorEq, Nat.reduceLeDiff, Nat.reduceBEq, Nat.reduceMul, Int.reduceToNat, words, cutMem, r24, r25, esz25, elt25, tsz25, agg25, tsz23, tby23, zt23, partsA, appendA, srcA, storeA, storeV, boxOk, List.take_succ_cons, List.take_zero]; rfl) (by repeat' first | exact trivial | constructor) ?_ ?_
            · intro a w h
              have := Rel.renR (s := 25) (s' := 300) (Rel.keep [] [201, 202, 6, 25] h) (by decide) hroot rfl rfl
              rw [outB_succ, pcs_succ, cutMem, Nat.zero_mul, List.drop_zero]
              exact this
            · exact ⟨rfl, rfl, rfl, rfl⟩
          · rw [outB_succ]
            refine Holds.regionP (τ := { nt := 27, env := [], mem := cutMem y m (k + 1) (outB y m (k + 1 + 1)), root := rt, fix := fx' }) (Px := px) (T := TT) (ρ := fun _ => []) TTe (by simp (maxSteps := 100000) (disch := omega) only [go_sem, V.isAgg, V.flat, ↓reduceIte, Nat.reduceAdd, Nat.reduceSub, Nat.reduceLT, Nat.reduceEqDiff, reduceCtorEq, Nat.reduceLeDiff, Nat.reduceBEq, Nat.reduceMul, Int.reduceToNat, words, cutMem, r24, r25, esz25, elt25, tsz25, agg25, tsz23, tby23, zt23, partsA, appendA, srcA, storeA, storeV, boxOk, hpl, List.take_succ_cons, List.take_zero]; rfl) (by repeat' first | exact trivial | constructor) ?_ ?_
            · intro a w h
              have := Rel.renR (s := 25) (s' := 300) (Rel.keep [] [201, 202, 6, 25] h) (by decide) hroot rfl rfl
              rw [outB_succ, pcs_succ, List.map_append]
              exact this
            · exact ⟨rfl, rfl, rfl, rfl⟩
        · intro F ds _
          refine ⟨F, ds, fun a w h => ?_⟩
          rw [← hMy] at h
          rcases M with _ | k
          · rw [outB_zero]
            rw [outB_zero] at h
            exact Rel.keep [6] [6] h
          · rw [outB_succ]
            rw [outB_succ] at h
            exact Rel.keep [6] [6, 300] h
      · rintro σ ⟨F, ds, hσ⟩
        refine Holds.from hσ ?_
        have hpl := pcs_len y m M
        rw [← hy]
        rcases M with _ | k
        · rw [outB_zero]
          refine Holds.step (Px := px) (T := TT) (ρ := fun _ => []) TTe (by simp (maxSteps := 100000) (disch := omega) only [go_sem, V.isAgg, V.flat, ↓reduceIte, Nat.reduceAdd, Nat.reduceSub, Nat.reduceLT, Nat.reduceEqDiff, reduceCtorEq, Nat.reduceLeDiff, Nat.reduceBEq, Nat.reduceMul, Int.reduceToNat, tsz25, agg25]; rfl) (by repeat' first | exact trivial | constructor) ?_
          exact Holds.ret ⟨_, [], rfl, ⟨rfl, ⟨rfl, fun h => h⟩, trivial⟩, by simp [R.names, R.mems, R.blks], by simp, rfl⟩
        · rw [outB_succ]
          refine Holds.step (Px := px) (T := TT) (ρ := fun _ => []) TTe (by simp (maxSteps := 100000) (disch := omega) only [go_sem, V.isAgg, V.flat, ↓reduceIte, Nat.reduceAdd, Nat.reduceSub, Nat.reduceLT, Nat.reduceEqDiff, reduceCtorEq, Nat.reduceLeDiff, Nat.reduceBEq, Nat.reduceMul, Int.reduceToNat, tsz25, agg25]; rfl) (by repeat' first | exact trivial | constructor) ?_
          exact Holds.ret ⟨_, [], rfl, ⟨⟨rfl, by rw [List.drop_zero, List.take_of_length_le (by rw [List.length_map, hpl]; exact Nat.le_refl _)], fun h => h, rfl⟩, ⟨rfl, fun h => h⟩, trivial⟩, by simp [R.names, R.mems, R.blks], by simp, rfl⟩
/-
  nat.large, words.few.
-/

theorem elt144 : elt Tryz.prog 161 = some 23 := by kernel_rfl
theorem esz144 : esz Tryz.prog 161 = some 1 := by kernel_rfl
theorem tsz22 : tsz Tryz.prog 23 = some 1 := by kernel_rfl
theorem agg22 : aggT Tryz.prog 23 = some false := by kernel_rfl
theorem elt22 : elt Tryz.prog 23 = some 52 := by kernel_rfl
theorem esz22 : esz Tryz.prog 23 = some 1 := by kernel_rfl
theorem tby22 : tby Tryz.prog 23 = some 24 := by kernel_rfl
theorem zt22 : TT.zt 23 = some .nil := rfl

/-- Is a row too long? -/
def longL (l : List Int) : Bool := decide (4096 < l.length)
def idxF : Nat → List (List Int) → Int
  | _, [] => -1
  | k, l :: r => if longL l then k else idxF (k + 1) r
theorem idxF_ge : ∀ (ls : List (List Int)) (k : Nat), (decide (0 ≤ idxF k ls)) = ls.any longL
  | [], k => by rw [idxF]; rfl
  | l :: r, k => by
    rw [idxF, List.any_cons]
    cases h : longL l
    · rw [if_neg (by simp), idxF_ge r (k + 1), Bool.false_or]
    · rw [if_pos rfl, Bool.true_or, decide_eq_true (by omega)]

theorem long115_ok (l : List Int) (hl : l.length < 1000000000) : FnOk Tryz.prog 113 [.v (words l)] [.v true (.bool (longL l))] := by
  refine FnOk.of Tryz.func113 rfl rfl fun cx w0 => ?_
  rw [show Tryz.f113.ntmps = 6 from rfl]
  refine Holds.step (Px := px) (T := TT) (ρ := fun _ => []) TTe (by simp (maxSteps := 100000) (disch := omega) only [go_sem, V.isAgg, V.flat, ↓reduceIte, Nat.reduceAdd, Nat.reduceSub, Nat.reduceLT, Nat.reduceEqDiff, reduceCtorEq, Nat.reduceLeDiff, Nat.reduceBEq, Nat.reduceMul, Int.reduceToNat, entry, List.length_cons, List.length_nil, List.zipIdx_cons, List.zipIdx_nil, Arg.av]; rfl) (by repeat' first | exact trivial | constructor) ?_
  refine Holds.step (Px := px) (T := TT) (ρ := fun _ => []) TTe (by simp (maxSteps := 100000) (disch := omega) only [go_sem, V.isAgg, V.flat, ↓reduceIte, Nat.reduceAdd, Nat.reduceSub, Nat.reduceLT, Nat.reduceEqDiff, reduceCtorEq, Nat.reduceLeDiff, Nat.reduceBEq, Nat.reduceMul, Int.reduceToNat, words, elt23]; rfl) (by repeat' first | exact trivial | constructor) ?_
  exact Holds.ret ⟨_, [], rfl, ⟨⟨by rw [longL]; exact congrArg V.bool (decide_eq_decide.2 (by omega)), fun h => h⟩, trivial⟩, by simp [R.names, R.mems, R.blks], by simp, rfl⟩

theorem index118_ok (ls : List (List Int)) (hl : ls.length < 1000000000) (hls : ∀ l ∈ ls, l.length < 1000000000) : FnOk Tryz.prog 116 [.v (natsV ls), .fn 113 []] [.v true (.int .i64 (idxF 0 ls))] := by
  refine FnOk.of Tryz.func116 rfl rfl fun cx w0 => ?_
  rw [show Tryz.f116.ntmps = 19 from rfl]
  refine Holds.step (Px := px) (T := TT) (ρ := fun _ => []) TTe (by simp (maxSteps := 100000) (disch := omega) only [go_sem, V.isAgg, V.flat, ↓reduceIte, Nat.reduceAdd, Nat.reduceSub, Nat.reduceLT, Nat.reduceEqDiff, reduceCtorEq, Nat.reduceLeDiff, Nat.reduceBEq, Nat.reduceMul, Int.reduceToNat, entry, List.length_cons, List.length_nil, List.zipIdx_cons, List.zipIdx_nil, Arg.av, Arg.avs, natsV]; rfl) (by repeat' first | exact trivial | constructor) ?_
  refine Holds.next (fun σ => idxF 0 ls = -1 ∧ ∀ a w, Rel cx w0 σ a w → Rel cx w0 { nt := 19, env := [], mem := [] } a w) ?_ ?_
  · refine Holds.step (Px := px) (T := TT) (ρ := fun _ => []) TTe (by simp (maxSteps := 100000) (disch := omega) only [go_sem, V.isAgg, V.flat, ↓reduceIte, Nat.reduceAdd, Nat.reduceSub, Nat.reduceLT, Nat.reduceEqDiff, reduceCtorEq, Nat.reduceLeDiff, Nat.reduceBEq, Nat.reduceMul, Int.reduceToNat, elt25]; rfl) (by repeat' first | exact trivial | constructor) ?_
    refine Holds.loopB (fun k : Nat => { nt := 19, env := [(8, .v true (.int .i64 (k : Int))), (7, .v true (.int .i64 (ls.length : Int))), (0, .v false (natsV ls)), (1, .fn 113 [])], mem := [] })
      (fun k => k ≤ ls.length ∧ idxF 0 ls = idxF k (ls.drop k)) (fun k => ls.length - k) 0 ⟨Nat.zero_le _, rfl⟩ (fun a w h => Rel.keep [8, 7, 0, 1] [] h) ?_
    rintro k ⟨hk, ht⟩
    by_cases hend : k = ls.length
    · refine Holds.step (Px := px) (T := TT) (ρ := fun _ => []) TTe (by simp (maxSteps := 100000) (disch := omega) only [go_sem, V.isAgg, V.flat, ↓reduceIte, Nat.reduceAdd, Nat.reduceSub, Nat.reduceLT, Nat.reduceEqDiff, reduceCtorEq, Nat.reduceLeDiff, Nat.reduceBEq, Nat.reduceMul, Int.reduceToNat]; rfl) (by repeat' first | exact trivial | constructor) ?_
      refine Holds.seq ?_
      refine Holds.condF rfl (Holds.exit ⟨rfl, ?_, fun a w h => Rel.keep [] [] h⟩)
      rw [ht, hend, List.drop_length]; rfl
    · have hkl : k < ls.length := by omega
      have hm : ls.getD k [] ∈ ls := by rw [List.getD_eq_getElem?_getD, List.getElem?_eq_getElem hkl]; exact List.getElem_mem hkl
      have hlm := hls _ hm
      have hdk : ls.drop k = ls.getD k [] :: ls.drop (k + 1) := by rw [List.drop_eq_getElem_cons hkl, List.getD_eq_getElem?_getD, List.getElem?_eq_getElem hkl]; rfl
      rw [hdk, idxF] at ht
      refine Holds.step (Px := px) (T := TT) (ρ := fun _ => []) TTe (by simp (maxSteps := 100000) (disch := omega) only [go_sem, V.isAgg, V.flat, ↓reduceIte, Nat.reduceAdd, Nat.reduceSub, Nat.reduceLT, Nat.reduceEqDiff, reduceCtorEq, Nat.reduceLeDiff, Nat.reduceBEq, Nat.reduceMul, Int.reduceToNat]; rfl) (by repeat' first | exact trivial | constructor) ?_
      refine Holds.seq ?_
      refine Holds.condT rfl (Holds.skip ?_)
      refine Holds.next (fun σ => idxF 0 ls = idxF (k + 1) (ls.drop (k + 1)) ∧ ∀ a w, Rel cx w0 σ a w → Rel cx w0 { nt := 19, env := [(8, .v true (.int .i64 (k : Int))), (7, .v true (.int .i64 (ls.length : Int))), (0, .v false (natsV ls)), (1, .fn 113 [])], mem := [] } a w) ?_ ?_
      · refine Holds.blockN ?_
        refine Holds.step (Px := px) (T := TT) (ρ := fun _ => []) TTe (by simp (maxSteps := 100000) (disch := omega) only [go_sem, V.isAgg, V.flat, ↓reduceIte, Nat.reduceAdd, Nat.reduceSub, Nat.reduceLT, Nat.reduceEqDiff, reduceCtorEq, Nat.reduceLeDiff, Nat.reduceBEq, Nat.reduceMul, Int.reduceToNat]; rfl) (by repeat' first | exact trivial | constructor) ?_
        refine Holds.step (Px := px) (T := TT) (ρ := fun _ => [.v true (.bool (longL (ls.getD k [])))]) TTe (by simp (maxSteps := 100000) (disch := omega) only [go_sem, V.isAgg, V.flat, ↓reduceIte, Nat.reduceAdd, Nat.reduceSub, Nat.reduceLT, Nat.reduceEqDiff, reduceCtorEq, Nat.reduceLeDiff, Nat.reduceBEq, Nat.reduceMul, Int.reduceToNat, natsV, esz25, tsz23, agg23, get_mapL hkl, words, calleeA, capArg, knotA, capArgs, toArgs, toArg, callA, R.res, R.mems, R.blks, R.av, R.names, R.nw]; rfl) (by first | exact long115_ok _ hlm | (repeat' first | exact trivial | exact long115_ok _ hlm | constructor)) ?_
        cases hb : longL (ls.getD k [])
        · rw [hb, if_neg (by simp)] at ht
          refine Holds.condF (nw := true) (by rfl) (Holds.skip ⟨ht, fun a w h => Rel.keep [8, 7, 0, 1] [] h⟩)
        · rw [hb, if_pos rfl] at ht
          refine Holds.condT (nw := true) (by rfl) ?_
          refine Holds.step (Px := px) (T := TT) (ρ := fun _ => []) TTe (by simp (maxSteps := 100000) (disch := omega) only [go_sem, V.isAgg, V.flat, ↓reduceIte, Nat.reduceAdd, Nat.reduceSub, Nat.reduceLT, Nat.reduceEqDiff, reduceCtorEq, Nat.reduceLeDiff, Nat.reduceBEq, Nat.reduceMul, Int.reduceToNat]; rfl) (by repeat' first | exact trivial | constructor) ?_
          rw [ht]
          exact Holds.ret ⟨_, [], rfl, ⟨⟨rfl, fun h => h⟩, trivial⟩, by simp [R.names, R.mems, R.blks], by simp, rfl⟩
      · rintro σ ⟨hb, hσ⟩
        refine Holds.from hσ ?_
        refine Holds.region (Px := px) (T := TT) (ρ := fun _ => []) TTe (by simp (maxSteps := 100000) (disch := omega) only [go_sem, V.isAgg, V.flat, ↓reduceIte, Nat.reduceAdd, Nat.reduceSub, Nat.reduceLT, Nat.reduceEqDiff, reduceCtorEq, Nat.reduceLeDiff, Nat.reduceBEq, Nat.reduceMul, Int.reduceToNat]; rfl) (by repeat' first | exact trivial | constructor) ?_
        exact ⟨k + 1, ⟨by omega, hb⟩, (show ls.length - (k + 1) < ls.length - k by omega), fun a w h => Rel.keep [8, 7, 0, 1] [] h⟩
  · rintro σ ⟨he, hσ⟩
    rw [he]
    refine Holds.from hσ ?_
    refine Holds.step (Px := px) (T := TT) (ρ := fun _ => []) TTe (by simp (maxSteps := 100000) (disch := omega) only [go_sem, V.isAgg, V.flat, ↓reduceIte, Nat.reduceAdd, Nat.reduceSub, Nat.reduceLT, Nat.reduceEqDiff, reduceCtorEq, Nat.reduceLeDiff, Nat.reduceBEq, Nat.reduceMul, Int.reduceToNat]; rfl) (by repeat' first | exact trivial | constructor) ?_
    exact Holds.ret ⟨_, [], rfl, ⟨⟨rfl, fun h => h⟩, trivial⟩, by simp [R.names, R.mems, R.blks], by simp, rfl⟩

theorem contains114_ok (ls : List (List Int)) (hl : ls.length < 1000000000) (hls : ∀ l ∈ ls, l.length < 1000000000) : FnOk Tryz.prog 112 [.v (natsV ls), .fn 113 []] [.v true (.bool (ls.any longL))] := by
  refine FnOk.of Tryz.func112 rfl rfl fun cx w0 => ?_
  rw [show Tryz.f112.ntmps = 9 from rfl]
  refine Holds.step (Px := px) (T := TT) (ρ := fun _ => []) TTe (by simp (maxSteps := 100000) (disch := omega) only [go_sem, V.isAgg, V.flat, ↓reduceIte, Nat.reduceAdd, Nat.reduceSub, Nat.reduceLT, Nat.reduceEqDiff, reduceCtorEq, Nat.reduceLeDiff, Nat.reduceBEq, Nat.reduceMul, Int.reduceToNat, entry, List.length_cons, List.length_nil, List.zipIdx_cons, List.zipIdx_nil, Arg.av, Arg.avs]; rfl) (by repeat' first | exact trivial | constructor) ?_
  refine Holds.step (Px := px) (T := TT) (ρ := fun _ => [.v true (.int .i64 (idxF 0 ls))]) TTe (by simp (maxSteps := 100000) (disch := omega) only [go_sem, V.isAgg, V.flat, ↓reduceIte, Nat.reduceAdd, Nat.reduceSub, Nat.reduceLT, Nat.reduceEqDiff, reduceCtorEq, Nat.reduceLeDiff, Nat.reduceBEq, Nat.reduceMul, Int.reduceToNat, natsV, calleeA, capArg, knotA, capArgs, toArgs, toArg, callA, R.res, R.mems, R.blks, R.av, R.names, R.nw]; rfl) (by exact by have := index118_ok ls hl hls; rwa [natsV] at this) ?_
  exact Holds.ret ⟨_, [], rfl, ⟨⟨by rw [← idxF_ge ls 0], fun h => h⟩, trivial⟩, by simp [R.names, R.mems, R.blks], by simp, rfl⟩

theorem long126_ok (l : List Int) (hl : l.length < 1000000000) : FnOk Tryz.prog 124 [.v (words l)] [.v true (.bool (longL l))] := by
  refine FnOk.of Tryz.func124 rfl rfl fun cx w0 => ?_
  rw [show Tryz.f124.ntmps = 6 from rfl]
  refine Holds.step (Px := px) (T := TT) (ρ := fun _ => []) TTe (by simp (maxSteps := 100000) (disch := omega) only [go_sem, V.isAgg, V.flat, ↓reduceIte, Nat.reduceAdd, Nat.reduceSub, Nat.reduceLT, Nat.reduceEqDiff, reduceCtorEq, Nat.reduceLeDiff, Nat.reduceBEq, Nat.reduceMul, Int.reduceToNat, entry, List.length_cons, List.length_nil, List.zipIdx_cons, List.zipIdx_nil, Arg.av]; rfl) (by repeat' first | exact trivial | constructor) ?_
  refine Holds.step (Px := px) (T := TT) (ρ := fun _ => []) TTe (by simp (maxSteps := 100000) (disch := omega) only [go_sem, V.isAgg, V.flat, ↓reduceIte, Nat.reduceAdd, Nat.reduceSub, Nat.reduceLT, Nat.reduceEqDiff, reduceCtorEq, Nat.reduceLeDiff, Nat.reduceBEq, Nat.reduceMul, Int.reduceToNat, words, elt22]; rfl) (by repeat' first | exact trivial | constructor) ?_
  exact Holds.ret ⟨_, [], rfl, ⟨⟨by rw [longL]; exact congrArg V.bool (decide_eq_decide.2 (by omega)), fun h => h⟩, trivial⟩, by simp [R.names, R.mems, R.blks], by simp, rfl⟩

theorem index127_ok (ls : List (List Int)) (hl : ls.length < 1000000000) (hls : ∀ l ∈ ls, l.length < 1000000000) : FnOk Tryz.prog 125 [.v (natsV ls), .fn 124 []] [.v true (.int .i64 (idxF 0 ls))] := by
  refine FnOk.of Tryz.func125 rfl rfl fun cx w0 => ?_
  rw [show Tryz.f125.ntmps = 19 from rfl]
  refine Holds.step (Px := px) (T := TT) (ρ := fun _ => []) TTe (by simp (maxSteps := 100000) (disch := omega) only [go_sem, V.isAgg, V.flat, ↓reduceIte, Nat.reduceAdd, Nat.reduceSub, Nat.reduceLT, Nat.reduceEqDiff, reduceCtorEq, Nat.reduceLeDiff, Nat.reduceBEq, Nat.reduceMul, Int.reduceToNat, entry, List.length_cons, List.length_nil, List.zipIdx_cons, List.zipIdx_nil, Arg.av, Arg.avs, natsV]; rfl) (by repeat' first | exact trivial | constructor) ?_
  refine Holds.next (fun σ => idxF 0 ls = -1 ∧ ∀ a w, Rel cx w0 σ a w → Rel cx w0 { nt := 19, env := [], mem := [] } a w) ?_ ?_
  · refine Holds.step (Px := px) (T := TT) (ρ := fun _ => []) TTe (by simp (maxSteps := 100000) (disch := omega) only [go_sem, V.isAgg, V.flat, ↓reduceIte, Nat.reduceAdd, Nat.reduceSub, Nat.reduceLT, Nat.reduceEqDiff, reduceCtorEq, Nat.reduceLeDiff, Nat.reduceBEq, Nat.reduceMul, Int.reduceToNat, elt144]; rfl) (by repeat' first | exact trivial | constructor) ?_
    refine Holds.loopB (fun k : Nat => { nt := 19, env := [(8, .v true (.int .i64 (k : Int))), (7, .v true (.int .i64 (ls.length : Int))), (0, .v false (natsV ls)), (1, .fn 124 [])], mem := [] })
      (fun k => k ≤ ls.length ∧ idxF 0 ls = idxF k (ls.drop k)) (fun k => ls.length - k) 0 ⟨Nat.zero_le _, rfl⟩ (fun a w h => Rel.keep [8, 7, 0, 1] [] h) ?_
    rintro k ⟨hk, ht⟩
    by_cases hend : k = ls.length
    · refine Holds.step (Px := px) (T := TT) (ρ := fun _ => []) TTe (by simp (maxSteps := 100000) (disch := omega) only [go_sem, V.isAgg, V.flat, ↓reduceIte, Nat.reduceAdd, Nat.reduceSub, Nat.reduceLT, Nat.reduceEqDiff, reduceCtorEq, Nat.reduceLeDiff, Nat.reduceBEq, Nat.reduceMul, Int.reduceToNat]; rfl) (by repeat' first | exact trivial | constructor) ?_
      refine Holds.seq ?_
      refine Holds.condF rfl (Holds.exit ⟨rfl, ?_, fun a w h => Rel.keep [] [] h⟩)
      rw [ht, hend, List.drop_length]; rfl
    · have hkl : k < ls.length := by omega
      have hm : ls.getD k [] ∈ ls := by rw [List.getD_eq_getElem?_getD, List.getElem?_eq_getElem hkl]; exact List.getElem_mem hkl
      have hlm := hls _ hm
      have hdk : ls.drop k = ls.getD k [] :: ls.drop (k + 1) := by rw [List.drop_eq_getElem_cons hkl, List.getD_eq_getElem?_getD, List.getElem?_eq_getElem hkl]; rfl
      rw [hdk, idxF] at ht
      refine Holds.step (Px := px) (T := TT) (ρ := fun _ => []) TTe (by simp (maxSteps := 100000) (disch := omega) only [go_sem, V.isAgg, V.flat, ↓reduceIte, Nat.reduceAdd, Nat.reduceSub, Nat.reduceLT, Nat.reduceEqDiff, reduceCtorEq, Nat.reduceLeDiff, Nat.reduceBEq, Nat.reduceMul, Int.reduceToNat]; rfl) (by repeat' first | exact trivial | constructor) ?_
      refine Holds.seq ?_
      refine Holds.condT rfl (Holds.skip ?_)
      refine Holds.next (fun σ => idxF 0 ls = idxF (k + 1) (ls.drop (k + 1)) ∧ ∀ a w, Rel cx w0 σ a w → Rel cx w0 { nt := 19, env := [(8, .v true (.int .i64 (k : Int))), (7, .v true (.int .i64 (ls.length : Int))), (0, .v false (natsV ls)), (1, .fn 124 [])], mem := [] } a w) ?_ ?_
      · refine Holds.blockN ?_
        refine Holds.step (Px := px) (T := TT) (ρ := fun _ => []) TTe (by simp (maxSteps := 100000) (disch := omega) only [go_sem, V.isAgg, V.flat, ↓reduceIte, Nat.reduceAdd, Nat.reduceSub, Nat.reduceLT, Nat.reduceEqDiff, reduceCtorEq, Nat.reduceLeDiff, Nat.reduceBEq, Nat.reduceMul, Int.reduceToNat]; rfl) (by repeat' first | exact trivial | constructor) ?_
        refine Holds.step (Px := px) (T := TT) (ρ := fun _ => [.v true (.bool (longL (ls.getD k [])))]) TTe (by simp (maxSteps := 100000) (disch := omega) only [go_sem, V.isAgg, V.flat, ↓reduceIte, Nat.reduceAdd, Nat.reduceSub, Nat.reduceLT, Nat.reduceEqDiff, reduceCtorEq, Nat.reduceLeDiff, Nat.reduceBEq, Nat.reduceMul, Int.reduceToNat, natsV, esz144, tsz22, agg22, get_mapL hkl, words, calleeA, capArg, knotA, capArgs, toArgs, toArg, callA, R.res, R.mems, R.blks, R.av, R.names, R.nw]; rfl) (by first | exact long126_ok _ hlm | (repeat' first | exact trivial | exact long126_ok _ hlm | constructor)) ?_
        cases hb : longL (ls.getD k [])
        · rw [hb, if_neg (by simp)] at ht
          refine Holds.condF (nw := true) (by rfl) (Holds.skip ⟨ht, fun a w h => Rel.keep [8, 7, 0, 1] [] h⟩)
        · rw [hb, if_pos rfl] at ht
          refine Holds.condT (nw := true) (by rfl) ?_
          refine Holds.step (Px := px) (T := TT) (ρ := fun _ => []) TTe (by simp (maxSteps := 100000) (disch := omega) only [go_sem, V.isAgg, V.flat, ↓reduceIte, Nat.reduceAdd, Nat.reduceSub, Nat.reduceLT, Nat.reduceEqDiff, reduceCtorEq, Nat.reduceLeDiff, Nat.reduceBEq, Nat.reduceMul, Int.reduceToNat]; rfl) (by repeat' first | exact trivial | constructor) ?_
          rw [ht]
          exact Holds.ret ⟨_, [], rfl, ⟨⟨rfl, fun h => h⟩, trivial⟩, by simp [R.names, R.mems, R.blks], by simp, rfl⟩
      · rintro σ ⟨hb, hσ⟩
        refine Holds.from hσ ?_
        refine Holds.region (Px := px) (T := TT) (ρ := fun _ => []) TTe (by simp (maxSteps := 100000) (disch := omega) only [go_sem, V.isAgg, V.flat, ↓reduceIte, Nat.reduceAdd, Nat.reduceSub, Nat.reduceLT, Nat.reduceEqDiff, reduceCtorEq, Nat.reduceLeDiff, Nat.reduceBEq, Nat.reduceMul, Int.reduceToNat]; rfl) (by repeat' first | exact trivial | constructor) ?_
        exact ⟨k + 1, ⟨by omega, hb⟩, (show ls.length - (k + 1) < ls.length - k by omega), fun a w h => Rel.keep [8, 7, 0, 1] [] h⟩
  · rintro σ ⟨he, hσ⟩
    rw [he]
    refine Holds.from hσ ?_
    refine Holds.step (Px := px) (T := TT) (ρ := fun _ => []) TTe (by simp (maxSteps := 100000) (disch := omega) only [go_sem, V.isAgg, V.flat, ↓reduceIte, Nat.reduceAdd, Nat.reduceSub, Nat.reduceLT, Nat.reduceEqDiff, reduceCtorEq, Nat.reduceLeDiff, Nat.reduceBEq, Nat.reduceMul, Int.reduceToNat]; rfl) (by repeat' first | exact trivial | constructor) ?_
    exact Holds.ret ⟨_, [], rfl, ⟨⟨rfl, fun h => h⟩, trivial⟩, by simp [R.names, R.mems, R.blks], by simp, rfl⟩

theorem contains125_ok (ls : List (List Int)) (hl : ls.length < 1000000000) (hls : ∀ l ∈ ls, l.length < 1000000000) : FnOk Tryz.prog 123 [.v (natsV ls), .fn 124 []] [.v true (.bool (ls.any longL))] := by
  refine FnOk.of Tryz.func123 rfl rfl fun cx w0 => ?_
  rw [show Tryz.f123.ntmps = 9 from rfl]
  refine Holds.step (Px := px) (T := TT) (ρ := fun _ => []) TTe (by simp (maxSteps := 100000) (disch := omega) only [go_sem, V.isAgg, V.flat, ↓reduceIte, Nat.reduceAdd, Nat.reduceSub, Nat.reduceLT, Nat.reduceEqDiff, reduceCtorEq, Nat.reduceLeDiff, Nat.reduceBEq, Nat.reduceMul, Int.reduceToNat, entry, List.length_cons, List.length_nil, List.zipIdx_cons, List.zipIdx_nil, Arg.av, Arg.avs]; rfl) (by repeat' first | exact trivial | constructor) ?_
  refine Holds.step (Px := px) (T := TT) (ρ := fun _ => [.v true (.int .i64 (idxF 0 ls))]) TTe (by simp (maxSteps := 100000) (disch := omega) only [go_sem, V.isAgg, V.flat, ↓reduceIte, Nat.reduceAdd, Nat.reduceSub, Nat.reduceLT, Nat.reduceEqDiff, reduceCtorEq, Nat.reduceLeDiff, Nat.reduceBEq, Nat.reduceMul, Int.reduceToNat, natsV, calleeA, capArg, knotA, capArgs, toArgs, toArg, callA, R.res, R.mems, R.blks, R.av, R.names, R.nw]; rfl) (by exact by have := index127_ok ls hl hls; rwa [natsV] at this) ?_
  exact Holds.ret ⟨_, [], rfl, ⟨⟨by rw [← idxF_ge ls 0], fun h => h⟩, trivial⟩, by simp [R.names, R.mems, R.blks], by simp, rfl⟩

theorem nlarge_ok (ls : List (List Int)) (hl : ls.length < 1000000000) (hls : ∀ l ∈ ls, l.length < 1000000000) : FnOk Tryz.prog 107 [.v (natsV ls)] [.v true (.bool (ls.any longL))] := by
  refine FnOk.of Tryz.func107 rfl rfl fun cx w0 => ?_
  rw [show Tryz.f107.ntmps = 5 from rfl]
  refine Holds.step (Px := px) (T := TT) (ρ := fun _ => []) TTe (by simp (maxSteps := 100000) (disch := omega) only [go_sem, V.isAgg, V.flat, ↓reduceIte, Nat.reduceAdd, Nat.reduceSub, Nat.reduceLT, Nat.reduceEqDiff, reduceCtorEq, Nat.reduceLeDiff, Nat.reduceBEq, Nat.reduceMul, Int.reduceToNat, entry, List.length_cons, List.length_nil, List.zipIdx_cons, List.zipIdx_nil, Arg.av, Arg.avs]; rfl) (by repeat' first | exact trivial | constructor) ?_
  refine Holds.step (Px := px) (T := TT) (ρ := fun _ => [.v true (.bool (ls.any longL))]) TTe (by simp (maxSteps := 100000) (disch := omega) only [go_sem, V.isAgg, V.flat, ↓reduceIte, Nat.reduceAdd, Nat.reduceSub, Nat.reduceLT, Nat.reduceEqDiff, reduceCtorEq, Nat.reduceLeDiff, Nat.reduceBEq, Nat.reduceMul, Int.reduceToNat, natsV, calleeA, capArg, knotA, capArgs, toArgs, toArg, callA, R.res, R.mems, R.blks, R.av, R.names, R.nw]; rfl) (by exact by have := contains114_ok ls hl hls; rwa [natsV] at this) ?_
  exact Holds.ret ⟨_, [], rfl, ⟨⟨rfl, fun h => h⟩, trivial⟩, by simp [R.names, R.mems, R.blks], by simp, rfl⟩

theorem wfew_ok (ls : List (List Int)) (hl : ls.length < 1000000000) (hls : ∀ l ∈ ls, l.length < 1000000000) : FnOk Tryz.prog 119 [.v (natsV ls)] [.v true (.bool !ls.any longL)] := by
  refine FnOk.of Tryz.func119 rfl rfl fun cx w0 => ?_
  rw [show Tryz.f119.ntmps = 6 from rfl]
  refine Holds.step (Px := px) (T := TT) (ρ := fun _ => []) TTe (by simp (maxSteps := 100000) (disch := omega) only [go_sem, V.isAgg, V.flat, ↓reduceIte, Nat.reduceAdd, Nat.reduceSub, Nat.reduceLT, Nat.reduceEqDiff, reduceCtorEq, Nat.reduceLeDiff, Nat.reduceBEq, Nat.reduceMul, Int.reduceToNat, entry, List.length_cons, List.length_nil, List.zipIdx_cons, List.zipIdx_nil, Arg.av, Arg.avs]; rfl) (by repeat' first | exact trivial | constructor) ?_
  refine Holds.step (Px := px) (T := TT) (ρ := fun _ => [.v true (.bool (ls.any longL))]) TTe (by simp (maxSteps := 100000) (disch := omega) only [go_sem, V.isAgg, V.flat, ↓reduceIte, Nat.reduceAdd, Nat.reduceSub, Nat.reduceLT, Nat.reduceEqDiff, reduceCtorEq, Nat.reduceLeDiff, Nat.reduceBEq, Nat.reduceMul, Int.reduceToNat, natsV, calleeA, capArg, knotA, capArgs, toArgs, toArg, callA, R.res, R.mems, R.blks, R.av, R.names, R.nw]; rfl) (by first | exact ⟨trivial, by have := contains125_ok ls hl hls; rwa [natsV] at this, trivial, trivial, trivial⟩ | (repeat' first | exact trivial | exact trivial | exact by have := contains125_ok ls hl hls; rwa [natsV] at this | exact trivial | exact trivial | exact trivial | constructor)) ?_
  exact Holds.ret ⟨_, [], rfl, ⟨⟨rfl, fun h => h⟩, trivial⟩, by simp [R.names, R.mems, R.blks], by simp, rfl⟩
end Go.Proofs.YtjmclobbfabnpaaGreat.L
