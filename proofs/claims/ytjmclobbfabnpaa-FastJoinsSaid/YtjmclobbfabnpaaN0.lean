/-
  Rd
-/
import Derived.Test.YtjmclobbfabnpaaJ9
set_option linter.unusedSimpArgs false
set_option linter.unusedVariables false
/-
  The law FastJoined: the walk.
-/
namespace Go.Proofs.Ytjmclobbfabnpaa.L
open Go Go.RowKit Go.Proofs
attribute [local go_sem] evalOps_nil evalOps_cons runW_t runW_f runE_s runP_s wantA evalOp effOp letters okDst coreA St.opv St.get St.at look constA St.put St.upd St.set decide_true List.all_nil List.all_cons Bool.and_true Bool.true_and and_self and_true true_and if_true if_false true_or Int.sub_zero List.nil_append List.cons_append List.append_nil Option.isSome_some List.getElem?_toArray List.getElem?_cons_succ List.getElem?_cons_zero Option.bind_some Option.map_some Option.map_none beq_self_eq_true Bool.false_beq Bool.true_beq Bool.not_true Bool.not_false Bool.false_eq_true cond_true cond_false binA binI List.map_cons List.map_nil boundA List.length_nil List.length_cons Nat.zero_mul Nat.one_mul Nat.mul_one Nat.zero_add Nat.add_zero Nat.zero_le Option.toList St.freshB AV.ment AV.ments Blk.ment V.sizes Nat.lt_add_one Bool.or_true Bool.true_or Bool.or_false Bool.false_or Bool.or_self if_pos if_neg decide_false decide_eq_true decide_eq_false wrap_i64 Int.toNat_natCast minA maxA Int.natCast_add Int.cast_ofNat_Int Option.isSome_none false_implies true_implies forall_const List.drop_zero Int.toNat_zero Int.add_sub_cancel lenA sliceA loadA indexAddrA partA fitsT V.atP V.offP V.size List.length_map List.getElem?_map Int.toNat_natCast_add_one Int.ofNat_eq_natCast TY calleeA capArg knotA capArgs toArgs toArg callA R.res R.mems R.blks R.av R.names R.nw invokeA storeA storeV fieldAddrA liveB V.off V.offs V.setP List.set_cons_zero List.set_cons_succ buildA buildP partsA appendA srcA copyA boxOk makeA AV.pure List.take_succ_cons List.take_zero nilA words entry List.zipIdx_cons List.zipIdx_nil Arg.av Arg.avs

/-! A table in which a number's zero value is an empty row. -/
theorem z23v : ZOk 23 (.v true (.sl 1 [])) := z_v (by kernel_rfl) (by kernel_rfl) (by kernel_rfl) (by rfl)
def ztab3 : TypeId → Option AV := fun t => match t with
  | 23 => some (.v true (.sl 1 []))
  | _ => none
theorem ztab3_ok (t : TypeId) (x : AV) (h : ztab3 t = some x) : ZOk t x := by
  unfold ztab3 at h
  split at h
  · cases h; exact z23v
  · cases h
def px3 : Px Try.prog where
  zt := ztab3
  mt := mtab
  fz := fun _ => false
  mok := mtab_ok
  zok := ztab3_ok
def TT3 : Tab := ⟨ztab3, mtab, fun _ => false⟩
theorem TT3e : TT3 = px3.tab := rfl
theorem zt3_23 : TT3.zt 23 = some (.v true (.sl 1 [])) := rfl


theorem jv_wS (ls : List (List Int)) (n : Nat) : ∀ k, jv ls n k = wS (fun j => val (ls.getD j [])) n k
  | 0 => rfl
  | k + 1 => by rw [jv, wS, jv_wS ls n k]

theorem lst0 (N : Nat) : (lstS (fun _ => 0) N).map words = List.replicate N (.sl 1 []) := by
  apply List.ext_getElem?
  intro i
  rw [lstS, List.getElem?_map, List.getElem?_map]
  by_cases hi : i < N
  · rw [List.getElem?_range hi, List.getElem?_replicate, if_pos hi]; rfl
  · rw [List.getElem?_eq_none (by simp; omega), List.getElem?_eq_none (by simp; omega)]; rfl

theorem get_lst {S : Nat → Nat} {N j : Nat} (h : j < N) : (lstS S N)[j]? = some (digs (S j)) := by
  rw [lstS, List.getElem?_map, List.getElem?_range h]; rfl

/-- Split and Join of few words. -/
theorem joined_few (x : List Int) (m : Nat) (hm : 0 < m) (hm5 : m ≤ 5) (hx : x.length ≤ 20) (ox : okW x) :
    FnOk Try.prog 13 [.v (words x), .v (.int .i64 m)] [.v true (natsV (pcs (trimL x) m (pcsM (trimL x) m))), .v true (.int .i64 0)] ∧
    FnOk Try.prog 39 [.v (natsV (pcs (trimL x) m (pcsM (trimL x) m))), .v (.int .i64 m)] [.v true (words (digs (val x))), .v true (.int .i64 0)] := by
  have hs := Split_ok x m (by omega)
  have e : splitR x m = (pcs (trimL x) m (pcsM (trimL x) m), 0) := by rw [splitR, if_neg (by omega), if_neg (by omega)]; rfl
  rw [e] at hs
  refine ⟨hs, ?_⟩
  have ht := trimL_len x
  have oy := trimL_ok ox
  have hv := val_trim x
  obtain ⟨y, hy⟩ : ∃ y, y = trimL x := ⟨_, rfl⟩
  rw [← hy] at ht oy hv ⊢
  have hM := pcsM_le (y := y) hm
  obtain ⟨M, hMe⟩ : ∃ M, M = pcsM y m := ⟨_, rfl⟩
  have hall := jv_all (y := y) (n := m) hm
  rw [← hMe] at hM hall ⊢
  have hlen := pcs_len y m M
  have hmem : ∀ l ∈ pcs y m M, l.length ≤ 20 ∧ okW l := by
    intro l hl
    rw [pcs] at hl
    obtain ⟨j, _, rfl⟩ := List.mem_map.1 hl
    refine ⟨?_, trimL_ok (okW_take (okW_drop oy _) _)⟩
    have := trimL_len ((y.drop (j * m)).take m)
    rw [List.length_take, List.length_drop] at this
    omega
  have hjl : ∀ k, k ≤ M → (digs (jv (pcs y m M) m k)).length ≤ 20 := fun k hk => by
    rw [jv_pcs k hk, ← trim_digs (okW_take oy _)]
    have := trimL_len (y.take (k * m))
    rw [List.length_take] at this
    omega
  have hJ := Join_ok (pcs y m M) m (by omega) (by omega) (by omega) (fun l hl => ⟨by have := (hmem l hl).1; omega, (hmem l hl).2⟩)
    (fun k hk _ => by
      rw [hlen] at hk
      have : k * m ≤ 20 * 5 := Nat.mul_le_mul (by omega) hm5
      omega) (fun k hk => by have := hjl k (by omega); omega) (by rw [hlen]; have := hjl M (Nat.le_refl _); omega)
  rw [hlen, hall, hv] at hJ
  exact hJ

theorem FastJoined_ok (X Y : List Int) (n : Int) (oX : okW X) (oY : okW Y) : FnOk Try.prog 10 [.v (words X), .v (words Y), .v (.int .i64 n)] [.v true (.bool true)] := by
  have ikd31 : ikd Try.prog 31 = some .u64 := by kernel_rfl
  have ikd3 : ikd Try.prog 3 = some .i64 := by kernel_rfl
  have und3 : (Try.prog.underlying 3).isSome = true := by kernel_rfl
  have und31 : (Try.prog.underlying 31).isSome = true := by kernel_rfl
  have hf1 := few_ok X 20 (by omega)
  have hf2 := few_ok Y 20 (by omega)
  obtain ⟨x, hx⟩ : ∃ x, x = X.take 20 := ⟨_, rfl⟩
  obtain ⟨y, hy⟩ : ∃ y, y = Y.take 20 := ⟨_, rfl⟩
  have ox : okW x := by rw [hx]; exact okW_take oX 20
  have oy : okW y := by rw [hy]; exact okW_take oY 20
  have hxl : x.length ≤ 20 := by rw [hx, List.length_take]; omega
  have hyl : y.length ≤ 20 := by rw [hy, List.length_take]; omega
  rw [← hx] at hf1
  rw [← hy] at hf2
  -- the length of pieces
  obtain ⟨j, hj⟩ : ∃ j : Nat, j = ((n % 18446744073709551616).tmod 5).toNat := ⟨_, rfl⟩
  have hj1 : (n % 18446744073709551616).tmod 5 = (n % 18446744073709551616) % 5 := Int.tmod_eq_emod_of_nonneg (by omega)
  have hjm : (n % 18446744073709551616).tmod 5 = j := by omega
  obtain ⟨m, hm⟩ : ∃ m : Nat, m = j + 1 := ⟨_, rfl⟩
  have hmj : 1 + (j : Int) = m := by omega
  obtain ⟨s1, j1⟩ := joined_few x m (by omega) (by omega) hxl ox
  obtain ⟨s2, _⟩ := joined_few y m (by omega) (by omega) hyl oy
  -- the pieces
  have ux := trimL_len x
  have uy := trimL_len y
  have hMu := pcsM_le (y := trimL x) (n := m) (by omega)
  have hKu := pcsM_le (y := trimL y) (n := m) (by omega)
  have ap := jv_all (y := trimL x) (n := m) (by omega)
  have aq := jv_all (y := trimL y) (n := m) (by omega)
  rw [val_trim] at ap aq
  have lenOf : ∀ (z : List Int) (K i : Nat), i < K → ((pcs z m K).getD i []).length ≤ 5 := fun z K i hi => by
    rw [pcs_getD hi]
    have := trimL_len ((z.drop (i * m)).take m)
    rw [List.length_take] at this
    omega
  have okOf : ∀ (z : List Int) (K i : Nat), okW z → i < K → okW ((pcs z m K).getD i []) := fun z K i oz hi => by
    rw [pcs_getD hi]
    exact trimL_ok (okW_take (okW_drop oz _) _)
  have lp := lenOf (trimL x) (pcsM (trimL x) m)
  have lq := lenOf (trimL y) (pcsM (trimL y) m)
  have op := fun i => okOf (trimL x) (pcsM (trimL x) m) i (trimL_ok ox)
  have oq := fun i => okOf (trimL y) (pcsM (trimL y) m) i (trimL_ok oy)
  have lenp := pcs_len (trimL x) m (pcsM (trimL x) m)
  have lenq := pcs_len (trimL y) m (pcsM (trimL y) m)
  obtain ⟨M, hM⟩ : ∃ M, M = pcsM (trimL x) m := ⟨_, rfl⟩
  obtain ⟨K, hK⟩ : ∃ K, K = pcsM (trimL y) m := ⟨_, rfl⟩
  rw [← hM] at s1 j1 hMu ap lp op lenp
  rw [← hK] at s2 hKu aq lq oq lenq
  obtain ⟨p, hp⟩ : ∃ p, p = pcs (trimL x) m M := ⟨_, rfl⟩
  obtain ⟨q, hq⟩ : ∃ q, q = pcs (trimL y) m K := ⟨_, rfl⟩
  rw [← hp] at s1 j1 ap lp op lenp
  rw [← hq] at s2 aq lq oq lenq
  rw [jv_wS] at ap aq
  obtain ⟨ps, hps⟩ : ∃ ps : Nat → Nat, ps = fun j => val (p.getD j []) := ⟨_, rfl⟩
  obtain ⟨qs, hqs⟩ : ∃ qs : Nat → Nat, qs = fun j => val (q.getD j []) := ⟨_, rfl⟩
  rw [← hps] at ap
  rw [← hqs] at aq
  obtain ⟨N, hN⟩ : ∃ N, N = M + K := ⟨_, rfl⟩
  have hVlt : val x * val y < 18446744073709551616 ^ 40 := by
    have h1 := Nat.mul_lt_mul'' (val_lt ox) (val_lt oy)
    rw [← Nat.pow_add] at h1
    exact Nat.lt_of_lt_of_le h1 (Nat.pow_le_pow_right (by decide) (by omega))
  -- what the sums come to
  have hW : ∀ i k, i < M → k ≤ K → wS (cvI (ps i) qs i (cvO ps qs K i) k) m N ≤ val x * val y := fun i k hi hk => by
    rw [cvI_ok k (by omega), cvO_ok i (by omega)]
    have h1 := wS_le (S := qs) (n := m) hk
    have h2 : 18446744073709551616 ^ (i * m) * (ps i * wS qs m k) ≤ 18446744073709551616 ^ (i * m) * (ps i * wS qs m K) := Nat.mul_le_mul_left _ (Nat.mul_le_mul_left _ h1)
    have h3 : wS ps m i * wS qs m K + 18446744073709551616 ^ (i * m) * (ps i * wS qs m K) = wS ps m (i + 1) * wS qs m K := by rw [wS, Nat.add_mul, Nat.mul_assoc]
    have h4 := Nat.mul_le_mul_right (wS qs m K) (wS_le (S := ps) (n := m) (show i + 1 ≤ M by omega))
    rw [ap] at h4
    rw [aq] at h2 h3 h4 ⊢
    omega
  have hWM : wS (cvO ps qs K M) m N = val x * val y := by rw [cvO_ok M (by omega), ap, aq]
  have c1 := rCmp0_ok (digs (val x)) x (by have := digs_len (v := val x) (m := 20) (Nat.lt_of_lt_of_le (val_lt ox) (Nat.pow_le_pow_right (by decide) hxl)); omega) (by omega) (digs_ok _).1 ox (digs_ok _).2.2
  have hmul := fMul_ok x y (by omega) (by omega) ox oy
  have hVl := digs_len hVlt
  have c2 := rCmp0_ok (digs (val x * val y)) (digs (val x * val y)) (by omega) (by omega) (digs_ok _).1 (digs_ok _).1 rfl
  have hJ := Join_ok (lstS (cvO ps qs K M) N) m (by rw [lstS_len]; omega) (by omega) (by omega)
    (fun l hl => by
      rw [lstS] at hl
      obtain ⟨i, hi, rfl⟩ := List.mem_map.1 hl
      rw [List.mem_range] at hi
      have := wS_one (S := cvO ps qs K M) (n := m) (k := N) hi
      rw [hWM] at this
      exact ⟨by have := digs_len (Nat.lt_of_le_of_lt this hVlt); omega, (digs_ok _).1⟩)
    (fun k hk _ => by
      rw [lstS_len] at hk
      have : k * m ≤ 40 * 5 := Nat.mul_le_mul (by omega) (by omega)
      omega)
    (fun k hk => by
      rw [lstS_len] at hk
      rw [jv_lst k hk]
      have := wS_le (S := cvO ps qs K M) (n := m) hk
      rw [hWM] at this
      have := digs_len (Nat.lt_of_le_of_lt this hVlt)
      omega) (by rw [lstS_len, jv_lst N (Nat.le_refl _), hWM]; omega)
  rw [lstS_len, jv_lst N (Nat.le_refl _), hWM] at hJ
  refine FnOk.of Try.func10 rfl rfl fun cx w0 => ?_
  rw [show Try.f10.ntmps = 149 from rfl]
  refine Holds.step (Px := px) (T := TT) (ρ := fun _ => []) TTe (by simp (maxSteps := 100000) (disch := omega) only [go_sem, V.isAgg, V.flat, ↓reduceIte, Nat.reduceAdd, Nat.reduceSub, Nat.reduceLT, Nat.reduceEqDiff, reduceCtorEq, Nat.reduceLeDiff, Nat.reduceBEq, Nat.reduceMul, Int.reduceToNat, List.length_cons, List.length_nil]; rfl) (by repeat' first | exact trivial | constructor) ?_
  refine Holds.step (Px := px) (T := TT) (ρ := fun d => if d = 25 then [.v true (words x)] else [.v true (words y)]) TTe (by simp (maxSteps := 100000) (disch := omega) only [go_sem, V.isAgg, V.flat, ↓reduceIte, Nat.reduceAdd, Nat.reduceSub, Nat.reduceLT, Nat.reduceEqDiff, reduceCtorEq, Nat.reduceLeDiff, Nat.reduceBEq, Nat.reduceMul, Int.reduceToNat]; rfl) (by first | exact ⟨hf1, hf2⟩ | (repeat' first | exact trivial | exact hf1 | exact hf2 | constructor)) ?_
  refine Holds.step (Px := px) (T := TT) (ρ := fun _ => []) TTe (by simp (maxSteps := 100000) (disch := omega) only [go_sem, V.isAgg, V.flat, ↓reduceIte, Nat.reduceAdd, Nat.reduceSub, Nat.reduceLT, Nat.reduceEqDiff, reduceCtorEq, Nat.reduceLeDiff, Nat.reduceBEq, Nat.reduceMul, Int.reduceToNat, ikd31, ikd3, und3, und31, wrap_u64, hjm, hmj]; rfl) (by repeat' first | exact trivial | constructor) ?_
  refine Holds.step (Px := px) (T := TT) (ρ := fun _ => [.v true (natsV p), .v true (.int .i64 0)]) TTe (by simp (maxSteps := 100000) (disch := omega) only [go_sem, V.isAgg, V.flat, ↓reduceIte, Nat.reduceAdd, Nat.reduceSub, Nat.reduceLT, Nat.reduceEqDiff, reduceCtorEq, Nat.reduceLeDiff, Nat.reduceBEq, Nat.reduceMul, Int.reduceToNat]; rfl) (by first | exact s1 | (repeat' first | exact trivial | exact s1 | constructor)) ?_
  refine Holds.step (Px := px) (T := TT) (ρ := fun _ => [.v true (natsV q), .v true (.int .i64 0)]) TTe (by simp (maxSteps := 100000) (disch := omega) only [go_sem, V.isAgg, V.flat, ↓reduceIte, Nat.reduceAdd, Nat.reduceSub, Nat.reduceLT, Nat.reduceEqDiff, reduceCtorEq, Nat.reduceLeDiff, Nat.reduceBEq, Nat.reduceMul, Int.reduceToNat]; rfl) (by first | exact s2 | (repeat' first | exact trivial | exact s2 | constructor)) ?_
  refine Holds.step (Px := px) (T := TT) (ρ := fun _ => [.v true (words (digs (val x))), .v true (.int .i64 0)]) TTe (by simp (maxSteps := 100000) (disch := omega) only [go_sem, V.isAgg, V.flat, ↓reduceIte, Nat.reduceAdd, Nat.reduceSub, Nat.reduceLT, Nat.reduceEqDiff, reduceCtorEq, Nat.reduceLeDiff, Nat.reduceBEq, Nat.reduceMul, Int.reduceToNat]; rfl) (by first | exact j1 | (repeat' first | exact trivial | exact j1 | constructor)) ?_
  refine Holds.next (fun σ => ∀ a w, Rel cx w0 σ a w → Rel cx w0 { nt := 149, env := [(7, .v true (words x)), (8, .v true (words y)), (9, .v true (natsV p)), (11, .v true (natsV q)), (2, .v true (.int .i64 (m : Int)))], mem := [] } a w) ?_ ?_
  · refine Holds.step (Px := px) (T := TT) (ρ := fun _ => [.v true (.int .i64 0)]) TTe (by simp (maxSteps := 100000) (disch := omega) only [go_sem, V.isAgg, V.flat, ↓reduceIte, Nat.reduceAdd, Nat.reduceSub, Nat.reduceLT, Nat.reduceEqDiff, reduceCtorEq, Nat.reduceLeDiff, Nat.reduceBEq, Nat.reduceMul, Int.reduceToNat, natsV, lenp, lenq]; rfl) (by first | exact c1 | (repeat' first | exact trivial | exact c1 | constructor)) ?_
    exact Holds.condF rfl (Holds.skip fun a w h => Rel.keep [7, 8, 9, 11, 2] [] h)
  · intro σ hσ
    refine Holds.from hσ ?_
    refine Holds.step (Px := px3) (T := TT3) (ρ := fun _ => []) TT3e (by simp (maxSteps := 100000) (disch := omega) only [natsV, lenp, lenq, zt3_23, elt25, esz25, tsz23, tby23, go_sem, V.isAgg, V.flat, ↓reduceIte, Nat.reduceAdd, Nat.reduceSub, Nat.reduceLT, Nat.reduceEqDiff, reduceCtorEq, Nat.reduceLeDiff, Nat.reduceBEq, Nat.reduceMul, Int.reduceToNat]; rfl) (by repeat' first | exact trivial | constructor) ?_
    refine Holds.next (fun σ => ∀ a w, Rel cx w0 σ a w → Rel cx w0 { nt := 149, env := [(15, .own 300 0 N), (7, .v true (words x)), (8, .v true (words y)), (9, .v true (natsV p)), (11, .v true (natsV q)), (2, .v true (.int .i64 (m : Int)))], mem := [(300, .buf 23 1 true ((lstS (cvO ps qs K M) N).map words))] } a w) ?_ ?_
    · refine Holds.step (Px := px) (T := TT) (ρ := fun _ => []) TTe (by simp (maxSteps := 100000) (disch := omega) only [go_sem, V.isAgg, V.flat, ↓reduceIte, Nat.reduceAdd, Nat.reduceSub, Nat.reduceLT, Nat.reduceEqDiff, reduceCtorEq, Nat.reduceLeDiff, Nat.reduceBEq, Nat.reduceMul, Int.reduceToNat]; rfl) (by repeat' first | exact trivial | constructor) ?_
      refine Holds.loopB (fun i : Nat => { nt := 149, env := [(16, .v true (.int .i64 i)), (15, .own 300 0 N), (7, .v true (words x)), (8, .v true (words y)), (9, .v true (natsV p)), (11, .v true (natsV q)), (2, .v true (.int .i64 (m : Int)))], mem := [(300, .buf 23 1 true ((lstS (cvO ps qs K i) N).map words))] }) (fun i => i ≤ M) (fun i => M - i) 0 (Nat.zero_le _) (fun a w h => by
        have := Rel.ren (s := 82) (s' := 300) (Rel.keep [16, 15, 7, 8, 9, 11, 2] [82] h) (by decide) rfl rfl
        rw [cvO, lst0, hN]
        exact this) ?_
      intro i hi
      by_cases hend : i = M
      · refine Holds.seq ?_
        refine Holds.step (Px := px) (T := TT) (ρ := fun _ => []) TTe (by simp (maxSteps := 100000) (disch := omega) only [go_sem, V.isAgg, V.flat, ↓reduceIte, Nat.reduceAdd, Nat.reduceSub, Nat.reduceLT, Nat.reduceEqDiff, reduceCtorEq, Nat.reduceLeDiff, Nat.reduceBEq, Nat.reduceMul, Int.reduceToNat, natsV, lenp]; rfl) (by repeat' first | exact trivial | constructor) ?_
        refine Holds.condF rfl (Holds.exit ⟨rfl, fun a w h => ?_⟩)
        rw [← hend]
        exact Rel.keep [15, 7, 8, 9, 11, 2] [300] h
      · have hiM : i < M := by omega
        have hip : i < p.length := by omega
        have gp := get_mapL hip
        have lpi := lp i hiM
        have opi := op i hiM
        have hpsi : ps i = val (p.getD i []) := by rw [hps]
        obtain ⟨A, hA⟩ : ∃ A, A = p.getD i [] := ⟨_, rfl⟩
        rw [← hA] at gp lpi opi hpsi
        have hWi := hW i
        obtain ⟨S, hS⟩ : ∃ S, S = cvO ps qs K i := ⟨_, rfl⟩
        have hSs : cvO ps qs K (i + 1) = cvI (ps i) qs i S K := by rw [cvO, hS]
        rw [← hS] at hWi ⊢
        refine Holds.seq ?_
        refine Holds.step (Px := px) (T := TT) (ρ := fun _ => []) TTe (by simp (maxSteps := 100000) (disch := omega) only [go_sem, V.isAgg, V.flat, ↓reduceIte, Nat.reduceAdd, Nat.reduceSub, Nat.reduceLT, Nat.reduceEqDiff, reduceCtorEq, Nat.reduceLeDiff, Nat.reduceBEq, Nat.reduceMul, Int.reduceToNat, natsV, lenp]; rfl) (by repeat' first | exact trivial | constructor) ?_
        refine Holds.condT rfl (Holds.skip ?_)
        refine Holds.next (fun σ => ∀ a w, Rel cx w0 σ a w → Rel cx w0 { nt := 149, env := [(16, .v true (.int .i64 i)), (15, .own 300 0 N), (7, .v true (words x)), (8, .v true (words y)), (9, .v true (natsV p)), (11, .v true (natsV q)), (2, .v true (.int .i64 (m : Int)))], mem := [(300, .buf 23 1 true ((lstS (cvO ps qs K (i + 1)) N).map words))] } a w) ?_ ?_
        · refine Holds.blockN ?_
          refine Holds.step (Px := px) (T := TT) (ρ := fun _ => []) TTe (by simp (maxSteps := 100000) (disch := omega) only [go_sem, V.isAgg, V.flat, ↓reduceIte, Nat.reduceAdd, Nat.reduceSub, Nat.reduceLT, Nat.reduceEqDiff, reduceCtorEq, Nat.reduceLeDiff, Nat.reduceBEq, Nat.reduceMul, Int.reduceToNat]; rfl) (by repeat' first | exact trivial | constructor) ?_
          refine Holds.loopB (fun k : Nat => { nt := 149, env := [(17, .v true (.int .i64 k)), (16, .v true (.int .i64 i)), (15, .own 300 0 N), (7, .v true (words x)), (8, .v true (words y)), (9, .v true (natsV p)), (11, .v true (natsV q)), (2, .v true (.int .i64 (m : Int)))], mem := [(300, .buf 23 1 true ((lstS (cvI (ps i) qs i S k) N).map words))] }) (fun k => k ≤ K) (fun k => K - k) 0 (Nat.zero_le _) (fun a w h => by
            have := Rel.keep [17, 16, 15, 7, 8, 9, 11, 2] [300] h
            rw [cvI]
            exact this) ?_
          intro k hk
          by_cases hend2 : k = K
          · refine Holds.seq ?_
            refine Holds.step (Px := px) (T := TT) (ρ := fun _ => []) TTe (by simp (maxSteps := 100000) (disch := omega) only [go_sem, V.isAgg, V.flat, ↓reduceIte, Nat.reduceAdd, Nat.reduceSub, Nat.reduceLT, Nat.reduceEqDiff, reduceCtorEq, Nat.reduceLeDiff, Nat.reduceBEq, Nat.reduceMul, Int.reduceToNat, natsV, lenq]; rfl) (by repeat' first | exact trivial | constructor) ?_
            refine Holds.condF rfl (Holds.exit ⟨rfl, fun a w h => ?_⟩)
            rw [hSs, ← hend2]
            exact Rel.keep [16, 15, 7, 8, 9, 11, 2] [300] h
          · have hkK : k < K := by omega
            have hkq : k < q.length := by omega
            have gq := get_mapL hkq
            have lqk := lq k hkK
            have oqk := oq k hkK
            have hqsk : qs k = val (q.getD k []) := by rw [hqs]
            obtain ⟨B, hB⟩ : ∃ B, B = q.getD k [] := ⟨_, rfl⟩
            rw [← hB] at gq lqk oqk hqsk
            have hik : i + k < N := by omega
            have hadd : ((i : Int) + k).toNat = i + k := by omega
            have hm1 := fMul_ok A B (by omega) (by omega) opi oqk
            rw [← hpsi, ← hqsk] at hm1
            have hs1 := hWi k hiM hk
            have hs2 := hWi (k + 1) hiM hkK
            have hsuc : cvI (ps i) qs i S (k + 1) = fun j => if j = i + k then cvI (ps i) qs i S k j + ps i * qs k else cvI (ps i) qs i S k j := rfl
            have hone := wS_one (S := cvI (ps i) qs i S (k + 1)) (n := m) hik
            have hat1 : cvI (ps i) qs i S (k + 1) (i + k) = cvI (ps i) qs i S k (i + k) + ps i * qs k := by rw [hsuc]; exact if_pos rfl
            rw [hat1] at hone
            obtain ⟨U, hU⟩ : ∃ U, U = cvI (ps i) qs i S k := ⟨_, rfl⟩
            rw [← hU] at hone hsuc hs1 ⊢
            have gl : (lstS U N)[i + k]? = some (digs (U (i + k))) := get_lst hik
            obtain ⟨D, hD⟩ : ∃ D, D = ps i * qs k := ⟨_, rfl⟩
            rw [← hD] at hone hm1 hsuc
            have l1 := digs_len (m := 40) (v := U (i + k)) (by omega)
            have l2 := digs_len (m := 40) (v := D) (by omega)
            have hra := rAdd_ok (digs (U (i + k))) (digs D) (by omega) (by omega) (digs_ok _).1 (digs_ok _).1
            rw [(digs_ok _).2.2, (digs_ok _).2.2] at hra
            have hset := lstS_set (S := U) (N := N) (m := i + k) (d := D)
            rw [← hsuc] at hset
            have hNl := lstS_len U N
            refine Holds.seq ?_
            refine Holds.step (Px := px) (T := TT) (ρ := fun _ => []) TTe (by simp (maxSteps := 100000) (disch := omega) only [go_sem, V.isAgg, V.flat, ↓reduceIte, Nat.reduceAdd, Nat.reduceSub, Nat.reduceLT, Nat.reduceEqDiff, reduceCtorEq, Nat.reduceLeDiff, Nat.reduceBEq, Nat.reduceMul, Int.reduceToNat, natsV, lenq]; rfl) (by repeat' first | exact trivial | constructor) ?_
            refine Holds.condT rfl (Holds.skip ?_)
            refine Holds.next (fun σ => ∀ a w, Rel cx w0 σ a w → Rel cx w0 { nt := 149, env := [(17, .v true (.int .i64 k)), (16, .v true (.int .i64 i)), (15, .own 300 0 N), (7, .v true (words x)), (8, .v true (words y)), (9, .v true (natsV p)), (11, .v true (natsV q)), (2, .v true (.int .i64 (m : Int)))], mem := [(300, .buf 23 1 true ((lstS (cvI (ps i) qs i S (k + 1)) N).map words))] } a w) ?_ ?_
            · refine Holds.blockN ?_
              refine Holds.dstep (Px := px) (T := TT) (ρ := fun _ => [.v true (words (digs D)), .v true (.int .i64 0)]) [] mixed (by kernel_rfl) TTe (by simp (maxSteps := 100000) (disch := omega) only [go_sem, V.isAgg, V.flat, ↓reduceIte, Nat.reduceAdd, Nat.reduceSub, Nat.reduceLT, Nat.reduceEqDiff, reduceCtorEq, Nat.reduceLeDiff, Nat.reduceBEq, Nat.reduceMul, Int.reduceToNat, natsV, elt25, esz25, tsz23, agg23, lenp, lenq, gp, gq]; rfl) (by first | exact hm1 | (repeat' first | exact trivial | exact hm1 | constructor)) (by rfl) (by rfl) (by rfl) ?_
              refine Holds.seq ?_
              refine Holds.step (Px := px) (T := TT) (ρ := fun _ => []) TTe (by simp (maxSteps := 100000) (disch := omega) only [go_sem, V.isAgg, V.flat, ↓reduceIte, Nat.reduceAdd, Nat.reduceSub, Nat.reduceLT, Nat.reduceEqDiff, reduceCtorEq, Nat.reduceLeDiff, Nat.reduceBEq, Nat.reduceMul, Int.reduceToNat]; rfl) (by repeat' first | exact trivial | constructor) ?_
              refine Holds.condF rfl (Holds.skip ?_)
              show Holds _ _ _ _ _ _ _
              refine Holds.region (Px := px) (T := TT) (ρ := fun _ => [.v true (words (digs (U (i + k) + D)))]) TTe (by simp (maxSteps := 100000) (disch := omega) only [go_sem, V.isAgg, V.flat, ↓reduceIte, Nat.reduceAdd, Nat.reduceSub, Nat.reduceLT, Nat.reduceEqDiff, reduceCtorEq, Nat.reduceLeDiff, Nat.reduceBEq, Nat.reduceMul, Int.reduceToNat, natsV, elt25, esz25, tsz23, agg23, gl, hadd, hNl]; rfl) (by first | exact hra | (repeat' first | exact trivial | exact hra | constructor)) ?_
              intro a w h
              have := Rel.keep [17, 16, 15, 7, 8, 9, 11, 2] [300] h
              rw [hset, List.map_set]
              exact this
            · intro σ hσ
              refine Holds.from hσ ?_
              refine Holds.region (Px := px) (T := TT) (ρ := fun _ => []) TTe (by simp (maxSteps := 100000) (disch := omega) only [go_sem, V.isAgg, V.flat, ↓reduceIte, Nat.reduceAdd, Nat.reduceSub, Nat.reduceLT, Nat.reduceEqDiff, reduceCtorEq, Nat.reduceLeDiff, Nat.reduceBEq, Nat.reduceMul, Int.reduceToNat]; rfl) (by repeat' first | exact trivial | constructor) ?_
              exact ⟨k + 1, (by show k + 1 ≤ K; omega), (show K - (k + 1) < K - k by omega), fun a w h => Rel.keep [17, 16, 15, 7, 8, 9, 11, 2] [300] h⟩
        · intro σ hσ
          refine Holds.from hσ ?_
          refine Holds.region (Px := px) (T := TT) (ρ := fun _ => []) TTe (by simp (maxSteps := 100000) (disch := omega) only [go_sem, V.isAgg, V.flat, ↓reduceIte, Nat.reduceAdd, Nat.reduceSub, Nat.reduceLT, Nat.reduceEqDiff, reduceCtorEq, Nat.reduceLeDiff, Nat.reduceBEq, Nat.reduceMul, Int.reduceToNat]; rfl) (by repeat' first | exact trivial | constructor) ?_
          exact ⟨i + 1, (by show i + 1 ≤ M; omega), (show M - (i + 1) < M - i by omega), fun a w h => Rel.keep [16, 15, 7, 8, 9, 11, 2] [300] h⟩
    · intro σ hσ
      refine Holds.from hσ ?_
      have htk : (List.map words (lstS (cvO ps qs K M) N)).take N = List.map words (lstS (cvO ps qs K M) N) := List.take_of_length_le (by rw [List.length_map, lstS_len]; exact Nat.le_refl _)
      refine Holds.step (Px := px) (T := TT) (ρ := fun _ => [.v true (words (digs (val x * val y))), .v true (.int .i64 0)]) TTe (by simp (maxSteps := 100000) (disch := omega) only [go_sem, V.isAgg, V.flat, ↓reduceIte, Nat.reduceAdd, Nat.reduceSub, Nat.reduceLT, Nat.reduceEqDiff, reduceCtorEq, Nat.reduceLeDiff, Nat.reduceBEq, Nat.reduceMul, Int.reduceToNat, natsV, htk]; rfl) (by first | exact hJ | (repeat' first | exact trivial | exact hJ | constructor)) ?_
      refine Holds.step (Px := px) (T := TT) (ρ := fun _ => [.v true (words (digs (val x * val y))), .v true (.int .i64 0)]) TTe (by simp (maxSteps := 100000) (disch := omega) only [go_sem, V.isAgg, V.flat, ↓reduceIte, Nat.reduceAdd, Nat.reduceSub, Nat.reduceLT, Nat.reduceEqDiff, reduceCtorEq, Nat.reduceLeDiff, Nat.reduceBEq, Nat.reduceMul, Int.reduceToNat]; rfl) (by first | exact hmul | (repeat' first | exact trivial | exact hmul | constructor)) ?_
      refine Holds.step (Px := px) (T := TT) (ρ := fun d => if d = 143 then [.v true (.int .i64 0)] else [.v true (.bool true)]) TTe (by simp (maxSteps := 100000) (disch := omega) only [go_sem, V.isAgg, V.flat, ↓reduceIte, Nat.reduceAdd, Nat.reduceSub, Nat.reduceLT, Nat.reduceEqDiff, reduceCtorEq, Nat.reduceLeDiff, Nat.reduceBEq, Nat.reduceMul, Int.reduceToNat]; rfl) (by first | exact ⟨c2, awake_ok⟩ | (repeat' first | exact trivial | exact c2 | exact awake_ok | constructor)) ?_
      exact Holds.ret (RetOk.vs rfl (by exact ⟨⟨rfl, fun h => h⟩, trivial⟩) rfl)
end Go.Proofs.Ytjmclobbfabnpaa.L
