/-
  Pc Pd
-/
import Derived.Test.YtjmclobbfabnpaaGreatJ2
set_option linter.unusedSimpArgs false
set_option linter.unusedVariables false
/-
  reckonerref01.Cut, reckonerref02: nat, Trim.
-/
namespace Go.Proofs.YtjmclobbfabnpaaGreat.L
open Go Go.RowKit Go.Proofs
attribute [local go_sem] evalOps_nil evalOps_cons runW_t runW_f runE_s runP_s wantA evalOp effOp letters okDst coreA St.opv St.get St.at look constA St.put St.upd St.set decide_true List.all_nil List.all_cons Bool.and_true Bool.true_and and_self and_true true_and if_true if_false true_or Int.sub_zero List.nil_append List.cons_append List.append_nil Option.isSome_some List.getElem?_toArray List.getElem?_cons_succ List.getElem?_cons_zero Option.bind_some Option.map_some Option.map_none beq_self_eq_true Bool.false_beq Bool.true_beq Bool.not_true Bool.not_false Bool.false_eq_true cond_true cond_false binA binI List.map_cons List.map_nil boundA List.length_nil List.length_cons Nat.zero_mul Nat.one_mul Nat.mul_one Nat.zero_add Nat.add_zero Nat.zero_le Option.toList St.freshB AV.ment AV.ments Blk.ment V.sizes Nat.lt_add_one Bool.or_true Bool.true_or Bool.or_false Bool.false_or Bool.or_self if_pos if_neg decide_false decide_eq_true decide_eq_false wrap_i64 Int.toNat_natCast minA maxA Int.natCast_add Int.cast_ofNat_Int Option.isSome_none false_implies true_implies forall_const List.drop_zero Int.toNat_zero Int.add_sub_cancel lenA sliceA loadA indexAddrA partA fitsT V.atP V.offP V.size List.length_map List.getElem?_map Int.toNat_natCast_add_one Int.ofNat_eq_natCast TY calleeA capArg knotA capArgs toArgs toArg callA R.res R.mems R.blks R.av R.names R.nw invokeA storeA storeV fieldAddrA liveB V.off V.offs V.setP List.set_cons_zero List.set_cons_succ buildA buildP partsA appendA srcA copyA boxOk makeA AV.pure List.take_succ_cons List.take_zero nilA words entry List.zipIdx_cons List.zipIdx_nil Arg.av Arg.avs

theorem padH_ok {h : List Int} (oh : okH h) (k : Nat) : okH (padH h k) := fun n hn => by
  rcases List.mem_append.1 hn with hn | hn
  · exact oh n hn
  · rw [List.mem_replicate] at hn; omega
theorem okH_getD {l : List Int} (h : okH l) (i : Nat) : 0 ≤ l.getD i 0 ∧ l.getD i 0 < 4294967296 := by
  rw [List.getD_eq_getElem?_getD]
  cases hi : l[i]? with
  | none => exact ⟨by decide, by decide⟩
  | some x => exact h x (List.mem_of_getElem? hi)

theorem Cut_ok (h : List Int) (k : Nat) (hk : k < 400000) (hl : h.length ≤ 2 * k + 2) (oh : okH h) :
    FnOk Tryz.prog 75 [.v (words h), .v (.int .i64 k)] [.v true (words (rowOf ((padH h k).take (2 * k)))), .v true (.int .u64 ((padH h k).getD (2 * k) 0 + (padH h k).getD (2 * k + 1) 0 * 4294967296))] := by
  refine FnOk.of Tryz.func75 rfl rfl fun cx w0 => ?_
  rw [show Tryz.f75.ntmps = 37 from rfl]
  refine Holds.step (Px := px) (T := TT) (ρ := fun _ => []) TTe (by simp (maxSteps := 100000) (disch := omega) only [go_sem, V.isAgg, V.flat, ↓reduceIte, Nat.reduceAdd, Nat.reduceSub, Nat.reduceLT, Nat.reduceEqDiff, reduceCtorEq, Nat.reduceLeDiff, Nat.reduceBEq, Nat.reduceMul, Int.reduceToNat, List.length_cons, List.length_nil]; rfl) (by repeat' first | exact trivial | constructor) ?_
  refine Holds.step (Px := px) (T := TT) (ρ := fun _ => []) TTe (by simp (maxSteps := 100000) (disch := omega) only [go_sem, V.isAgg, V.flat, ↓reduceIte, Nat.reduceAdd, Nat.reduceSub, Nat.reduceLT, Nat.reduceEqDiff, reduceCtorEq, Nat.reduceLeDiff, Nat.reduceBEq, Nat.reduceMul, Int.reduceToNat]; rfl) (by repeat' first | exact trivial | constructor) ?_
  refine Holds.step (Px := px) (T := TT) (ρ := fun _ => []) TTe (by simp (maxSteps := 100000) (disch := omega) only [go_sem, V.isAgg, V.flat, ↓reduceIte, Nat.reduceAdd, Nat.reduceSub, Nat.reduceLT, Nat.reduceEqDiff, reduceCtorEq, Nat.reduceLeDiff, Nat.reduceBEq, Nat.reduceMul, Int.reduceToNat, flatW]; rfl) (by repeat' first | exact trivial | constructor) ?_
  obtain ⟨H, hH⟩ : ∃ H, H = padH h k := ⟨_, rfl⟩
  have hHl : H.length = 2 * k + 2 := by rw [hH, padH, List.length_append, List.length_replicate]; omega
  have oH : okH H := by rw [hH]; exact padH_ok oh k
  rw [← hH]
  refine Holds.next (fun σ => ∀ a w, Rel cx w0 σ a w → Rel cx w0 { nt := 37, env := [(6, .own 300 0 (2 * k + 2)), (1, .v true (.int .i64 k))], mem := [(300, .buf 52 1 true (H.map fun n => .int .u64 n))] } a w) ?_ ?_
  · refine Holds.loopB (fun j : Nat => { nt := 37, env := [(6, .own 300 0 (h.length + j)), (1, .v true (.int .i64 k))], mem := [(300, .buf 52 1 true ((h ++ List.replicate j 0).map fun n => .int .u64 n))] }) (fun j => h.length + j ≤ 2 * k + 2) (fun j => 2 * k + 2 - h.length - j) 0 (by omega) (fun a w hr => by
      have := Rel.ren (s := 9) (s' := 300) (Rel.keep [6, 1] [9] hr) (by decide) rfl rfl
      rw [List.replicate_zero, List.append_nil]
      exact this) ?_
    intro j hj
    have hjl : (h ++ List.replicate j 0).length = h.length + j := by rw [List.length_append, List.length_replicate]
    by_cases hend : h.length + j = 2 * k + 2
    · refine Holds.seq ?_
      refine Holds.step (Px := px) (T := TT) (ρ := fun _ => []) TTe (by simp (maxSteps := 100000) (disch := omega) only [go_sem, V.isAgg, V.flat, ↓reduceIte, Nat.reduceAdd, Nat.reduceSub, Nat.reduceLT, Nat.reduceEqDiff, reduceCtorEq, Nat.reduceLeDiff, Nat.reduceBEq, Nat.reduceMul, Int.reduceToNat]; rfl) (by repeat' first | exact trivial | constructor) ?_
      refine Holds.condF rfl (Holds.exit ⟨rfl, fun a w hr => ?_⟩)
      have e : h ++ List.replicate j 0 = H := by rw [hH, padH]; congr 2; omega
      have := Rel.keep [6, 1] [300] hr
      rw [e, hend] at this
      exact this
    · refine Holds.seq ?_
      refine Holds.step (Px := px) (T := TT) (ρ := fun _ => []) TTe (by simp (maxSteps := 100000) (disch := omega) only [go_sem, V.isAgg, V.flat, ↓reduceIte, Nat.reduceAdd, Nat.reduceSub, Nat.reduceLT, Nat.reduceEqDiff, reduceCtorEq, Nat.reduceLeDiff, Nat.reduceBEq, Nat.reduceMul, Int.reduceToNat]; rfl) (by repeat' first | exact trivial | constructor) ?_
      refine Holds.condT rfl (Holds.skip ?_)
      refine Holds.block ?_
      refine Holds.region (Px := px) (T := TT) (ρ := fun _ => []) TTe (by simp (maxSteps := 100000) (disch := omega) only [go_sem, V.isAgg, V.flat, ↓reduceIte, Nat.reduceAdd, Nat.reduceSub, Nat.reduceLT, Nat.reduceEqDiff, reduceCtorEq, Nat.reduceLeDiff, Nat.reduceBEq, Nat.reduceMul, Int.reduceToNat, hjl]; rfl) (by repeat' first | exact trivial | constructor) ?_
      refine ⟨j + 1, (by show h.length + (j + 1) ≤ 2 * k + 2; omega), (show 2 * k + 2 - h.length - (j + 1) < 2 * k + 2 - h.length - j by omega), fun a w hr => ?_⟩
      have := Rel.ren (s := 18) (s' := 300) (Rel.keep [6, 1] [18] hr) (by decide) rfl rfl
      have e : (h ++ List.replicate (j + 1) 0).map (fun n => V.int .u64 n) = (h ++ List.replicate j 0).map (fun n => V.int .u64 n) ++ [V.int .u64 0] := by
        rw [List.replicate_succ', ← List.append_assoc, List.map_append]; rfl
      simp only [e]
      exact this
  · intro σ hσ
    refine Holds.from hσ ?_
    have e1 : (2 * (k : Int)).toNat = 2 * k := by omega
    have e2 : (2 * (k : Int) + 1).toNat = 2 * k + 1 := by omega
    have h1 := okH_getD oH (2 * k)
    have h2 := okH_getD oH (2 * k + 1)
    have hi1 : 2 * k < H.length := by omega
    have hi2 : 2 * k + 1 < H.length := by omega
    have g1 := get_map hi1
    have g2 := get_map hi2
    obtain ⟨p, hp⟩ : ∃ p, p = H.getD (2 * k) 0 := ⟨_, rfl⟩
    obtain ⟨q, hq⟩ : ∃ q, q = H.getD (2 * k + 1) 0 := ⟨_, rfl⟩
    rw [← hp] at g1 h1
    rw [← hq] at g2 h2
    rw [← hp, ← hq]
    have e3 : IntKind.u64.wrap (q * 4294967296) = q * 4294967296 := by rw [wrap_u64]; omega
    have e4 : IntKind.u64.wrap (p + q * 4294967296) = p + q * 4294967296 := by rw [wrap_u64]; omega
    have htk : List.take (2 * k) (List.map (fun n => V.int .u64 n) H) = List.map (fun n => V.int .u64 n) (H.take (2 * k)) := by rw [List.map_take]
    have hrow := Row_ok (H.take (2 * k)) (by rw [List.length_take]; omega) (fun n hn => oH n (List.mem_of_mem_take hn))
    refine Holds.dstep (Px := px) (T := TT) (ρ := fun _ => [.v true (words (rowOf (H.take (2 * k))))]) [] mixed (by kernel_rfl) TTe (by simp (maxSteps := 100000) (disch := omega) only [go_sem, V.isAgg, V.flat, ↓reduceIte, Nat.reduceAdd, Nat.reduceSub, Nat.reduceLT, Nat.reduceEqDiff, reduceCtorEq, Nat.reduceLeDiff, Nat.reduceBEq, Nat.reduceMul, Int.reduceToNat, e1, e2, e3, e4, g1, g2, htk]; rfl) (by first | exact hrow | (repeat' first | exact trivial | exact hrow | constructor)) (by rfl) (by rfl) (by rfl) ?_
    exact Holds.ret (RetOk.vs rfl (by exact ⟨⟨rfl, fun h => h⟩, ⟨rfl, fun h => h⟩, trivial⟩) rfl)

theorem nat_ok (h : List Int) (hl : h.length < 400000) (oh : okH h) : FnOk Tryz.prog 53 [.v (words h)] [.v true (words (digs (valH h)))] := by
  rw [← natOf_eq oh]
  have ht := trimL_len h
  have hsh := Short_ok h (by omega)
  have hc := Cut_ok (trimL h) (((trimL h).length + 1) / 2) (by omega) (by omega) (trimL_okH oh)
  obtain ⟨k, hk⟩ : ∃ k, k = ((trimL h).length + 1) / 2 := ⟨_, rfl⟩
  have e : natOf h = rowOf ((padH (trimL h) k).take (2 * k)) := by rw [hk]; rfl
  rw [← hk] at hc
  rw [e]
  have hq : (((trimL h).length : Int) + 1).tdiv 2 = k := by
    rw [Int.tdiv_eq_ediv_of_nonneg (by omega)]
    omega
  obtain ⟨t, ht2⟩ : ∃ t, t = trimL h := ⟨_, rfl⟩
  have htl : t.length < 400000 := by rw [ht2]; omega
  have hkl : k < 400000 := by omega
  rw [← ht2] at hsh hc hq ⊢
  refine FnOk.of Tryz.func53 rfl rfl fun cx w0 => ?_
  rw [show Tryz.f53.ntmps = 19 from rfl]
  refine Holds.step (Px := px) (T := TT) (ρ := fun _ => []) TTe (by simp (maxSteps := 100000) (disch := omega) only [go_sem, V.isAgg, V.flat, ↓reduceIte, Nat.reduceAdd, Nat.reduceSub, Nat.reduceLT, Nat.reduceEqDiff, reduceCtorEq, Nat.reduceLeDiff, Nat.reduceBEq, Nat.reduceMul, Int.reduceToNat, List.length_cons, List.length_nil]; rfl) (by repeat' first | exact trivial | constructor) ?_
  refine Holds.step (Px := px) (T := TT) (ρ := fun _ => [.v false (words t)]) TTe (by simp (maxSteps := 100000) (disch := omega) only [go_sem, V.isAgg, V.flat, ↓reduceIte, Nat.reduceAdd, Nat.reduceSub, Nat.reduceLT, Nat.reduceEqDiff, reduceCtorEq, Nat.reduceLeDiff, Nat.reduceBEq, Nat.reduceMul, Int.reduceToNat]; rfl) (by first | exact hsh | (repeat' first | exact trivial | exact hsh | constructor)) ?_
  refine Holds.step (Px := px) (T := TT) (ρ := fun _ => []) TTe (by simp (maxSteps := 100000) (disch := omega) only [go_sem, V.isAgg, V.flat, ↓reduceIte, Nat.reduceAdd, Nat.reduceSub, Nat.reduceLT, Nat.reduceEqDiff, reduceCtorEq, Nat.reduceLeDiff, Nat.reduceBEq, Nat.reduceMul, Int.reduceToNat, hq]; rfl) (by repeat' first | exact trivial | constructor) ?_
  refine Holds.step (Px := px) (T := TT) (ρ := fun _ => [.v true (words (rowOf ((padH t k).take (2 * k)))), .v true (.int .u64 ((padH t k).getD (2 * k) 0 + (padH t k).getD (2 * k + 1) 0 * 4294967296))]) TTe (by simp (maxSteps := 100000) (disch := omega) only [go_sem, V.isAgg, V.flat, ↓reduceIte, Nat.reduceAdd, Nat.reduceSub, Nat.reduceLT, Nat.reduceEqDiff, reduceCtorEq, Nat.reduceLeDiff, Nat.reduceBEq, Nat.reduceMul, Int.reduceToNat]; rfl) (by first | exact hc | (repeat' first | exact trivial | exact hc | constructor)) ?_
  refine Holds.step (Px := px) (T := TT) (ρ := fun _ => []) TTe (by simp (maxSteps := 100000) (disch := omega) only [go_sem, V.isAgg, V.flat, ↓reduceIte, Nat.reduceAdd, Nat.reduceSub, Nat.reduceLT, Nat.reduceEqDiff, reduceCtorEq, Nat.reduceLeDiff, Nat.reduceBEq, Nat.reduceMul, Int.reduceToNat]; rfl) (by repeat' first | exact trivial | constructor) ?_
  exact Holds.ret (RetOk.vs rfl (by exact ⟨⟨rfl, fun h => h⟩, trivial⟩) rfl)

/-- The reference's Trim. -/
theorem rTrim_ok (l : List Int) (hl : l.length < 100000) (ol : okW l) : FnOk Tryz.prog 52 [.v (words l)] [.v true (words (digs (val l)))] := by
  have h1 := Digits_ok l (by omega) ol
  have h2 := nat_ok (digL l) (by rw [digL_len]; omega) (digL_ok ol)
  rw [val_dig ol] at h2
  refine FnOk.of Tryz.func52 rfl rfl fun cx w0 => ?_
  rw [show Tryz.f52.ntmps = 6 from rfl]
  refine Holds.step (Px := px) (T := TT) (ρ := fun _ => []) TTe (by simp (maxSteps := 100000) (disch := omega) only [go_sem, V.isAgg, V.flat, ↓reduceIte, Nat.reduceAdd, Nat.reduceSub, Nat.reduceLT, Nat.reduceEqDiff, reduceCtorEq, Nat.reduceLeDiff, Nat.reduceBEq, Nat.reduceMul, Int.reduceToNat, List.length_cons, List.length_nil]; rfl) (by repeat' first | exact trivial | constructor) ?_
  refine Holds.step (Px := px) (T := TT) (ρ := fun d => if d = 4 then [.v true (words (digL l))] else [.v true (words (digs (val l)))]) TTe (by simp (maxSteps := 100000) (disch := omega) only [go_sem, V.isAgg, V.flat, ↓reduceIte, Nat.reduceAdd, Nat.reduceSub, Nat.reduceLT, Nat.reduceEqDiff, reduceCtorEq, Nat.reduceLeDiff, Nat.reduceBEq, Nat.reduceMul, Int.reduceToNat]; rfl) (by first | exact ⟨h1, h2⟩ | (repeat' first | exact trivial | exact h1 | exact h2 | constructor)) ?_
  exact Holds.ret (RetOk.vs rfl (by exact ⟨⟨rfl, fun h => h⟩, trivial⟩) rfl)
/-
  reckonerref01.Same, reckonerref02: Canonical, Is; nats, few.
-/

theorem Same_ok (x y : List Int) (hx : x.length < 1000000000) (hy : y.length < 1000000000) : FnOk Tryz.prog 51 [.v (words x), .v (words y)] [.v true (.bool (decide (x = y)))] := by
  refine FnOk.of Tryz.func51 rfl rfl fun cx w0 => ?_
  rw [show Tryz.f51.ntmps = 26 from rfl]
  refine Holds.step (Px := px) (T := TT) (ρ := fun _ => []) TTe (by simp (maxSteps := 100000) (disch := omega) only [go_sem, V.isAgg, V.flat, ↓reduceIte, Nat.reduceAdd, Nat.reduceSub, Nat.reduceLT, Nat.reduceEqDiff, reduceCtorEq, Nat.reduceLeDiff, Nat.reduceBEq, Nat.reduceMul, Int.reduceToNat, List.length_cons, List.length_nil]; rfl) (by repeat' first | exact trivial | constructor) ?_
  refine Holds.next (fun σ => x.length = y.length ∧ ∀ a w, Rel cx w0 σ a w → Rel cx w0 { nt := 26, env := [(0, .v false (words x)), (1, .v false (words y))], mem := [] } a w) ?_ ?_
  · by_cases h : x.length = y.length
    · refine Holds.step (Px := px) (T := TT) (ρ := fun _ => []) TTe (by simp (maxSteps := 100000) (disch := omega) only [go_sem, V.isAgg, V.flat, ↓reduceIte, Nat.reduceAdd, Nat.reduceSub, Nat.reduceLT, Nat.reduceEqDiff, reduceCtorEq, Nat.reduceLeDiff, Nat.reduceBEq, Nat.reduceMul, Int.reduceToNat, h]; rfl) (by repeat' first | exact trivial | constructor) ?_
      exact Holds.condF rfl (Holds.skip ⟨h, fun a w hr => Rel.keep [0, 1] [] hr⟩)
    · have h' : ¬ (x.length : Int) = y.length := by omega
      refine Holds.step (Px := px) (T := TT) (ρ := fun _ => []) TTe (by simp (maxSteps := 100000) (disch := omega) only [go_sem, V.isAgg, V.flat, ↓reduceIte, Nat.reduceAdd, Nat.reduceSub, Nat.reduceLT, Nat.reduceEqDiff, reduceCtorEq, Nat.reduceLeDiff, Nat.reduceBEq, Nat.reduceMul, Int.reduceToNat, h']; rfl) (by repeat' first | exact trivial | constructor) ?_
      refine Holds.condT rfl ?_
      refine Holds.step (Px := px) (T := TT) (ρ := fun _ => []) TTe (by simp (maxSteps := 100000) (disch := omega) only [go_sem, V.isAgg, V.flat, ↓reduceIte, Nat.reduceAdd, Nat.reduceSub, Nat.reduceLT, Nat.reduceEqDiff, reduceCtorEq, Nat.reduceLeDiff, Nat.reduceBEq, Nat.reduceMul, Int.reduceToNat]; rfl) (by repeat' first | exact trivial | constructor) ?_
      have e : decide (x = y) = false := decide_eq_false fun he => h (by rw [he])
      rw [e]
      exact Holds.ret (RetOk.vs rfl (by exact ⟨⟨rfl, fun h => h⟩, trivial⟩) rfl)
  · rintro σ ⟨hl, hσ⟩
    refine Holds.from hσ ?_
    refine Holds.next (fun σ => x = y ∧ ∀ a w, Rel cx w0 σ a w → Rel cx w0 { nt := 26, env := [], mem := [] } a w) ?_ ?_
    · refine Holds.step (Px := px) (T := TT) (ρ := fun _ => []) TTe (by simp (maxSteps := 100000) (disch := omega) only [go_sem, V.isAgg, V.flat, ↓reduceIte, Nat.reduceAdd, Nat.reduceSub, Nat.reduceLT, Nat.reduceEqDiff, reduceCtorEq, Nat.reduceLeDiff, Nat.reduceBEq, Nat.reduceMul, Int.reduceToNat]; rfl) (by repeat' first | exact trivial | constructor) ?_
      refine Holds.loopB (fun k : Nat => { nt := 26, env := [(5, .v true (.int .i64 k)), (0, .v false (words x)), (1, .v false (words y))], mem := [] }) (fun k => k ≤ x.length ∧ x.take k = y.take k) (fun k => x.length - k) 0 ⟨Nat.zero_le _, rfl⟩ (fun a w hr => Rel.keep [5, 0, 1] [] hr) ?_
      rintro k ⟨hk, ht⟩
      by_cases hend : k = x.length
      · refine Holds.seq ?_
        refine Holds.step (Px := px) (T := TT) (ρ := fun _ => []) TTe (by simp (maxSteps := 100000) (disch := omega) only [go_sem, V.isAgg, V.flat, ↓reduceIte, Nat.reduceAdd, Nat.reduceSub, Nat.reduceLT, Nat.reduceEqDiff, reduceCtorEq, Nat.reduceLeDiff, Nat.reduceBEq, Nat.reduceMul, Int.reduceToNat]; rfl) (by repeat' first | exact trivial | constructor) ?_
        refine Holds.condF rfl (Holds.exit ⟨rfl, ?_, fun a w hr => Rel.keep [] [] hr⟩)
        rw [hend, List.take_length, hl, List.take_length] at ht
        exact ht
      · have hkx : k < x.length := by omega
        have hky : k < y.length := by omega
        refine Holds.seq ?_
        refine Holds.step (Px := px) (T := TT) (ρ := fun _ => []) TTe (by simp (maxSteps := 100000) (disch := omega) only [go_sem, V.isAgg, V.flat, ↓reduceIte, Nat.reduceAdd, Nat.reduceSub, Nat.reduceLT, Nat.reduceEqDiff, reduceCtorEq, Nat.reduceLeDiff, Nat.reduceBEq, Nat.reduceMul, Int.reduceToNat]; rfl) (by repeat' first | exact trivial | constructor) ?_
        refine Holds.condT rfl (Holds.skip ?_)
        refine Holds.next (fun σ => x.take (k + 1) = y.take (k + 1) ∧ ∀ a w, Rel cx w0 σ a w → Rel cx w0 { nt := 26, env := [(5, .v true (.int .i64 k)), (0, .v false (words x)), (1, .v false (words y))], mem := [] } a w) ?_ ?_
        · refine Holds.blockN ?_
          by_cases he : x.getD k 0 = y.getD k 0
          · refine Holds.dstep (Px := px) (T := TT) (ρ := fun _ => []) [] mixed (by kernel_rfl) TTe (by simp (maxSteps := 100000) (disch := omega) only [go_sem, V.isAgg, V.flat, ↓reduceIte, Nat.reduceAdd, Nat.reduceSub, Nat.reduceLT, Nat.reduceEqDiff, reduceCtorEq, Nat.reduceLeDiff, Nat.reduceBEq, Nat.reduceMul, Int.reduceToNat, get_map hkx, get_map hky, he, eq_self]; rfl) (by repeat' first | exact trivial | constructor) (by rfl) (by rfl) (by rfl) ?_
            refine Holds.condF rfl (Holds.skip ⟨?_, fun a w hr => Rel.keep [5, 0, 1] [] hr⟩)
            rw [List.getD_eq_getElem?_getD, List.getElem?_eq_getElem hkx, List.getD_eq_getElem?_getD, List.getElem?_eq_getElem hky] at he
            rw [List.take_add_one, List.take_add_one, ht, List.getElem?_eq_getElem hkx, List.getElem?_eq_getElem hky]
            exact congrArg (fun z => y.take k ++ [z]) he
          · refine Holds.dstep (Px := px) (T := TT) (ρ := fun _ => []) [] mixed (by kernel_rfl) TTe (by simp (maxSteps := 100000) (disch := omega) only [go_sem, V.isAgg, V.flat, ↓reduceIte, Nat.reduceAdd, Nat.reduceSub, Nat.reduceLT, Nat.reduceEqDiff, reduceCtorEq, Nat.reduceLeDiff, Nat.reduceBEq, Nat.reduceMul, Int.reduceToNat, get_map hkx, get_map hky, he]; rfl) (by repeat' first | exact trivial | constructor) (by rfl) (by rfl) (by rfl) ?_
            refine Holds.condT rfl ?_
            refine Holds.step (Px := px) (T := TT) (ρ := fun _ => []) TTe (by simp (maxSteps := 100000) (disch := omega) only [go_sem, V.isAgg, V.flat, ↓reduceIte, Nat.reduceAdd, Nat.reduceSub, Nat.reduceLT, Nat.reduceEqDiff, reduceCtorEq, Nat.reduceLeDiff, Nat.reduceBEq, Nat.reduceMul, Int.reduceToNat]; rfl) (by repeat' first | exact trivial | constructor) ?_
            have e : decide (x = y) = false := decide_eq_false fun h => he (by rw [h])
            rw [e]
            exact Holds.ret (RetOk.vs rfl (by exact ⟨⟨rfl, fun h => h⟩, trivial⟩) rfl)
        · rintro σ ⟨ht2, hσ⟩
          refine Holds.from hσ ?_
          refine Holds.region (Px := px) (T := TT) (ρ := fun _ => []) TTe (by simp (maxSteps := 100000) (disch := omega) only [go_sem, V.isAgg, V.flat, ↓reduceIte, Nat.reduceAdd, Nat.reduceSub, Nat.reduceLT, Nat.reduceEqDiff, reduceCtorEq, Nat.reduceLeDiff, Nat.reduceBEq, Nat.reduceMul, Int.reduceToNat]; rfl) (by repeat' first | exact trivial | constructor) ?_
          exact ⟨k + 1, ⟨by omega, ht2⟩, (show x.length - (k + 1) < x.length - k by omega), fun a w hr => Rel.keep [5, 0, 1] [] hr⟩
    · rintro σ ⟨he, hσ⟩
      refine Holds.from hσ ?_
      refine Holds.step (Px := px) (T := TT) (ρ := fun _ => []) TTe (by simp (maxSteps := 100000) (disch := omega) only [go_sem, V.isAgg, V.flat, ↓reduceIte, Nat.reduceAdd, Nat.reduceSub, Nat.reduceLT, Nat.reduceEqDiff, reduceCtorEq, Nat.reduceLeDiff, Nat.reduceBEq, Nat.reduceMul, Int.reduceToNat]; rfl) (by repeat' first | exact trivial | constructor) ?_
      rw [decide_eq_true he]
      exact Holds.ret (RetOk.vs rfl (by exact ⟨⟨rfl, fun h => h⟩, trivial⟩) rfl)

/-- Has a number no zero word at its end? -/
def canonB (x : List Int) : Bool := decide (x.length = 0) || !decide (x.getD (x.length - 1) 0 = 0)
theorem canon_of : ∀ {x : List Int}, noZ x → canonB x = true
  | [], _ => rfl
  | [x], h => by
    have hx : x ≠ 0 := h
    simp [canonB, hx]
  | x :: y :: r, h => by
    have := canon_of (x := y :: r) h
    unfold canonB at this ⊢
    simpa using this

theorem Canonical_ok (x : List Int) (hx : x.length < 1000000000) : FnOk Tryz.prog 50 [.v (words x)] [.v true (.bool (canonB x))] := by
  refine FnOk.of Tryz.func50 rfl rfl fun cx w0 => ?_
  rw [show Tryz.f50.ntmps = 15 from rfl]
  refine Holds.step (Px := px) (T := TT) (ρ := fun _ => []) TTe (by simp (maxSteps := 100000) (disch := omega) only [go_sem, V.isAgg, V.flat, ↓reduceIte, Nat.reduceAdd, Nat.reduceSub, Nat.reduceLT, Nat.reduceEqDiff, reduceCtorEq, Nat.reduceLeDiff, Nat.reduceBEq, Nat.reduceMul, Int.reduceToNat, List.length_cons, List.length_nil]; rfl) (by repeat' first | exact trivial | constructor) ?_
  by_cases h0 : x.length = 0
  · have e : canonB x = true := by rw [canonB, decide_eq_true h0]; rfl
    rw [e]
    refine Holds.step (Px := px) (T := TT) (ρ := fun _ => []) TTe (by simp (maxSteps := 100000) (disch := omega) only [go_sem, V.isAgg, V.flat, ↓reduceIte, Nat.reduceAdd, Nat.reduceSub, Nat.reduceLT, Nat.reduceEqDiff, reduceCtorEq, Nat.reduceLeDiff, Nat.reduceBEq, Nat.reduceMul, Int.reduceToNat, h0]; rfl) (by repeat' first | exact trivial | constructor) ?_
    exact Holds.ret (RetOk.vs rfl (by exact ⟨⟨rfl, fun h => h⟩, trivial⟩) rfl)
  · have hlast : x.length - 1 < x.length := by omega
    have hi : ((x.length : Int) - 1).toNat = x.length - 1 := by omega
    have h0' : ¬ (x.length : Int) = 0 := by omega
    have e : canonB x = !decide (x.getD (x.length - 1) 0 = 0) := by rw [canonB, decide_eq_false h0]; rfl
    rw [e]
    refine Holds.step (Px := px) (T := TT) (ρ := fun _ => []) TTe (by simp (maxSteps := 100000) (disch := omega) only [go_sem, V.isAgg, V.flat, ↓reduceIte, Nat.reduceAdd, Nat.reduceSub, Nat.reduceLT, Nat.reduceEqDiff, reduceCtorEq, Nat.reduceLeDiff, Nat.reduceBEq, Nat.reduceMul, Int.reduceToNat, h0', hi, get_map hlast]; rfl) (by repeat' first | exact trivial | constructor) ?_
    exact Holds.ret (RetOk.vs rfl (by exact ⟨⟨rfl, fun h => h⟩, trivial⟩) rfl)

theorem Is_ok (x y : List Int) (hx : x.length < 1000000) (hy : y.length < 100000) (hd : (digs (val y)).length < 1000000) (oy : okW y) : FnOk Tryz.prog 29 [.v (words x), .v (words y)] [.v true (.bool (decide (x = digs (val y))))] := by
  have h1 := Canonical_ok x (by omega)
  have h2 := rTrim_ok y hy oy
  have h3 := Same_ok x (digs (val y)) (by omega) (by omega)
  refine FnOk.of Tryz.func29 rfl rfl fun cx w0 => ?_
  rw [show Tryz.f29.ntmps = 13 from rfl]
  refine Holds.step (Px := px) (T := TT) (ρ := fun _ => []) TTe (by simp (maxSteps := 100000) (disch := omega) only [go_sem, V.isAgg, V.flat, ↓reduceIte, Nat.reduceAdd, Nat.reduceSub, Nat.reduceLT, Nat.reduceEqDiff, reduceCtorEq, Nat.reduceLeDiff, Nat.reduceBEq, Nat.reduceMul, Int.reduceToNat, List.length_cons, List.length_nil]; rfl) (by repeat' first | exact trivial | constructor) ?_
  cases hc : canonB x
  · have e : decide (x = digs (val y)) = false := decide_eq_false fun he => by
      have := canon_of (digs_ok (val y)).2.1
      rw [← he, hc] at this
      cases this
    rw [e]
    rw [hc] at h1
    refine Holds.step (Px := px) (T := TT) (ρ := fun _ => [.v true (.bool false)]) TTe (by simp (maxSteps := 100000) (disch := omega) only [go_sem, V.isAgg, V.flat, ↓reduceIte, Nat.reduceAdd, Nat.reduceSub, Nat.reduceLT, Nat.reduceEqDiff, reduceCtorEq, Nat.reduceLeDiff, Nat.reduceBEq, Nat.reduceMul, Int.reduceToNat]; rfl) (by first | exact h1 | (repeat' first | exact trivial | exact h1 | constructor)) ?_
    exact Holds.ret (RetOk.vs rfl (by exact ⟨⟨rfl, fun h => h⟩, trivial⟩) rfl)
  · rw [hc] at h1
    refine Holds.step (Px := px) (T := TT) (ρ := fun d => if d = 6 then [.v true (.bool true)] else if d = 10 then [.v true (words (digs (val y)))] else [.v true (.bool (decide (x = digs (val y))))]) TTe (by simp (maxSteps := 100000) (disch := omega) only [go_sem, V.isAgg, V.flat, ↓reduceIte, Nat.reduceAdd, Nat.reduceSub, Nat.reduceLT, Nat.reduceEqDiff, reduceCtorEq, Nat.reduceLeDiff, Nat.reduceBEq, Nat.reduceMul, Int.reduceToNat]; rfl) (by first | exact ⟨h1, h2, h3⟩ | (repeat' first | exact trivial | exact h1 | exact h2 | exact h3 | constructor)) ?_
    exact Holds.ret (RetOk.vs rfl (by exact ⟨⟨rfl, fun h => h⟩, trivial⟩) rfl)

theorem nats_ok (xs ys : List (List Int)) (hl : xs.length = ys.length) (hx : xs.length < 1000000) (h : ∀ k, k < xs.length → FnOk Tryz.prog 29 [.v (words (xs.getD k [])), .v (words (ys.getD k []))] [.v true (.bool true)]) :
    FnOk Tryz.prog 28 [.v (natsV xs), .v (natsV ys)] [.v true (.bool true)] := by
  refine FnOk.of Tryz.func28 rfl rfl fun cx w0 => ?_
  rw [show Tryz.f28.ntmps = 27 from rfl]
  refine Holds.step (Px := px) (T := TT) (ρ := fun _ => []) TTe (by simp (maxSteps := 100000) (disch := omega) only [go_sem, V.isAgg, V.flat, ↓reduceIte, Nat.reduceAdd, Nat.reduceSub, Nat.reduceLT, Nat.reduceEqDiff, reduceCtorEq, Nat.reduceLeDiff, Nat.reduceBEq, Nat.reduceMul, Int.reduceToNat, List.length_cons, List.length_nil]; rfl) (by repeat' first | exact trivial | constructor) ?_
  refine Holds.next (fun σ => ∀ a w, Rel cx w0 σ a w → Rel cx w0 { nt := 27, env := [(0, .v false (natsV xs)), (1, .v false (natsV ys))], mem := [] } a w) ?_ ?_
  · refine Holds.step (Px := px) (T := TT) (ρ := fun _ => []) TTe (by simp (maxSteps := 100000) (disch := omega) only [go_sem, V.isAgg, V.flat, ↓reduceIte, Nat.reduceAdd, Nat.reduceSub, Nat.reduceLT, Nat.reduceEqDiff, reduceCtorEq, Nat.reduceLeDiff, Nat.reduceBEq, Nat.reduceMul, Int.reduceToNat, natsV, hl]; rfl) (by repeat' first | exact trivial | constructor) ?_
    exact Holds.condF rfl (Holds.skip fun a w hr => Rel.keep [0, 1] [] hr)
  · intro σ hσ
    refine Holds.from hσ ?_
    refine Holds.next (fun σ => ∀ a w, Rel cx w0 σ a w → Rel cx w0 { nt := 27, env := [], mem := [] } a w) ?_ ?_
    · refine Holds.step (Px := px) (T := TT) (ρ := fun _ => []) TTe (by simp (maxSteps := 100000) (disch := omega) only [go_sem, V.isAgg, V.flat, ↓reduceIte, Nat.reduceAdd, Nat.reduceSub, Nat.reduceLT, Nat.reduceEqDiff, reduceCtorEq, Nat.reduceLeDiff, Nat.reduceBEq, Nat.reduceMul, Int.reduceToNat]; rfl) (by repeat' first | exact trivial | constructor) ?_
      refine Holds.loopB (fun k : Nat => { nt := 27, env := [(5, .v true (.int .i64 k)), (0, .v false (natsV xs)), (1, .v false (natsV ys))], mem := [] }) (fun k => k ≤ xs.length) (fun k => xs.length - k) 0 (Nat.zero_le _) (fun a w hr => Rel.keep [5, 0, 1] [] hr) ?_
      intro k hk
      by_cases hend : k = xs.length
      · refine Holds.seq ?_
        refine Holds.step (Px := px) (T := TT) (ρ := fun _ => []) TTe (by simp (maxSteps := 100000) (disch := omega) only [go_sem, V.isAgg, V.flat, ↓reduceIte, Nat.reduceAdd, Nat.reduceSub, Nat.reduceLT, Nat.reduceEqDiff, reduceCtorEq, Nat.reduceLeDiff, Nat.reduceBEq, Nat.reduceMul, Int.reduceToNat, natsV]; rfl) (by repeat' first | exact trivial | constructor) ?_
        exact Holds.condF rfl (Holds.exit ⟨rfl, fun a w hr => Rel.keep [] [] hr⟩)
      · have hkx : k < xs.length := by omega
        have hky : k < ys.length := by omega
        refine Holds.seq ?_
        refine Holds.step (Px := px) (T := TT) (ρ := fun _ => []) TTe (by simp (maxSteps := 100000) (disch := omega) only [go_sem, V.isAgg, V.flat, ↓reduceIte, Nat.reduceAdd, Nat.reduceSub, Nat.reduceLT, Nat.reduceEqDiff, reduceCtorEq, Nat.reduceLeDiff, Nat.reduceBEq, Nat.reduceMul, Int.reduceToNat, natsV]; rfl) (by repeat' first | exact trivial | constructor) ?_
        refine Holds.condT rfl (Holds.skip ?_)
        refine Holds.next (fun σ => ∀ a w, Rel cx w0 σ a w → Rel cx w0 { nt := 27, env := [(5, .v true (.int .i64 k)), (0, .v false (natsV xs)), (1, .v false (natsV ys))], mem := [] } a w) ?_ ?_
        · refine Holds.blockN ?_
          refine Holds.dstep (Px := px) (T := TT) (ρ := fun _ => [.v true (.bool true)]) [] mixed (by kernel_rfl) TTe (by simp (maxSteps := 100000) (disch := omega) only [go_sem, V.isAgg, V.flat, ↓reduceIte, Nat.reduceAdd, Nat.reduceSub, Nat.reduceLT, Nat.reduceEqDiff, reduceCtorEq, Nat.reduceLeDiff, Nat.reduceBEq, Nat.reduceMul, Int.reduceToNat, natsV, get_mapL hkx, get_mapL hky]; rfl) (by first | exact h k hkx | (repeat' first | exact trivial | exact h k hkx | constructor)) (by rfl) (by rfl) (by rfl) ?_
          exact Holds.condF rfl (Holds.skip fun a w hr => Rel.keep [5, 0, 1] [] hr)
        · intro σ hσ
          refine Holds.from hσ ?_
          refine Holds.region (Px := px) (T := TT) (ρ := fun _ => []) TTe (by simp (maxSteps := 100000) (disch := omega) only [go_sem, V.isAgg, V.flat, ↓reduceIte, Nat.reduceAdd, Nat.reduceSub, Nat.reduceLT, Nat.reduceEqDiff, reduceCtorEq, Nat.reduceLeDiff, Nat.reduceBEq, Nat.reduceMul, Int.reduceToNat]; rfl) (by repeat' first | exact trivial | constructor) ?_
          exact ⟨k + 1, (by show k + 1 ≤ xs.length; omega), (show xs.length - (k + 1) < xs.length - k by omega), fun a w hr => Rel.keep [5, 0, 1] [] hr⟩
    · intro σ hσ
      refine Holds.from hσ ?_
      refine Holds.step (Px := px) (T := TT) (ρ := fun _ => []) TTe (by simp (maxSteps := 100000) (disch := omega) only [go_sem, V.isAgg, V.flat, ↓reduceIte, Nat.reduceAdd, Nat.reduceSub, Nat.reduceLT, Nat.reduceEqDiff, reduceCtorEq, Nat.reduceLeDiff, Nat.reduceBEq, Nat.reduceMul, Int.reduceToNat]; rfl) (by repeat' first | exact trivial | constructor) ?_
      exact Holds.ret (RetOk.vs rfl (by exact ⟨⟨rfl, fun h => h⟩, trivial⟩) rfl)

theorem few_ok (x : List Int) (m : Nat) (hm : m ≤ 1000) : FnOk Tryz.prog 10 [.v (words x), .v (.int .i64 m)] [.v true (words (x.take m))] := by
  obtain ⟨c, hc⟩ : ∃ c, c = min m x.length := ⟨_, rfl⟩
  have hmin : (if (m : Int) < (x.length : Int) then (m : Int) else x.length) = c := by
    rw [hc]; split <;> omega
  have htk : x.take c = x.take m := by
    rw [hc]
    by_cases h : m ≤ x.length
    · rw [Nat.min_eq_left h]
    · rw [Nat.min_eq_right (by omega), List.take_length, List.take_of_length_le (by omega)]
  have htm : List.take c (List.map (fun n => V.int .u64 n) x) = List.map (fun n => V.int .u64 n) (x.take m) := by rw [← List.map_take, htk]
  have hlen : (x.take m).length ≤ 1000 := by rw [List.length_take]; omega
  refine FnOk.of Tryz.func10 rfl rfl fun cx w0 => ?_
  rw [show Tryz.f10.ntmps = 14 from rfl]
  refine Holds.step (Px := px) (T := TT) (ρ := fun _ => []) TTe (by simp (maxSteps := 100000) (disch := omega) only [go_sem, V.isAgg, V.flat, ↓reduceIte, Nat.reduceAdd, Nat.reduceSub, Nat.reduceLT, Nat.reduceEqDiff, reduceCtorEq, Nat.reduceLeDiff, Nat.reduceBEq, Nat.reduceMul, Int.reduceToNat, List.length_cons, List.length_nil]; rfl) (by repeat' first | exact trivial | constructor) ?_
  refine Holds.step (Px := px) (T := TT) (ρ := fun _ => []) TTe (by simp (maxSteps := 100000) (disch := omega) only [go_sem, V.isAgg, V.flat, ↓reduceIte, Nat.reduceAdd, Nat.reduceSub, Nat.reduceLT, Nat.reduceEqDiff, reduceCtorEq, Nat.reduceLeDiff, Nat.reduceBEq, Nat.reduceMul, Int.reduceToNat]; rfl) (by repeat' first | exact trivial | constructor) ?_
  refine Holds.step (Px := px) (T := TT) (ρ := fun _ => []) TTe (by simp (maxSteps := 100000) (disch := omega) only [go_sem, V.isAgg, V.flat, ↓reduceIte, Nat.reduceAdd, Nat.reduceSub, Nat.reduceLT, Nat.reduceEqDiff, reduceCtorEq, Nat.reduceLeDiff, Nat.reduceBEq, Nat.reduceMul, Int.reduceToNat, hmin, htm, flatW]; rfl) (by repeat' first | exact trivial | constructor) ?_
  exact Holds.ret ⟨_, [], rfl, ⟨⟨rfl, by rw [List.drop_zero]; exact (List.take_of_length_le (by rw [List.length_map]; exact Nat.le_refl _)).symm, fun h => h, rfl⟩, trivial⟩, by simp [R.names, R.mems, R.blks], by simp, rfl⟩
end Go.Proofs.YtjmclobbfabnpaaGreat.L
