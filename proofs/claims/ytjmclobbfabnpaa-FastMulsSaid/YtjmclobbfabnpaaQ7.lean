/-
  Uk
-/
import Derived.Test.YtjmclobbfabnpaaQ6
import Derived.Test.YtjmclobbfabnpaaJ9
set_option linter.unusedSimpArgs false
set_option linter.unusedVariables false
/-
  The package's products, checked: Karatsuba, Toom, Square, Mul.
-/
namespace Go.Proofs.Ytjmclobbfabnpaa.L
open Go Go.RowKit Go.Proofs
attribute [local go_sem] evalOps_nil evalOps_cons runW_t runW_f runE_s runP_s wantA evalOp effOp letters okDst coreA St.opv St.get St.at look constA St.put St.upd St.set decide_true List.all_nil List.all_cons Bool.and_true Bool.true_and and_self and_true true_and if_true if_false true_or Int.sub_zero List.nil_append List.cons_append List.append_nil Option.isSome_some List.getElem?_toArray List.getElem?_cons_succ List.getElem?_cons_zero Option.bind_some Option.map_some Option.map_none beq_self_eq_true Bool.false_beq Bool.true_beq Bool.not_true Bool.not_false Bool.false_eq_true cond_true cond_false binA binI List.map_cons List.map_nil boundA List.length_nil List.length_cons Nat.zero_mul Nat.one_mul Nat.mul_one Nat.zero_add Nat.add_zero Nat.zero_le Option.toList St.freshB AV.ment AV.ments Blk.ment V.sizes Nat.lt_add_one Bool.or_true Bool.true_or Bool.or_false Bool.false_or Bool.or_self if_pos if_neg decide_false decide_eq_true decide_eq_false wrap_i64 Int.toNat_natCast minA maxA Int.natCast_add Int.cast_ofNat_Int Option.isSome_none false_implies true_implies forall_const List.drop_zero Int.toNat_zero Int.add_sub_cancel lenA sliceA loadA indexAddrA partA fitsT V.atP V.offP V.size List.length_map List.getElem?_map Int.toNat_natCast_add_one Int.ofNat_eq_natCast TY calleeA capArg knotA capArgs toArgs toArg callA R.res R.mems R.blks R.av R.names R.nw invokeA storeA storeV fieldAddrA liveB V.off V.offs V.setP List.set_cons_zero List.set_cons_succ buildA buildP partsA appendA srcA copyA boxOk makeA AV.pure List.take_succ_cons List.take_zero nilA words entry List.zipIdx_cons List.zipIdx_nil Arg.av Arg.avs

theorem mtT : TT.mt 95 "reckoner/fast.mul" = some 143 := by kernel_rfl
theorem ifc95 : ifcT Try.prog 95 = some false := by kernel_rfl
theorem large2 (X Y : List Int) (hX : X.length < 1000000) (hY : Y.length < 1000000) : FnOk Try.prog 47 [.v (.sl 1 [.sl 1 (X.map fun n => .int .u64 n), .sl 1 (Y.map fun n => .int .u64 n)])] [.v true (.bool (decide (4096 < X.length) || decide (4096 < Y.length)))] := by
  have := large_ok [X, Y] (by simp) (by intro l hl; simp only [List.mem_cons, List.not_mem_nil, or_false] at hl; rcases hl with rfl | rfl <;> omega)
  rw [show ([X, Y].any fun l => decide (4096 < l.length)) = (decide (4096 < X.length) || decide (4096 < Y.length)) from by simp] at this
  exact this
theorem large2_no {X Y : List Int} (hX : X.length ≤ 4096) (hY : Y.length ≤ 4096) : FnOk Try.prog 47 [.v (.sl 1 [.sl 1 (X.map fun n => .int .u64 n), .sl 1 (Y.map fun n => .int .u64 n)])] [.v true (.bool false)] := by
  have := large2 X Y (by omega) (by omega)
  rw [decide_eq_false (by omega), decide_eq_false (by omega)] at this
  exact this
theorem large2_yes {X Y : List Int} (hX : X.length < 1000000) (hY : Y.length < 1000000) (h : 4096 < X.length ∨ 4096 < Y.length) : FnOk Try.prog 47 [.v (.sl 1 [.sl 1 (X.map fun n => .int .u64 n), .sl 1 (Y.map fun n => .int .u64 n)])] [.v true (.bool true)] := by
  have := large2 X Y hX hY
  rw [show (decide (4096 < X.length) || decide (4096 < Y.length)) = true from by simpa using h] at this
  exact this
theorem trim_digs_digs (v : Nat) : trimL (digs v) = digs v := by rw [trim_digs (digs_ok v).1, (digs_ok v).2.2]

theorem checked96_ok (X Y : List Int) (least : Int) (hX : X.length ≤ 4096) (hY : Y.length ≤ 4096) (hl : 3 ≤ least ∧ least ≤ 64) (v : Nat) (hv : (digs v).length < 1000000)
    (h : FnOk Try.prog 69 [.v (wayV least), .v (words (trimL X)), .v (words (trimL Y))] [.v true (words (digs v))]) :
    FnOk Try.prog 62 [.v (words X), .v (words Y), .v (.int .i64 least), .v (.iface 96 (wayV least))] [.v true (words (fitR (digs v)).1), .v true (.int .i64 (fitR (digs v)).2)] := by
  have hlg := large2_no hX hY
  have h1 := Trim_ok X (by omega)
  have h2 := Trim_ok Y (by omega)
  have h3 := ffitG_ok (digs v) hv
  rw [trim_digs_digs] at h3
  obtain ⟨D, hD⟩ : ∃ D, D = digs v := ⟨_, rfl⟩
  rw [← hD] at h h3 ⊢
  obtain ⟨F, hF⟩ : ∃ F, F = (fitR D).1 := ⟨_, rfl⟩
  obtain ⟨E, hE⟩ : ∃ E, E = (fitR D).2 := ⟨_, rfl⟩
  rw [← hF, ← hE] at h3 ⊢
  obtain ⟨x, hx⟩ : ∃ x, x = trimL X := ⟨_, rfl⟩
  obtain ⟨y, hy⟩ : ∃ y, y = trimL Y := ⟨_, rfl⟩
  rw [← hx] at h1 h
  rw [← hy] at h2 h
  have n1 : ¬ least < 3 := by omega
  have n2 : ¬ 64 < least := by omega
  refine FnOk.of Try.func62 rfl rfl fun cx w0 => ?_
  rw [show Try.f62.ntmps = 33 from rfl]
  refine Holds.step (Px := px) (T := TT) (ρ := fun _ => []) TTe (by simp (maxSteps := 100000) (disch := omega) only [go_sem, V.isAgg, V.flat, ↓reduceIte, Nat.reduceAdd, Nat.reduceSub, Nat.reduceLT, Nat.reduceEqDiff, reduceCtorEq, Nat.reduceLeDiff, Nat.reduceBEq, Nat.reduceMul, Int.reduceToNat, List.length_cons, List.length_nil, wayV]; rfl) (by repeat' first | exact trivial | constructor) ?_
  refine Holds.next (fun σ => ∀ a w, Rel cx w0 σ a w → Rel cx w0 { nt := 33, env := [(0, .v false (words X)), (1, .v false (words Y)), (2, .v true (.int .i64 least)), (3, .v false (.iface 96 (wayV least)))], mem := [] } a w) ?_ ?_
  · refine Holds.step (Px := px) (T := TT) (ρ := fun _ => [.v true (.bool false)]) TTe (by simp (maxSteps := 100000) (disch := omega) only [go_sem, V.isAgg, V.flat, ↓reduceIte, Nat.reduceAdd, Nat.reduceSub, Nat.reduceLT, Nat.reduceEqDiff, reduceCtorEq, Nat.reduceLeDiff, Nat.reduceBEq, Nat.reduceMul, Int.reduceToNat]; rfl) (by first | exact hlg | (repeat' first | exact trivial | exact hlg | constructor)) ?_
    exact Holds.condF rfl (Holds.skip fun a w h => Rel.keep [0, 1, 2, 3] [] h)
  · intro σ hσ
    refine Holds.from hσ ?_
    refine Holds.next (fun σ => ∀ a w, Rel cx w0 σ a w → Rel cx w0 { nt := 33, env := [(0, .v false (words X)), (1, .v false (words Y)), (2, .v true (.int .i64 least)), (3, .v false (.iface 96 (wayV least)))], mem := [] } a w) ?_ ?_
    · refine Holds.step (Px := px) (T := TT) (ρ := fun _ => []) TTe (by simp (maxSteps := 100000) (disch := omega) only [go_sem, V.isAgg, V.flat, ↓reduceIte, Nat.reduceAdd, Nat.reduceSub, Nat.reduceLT, Nat.reduceEqDiff, reduceCtorEq, Nat.reduceLeDiff, Nat.reduceBEq, Nat.reduceMul, Int.reduceToNat, n1, n2]; rfl) (by repeat' first | exact trivial | constructor) ?_
      exact Holds.condF rfl (Holds.skip fun a w h => Rel.keep [0, 1, 2, 3] [] h)
    · intro σ hσ
      refine Holds.from hσ ?_
      refine Holds.step (Px := px) (T := TT) (ρ := fun _ => []) TTe (by simp (maxSteps := 100000) (disch := omega) only [go_sem, V.isAgg, V.flat, ↓reduceIte, Nat.reduceAdd, Nat.reduceSub, Nat.reduceLT, Nat.reduceEqDiff, reduceCtorEq, Nat.reduceLeDiff, Nat.reduceBEq, Nat.reduceMul, Int.reduceToNat]; rfl) (by repeat' first | exact trivial | constructor) ?_
      refine Holds.step (Px := px) (T := TT) (ρ := fun d => if d = 26 then [.v true (words x)] else if d = 28 then [.v true (words y)] else if d = 29 then [.v true (words D)] else [.v true (words F), .v true (.int .i64 E)]) TTe (by simp (maxSteps := 100000) (disch := omega) only [go_sem, V.isAgg, V.flat, ↓reduceIte, Nat.reduceAdd, Nat.reduceSub, Nat.reduceLT, Nat.reduceEqDiff, reduceCtorEq, Nat.reduceLeDiff, Nat.reduceBEq, Nat.reduceMul, Int.reduceToNat, mtK, wayV]; rfl) (by first | exact ⟨h1, h2, h, h3⟩ | (repeat' first | exact trivial | exact h1 | exact h2 | exact h | exact h3 | constructor)) ?_
      exact Holds.ret (RetOk.vs rfl (by exact ⟨⟨rfl, fun h => h⟩, ⟨rfl, fun h => h⟩, trivial⟩) rfl)

theorem checked95_ok (X Y : List Int) (least : Int) (hX : X.length ≤ 4096) (hY : Y.length ≤ 4096) (hl : 3 ≤ least ∧ least ≤ 64) (v : Nat) (hv : (digs v).length < 1000000)
    (h : FnOk Try.prog 143 [.v (wayV least), .v (words (trimL X)), .v (words (trimL Y))] [.v true (words (digs v))]) :
    FnOk Try.prog 62 [.v (words X), .v (words Y), .v (.int .i64 least), .v (.iface 95 (wayV least))] [.v true (words (fitR (digs v)).1), .v true (.int .i64 (fitR (digs v)).2)] := by
  have hlg := large2_no hX hY
  have h1 := Trim_ok X (by omega)
  have h2 := Trim_ok Y (by omega)
  have h3 := ffitG_ok (digs v) hv
  rw [trim_digs_digs] at h3
  obtain ⟨D, hD⟩ : ∃ D, D = digs v := ⟨_, rfl⟩
  rw [← hD] at h h3 ⊢
  obtain ⟨F, hF⟩ : ∃ F, F = (fitR D).1 := ⟨_, rfl⟩
  obtain ⟨E, hE⟩ : ∃ E, E = (fitR D).2 := ⟨_, rfl⟩
  rw [← hF, ← hE] at h3 ⊢
  obtain ⟨x, hx⟩ : ∃ x, x = trimL X := ⟨_, rfl⟩
  obtain ⟨y, hy⟩ : ∃ y, y = trimL Y := ⟨_, rfl⟩
  rw [← hx] at h1 h
  rw [← hy] at h2 h
  have n1 : ¬ least < 3 := by omega
  have n2 : ¬ 64 < least := by omega
  refine FnOk.of Try.func62 rfl rfl fun cx w0 => ?_
  rw [show Try.f62.ntmps = 33 from rfl]
  refine Holds.step (Px := px) (T := TT) (ρ := fun _ => []) TTe (by simp (maxSteps := 100000) (disch := omega) only [go_sem, V.isAgg, V.flat, ↓reduceIte, Nat.reduceAdd, Nat.reduceSub, Nat.reduceLT, Nat.reduceEqDiff, reduceCtorEq, Nat.reduceLeDiff, Nat.reduceBEq, Nat.reduceMul, Int.reduceToNat, List.length_cons, List.length_nil, wayV]; rfl) (by repeat' first | exact trivial | constructor) ?_
  refine Holds.next (fun σ => ∀ a w, Rel cx w0 σ a w → Rel cx w0 { nt := 33, env := [(0, .v false (words X)), (1, .v false (words Y)), (2, .v true (.int .i64 least)), (3, .v false (.iface 95 (wayV least)))], mem := [] } a w) ?_ ?_
  · refine Holds.step (Px := px) (T := TT) (ρ := fun _ => [.v true (.bool false)]) TTe (by simp (maxSteps := 100000) (disch := omega) only [go_sem, V.isAgg, V.flat, ↓reduceIte, Nat.reduceAdd, Nat.reduceSub, Nat.reduceLT, Nat.reduceEqDiff, reduceCtorEq, Nat.reduceLeDiff, Nat.reduceBEq, Nat.reduceMul, Int.reduceToNat]; rfl) (by first | exact hlg | (repeat' first | exact trivial | exact hlg | constructor)) ?_
    exact Holds.condF rfl (Holds.skip fun a w h => Rel.keep [0, 1, 2, 3] [] h)
  · intro σ hσ
    refine Holds.from hσ ?_
    refine Holds.next (fun σ => ∀ a w, Rel cx w0 σ a w → Rel cx w0 { nt := 33, env := [(0, .v false (words X)), (1, .v false (words Y)), (2, .v true (.int .i64 least)), (3, .v false (.iface 95 (wayV least)))], mem := [] } a w) ?_ ?_
    · refine Holds.step (Px := px) (T := TT) (ρ := fun _ => []) TTe (by simp (maxSteps := 100000) (disch := omega) only [go_sem, V.isAgg, V.flat, ↓reduceIte, Nat.reduceAdd, Nat.reduceSub, Nat.reduceLT, Nat.reduceEqDiff, reduceCtorEq, Nat.reduceLeDiff, Nat.reduceBEq, Nat.reduceMul, Int.reduceToNat, n1, n2]; rfl) (by repeat' first | exact trivial | constructor) ?_
      exact Holds.condF rfl (Holds.skip fun a w h => Rel.keep [0, 1, 2, 3] [] h)
    · intro σ hσ
      refine Holds.from hσ ?_
      refine Holds.step (Px := px) (T := TT) (ρ := fun _ => []) TTe (by simp (maxSteps := 100000) (disch := omega) only [go_sem, V.isAgg, V.flat, ↓reduceIte, Nat.reduceAdd, Nat.reduceSub, Nat.reduceLT, Nat.reduceEqDiff, reduceCtorEq, Nat.reduceLeDiff, Nat.reduceBEq, Nat.reduceMul, Int.reduceToNat]; rfl) (by repeat' first | exact trivial | constructor) ?_
      refine Holds.step (Px := px) (T := TT) (ρ := fun d => if d = 26 then [.v true (words x)] else if d = 28 then [.v true (words y)] else if d = 29 then [.v true (words D)] else [.v true (words F), .v true (.int .i64 E)]) TTe (by simp (maxSteps := 100000) (disch := omega) only [go_sem, V.isAgg, V.flat, ↓reduceIte, Nat.reduceAdd, Nat.reduceSub, Nat.reduceLT, Nat.reduceEqDiff, reduceCtorEq, Nat.reduceLeDiff, Nat.reduceBEq, Nat.reduceMul, Int.reduceToNat, mtT, wayV]; rfl) (by first | exact ⟨h1, h2, h, h3⟩ | (repeat' first | exact trivial | exact h1 | exact h2 | exact h | exact h3 | constructor)) ?_
      exact Holds.ret (RetOk.vs rfl (by exact ⟨⟨rfl, fun h => h⟩, ⟨rfl, fun h => h⟩, trivial⟩) rfl)

theorem checked_bad (X Y : List Int) (least : Int) (W : V) (T : TypeId) (hX : X.length < 1000000) (hY : Y.length < 1000000) (h : 4096 < X.length ∨ 4096 < Y.length ∨ least < 3 ∨ 64 < least) :
    FnOk Try.prog 62 [.v (words X), .v (words Y), .v (.int .i64 least), .v (.iface T W)] [.v true (words []), .v true (.int .i64 (if 4096 < X.length ∨ 4096 < Y.length then 2 else 1))] := by
  refine FnOk.of Try.func62 rfl rfl fun cx w0 => ?_
  rw [show Try.f62.ntmps = 33 from rfl]
  refine Holds.step (Px := px) (T := TT) (ρ := fun _ => []) TTe (by simp (maxSteps := 100000) (disch := omega) only [go_sem, V.isAgg, V.flat, ↓reduceIte, Nat.reduceAdd, Nat.reduceSub, Nat.reduceLT, Nat.reduceEqDiff, reduceCtorEq, Nat.reduceLeDiff, Nat.reduceBEq, Nat.reduceMul, Int.reduceToNat, List.length_cons, List.length_nil]; rfl) (by repeat' first | exact trivial | constructor) ?_
  by_cases hb : 4096 < X.length ∨ 4096 < Y.length
  · have hlg := large2_yes hX hY hb
    rw [if_pos hb]
    refine Holds.seq ?_
    refine Holds.step (Px := px) (T := TT) (ρ := fun _ => [.v true (.bool true)]) TTe (by simp (maxSteps := 100000) (disch := omega) only [go_sem, V.isAgg, V.flat, ↓reduceIte, Nat.reduceAdd, Nat.reduceSub, Nat.reduceLT, Nat.reduceEqDiff, reduceCtorEq, Nat.reduceLeDiff, Nat.reduceBEq, Nat.reduceMul, Int.reduceToNat]; rfl) (by first | exact hlg | (repeat' first | exact trivial | exact hlg | constructor)) ?_
    refine Holds.condT rfl ?_
    refine Holds.step (Px := px) (T := TT) (ρ := fun _ => []) TTe (by simp (maxSteps := 100000) (disch := omega) only [go_sem, V.isAgg, V.flat, ↓reduceIte, Nat.reduceAdd, Nat.reduceSub, Nat.reduceLT, Nat.reduceEqDiff, reduceCtorEq, Nat.reduceLeDiff, Nat.reduceBEq, Nat.reduceMul, Int.reduceToNat]; rfl) (by repeat' first | exact trivial | constructor) ?_
    exact Holds.ret ⟨_, [], rfl, ⟨rfl, ⟨rfl, fun h => h⟩, trivial⟩, by simp [R.names, R.mems, R.blks], by simp, rfl⟩
  · have hlg := large2_no (X := X) (Y := Y) (by omega) (by omega)
    rw [if_neg hb]
    refine Holds.next (fun σ => ∀ a w, Rel cx w0 σ a w → Rel cx w0 { nt := 33, env := [(2, .v true (.int .i64 least))], mem := [] } a w) ?_ ?_
    · refine Holds.step (Px := px) (T := TT) (ρ := fun _ => [.v true (.bool false)]) TTe (by simp (maxSteps := 100000) (disch := omega) only [go_sem, V.isAgg, V.flat, ↓reduceIte, Nat.reduceAdd, Nat.reduceSub, Nat.reduceLT, Nat.reduceEqDiff, reduceCtorEq, Nat.reduceLeDiff, Nat.reduceBEq, Nat.reduceMul, Int.reduceToNat]; rfl) (by first | exact hlg | (repeat' first | exact trivial | exact hlg | constructor)) ?_
      exact Holds.condF rfl (Holds.skip fun a w h => Rel.keep [2] [] h)
    · intro σ hσ
      refine Holds.from hσ ?_
      refine Holds.seq ?_
      by_cases h1 : least < 3
      · refine Holds.step (Px := px) (T := TT) (ρ := fun _ => []) TTe (by simp (maxSteps := 100000) (disch := omega) only [go_sem, V.isAgg, V.flat, ↓reduceIte, Nat.reduceAdd, Nat.reduceSub, Nat.reduceLT, Nat.reduceEqDiff, reduceCtorEq, Nat.reduceLeDiff, Nat.reduceBEq, Nat.reduceMul, Int.reduceToNat, h1]; rfl) (by repeat' first | exact trivial | constructor) ?_
        refine Holds.condT rfl ?_
        refine Holds.step (Px := px) (T := TT) (ρ := fun _ => []) TTe (by simp (maxSteps := 100000) (disch := omega) only [go_sem, V.isAgg, V.flat, ↓reduceIte, Nat.reduceAdd, Nat.reduceSub, Nat.reduceLT, Nat.reduceEqDiff, reduceCtorEq, Nat.reduceLeDiff, Nat.reduceBEq, Nat.reduceMul, Int.reduceToNat]; rfl) (by repeat' first | exact trivial | constructor) ?_
        exact Holds.ret ⟨_, [], rfl, ⟨rfl, ⟨rfl, fun h => h⟩, trivial⟩, by simp [R.names, R.mems, R.blks], by simp, rfl⟩
      · have h2 : 64 < least := by omega
        refine Holds.step (Px := px) (T := TT) (ρ := fun _ => []) TTe (by simp (maxSteps := 100000) (disch := omega) only [go_sem, V.isAgg, V.flat, ↓reduceIte, Nat.reduceAdd, Nat.reduceSub, Nat.reduceLT, Nat.reduceEqDiff, reduceCtorEq, Nat.reduceLeDiff, Nat.reduceBEq, Nat.reduceMul, Int.reduceToNat, h1, h2]; rfl) (by repeat' first | exact trivial | constructor) ?_
        refine Holds.condT rfl ?_
        refine Holds.step (Px := px) (T := TT) (ρ := fun _ => []) TTe (by simp (maxSteps := 100000) (disch := omega) only [go_sem, V.isAgg, V.flat, ↓reduceIte, Nat.reduceAdd, Nat.reduceSub, Nat.reduceLT, Nat.reduceEqDiff, reduceCtorEq, Nat.reduceLeDiff, Nat.reduceBEq, Nat.reduceMul, Int.reduceToNat]; rfl) (by repeat' first | exact trivial | constructor) ?_
        exact Holds.ret ⟨_, [], rfl, ⟨rfl, ⟨rfl, fun h => h⟩, trivial⟩, by simp [R.names, R.mems, R.blks], by simp, rfl⟩

/-! What a call that hands on to 'checked' does. -/
theorem Karatsuba_of (X Y : List Int) (least : Int) (F : List Int) (E : Int) (h : FnOk Try.prog 62 [.v (words X), .v (words Y), .v (.int .i64 least), .v (.iface 96 (wayV least))] [.v true (words F), .v true (.int .i64 E)]) :
    FnOk Try.prog 30 [.v (words X), .v (words Y), .v (.int .i64 least)] [.v true (words F), .v true (.int .i64 E)] := by
  refine FnOk.of Try.func30 rfl rfl fun cx w0 => ?_
  rw [show Try.f30.ntmps = 17 from rfl]
  refine Holds.step (Px := px) (T := TT) (ρ := fun _ => []) TTe (by simp (maxSteps := 100000) (disch := omega) only [go_sem, V.isAgg, V.flat, ↓reduceIte, Nat.reduceAdd, Nat.reduceSub, Nat.reduceLT, Nat.reduceEqDiff, reduceCtorEq, Nat.reduceLeDiff, Nat.reduceBEq, Nat.reduceMul, Int.reduceToNat, List.length_cons, List.length_nil]; rfl) (by repeat' first | exact trivial | constructor) ?_
  refine Holds.step (Px := px) (T := TT) (ρ := fun _ => [.v true (words F), .v true (.int .i64 E)]) TTe (by simp (maxSteps := 100000) (disch := omega) only [go_sem, V.isAgg, V.flat, ↓reduceIte, Nat.reduceAdd, Nat.reduceSub, Nat.reduceLT, Nat.reduceEqDiff, reduceCtorEq, Nat.reduceLeDiff, Nat.reduceBEq, Nat.reduceMul, Int.reduceToNat, ifc96]; rfl) (by first | exact h | (repeat' first | exact trivial | exact h | constructor)) ?_
  exact Holds.ret (RetOk.vs rfl (by exact ⟨⟨rfl, fun h => h⟩, ⟨rfl, fun h => h⟩, trivial⟩) rfl)
theorem Toom_of (X Y : List Int) (least : Int) (F : List Int) (E : Int) (h : FnOk Try.prog 62 [.v (words X), .v (words Y), .v (.int .i64 least), .v (.iface 95 (wayV least))] [.v true (words F), .v true (.int .i64 E)]) :
    FnOk Try.prog 31 [.v (words X), .v (words Y), .v (.int .i64 least)] [.v true (words F), .v true (.int .i64 E)] := by
  refine FnOk.of Try.func31 rfl rfl fun cx w0 => ?_
  rw [show Try.f31.ntmps = 17 from rfl]
  refine Holds.step (Px := px) (T := TT) (ρ := fun _ => []) TTe (by simp (maxSteps := 100000) (disch := omega) only [go_sem, V.isAgg, V.flat, ↓reduceIte, Nat.reduceAdd, Nat.reduceSub, Nat.reduceLT, Nat.reduceEqDiff, reduceCtorEq, Nat.reduceLeDiff, Nat.reduceBEq, Nat.reduceMul, Int.reduceToNat, List.length_cons, List.length_nil]; rfl) (by repeat' first | exact trivial | constructor) ?_
  refine Holds.step (Px := px) (T := TT) (ρ := fun _ => [.v true (words F), .v true (.int .i64 E)]) TTe (by simp (maxSteps := 100000) (disch := omega) only [go_sem, V.isAgg, V.flat, ↓reduceIte, Nat.reduceAdd, Nat.reduceSub, Nat.reduceLT, Nat.reduceEqDiff, reduceCtorEq, Nat.reduceLeDiff, Nat.reduceBEq, Nat.reduceMul, Int.reduceToNat, ifc95]; rfl) (by first | exact h | (repeat' first | exact trivial | exact h | constructor)) ?_
  exact Holds.ret (RetOk.vs rfl (by exact ⟨⟨rfl, fun h => h⟩, ⟨rfl, fun h => h⟩, trivial⟩) rfl)
theorem Square_of (X : List Int) (least : Int) (F : List Int) (E : Int) (h : FnOk Try.prog 62 [.v (words X), .v (words X), .v (.int .i64 least), .v (.iface 96 (wayV least))] [.v true (words F), .v true (.int .i64 E)]) :
    FnOk Try.prog 32 [.v (words X), .v (.int .i64 least)] [.v true (words F), .v true (.int .i64 E)] := by
  refine FnOk.of Try.func32 rfl rfl fun cx w0 => ?_
  rw [show Try.f32.ntmps = 15 from rfl]
  refine Holds.step (Px := px) (T := TT) (ρ := fun _ => []) TTe (by simp (maxSteps := 100000) (disch := omega) only [go_sem, V.isAgg, V.flat, ↓reduceIte, Nat.reduceAdd, Nat.reduceSub, Nat.reduceLT, Nat.reduceEqDiff, reduceCtorEq, Nat.reduceLeDiff, Nat.reduceBEq, Nat.reduceMul, Int.reduceToNat, List.length_cons, List.length_nil]; rfl) (by repeat' first | exact trivial | constructor) ?_
  refine Holds.step (Px := px) (T := TT) (ρ := fun _ => [.v true (words F), .v true (.int .i64 E)]) TTe (by simp (maxSteps := 100000) (disch := omega) only [go_sem, V.isAgg, V.flat, ↓reduceIte, Nat.reduceAdd, Nat.reduceSub, Nat.reduceLT, Nat.reduceEqDiff, reduceCtorEq, Nat.reduceLeDiff, Nat.reduceBEq, Nat.reduceMul, Int.reduceToNat, ifc96]; rfl) (by first | exact h | (repeat' first | exact trivial | exact h | constructor)) ?_
  exact Holds.ret (RetOk.vs rfl (by exact ⟨⟨rfl, fun h => h⟩, ⟨rfl, fun h => h⟩, trivial⟩) rfl)

theorem Karatsuba_ok (X Y : List Int) (least : Nat) (hX : X.length ≤ 2000) (hY : Y.length ≤ 2000) (hl : 3 ≤ least ∧ least ≤ 64) (oX : okW X) (oY : okW Y) :
    FnOk Try.prog 30 [.v (words X), .v (words Y), .v (.int .i64 least)] [.v true (words (digs (val X * val Y))), .v true (.int .i64 0)] := by
  have t1 := trimL_len X
  have t2 := trimL_len Y
  have h := kmul_of (trimL X) (trimL Y) least _ (grow_all least hl.1 hl.2 _ (trimL X) (trimL Y) (Nat.lt_succ_self _) (trimL_ok oX) (trimL_ok oY) (by omega) (by omega) (.inl (by omega)))
  rw [val_trim, val_trim] at h
  have hlen := digs_len (mul_lt_pow oX oY)
  have hc := checked96_ok X Y least (by omega) (by omega) (by omega) (val X * val Y) (by omega) h
  rw [fitR, if_neg (by omega)] at hc
  exact Karatsuba_of X Y least _ _ hc
theorem Square_ok (X : List Int) (least : Nat) (hX : X.length ≤ 2000) (hl : 3 ≤ least ∧ least ≤ 64) (oX : okW X) :
    FnOk Try.prog 32 [.v (words X), .v (.int .i64 least)] [.v true (words (digs (val X * val X))), .v true (.int .i64 0)] := by
  have t1 := trimL_len X
  have h := kmul_of (trimL X) (trimL X) least _ (grow_all least hl.1 hl.2 _ (trimL X) (trimL X) (Nat.lt_succ_self _) (trimL_ok oX) (trimL_ok oX) (by omega) (by omega) (.inl (by omega)))
  rw [val_trim] at h
  have hlen := digs_len (mul_lt_pow oX oX)
  have hc := checked96_ok X X least (by omega) (by omega) (by omega) (val X * val X) (by omega) h
  rw [fitR, if_neg (by omega)] at hc
  exact Square_of X least _ _ hc
theorem Toom_ok (X Y : List Int) (least : Nat) (hX : X.length ≤ 2000) (hY : Y.length ≤ 2000) (hl : 3 ≤ least ∧ least ≤ 64) (oX : okW X) (oY : okW Y) :
    FnOk Try.prog 31 [.v (words X), .v (words Y), .v (.int .i64 least)] [.v true (words (digs (val X * val Y))), .v true (.int .i64 0)] := by
  have t1 := trimL_len X
  have t2 := trimL_len Y
  have h := toom_all least hl.1 hl.2 2100 (trimL X) (trimL Y) (by omega) (by omega) (trimL_ok oX) (trimL_ok oY) (by omega) (by omega) (.inl (by omega))
  rw [val_trim, val_trim] at h
  have hlen := digs_len (mul_lt_pow oX oY)
  have hc := checked95_ok X Y least (by omega) (by omega) (by omega) (val X * val Y) (by omega) h
  rw [fitR, if_neg (by omega)] at hc
  exact Toom_of X Y least _ _ hc

theorem least_ok (n : Int) : FnOk Try.prog 33 [.v (.int .i64 n)] [.v true (.int .i64 (3 + (n % 18446744073709551616) % 62))] := by
  have ikd31 : ikd Try.prog 31 = some .u64 := by kernel_rfl
  have ikd3 : ikd Try.prog 3 = some .i64 := by kernel_rfl
  have und3 : (Try.prog.underlying 3).isSome = true := by kernel_rfl
  have und31 : (Try.prog.underlying 31).isSome = true := by kernel_rfl
  have hj1 : (n % 18446744073709551616).tmod 62 = (n % 18446744073709551616) % 62 := Int.tmod_eq_emod_of_nonneg (by omega)
  obtain ⟨j, hj⟩ : ∃ j, j = (n % 18446744073709551616) % 62 := ⟨_, rfl⟩
  rw [← hj] at hj1 ⊢
  have b0 : 0 ≤ j := by omega
  have b1 : j < 62 := by omega
  refine FnOk.of Try.func33 rfl rfl fun cx w0 => ?_
  rw [show Try.f33.ntmps = 8 from rfl]
  refine Holds.step (Px := px) (T := TT) (ρ := fun _ => []) TTe (by simp (maxSteps := 100000) (disch := omega) only [go_sem, V.isAgg, V.flat, ↓reduceIte, Nat.reduceAdd, Nat.reduceSub, Nat.reduceLT, Nat.reduceEqDiff, reduceCtorEq, Nat.reduceLeDiff, Nat.reduceBEq, Nat.reduceMul, Int.reduceToNat, List.length_cons, List.length_nil]; rfl) (by repeat' first | exact trivial | constructor) ?_
  refine Holds.step (Px := px) (T := TT) (ρ := fun _ => []) TTe (by simp (maxSteps := 100000) (disch := omega) only [go_sem, V.isAgg, V.flat, ↓reduceIte, Nat.reduceAdd, Nat.reduceSub, Nat.reduceLT, Nat.reduceEqDiff, reduceCtorEq, Nat.reduceLeDiff, Nat.reduceBEq, Nat.reduceMul, Int.reduceToNat, ikd31, ikd3, und3, und31, wrap_u64, hj1]; rfl) (by repeat' first | exact trivial | constructor) ?_
  exact Holds.ret (RetOk.vs rfl (by exact ⟨⟨rfl, fun h => h⟩, trivial⟩) rfl)
end Go.Proofs.Ytjmclobbfabnpaa.L
