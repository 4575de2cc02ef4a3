/-
  Ml Mm
-/
import Derived.Test.YtjmclobbfabnpaaGreatH3
import Derived.Test.YtjmclobbfabnpaaGreatH2
import Derived.Test.YtjmclobbfabnpaaGreatG4
import Derived.Test.YtjmclobbfabnpaaGreatH1
set_option linter.unusedSimpArgs false
set_option linter.unusedVariables false
/-
  Ranges over rows of products.
-/
namespace Go.Proofs.YtjmclobbfabnpaaGreat.L
open Go Go.RowKit Go.Proofs
attribute [local go_sem] evalOps_nil evalOps_cons runW_t runW_f runE_s runP_s wantA evalOp effOp letters okDst coreA St.opv St.get St.at look constA St.put St.upd St.set decide_true List.all_nil List.all_cons Bool.and_true Bool.true_and and_self and_true true_and if_true if_false true_or Int.sub_zero List.nil_append List.cons_append List.append_nil Option.isSome_some List.getElem?_toArray List.getElem?_cons_succ List.getElem?_cons_zero Option.bind_some Option.map_some Option.map_none beq_self_eq_true Bool.false_beq Bool.true_beq Bool.not_true Bool.not_false Bool.false_eq_true cond_true cond_false binA binI List.map_cons List.map_nil boundA List.length_nil List.length_cons Nat.zero_mul Nat.one_mul Nat.mul_one Nat.zero_add Nat.add_zero Nat.zero_le Option.toList St.freshB AV.ment AV.ments Blk.ment V.sizes Nat.lt_add_one Bool.or_true Bool.true_or Bool.or_false Bool.false_or Bool.or_self if_pos if_neg decide_false decide_eq_true decide_eq_false wrap_i64 Int.toNat_natCast minA maxA Int.natCast_add Int.cast_ofNat_Int Option.isSome_none false_implies true_implies forall_const List.drop_zero Int.toNat_zero Int.add_sub_cancel lenA sliceA loadA indexAddrA partA fitsT V.atP V.offP V.size List.length_map List.getElem?_map Int.toNat_natCast_add_one Int.ofNat_eq_natCast TY calleeA capArg knotA capArgs toArgs toArg callA R.res R.mems R.blks R.av R.names R.nw invokeA storeA storeV fieldAddrA liveB V.off V.offs V.setP List.set_cons_zero List.set_cons_succ buildA buildP partsA appendA srcA copyA boxOk makeA AV.pure List.take_succ_cons List.take_zero nilA words entry List.zipIdx_cons List.zipIdx_nil Arg.av Arg.avs

def rowsMem (x y : List Int) (B : List (Nat × Blk)) : List (Nat × Blk) :=
  (202, .box 24 (.v false (words y))) :: (201, .box 24 (.v false (words x))) :: B
/-- A row of products, the high word behind it. -/
def rowL (x : List Int) (w : Int) : List Int := mulRow x w ++ [mulHigh x w]
theorem mulRow_len {x : List Int} {w : Int} (ox : okW x) (hw : 0 ≤ w ∧ w < 18446744073709551616) : (mulRow x w).length = x.length := (mulI_ok ox hw (by omega) x.length).2.2
theorem rowL_len {x : List Int} {w : Int} (ox : okW x) (hw : 0 ≤ w ∧ w < 18446744073709551616) : (rowL x w).length = x.length + 1 := by rw [rowL, List.length_append, mulRow_len ox hw]; rfl
theorem rowL_ok {x : List Int} {w : Int} (ox : okW x) (hw : 0 ≤ w ∧ w < 18446744073709551616) : okW (rowL x w) := by
  obtain ⟨h1, h2, h3⟩ := mulI_ok ox hw (c := 0) (by omega) x.length
  intro n hn
  rcases List.mem_append.1 hn with hn | hn
  · exact h1 n hn
  · rw [List.mem_singleton] at hn; subst hn; exact h2

/-- A range over the rows. -/
theorem overRows {ro : Option Nat} {cx : Cx} {w0 : World} {σ : St} {Q : Exit → St → Prop} {g : Operand} {p1 p2 : Nat} {assign body : Code} {x y : List Int} {Bk : Nat → List (Nat × Blk)} (hxl : x.length ≤ 4096) (hyl : y.length < 1000000000) (ox : okW x) (oy : okW y)
    (hg : σ.opv g = .fn 117 [.ptr 202 0 [] 0, .ptr 201 0 [] 0]) (hmem : σ.mem = rowsMem x y (Bk 0)) (hp1 : p1 < σ.nt) (hp2 : p2 < σ.nt) (hsm : small σ = true) (hro : ∀ l, ro = some l → ∃ r, (l, Obj.loop r) ∈ σ.fix)
    (hfresh : ∀ k, k ≤ y.length → ∀ s, s = 27 ∨ s = 28 ∨ s = 301 → (Bk k).all (fun p => !p.2.ment s) = true) (hfroot : ∀ s, s = 27 ∨ s = 28 ∨ s = 301 → (σ.root.all fun p => !p.1.ment s) = true ∧ ((List.range σ.nt).all fun t => !(σ.get t).ment s) = true)
    (hround : ∀ k, k < y.length → ∀ (L : Nat) (fx fx' : List (Nat × Obj)) (env : List (Nat × AV)) (rt : List (AV × Value)) (M : List (Nat × Blk)), (∀ t, t < σ.nt → look env t = σ.get t) → (∀ s, s ≠ 27 → s ≠ 28 → s ≠ 301 → look M s = look (rowsMem x y (Bk k)) s) → look M 28 = .buf 52 1 true ((rowL x (y.getD k 0)).map fun n => .int .u64 n) →
      Holds Tryz.prog (some L) cx w0 assign { nt := σ.nt, env := (p2, .own 28 0 (x.length + 1)) :: (p1, .v true (.int .i64 k)) :: env, mem := M, root := rt, fix := fx }
        (fun e σ1 => e = .normal ∧ σ1.fix = fx ∧ Holds Tryz.prog (some L) cx w0 body { σ1 with fix := fx' }
          (fun e σ2 => e = .normal ∧ σ2.fix = fx' ∧ σ2.root = rt ∧ σ2.mem = rowsMem x y (Bk (k + 1)))))
    (hQ : ∀ F ds, (ro ≠ none → F = σ.fix ∧ ds = σ.defs) → Q .normal { σ with mem := rowsMem x y (Bk y.length), fix := F, defs := ds }) :
    Holds Tryz.prog ro cx w0 (.rangeFunc g #[p1, p2] assign body) σ Q := by
  refine Holds.rangeFunc (gf := 117) (caps := [.ptr 202 0 [] 0, .ptr 201 0 [] 0]) hg Tryz.func117 rfl rfl rfl hsm hro ?_
  intro tm L D f F1 ds htm hL hF1 hsame
  have hgv := held_vals htm
  obtain ⟨fx, hfx⟩ : ∃ fx, fx = (L, Obj.loop (loopRec .ready f tm #[p1, p2] assign body D)) :: F1 := ⟨_, rfl⟩
  obtain ⟨rt, hrt⟩ : ∃ rt, rt = σ.held tm ++ σ.root := ⟨_, rfl⟩
  have hrf : ∀ s, s = 27 ∨ s = 28 ∨ s = 301 → (rt.all fun p => !p.1.ment s) = true := fun s hs => by
    rw [hrt, List.all_append, (hfroot s hs).1, Bool.and_true, List.all_eq_true]
    exact held_all (f := fun X => !X.ment s) (hfroot s hs).2
  have r27 := hrf 27 (.inl rfl)
  have r28 := hrf 28 (.inr (.inl rfl))
  have r301 := hrf 301 (.inr (.inr rfl))
  refine Holds.from (σ' := { nt := 32, env := [(0, .yld L), (1, .ptr 202 0 [] 0), (2, .ptr 201 0 [] 0)], mem := rowsMem x y (Bk 0), root := rt, fix := fx }) (fun a w h => by
    have := Rel.less [0, 1, 2] (fun _ => rfl) h
    rw [hrt, hfx, ← hmem]
    exact this) ?_
  refine Holds.step (Px := px) (T := TT) (ρ := fun _ => []) TTe (by simp (maxSteps := 100000) (disch := omega) only [go_sem, V.isAgg, V.flat, ↓reduceIte, Nat.reduceAdd, Nat.reduceSub, Nat.reduceLT, Nat.reduceEqDiff, reduceCtorEq, Nat.reduceLeDiff, Nat.reduceBEq, Nat.reduceMul, Int.reduceToNat, rowsMem]; rfl) (by repeat' first | exact trivial | constructor) ?_
  refine Holds.post (Q := NR (fun s => ∀ a w, Rel cx w0 s a w → Rel cx w0 { nt := 32, env := [(0, .yld L), (1, .ptr 202 0 [] 0), (2, .ptr 201 0 [] 0), (9, .v false (words y)), (10, .v true (.int .i64 y.length)), (11, .v true (.int .i64 y.length))], mem := rowsMem x y (Bk y.length), root := rt, fix := fx } a w) (fun _ => False)) ?_ ?_
  · refine Holds.loopB (fun k : Nat => { nt := 32, env := [(0, .yld L), (1, .ptr 202 0 [] 0), (2, .ptr 201 0 [] 0), (9, .v false (words y)), (10, .v true (.int .i64 y.length)), (11, .v true (.int .i64 k))], mem := rowsMem x y (Bk k), root := rt, fix := fx }) (fun k => k ≤ y.length) (fun k => y.length - k) 0 (Nat.zero_le _) (fun a w h => Rel.less [0, 1, 2, 9, 10, 11] (fun _ => rfl) h) ?_
    intro k hk
    by_cases hkM : k = y.length
    · refine Holds.step (Px := px) (T := TT) (ρ := fun _ => []) TTe (by simp (maxSteps := 100000) (disch := omega) only [go_sem, V.isAgg, V.flat, ↓reduceIte, Nat.reduceAdd, Nat.reduceSub, Nat.reduceLT, Nat.reduceEqDiff, reduceCtorEq, Nat.reduceLeDiff, Nat.reduceBEq, Nat.reduceMul, Int.reduceToNat]; rfl) (by repeat' first | exact trivial | constructor) ?_
      refine Holds.seq ?_
      refine Holds.condF rfl (Holds.exit ⟨rfl, fun a w h => ?_⟩)
      have := Rel.less [0, 1, 2, 9, 10, 11] (fun _ => rfl) h
      rw [hkM] at this
      exact this
    · have hkl : k < y.length := by omega
      have hy := okW_getD oy k
      have b27 := hfresh k hk 27 (.inl rfl)
      have b28 := hfresh k hk 28 (.inr (.inl rfl))
      have b301 := hfresh k hk 301 (.inr (.inr rfl))
      have hml := mulRow_len ox hy
      simp only [Blk.ment] at b27 b28 b301
      refine Holds.step (Px := px) (T := TT) (ρ := fun _ => []) TTe (by simp (maxSteps := 100000) (disch := omega) only [go_sem, V.isAgg, V.flat, ↓reduceIte, Nat.reduceAdd, Nat.reduceSub, Nat.reduceLT, Nat.reduceEqDiff, reduceCtorEq, Nat.reduceLeDiff, Nat.reduceBEq, Nat.reduceMul, Int.reduceToNat]; rfl) (by repeat' first | exact trivial | constructor) ?_
      refine Holds.seq ?_
      refine Holds.condT rfl (Holds.skip ?_)
      refine Holds.next (fun s => ∀ a w, Rel cx w0 s a w → Rel cx w0 { nt := 32, env := [(0, .yld L), (1, .ptr 202 0 [] 0), (2, .ptr 201 0 [] 0), (9, .v false (words y)), (10, .v true (.int .i64 y.length)), (11, .v true (.int .i64 k))], mem := rowsMem x y (Bk (k + 1)), root := rt, fix := fx } a w) ?_ ?_
      · refine Holds.blockN ?_
        refine Holds.step (Px := px) (T := TT) (ρ := fun _ => []) TTe (by simp (maxSteps := 100000) (disch := omega) only [go_sem, V.isAgg, V.flat, ↓reduceIte, Nat.reduceAdd, Nat.reduceSub, Nat.reduceLT, Nat.reduceEqDiff, reduceCtorEq, Nat.reduceLeDiff, Nat.reduceBEq, Nat.reduceMul, Int.reduceToNat, get_map hkl]; rfl) (by repeat' first | exact trivial | constructor) ?_
        refine Holds.step (Px := px) (T := TT) (ρ := fun _ => [.own 301 52 1 true ((mulRow x (y.getD k 0)).map fun n => .int .u64 n), .v true (.int .u64 (mulHigh x (y.getD k 0))), .v true (.int .i64 0)]) TTe (by simp (maxSteps := 100000) (disch := omega) only [go_sem, V.isAgg, V.flat, ↓reduceIte, Nat.reduceAdd, Nat.reduceSub, Nat.reduceLT, Nat.reduceEqDiff, reduceCtorEq, Nat.reduceLeDiff, Nat.reduceBEq, Nat.reduceMul, Int.reduceToNat, rowsMem, r301, b301]; rfl) (by first | exact MulWord_ok x _ 301 hxl ox hy | (repeat' first | exact trivial | exact MulWord_ok x _ 301 hxl ox hy | constructor)) ?_
        refine Holds.from (σ' := { nt := 32, env := [(0, .yld L), (1, .ptr 202 0 [] 0), (2, .ptr 201 0 [] 0), (9, .v false (words y)), (10, .v true (.int .i64 y.length)), (11, .v true (.int .i64 k)), (4, .v true (.int .i64 k)), (6, .own 301 0 x.length), (7, .v true (.int .u64 (mulHigh x (y.getD k 0))))], mem := (301, .buf 52 1 true ((mulRow x (y.getD k 0)).map fun n => .int .u64 n)) :: rowsMem x y (Bk k), root := rt, fix := fx }) (fun a w h => by
          have := Rel.less [0, 1, 2, 9, 10, 11, 4, 6, 7] (fun _ => rfl) h
          rw [hml] at this
          exact this) ?_
        refine Holds.seq ?_
        refine Holds.regionY (Px := px) (T := TT) (ρ := fun _ => []) (k := 6) TTe (by simp (maxSteps := 100000) (disch := omega) only [List.take_succ_cons, List.take_zero, go_sem, V.isAgg, V.flat, ↓reduceIte, Nat.reduceAdd, Nat.reduceSub, Nat.reduceLT, Nat.reduceEqDiff, reduceCtorEq, Nat.reduceLeDiff, Nat.reduceBEq, Nat.reduceMul, Int.reduceToNat, rowsMem, r27, r28, b27, b28, hml]; rfl) (by repeat' first | exact trivial | constructor) rfl rfl rfl rfl (Nat.le_of_ble_eq_true rfl) rfl hL hfx hF1 rfl (by intro q hq; rw [htm]; simp only [List.mem_cons, List.not_mem_nil, or_false] at hq; rcases hq with rfl | rfl <;> assumption) rfl (gs := σ.held tm) (fun q hq => by show q ∈ rt; rw [hrt]; exact List.mem_append_left _ hq) hgv ?_
        intro ti hti
        rw [htm]
        refine (hround k hkl L fx ((L, .loop (loopRec .busy f tm #[p1, p2] assign body D)) :: F1) _ _ _ (fun t ht => look_held ht) ?_ ?_).mono ?_
        · intro s h1 h2 h3
          have e1 : ¬ 28 = s := fun h => h2 h.symm
          have e2 : ¬ 301 = s := fun h => h3 h.symm
          have e3 : ¬ 27 = s := fun h => h1 h.symm
          simp only [look, if_neg e1, if_neg e2, if_neg e3, rowsMem, words]
        · rw [rowL, List.map_append]
          rfl
        · rintro e s1 ⟨rfl, k1, k2⟩
          refine ⟨rfl, k1, k2.mono ?_⟩
          rintro e s2 ⟨rfl, k3, k4, k5⟩
          refine ⟨rfl, k3, k4, _, _, by rw [k5]; simp only [go_sem, V.isAgg, V.flat, ↓reduceIte, Nat.reduceAdd, Nat.reduceSub, Nat.reduceLT, Nat.reduceEqDiff, reduceCtorEq, Nat.reduceLeDiff, Nat.reduceBEq, Nat.reduceMul, Int.reduceToNat]; rfl, by exact ⟨trivial, trivial⟩, ?_⟩
          show Holds _ _ _ _ _ _ _
          exact Holds.condF rfl (Holds.skip fun a w h => Rel.less [0, 1, 2, 9, 10, 11] (fun _ => rfl) h)
      · intro s hs
        refine Holds.from hs ?_
        refine Holds.region (Px := px) (T := TT) (ρ := fun _ => []) TTe (by simp (maxSteps := 100000) (disch := omega) only [go_sem, V.isAgg, V.flat, ↓reduceIte, Nat.reduceAdd, Nat.reduceSub, Nat.reduceLT, Nat.reduceEqDiff, reduceCtorEq, Nat.reduceLeDiff, Nat.reduceBEq, Nat.reduceMul, Int.reduceToNat]; rfl) (by repeat' first | exact trivial | constructor) ?_
        exact ⟨k + 1, by show k + 1 ≤ y.length; omega, (show y.length - (k + 1) < y.length - k by omega), fun a w h => Rel.less [0, 1, 2, 9, 10, 11] (fun _ => rfl) h⟩
  · intro e s hs
    cases e <;> try exact hs.elim
    refine ⟨_, ⟨.inl rfl, rfl, hrt, hfx, ?_⟩, hs⟩
    exact hQ F1 ds hsame
/-
  nat.mul.
-/

/-- The sum of the first i rows. -/
def mulO (x y : List Int) : Nat → List Int
  | 0 => List.replicate (x.length + y.length) 0
  | i + 1 => (plusI (rowL x (y.getD i 0)) i (mulO x y i, 0) (x.length + 1)).1

theorem mulO_ok {x y : List Int} (ox : okW x) (oy : okW y) : ∀ i, okW (mulO x y i) ∧ (mulO x y i).length = x.length + y.length
  | 0 => ⟨fun n hn => by rw [mulO, List.mem_replicate] at hn; omega, by rw [mulO, List.length_replicate]⟩
  | i + 1 => by
    obtain ⟨h1, h2⟩ := mulO_ok ox oy i
    have hr := rowL_ok ox (okW_getD oy i)
    obtain ⟨k1, _, k3⟩ := plusI_ok (y := rowL x (y.getD i 0)) (at_ := i) (s := (mulO x y i, 0)) hr h1 (by simp) (x.length + 1)
    rw [mulO]
    exact ⟨k1, by rw [k3]; exact h2⟩

def mulBk (x y : List Int) (i : Nat) : List (Nat × Blk) := [(5, .box 24 (.own 300 0 (x.length + y.length))), (300, .buf 52 1 true ((mulO x y i).map fun n => .int .u64 n))]

theorem natmul_ok (X Y : List Int) (hxl : (trimL X).length ≤ 4096) (hX : X.length < 1000000) (hY : Y.length < 1000000) (oX : okW X) (oY : okW Y) :
    FnOk Tryz.prog 111 [.v (words X), .v (words Y)] [.v true (words ((mulO (trimL X) (trimL Y) (trimL Y).length).take (trimW (mulO (trimL X) (trimL Y) (trimL Y).length) (mulO (trimL X) (trimL Y) (trimL Y).length).length)))] := by
  refine FnOk.of Tryz.func111 rfl rfl fun cx w0 => ?_
  rw [show Tryz.f111.ntmps = 53 from rfl]
  obtain ⟨x, hx⟩ : ∃ x, x = trimL X := ⟨_, rfl⟩
  obtain ⟨y, hy⟩ : ∃ y, y = trimL Y := ⟨_, rfl⟩
  have ox : okW x := by rw [hx]; exact fun n hn => oX n (List.mem_of_mem_take hn)
  have oy : okW y := by rw [hy]; exact fun n hn => oY n (List.mem_of_mem_take hn)
  have hyl : y.length < 1000000 := by have := trimL_len Y; rw [hy]; omega
  have tX := trim_ok X (by omega)
  have tY := trim_ok Y (by omega)
  rw [show X.take (trimW X X.length) = x from hx.symm] at tX
  rw [show Y.take (trimW Y Y.length) = y from hy.symm] at tY
  rw [← hx, ← hy]
  rw [← hx] at hxl
  refine Holds.step (Px := px) (T := TT) (ρ := fun _ => []) TTe (by simp (maxSteps := 100000) (disch := omega) only [go_sem, V.isAgg, V.flat, ↓reduceIte, Nat.reduceAdd, Nat.reduceSub, Nat.reduceLT, Nat.reduceEqDiff, reduceCtorEq, Nat.reduceLeDiff, Nat.reduceBEq, Nat.reduceMul, Int.reduceToNat, List.length_cons, List.length_nil]; rfl) (by repeat' first | exact trivial | constructor) ?_
  refine Holds.step (Px := px) (T := TT) (ρ := fun d => if d = 12 then [.v false (words x)] else [.v false (words y)]) TTe (by simp (maxSteps := 100000) (disch := omega) only [go_sem, V.isAgg, V.flat, ↓reduceIte, Nat.reduceAdd, Nat.reduceSub, Nat.reduceLT, Nat.reduceEqDiff, reduceCtorEq, Nat.reduceLeDiff, Nat.reduceBEq, Nat.reduceMul, Int.reduceToNat]; rfl) (by first | exact ⟨tX, tY⟩ | (repeat' first | exact trivial | exact tX | exact tY | constructor)) ?_
  refine Holds.step (Px := px) (T := TT) (ρ := fun _ => []) TTe (by simp (maxSteps := 100000) (disch := omega) only [go_sem, V.isAgg, V.flat, ↓reduceIte, Nat.reduceAdd, Nat.reduceSub, Nat.reduceLT, Nat.reduceEqDiff, reduceCtorEq, Nat.reduceLeDiff, Nat.reduceBEq, Nat.reduceMul, Int.reduceToNat]; rfl) (by repeat' first | exact trivial | constructor) ?_
  refine Holds.from (σ' := { nt := 53, env := [(5, .ptr 5 0 [] 0), (0, .v false (words x)), (1, .v false (words y))], mem := mulBk x y 0 }) (fun a w h => by
    have := Rel.ren (s := 20) (s' := 300) (Rel.keep [5, 0, 1] [5, 20] h) (by decide) rfl rfl
    rw [mulBk, mulO, List.map_replicate]
    exact this) ?_
  refine Holds.next (fun σ => ∃ F ds, ∀ a w, Rel cx w0 σ a w → Rel cx w0 { nt := 53, env := [(5, .ptr 5 0 [] 0)], mem := mulBk x y y.length, fix := F, defs := ds } a w) ?_ ?_
  · refine Holds.step (Px := px) (T := TT) (ρ := fun _ => [.clo 117 [(202, 24, false, words y), (201, 24, false, words x)]]) TTe (by simp (maxSteps := 100000) (disch := omega) only [go_sem, V.isAgg, V.flat, ↓reduceIte, Nat.reduceAdd, Nat.reduceSub, Nat.reduceLT, Nat.reduceEqDiff, reduceCtorEq, Nat.reduceLeDiff, Nat.reduceBEq, Nat.reduceMul, Int.reduceToNat, mulBk]; rfl) (by first | exact rows_ok x y 201 202 (by decide) | (repeat' first | exact trivial | exact rows_ok x y 201 202 (by decide) | constructor)) ?_
    refine Holds.blockN ?_
    refine Holds.from (σ' := { nt := 53, env := [(5, .ptr 5 0 [] 0), (23, .fn 117 [.ptr 202 0 [] 0, .ptr 201 0 [] 0])], mem := rowsMem x y (mulBk x y 0) }) (fun a w h => Rel.keep [5, 23] [202, 201, 5, 300] h) ?_
    refine overRows (x := x) (y := y) (Bk := mulBk x y) hxl (by omega) ox oy rfl rfl (by show 24 < 53; decide) (by show 25 < 53; decide) rfl (fun l h => by cases h) (by rintro k _ s (rfl | rfl | rfl) <;> rfl) (by rintro s (rfl | rfl | rfl) <;> exact ⟨rfl, rfl⟩) ?_ ?_
    · intro k hkl L fx fx' env rt M henv hM hM28
      have h5 : look env 5 = .ptr 5 0 [] 0 := henv 5 (by show 5 < 53; decide)
      obtain ⟨row, hrow⟩ : ∃ row, row = rowL x (y.getD k 0) := ⟨_, rfl⟩
      have orow : okW row := by rw [hrow]; exact rowL_ok ox (okW_getD oy k)
      have hrl : row.length = x.length + 1 := by rw [hrow]; exact rowL_len ox (okW_getD oy k)
      rw [← hrow] at hM28
      have hM5 : look M 5 = .box 24 (.own 300 0 (x.length + y.length)) := (hM 5 (by decide) (by decide) (by decide)).trans rfl
      have hM300 : look M 300 = .buf 52 1 true ((mulO x y k).map fun n => .int .u64 n) := (hM 300 (by decide) (by decide) (by decide)).trans rfl
      have hM201 : look M 201 = .box 24 (.v false (words x)) := (hM 201 (by decide) (by decide) (by decide)).trans rfl
      have hM202 : look M 202 = .box 24 (.v false (words y)) := (hM 202 (by decide) (by decide) (by decide)).trans rfl
      obtain ⟨O, hO⟩ : ∃ O, O = mulO x y k := ⟨_, rfl⟩
      have hOk := mulO_ok ox oy k
      rw [← hO] at hOk hM300
      refine Holds.from (σ' := { nt := 53, env := [(25, .own 28 0 (x.length + 1)), (24, .v true (.int .i64 k)), (5, .ptr 5 0 [] 0)], mem := [(28, .buf 52 1 true (row.map fun n => .int .u64 n)), (202, .box 24 (.v false (words y))), (201, .box 24 (.v false (words x))), (5, .box 24 (.own 300 0 (x.length + y.length))), (300, .buf 52 1 true (O.map fun n => .int .u64 n))], root := rt, fix := fx }) (fun a w h => by
        have := Rel.keep [25, 24, 5] [28, 202, 201, 5, 300] h
        rw [← hM28, ← hM202, ← hM201, ← hM5, ← hM300, ← h5]
        exact this) ?_
      refine Holds.step (Px := px) (T := TT) (ρ := fun _ => []) TTe (by simp (maxSteps := 100000) (disch := omega) only [go_sem, V.isAgg, V.flat, ↓reduceIte, Nat.reduceAdd, Nat.reduceSub, Nat.reduceLT, Nat.reduceEqDiff, reduceCtorEq, Nat.reduceLeDiff, Nat.reduceBEq, Nat.reduceMul, Int.reduceToNat]; rfl) (by repeat' first | exact trivial | constructor) ?_
      refine Holds.region (Px := px) (T := TT) (ρ := fun _ => []) TTe (by simp (maxSteps := 100000) (disch := omega) only [go_sem, V.isAgg, V.flat, ↓reduceIte, Nat.reduceAdd, Nat.reduceSub, Nat.reduceLT, Nat.reduceEqDiff, reduceCtorEq, Nat.reduceLeDiff, Nat.reduceBEq, Nat.reduceMul, Int.reduceToNat]; rfl) (by repeat' first | exact trivial | constructor) ?_
      refine ⟨rfl, rfl, Holds.block ?_⟩
      refine Holds.step (Px := px) (T := TT) (ρ := fun _ => []) TTe (by simp (maxSteps := 100000) (disch := omega) only [go_sem, V.isAgg, V.flat, ↓reduceIte, Nat.reduceAdd, Nat.reduceSub, Nat.reduceLT, Nat.reduceEqDiff, reduceCtorEq, Nat.reduceLeDiff, Nat.reduceBEq, Nat.reduceMul, Int.reduceToNat]; rfl) (by repeat' first | exact trivial | constructor) ?_
      refine Holds.step (Px := px) (T := TT) (ρ := fun _ => []) TTe (by simp (maxSteps := 100000) (disch := omega) only [go_sem, V.isAgg, V.flat, ↓reduceIte, Nat.reduceAdd, Nat.reduceSub, Nat.reduceLT, Nat.reduceEqDiff, reduceCtorEq, Nat.reduceLeDiff, Nat.reduceBEq, Nat.reduceMul, Int.reduceToNat]; rfl) (by repeat' first | exact trivial | constructor) ?_
      refine Holds.post (Q := NR (fun s => ∀ a w, Rel cx w0 s a w → Rel cx w0 { nt := 53, env := [], mem := rowsMem x y (mulBk x y (k + 1)), root := rt, fix := fx' } a w) (fun _ => False)) ?_ ?_
      · have hI := plusI_ok (y := row) (at_ := k) (s := (O, 0)) orow hOk.1 (by simp)
        refine Holds.loopB (fun j : Nat => { nt := 53, env := [(28, .v true (.int .i64 (j : Int))), (27, .v true (.int .i64 ((x.length : Int) + 1))), (26, .own 28 0 (x.length + 1)), (8, .v true (.int .u64 (plusI row k (O, 0) j).2)), (6, .v true (.int .i64 (k : Int))), (5, .ptr 5 0 [] 0)], mem := [(28, .buf 52 1 true (row.map fun n => .int .u64 n)), (202, .box 24 (.v false (words y))), (201, .box 24 (.v false (words x))), (5, .box 24 (.own 300 0 (x.length + y.length))), (300, .buf 52 1 true ((plusI row k (O, 0) j).1.map fun n => .int .u64 n))], root := rt, fix := fx' })
          (fun j => j ≤ x.length + 1) (fun j => x.length + 1 - j) 0 (Nat.zero_le _) (fun a w h => Rel.keep [28, 27, 26, 8, 6, 5] [28, 202, 201, 5, 300] h) ?_
        intro j hj
        obtain ⟨h1, h2, h3⟩ := hI j
        rw [hOk.2] at h3
        by_cases hend : j = x.length + 1
        · refine Holds.step (Px := px) (T := TT) (ρ := fun _ => []) TTe (by simp (maxSteps := 100000) (disch := omega) only [go_sem, V.isAgg, V.flat, ↓reduceIte, Nat.reduceAdd, Nat.reduceSub, Nat.reduceLT, Nat.reduceEqDiff, reduceCtorEq, Nat.reduceLeDiff, Nat.reduceBEq, Nat.reduceMul, Int.reduceToNat]; rfl) (by repeat' first | exact trivial | constructor) ?_
          refine Holds.seq ?_
          refine Holds.condF rfl (Holds.exit ⟨rfl, fun a w h => ?_⟩)
          have := Rel.keep [] [202, 201, 5, 300] h
          rw [hend] at this
          rw [mulBk, mulO, ← hrow, ← hO]
          exact this
        · have hjl : j < row.length := by omega
          have hkj : k + j < (plusI row k (O, 0) j).1.length := by omega
          have hz := okW_getD h1 (k + j)
          have hw := okW_getD orow j
          have hadd : ((k : Int) + j).toNat = k + j := by omega
          refine Holds.step (Px := px) (T := TT) (ρ := fun _ => []) TTe (by simp (maxSteps := 100000) (disch := omega) only [go_sem, V.isAgg, V.flat, ↓reduceIte, Nat.reduceAdd, Nat.reduceSub, Nat.reduceLT, Nat.reduceEqDiff, reduceCtorEq, Nat.reduceLeDiff, Nat.reduceBEq, Nat.reduceMul, Int.reduceToNat]; rfl) (by repeat' first | exact trivial | constructor) ?_
          refine Holds.seq ?_
          refine Holds.condT rfl (Holds.skip ?_)
          refine Holds.seq (Holds.block ?_)
          refine Holds.step (Px := px) (T := TT) (ρ := fun _ => []) TTe (by simp (maxSteps := 100000) (disch := omega) only [go_sem, V.isAgg, V.flat, ↓reduceIte, Nat.reduceAdd, Nat.reduceSub, Nat.reduceLT, Nat.reduceEqDiff, reduceCtorEq, Nat.reduceLeDiff, Nat.reduceBEq, Nat.reduceMul, Int.reduceToNat, get_map hjl]; rfl) (by repeat' first | exact trivial | constructor) ?_
          refine Holds.dregion (Px := px) (T := TT) (ρ := fun _ => [.v true (.int .u64 (((plusI row k (O, 0) j).1.getD (k + j) 0 + row.getD j 0 + (plusI row k (O, 0) j).2) % 18446744073709551616)), .v true (.int .u64 (((plusI row k (O, 0) j).1.getD (k + j) 0 + row.getD j 0 + (plusI row k (O, 0) j).2) / 18446744073709551616))]) [] mixed (by kernel_rfl) TTe (by simp (maxSteps := 100000) (disch := omega) only [go_sem, V.isAgg, V.flat, ↓reduceIte, Nat.reduceAdd, Nat.reduceSub, Nat.reduceLT, Nat.reduceEqDiff, reduceCtorEq, Nat.reduceLeDiff, Nat.reduceBEq, Nat.reduceMul, Int.reduceToNat, get_map hkj, hadd]; rfl) (by first | exact add64_ok _ _ _ hz.1 hw.1 h2.1 h2.2 | (repeat' first | exact trivial | exact add64_ok _ _ _ hz.1 hw.1 h2.1 h2.2 | constructor)) (by rfl) (by rfl) (by rfl) ?_
          show Holds _ _ _ _ _ _ _
          refine Holds.region (Px := px) (T := TT) (ρ := fun _ => []) TTe (by simp (maxSteps := 100000) (disch := omega) only [go_sem, V.isAgg, V.flat, ↓reduceIte, Nat.reduceAdd, Nat.reduceSub, Nat.reduceLT, Nat.reduceEqDiff, reduceCtorEq, Nat.reduceLeDiff, Nat.reduceBEq, Nat.reduceMul, Int.reduceToNat]; rfl) (by repeat' first | exact trivial | constructor) ?_
          have e : plusI row k (O, 0) (j + 1) = ((plusI row k (O, 0) j).1.set (k + j) (((plusI row k (O, 0) j).1.getD (k + j) 0 + row.getD j 0 + (plusI row k (O, 0) j).2) % 18446744073709551616), ((plusI row k (O, 0) j).1.getD (k + j) 0 + row.getD j 0 + (plusI row k (O, 0) j).2) / 18446744073709551616) := by
            rw [plusI, plusW, Nat.add_sub_cancel_left]
          refine ⟨j + 1, (by show j + 1 ≤ x.length + 1; omega), (show x.length + 1 - (j + 1) < x.length + 1 - j by omega), fun a w h => ?_⟩
          simp only [e, List.map_set]
          exact Rel.keep [28, 27, 26, 8, 6, 5] [28, 202, 201, 5, 300] h
      · intro e s hs
        cases e <;> try exact hs.elim
        exact ⟨_, ⟨rfl, rfl, rfl, rfl⟩, hs⟩
    · intro F ds _
      refine ⟨F, ds, fun a w h => ?_⟩
      exact Rel.keep [5] [5, 300] h
  · rintro σ ⟨F, ds, hσ⟩
    refine Holds.from hσ ?_
    refine Holds.from (fun a w h => Rel.keep [5] [5] (Rel.freeze (s := 300) (e := 52) (z := 1) (nw := true) (xs := (mulO x y y.length).map fun n => .int .u64 n) h rfl)) ?_
    have hOk := mulO_ok ox oy y.length
    have htk : ((mulO x y y.length).map fun n => V.int .u64 n).take (x.length + y.length) = (mulO x y y.length).map fun n => V.int .u64 n := List.take_of_length_le (by rw [List.length_map, hOk.2]; exact Nat.le_refl _)
    have ht := trim_ok (mulO x y y.length) (by omega)
    have hst : ∀ a w, Rel cx w0 (St.keep { nt := 53, env := [(5, AV.frz 300 1 true ((mulO x y y.length).map fun n => .int .u64 n) (.ptr 5 0 [] 0))], mem := (300, .dead) :: [(5, Blk.frz 300 1 true ((mulO x y y.length).map fun n => .int .u64 n) (.box 24 (.own 300 0 (x.length + y.length)))), (300, Blk.frz 300 1 true ((mulO x y y.length).map fun n => .int .u64 n) (.buf 52 1 true ((mulO x y y.length).map fun n => .int .u64 n)))], fix := F, defs := ds } [5] [5]) a w →
        Rel cx w0 { nt := 53, env := [(5, .ptr 5 0 [] 0)], mem := [(5, .box 24 (.v true (words (mulO x y y.length))))], fix := F, defs := ds } a w := fun a w h => by
      rw [words, ← htk]
      exact h
    refine Holds.from hst ?_
    refine Holds.seq (Holds.regionC (Px := px) (T := TT) (ρ := fun _ => []) (k := 1) TTe (by simp (maxSteps := 100000) (disch := omega) only [List.take_succ_cons, List.take_zero, go_sem, V.isAgg, V.flat, ↓reduceIte, Nat.reduceAdd, Nat.reduceSub, Nat.reduceLT, Nat.reduceEqDiff, reduceCtorEq, Nat.reduceLeDiff, Nat.reduceBEq, Nat.reduceMul, Int.reduceToNat]; rfl) (by repeat' first | exact trivial | constructor) rfl rfl rfl rfl (Nat.le_of_ble_eq_true rfl) (by rfl) (by repeat' first | exact trivial | rfl | constructor) (ht) ⟨_, _, by simp (maxSteps := 100000) (disch := omega) only [List.drop_succ_cons, List.drop_zero, R.young, go_sem, V.isAgg, V.flat, ↓reduceIte, Nat.reduceAdd, Nat.reduceSub, Nat.reduceLT, Nat.reduceEqDiff, reduceCtorEq, Nat.reduceLeDiff, Nat.reduceBEq, Nat.reduceMul, Int.reduceToNat]; rfl, by repeat' first | exact trivial | constructor, ?_⟩); show Holds _ _ _ _ _ _ _
    exact Holds.ret (RetOk.vs rfl (by exact ⟨⟨rfl, fun h => h⟩, trivial⟩) rfl)
end Go.Proofs.YtjmclobbfabnpaaGreat.L
