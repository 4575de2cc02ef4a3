/-
  Uh Ui
-/
import Derived.Test.YtjmclobbfabnpaaJ8
import Derived.Test.YtjmclobbfabnpaaP1
import Derived.Test.YtjmclobbfabnpaaQ2
import Derived.Test.YtjmclobbfabnpaaQ3
import Derived.Test.YtjmclobbfabnpaaH5
set_option linter.unusedSimpArgs false
set_option linter.unusedVariables false
/-
  Karatsuba's way, for all numbers.
-/
namespace Go.Proofs.Ytjmclobbfabnpaa.L
open Go Go.RowKit Go.Proofs
attribute [local go_sem] evalOps_nil evalOps_cons runW_t runW_f runE_s runP_s wantA evalOp effOp letters okDst coreA St.opv St.get St.at look constA St.put St.upd St.set decide_true List.all_nil List.all_cons Bool.and_true Bool.true_and and_self and_true true_and if_true if_false true_or Int.sub_zero List.nil_append List.cons_append List.append_nil Option.isSome_some List.getElem?_toArray List.getElem?_cons_succ List.getElem?_cons_zero Option.bind_some Option.map_some Option.map_none beq_self_eq_true Bool.false_beq Bool.true_beq Bool.not_true Bool.not_false Bool.false_eq_true cond_true cond_false binA binI List.map_cons List.map_nil boundA List.length_nil List.length_cons Nat.zero_mul Nat.one_mul Nat.mul_one Nat.zero_add Nat.add_zero Nat.zero_le Option.toList St.freshB AV.ment AV.ments Blk.ment V.sizes Nat.lt_add_one Bool.or_true Bool.true_or Bool.or_false Bool.false_or Bool.or_self if_pos if_neg decide_false decide_eq_true decide_eq_false wrap_i64 Int.toNat_natCast minA maxA Int.natCast_add Int.cast_ofNat_Int Option.isSome_none false_implies true_implies forall_const List.drop_zero Int.toNat_zero Int.add_sub_cancel lenA sliceA loadA indexAddrA partA fitsT V.atP V.offP V.size List.length_map List.getElem?_map Int.toNat_natCast_add_one Int.ofNat_eq_natCast TY calleeA capArg knotA capArgs toArgs toArg callA R.res R.mems R.blks R.av R.names R.nw invokeA storeA storeV fieldAddrA liveB V.off V.offs V.setP List.set_cons_zero List.set_cons_succ buildA buildP partsA appendA srcA copyA boxOk makeA AV.pure List.take_succ_cons List.take_zero nilA words entry List.zipIdx_cons List.zipIdx_nil Arg.av Arg.avs

theorem high_ok (x : List Int) (n : Nat) (hx : x.length < 1000000) : FnOk Try.prog 92 [.v (words x), .v (.int .i64 n)] [.v false (words (x.drop n))] := by
  obtain ⟨c, hc⟩ : ∃ c, c = min n x.length := ⟨_, rfl⟩
  have hmin : (if (x.length : Int) < (n : Int) then (x.length : Int) else n) = c := by
    rw [hc]; split <;> omega
  have hcx : c ≤ x.length := by omega
  have hdr : x.drop c = x.drop n := by
    rw [hc]
    by_cases h : n ≤ x.length
    · rw [Nat.min_eq_left h]
    · rw [Nat.min_eq_right (by omega), List.drop_length, List.drop_of_length_le (by omega)]
  have htm : List.drop c (List.map (fun n => V.int .u64 n) x) = List.map (fun n => V.int .u64 n) (x.drop n) := by rw [← List.map_drop, hdr]
  have htk : List.take x.length (List.map (fun n => V.int .u64 n) x) = List.map (fun n => V.int .u64 n) x := List.take_of_length_le (by rw [List.length_map]; exact Nat.le_refl _)
  refine FnOk.of Try.func92 rfl rfl fun cx w0 => ?_
  rw [show Try.f92.ntmps = 11 from rfl]
  refine Holds.step (Px := px) (T := TT) (ρ := fun _ => []) TTe (by simp (maxSteps := 100000) (disch := omega) only [go_sem, V.isAgg, V.flat, ↓reduceIte, Nat.reduceAdd, Nat.reduceSub, Nat.reduceLT, Nat.reduceEqDiff, reduceCtorEq, Nat.reduceLeDiff, Nat.reduceBEq, Nat.reduceMul, Int.reduceToNat, List.length_cons, List.length_nil]; rfl) (by repeat' first | exact trivial | constructor) ?_
  refine Holds.step (Px := px) (T := TT) (ρ := fun _ => []) TTe (by simp (maxSteps := 100000) (disch := omega) only [go_sem, V.isAgg, V.flat, ↓reduceIte, Nat.reduceAdd, Nat.reduceSub, Nat.reduceLT, Nat.reduceEqDiff, reduceCtorEq, Nat.reduceLeDiff, Nat.reduceBEq, Nat.reduceMul, Int.reduceToNat, hmin, htk, htm]; rfl) (by repeat' first | exact trivial | constructor) ?_
  exact Holds.ret (RetOk.vs rfl (by exact ⟨⟨rfl, fun h => by cases h⟩, trivial⟩) rfl)

theorem val_split (x : List Int) (n : Nat) : val x = val (x.take n) + 18446744073709551616 ^ n * val (x.drop n) := by
  have h := val_append (x.take n) (x.drop n)
  rw [List.take_append_drop, List.length_take] at h
  by_cases hn : n ≤ x.length
  · rw [Nat.min_eq_left hn] at h; exact h
  · rw [List.drop_of_length_le (by omega)] at h ⊢
    rw [h]; simp [val]
theorem digs_mono {u v : Nat} (h : u ≤ v) : (digs u).length ≤ (digs v).length := digs_len (Nat.lt_of_le_of_lt h (by
  have := val_lt (digs_ok v).1
  rw [(digs_ok v).2.2] at this
  exact this))
theorem mul_lt_pow {X Y : List Int} (oX : okW X) (oY : okW Y) : val X * val Y < 18446744073709551616 ^ (X.length + Y.length) := by
  rw [Nat.pow_add]
  exact Nat.mul_lt_mul'' (val_lt oX) (val_lt oY)
theorem plus_digs (u v at_ : Nat) (hu : (digs u).length < 1000000) (hv : (digs v).length < 1000000) (ha : at_ < 1000000) :
    FnOk Try.prog 72 [.v (words (digs u)), .v (words (digs v)), .v (.int .i64 at_)] [.v true (words (digs (u + 18446744073709551616 ^ at_ * v)))] := by
  have := plus_val (at_ := at_) hu hv ha (digs_ok u).1 (digs_ok v).1
  rw [(digs_ok u).2.2, (digs_ok v).2.2] at this
  exact this
theorem minus_digs (u v : Nat) (hu : (digs u).length < 1000000) (h : v ≤ u) : FnOk Try.prog 93 [.v (words (digs u)), .v (words (digs v))] [.v true (words (digs (u - v)))] := by
  have := minus_ok (digs u) (digs v) hu (digs_ok u).1 (digs_ok v).1 (digs_mono h) (by rw [(digs_ok u).2.2, (digs_ok v).2.2]; exact h)
  rw [(digs_ok u).2.2, (digs_ok v).2.2] at this
  exact this

theorem lt_len (v : Nat) : v < 18446744073709551616 ^ (digs v).length := by
  have := val_lt (digs_ok v).1
  rw [(digs_ok v).2.2] at this
  exact this
theorem sum_len {u v k : Nat} (hu : u < 18446744073709551616 ^ k) (hv : v < 18446744073709551616 ^ k) : (digs (u + v)).length ≤ k + 1 := digs_len (by rw [Nat.pow_succ]; omega)
theorem lt_pow {v k l : Nat} (h : v < 18446744073709551616 ^ k) (hl : k ≤ l) : v < 18446744073709551616 ^ l := Nat.lt_of_lt_of_le h (Nat.pow_le_pow_right (by decide) hl)

theorem sum_lenD {u v k : Nat} (hu : (digs u).length ≤ k) (hv : (digs v).length ≤ k) : (digs (u + v)).length ≤ k + 1 := sum_len (lt_pow (lt_len _) hu) (lt_pow (lt_len _) hv)
theorem sum_lenL {p q : List Int} {k : Nat} (op : okW p) (oq : okW q) (lp : p.length ≤ k) (lq : q.length ≤ k) : (digs (val p + val q)).length ≤ k + 1 := sum_len (lt_pow (val_lt op) lp) (lt_pow (val_lt oq) lq)

theorem kar_low {P a b c d : Nat} (h : b = 0 ∨ d = 0) : (a + P * b) * (c + P * d) = a * c + P * (a * d + b * c) := by
  rcases h with rfl | rfl
  · rw [Nat.mul_zero, Nat.add_zero, Nat.zero_mul, Nat.add_zero, Nat.mul_add]
    congr 1
    rw [← Nat.mul_assoc, ← Nat.mul_assoc, Nat.mul_comm a P]
  · rw [Nat.mul_zero, Nat.mul_zero, Nat.add_zero, Nat.zero_add, Nat.add_mul, Nat.mul_assoc]
theorem kar_mid (P a b c d : Nat) : (a + P * b) * (c + P * d) = a * c + P * ((a + b) * (c + d) - a * c - b * d) + P * P * (b * d) := by
  have h : (a + b) * (c + d) - a * c - b * d = a * d + b * c := by
    have : (a + b) * (c + d) = a * c + a * d + (b * c + b * d) := by rw [Nat.add_mul, Nat.mul_add, Nat.mul_add]
    omega
  rw [h]
  grind

set_option maxHeartbeats 1000000 in
theorem grow_all (least : Nat) (hl : 3 ≤ least) (hl2 : least ≤ 64) : ∀ (N : Nat) (X Y : List Int), val X + val Y < N → okW X → okW Y → X.length ≤ 2100 → Y.length ≤ 2100 →
    (X.length + Y.length ≤ 4096 ∨ (64 ≤ (trimL X).length ∧ 64 ≤ (trimL Y).length)) →
    FnOk Try.prog 90 [.v (words X), .v (words Y), .el (wayV least), .knot 90 (wayV least)] [.v true (words (digs (val X * val Y)))] := by
  intro N
  induction N with
  | zero => intro X Y h; exact absurd h (by omega)
  | succ N ih =>
    intro X Y hN oX oY lX lY hs
    have ox := trimL_ok oX
    have oy := trimL_ok oY
    have tX := trimL_len X
    have tY := trimL_len Y
    by_cases hmin : ((trimL X).length : Int) < least ∨ ((trimL Y).length : Int) < least
    · have h := grow_few X Y least (by omega) (by omega) (by omega) hmin oX oY
      rw [prodL_val ox oy, val_trim, val_trim] at h
      exact h
    · have zx := noZ_trim X
      have zy := noZ_trim Y
      have vx := val_trim X
      have vy := val_trim Y
      have h1 := Trim_ok X (by omega)
      have h2 := Trim_ok Y (by omega)
      rw [← vx, ← vy] at hN ⊢
      obtain ⟨x, hx⟩ : ∃ x, x = trimL X := ⟨_, rfl⟩
      obtain ⟨y, hy⟩ : ∃ y, y = trimL Y := ⟨_, rfl⟩
      rw [← hx] at h1 ox zx tX hmin hN ⊢
      rw [← hy] at h2 oy zy tY hmin hN ⊢
      have px : 0 < val x := val_pos ox zx (by intro h; rw [h] at hmin; simp at hmin; omega)
      have py : 0 < val y := val_pos oy zy (by intro h; rw [h] at hmin; simp at hmin; omega)
      obtain ⟨m, hm⟩ : ∃ m, m = max x.length y.length := ⟨_, rfl⟩
      obtain ⟨n, hn⟩ : ∃ n, n = (m + 1) / 2 := ⟨_, rfl⟩
      have hn1 : 1 ≤ n := by omega
      have hnm : n < m := by omega
      have hmb : m ≤ 2100 := by omega
      have e1 : ¬ (if (y.length : Int) < (x.length : Int) then (y.length : Int) else x.length) < least := by split <;> omega
      have e2 : (if (x.length : Int) < (y.length : Int) then (y.length : Int) else x.length) = m := by split <;> omega
      have e3 : ((m : Int) + 1).tdiv 2 = n := by rw [Int.tdiv_eq_ediv_of_nonneg (by omega)]; omega
      have e4 : (2 : Int) * (n : Int) = ((2 * n : Nat) : Int) := by omega
      have sx := val_split x n
      have sy := val_split y n
      have la := low_ok x n (by omega)
      have lc := low_ok y n (by omega)
      have hb := high_ok x n (by omega)
      have hd := high_ok y n (by omega)
      have oa := trimL_ok (okW_take ox n)
      have oc := trimL_ok (okW_take oy n)
      have ob := okW_drop ox n
      have od := okW_drop oy n
      have zb := noZ_drop zx n
      have zd := noZ_drop zy n
      have va := val_trim (x.take n)
      have vc := val_trim (y.take n)
      have ta := trimL_len (x.take n)
      have tc := trimL_len (y.take n)
      rw [List.length_take] at ta tc
      have tb : (x.drop n).length = x.length - n := List.length_drop
      have td : (y.drop n).length = y.length - n := List.length_drop
      obtain ⟨a, ha⟩ : ∃ a, a = trimL (x.take n) := ⟨_, rfl⟩
      obtain ⟨c, hc⟩ : ∃ c, c = trimL (y.take n) := ⟨_, rfl⟩
      obtain ⟨b, hb'⟩ : ∃ b, b = x.drop n := ⟨_, rfl⟩
      obtain ⟨d, hd'⟩ : ∃ d, d = y.drop n := ⟨_, rfl⟩
      rw [← ha] at la oa va ta
      rw [← hc] at lc oc vc tc
      rw [← hb'] at hb ob zb tb sx
      rw [← hd'] at hd od zd td sy
      rw [← va] at sx
      rw [← vc] at sy
      have hP : 2 ≤ 18446744073709551616 ^ n := Nat.le_trans (by decide : 2 ≤ 18446744073709551616 ^ 1) (Nat.pow_le_pow_right (by decide) hn1)
      have hPb : 2 * val b ≤ 18446744073709551616 ^ n * val b := Nat.mul_le_mul_right _ hP
      have hPd : 2 * val d ≤ 18446744073709551616 ^ n * val d := Nat.mul_le_mul_right _ hP
      have bd : (∀ p q : List Int, p = a ∨ p = b → q = c ∨ q = d → p.length + q.length ≤ 2100 ∧ okW p ∧ okW q) := by
        rintro p q (rfl | rfl) (rfl | rfl)
        · exact ⟨by omega, oa, oc⟩
        · exact ⟨by omega, oa, od⟩
        · exact ⟨by omega, ob, oc⟩
        · exact ⟨by omega, ob, od⟩
      have lp : ∀ p q : List Int, p = a ∨ p = b → q = c ∨ q = d → (digs (val p * val q)).length ≤ 2100 := fun p q hp hq => by
        obtain ⟨h1, h2, h3⟩ := bd p q hp hq
        exact Nat.le_trans (digs_len (mul_lt_pow h2 h3)) h1
      have rec4 : ∀ p q : List Int, p = a ∨ p = b → q = c ∨ q = d → val p + val q < N → FnOk Try.prog 90 [.v (words p), .v (words q), .el (wayV least), .knot 90 (wayV least)] [.v true (words (digs (val p * val q)))] := fun p q hp hq hlt => by
        obtain ⟨h1, h2, h3⟩ := bd p q hp hq
        exact ih p q hlt h2 h3 (by omega) (by omega) (.inl (by omega))
      by_cases hz : b.length = 0 ∨ d.length = 0
      · have hbz : val b = 0 ∨ val d = 0 := by
          rcases hz with h | h
          · left; rw [List.eq_nil_of_length_eq_zero h]; rfl
          · right; rw [List.eq_nil_of_length_eq_zero h]; rfl
        have hne : 0 < val b ∨ 0 < val d := by
          rcases Nat.lt_or_ge n x.length with h | h
          · exact .inl (val_pos ob zb (by intro h0; rw [h0] at tb; simp at tb; omega))
          · exact .inr (val_pos od zd (by intro h0; rw [h0] at td; simp at td; omega))
        have r1 := rec4 a c (.inl rfl) (.inl rfl) (by omega)
        have r2 := rec4 a d (.inl rfl) (.inr rfl) (by omega)
        have r3 := rec4 b c (.inr rfl) (.inl rfl) (by omega)
        have l1 := lp a c (.inl rfl) (.inl rfl)
        have l2 := lp a d (.inl rfl) (.inr rfl)
        have l3 := lp b c (.inr rfl) (.inl rfl)
        have p1 := plus_digs (val a * val d) (val b * val c) 0 (by omega) (by omega) (by omega)
        rw [Nat.pow_zero, Nat.one_mul] at p1
        have l4 : (digs (val a * val d + val b * val c)).length ≤ 2100 + 1 := sum_lenD l2 l3
        have p2 := plus_digs (val a * val c) (val a * val d + val b * val c) n (by omega) (by omega) (by omega)
        rw [← kar_low hbz, ← sx, ← sy] at p2
        obtain ⟨D1, hD1⟩ : ∃ D, D = digs (val a * val c) := ⟨_, rfl⟩
        obtain ⟨D2, hD2⟩ : ∃ D, D = digs (val a * val d) := ⟨_, rfl⟩
        obtain ⟨D3, hD3⟩ : ∃ D, D = digs (val b * val c) := ⟨_, rfl⟩
        obtain ⟨D4, hD4⟩ : ∃ D, D = digs (val a * val d + val b * val c) := ⟨_, rfl⟩
        obtain ⟨D, hD⟩ : ∃ D, D = digs (val x * val y) := ⟨_, rfl⟩
        rw [← hD1] at r1 p2
        rw [← hD2] at r2 p1
        rw [← hD3] at r3 p1
        rw [← hD4] at p1 p2
        rw [← hD] at p2 ⊢
        clear ih hN hs hmin l1 l2 l3 l4 lp rec4 bd hPb hPd hP hbz hne hD1 hD2 hD3 hD4 hD sx sy px py ta tb tc td va vc tX tY lX lY
        refine FnOk.of Try.func90 rfl rfl fun cx w0 => ?_
        rw [show Try.f90.ntmps = 100 from rfl]
        refine Holds.step (Px := px) (T := TT) (ρ := fun _ => []) TTe (by simp (maxSteps := 100000) (disch := omega) only [go_sem, V.isAgg, V.flat, ↓reduceIte, Nat.reduceAdd, Nat.reduceSub, Nat.reduceLT, Nat.reduceEqDiff, reduceCtorEq, Nat.reduceLeDiff, Nat.reduceBEq, Nat.reduceMul, Int.reduceToNat, List.length_cons, List.length_nil, wayV]; rfl) (by repeat' first | exact trivial | constructor) ?_
        refine Holds.step (Px := px) (T := TT) (ρ := fun d => if d = 16 then [.v true (words x)] else [.v true (words y)]) TTe (by simp (maxSteps := 100000) (disch := omega) only [go_sem, V.isAgg, V.flat, ↓reduceIte, Nat.reduceAdd, Nat.reduceSub, Nat.reduceLT, Nat.reduceEqDiff, reduceCtorEq, Nat.reduceLeDiff, Nat.reduceBEq, Nat.reduceMul, Int.reduceToNat]; rfl) (by first | exact ⟨h1, h2⟩ | (repeat' first | exact trivial | exact h1 | exact h2 | constructor)) ?_
        refine Holds.next (fun σ => ∀ a w, Rel cx w0 σ a w → Rel cx w0 { nt := 100, env := [(0, .v true (words x)), (1, .v true (words y)), (3, .knot false 90 (wayV least))], mem := [] } a w) ?_ ?_
        · refine Holds.step (Px := px) (T := TT) (ρ := fun _ => []) TTe (by simp (maxSteps := 100000) (disch := omega) only [go_sem, V.isAgg, V.flat, ↓reduceIte, Nat.reduceAdd, Nat.reduceSub, Nat.reduceLT, Nat.reduceEqDiff, reduceCtorEq, Nat.reduceLeDiff, Nat.reduceBEq, Nat.reduceMul, Int.reduceToNat, e1]; rfl) (by repeat' first | exact trivial | constructor) ?_
          exact Holds.condF rfl (Holds.skip fun a w h => Rel.keep [0, 1, 3] [] h)
        · intro σ hσ
          refine Holds.from hσ ?_
          refine Holds.step (Px := px) (T := TT) (ρ := fun _ => []) TTe (by simp (maxSteps := 100000) (disch := omega) only [go_sem, V.isAgg, V.flat, ↓reduceIte, Nat.reduceAdd, Nat.reduceSub, Nat.reduceLT, Nat.reduceEqDiff, reduceCtorEq, Nat.reduceLeDiff, Nat.reduceBEq, Nat.reduceMul, Int.reduceToNat, e2, e3]; rfl) (by repeat' first | exact trivial | constructor) ?_
          refine Holds.step (Px := px) (T := TT) (ρ := fun d => if d = 39 then [.v true (words a)] else [.v false (words b)]) TTe (by simp (maxSteps := 100000) (disch := omega) only [go_sem, V.isAgg, V.flat, ↓reduceIte, Nat.reduceAdd, Nat.reduceSub, Nat.reduceLT, Nat.reduceEqDiff, reduceCtorEq, Nat.reduceLeDiff, Nat.reduceBEq, Nat.reduceMul, Int.reduceToNat]; rfl) (by first | exact ⟨la, hb⟩ | (repeat' first | exact trivial | exact la | exact hb | constructor)) ?_
          refine Holds.step (Px := px) (T := TT) (ρ := fun t => if t = 45 then [.v true (words c)] else [.v false (words d)]) TTe (by simp (maxSteps := 100000) (disch := omega) only [go_sem, V.isAgg, V.flat, ↓reduceIte, Nat.reduceAdd, Nat.reduceSub, Nat.reduceLT, Nat.reduceEqDiff, reduceCtorEq, Nat.reduceLeDiff, Nat.reduceBEq, Nat.reduceMul, Int.reduceToNat]; rfl) (by first | exact ⟨lc, hd⟩ | (repeat' first | exact trivial | exact lc | exact hd | constructor)) ?_
          refine Holds.seq ?_
          by_cases hb0 : b.length = 0
          · refine Holds.step (Px := px) (T := TT) (ρ := fun _ => []) TTe (by simp (maxSteps := 100000) (disch := omega) only [go_sem, V.isAgg, V.flat, ↓reduceIte, Nat.reduceAdd, Nat.reduceSub, Nat.reduceLT, Nat.reduceEqDiff, reduceCtorEq, Nat.reduceLeDiff, Nat.reduceBEq, Nat.reduceMul, Int.reduceToNat, hb0]; rfl) (by repeat' first | exact trivial | constructor) ?_
            refine Holds.condT rfl ?_
            refine Holds.dstep (Px := px) (T := TT) (ρ := fun t => if t = 60 then [.v true (words D1)] else if t = 64 then [.v true (words D2)] else if t = 68 then [.v true (words D3)] else if t = 69 then [.v true (words D4)] else [.v true (words D)]) [] mixed (by kernel_rfl) TTe (by simp (maxSteps := 100000) (disch := omega) only [go_sem, V.isAgg, V.flat, ↓reduceIte, Nat.reduceAdd, Nat.reduceSub, Nat.reduceLT, Nat.reduceEqDiff, reduceCtorEq, Nat.reduceLeDiff, Nat.reduceBEq, Nat.reduceMul, Int.reduceToNat, tsz53, agg53, wayV]; rfl) (by first | exact ⟨r1, r2, r3, p1, p2⟩ | (repeat' first | exact trivial | exact r1 | exact r2 | exact r3 | exact p1 | exact p2 | constructor)) (by rfl) (by rfl) (by rfl) ?_
            exact Holds.ret (RetOk.vs rfl (by exact ⟨⟨rfl, fun h => h⟩, trivial⟩) rfl)
          · have hd0 : d.length = 0 := by omega
            have hb0' : ¬ (b.length : Int) = 0 := by omega
            refine Holds.step (Px := px) (T := TT) (ρ := fun _ => []) TTe (by simp (maxSteps := 100000) (disch := omega) only [go_sem, V.isAgg, V.flat, ↓reduceIte, Nat.reduceAdd, Nat.reduceSub, Nat.reduceLT, Nat.reduceEqDiff, reduceCtorEq, Nat.reduceLeDiff, Nat.reduceBEq, Nat.reduceMul, Int.reduceToNat, hb0', hd0]; rfl) (by repeat' first | exact trivial | constructor) ?_
            refine Holds.condT rfl ?_
            refine Holds.dstep (Px := px) (T := TT) (ρ := fun t => if t = 60 then [.v true (words D1)] else if t = 64 then [.v true (words D2)] else if t = 68 then [.v true (words D3)] else if t = 69 then [.v true (words D4)] else [.v true (words D)]) [] mixed (by kernel_rfl) TTe (by simp (maxSteps := 100000) (disch := omega) only [go_sem, V.isAgg, V.flat, ↓reduceIte, Nat.reduceAdd, Nat.reduceSub, Nat.reduceLT, Nat.reduceEqDiff, reduceCtorEq, Nat.reduceLeDiff, Nat.reduceBEq, Nat.reduceMul, Int.reduceToNat, tsz53, agg53, wayV]; rfl) (by first | exact ⟨r1, r2, r3, p1, p2⟩ | (repeat' first | exact trivial | exact r1 | exact r2 | exact r3 | exact p1 | exact p2 | constructor)) (by rfl) (by rfl) (by rfl) ?_
            exact Holds.ret (RetOk.vs rfl (by exact ⟨⟨rfl, fun h => h⟩, trivial⟩) rfl)
      · have hb0 : ¬ (b.length : Int) = 0 := by omega
        have hd0 : ¬ (d.length : Int) = 0 := by omega
        have pb : 0 < val b := val_pos ob zb (by intro h0; rw [h0] at hz; simp at hz)
        have pd : 0 < val d := val_pos od zd (by intro h0; rw [h0] at hz; simp at hz)
        have r1 := rec4 a c (.inl rfl) (.inl rfl) (by omega)
        have r2 := rec4 b d (.inr rfl) (.inr rfl) (by omega)
        have l1 := lp a c (.inl rfl) (.inl rfl)
        have l2 := lp b d (.inr rfl) (.inr rfl)
        have p1 := plus_val (x := a) (y := b) (at_ := 0) (by omega) (by omega) (by omega) oa ob
        have p2 := plus_val (x := c) (y := d) (at_ := 0) (by omega) (by omega) (by omega) oc od
        rw [Nat.pow_zero, Nat.one_mul] at p1 p2
        have bsum : ∀ {p q : List Int}, okW p → okW q → p.length ≤ 1050 → q.length ≤ 1050 → (digs (val p + val q)).length ≤ 1050 + 1 := fun {p q} op oq lp lq => sum_lenL op oq lp lq
        have s1 := bsum oa ob (by omega) (by omega)
        have s2 := bsum oc od (by omega) (by omega)
        obtain ⟨oS, _, vS⟩ := digs_ok (val a + val b)
        obtain ⟨oT, _, vT⟩ := digs_ok (val c + val d)
        have r3 := ih (digs (val a + val b)) (digs (val c + val d)) (by rw [vS, vT]; omega) oS oT (by omega) (by omega) (.inl (by omega))
        rw [vS, vT] at r3
        have l3 : (digs ((val a + val b) * (val c + val d))).length ≤ 2102 := by
          have := digs_len (mul_lt_pow oS oT)
          rw [vS, vT] at this
          omega
        have i1 : val a * val c + val b * val d ≤ (val a + val b) * (val c + val d) := by
          rw [Nat.add_mul, Nat.mul_add, Nat.mul_add]; omega
        have q1 := minus_digs ((val a + val b) * (val c + val d)) (val a * val c) (by omega) (by omega)
        have l4 := digs_mono (show (val a + val b) * (val c + val d) - val a * val c ≤ (val a + val b) * (val c + val d) from Nat.sub_le _ _)
        have q2 := minus_digs ((val a + val b) * (val c + val d) - val a * val c) (val b * val d) (by omega) (by omega)
        have l5 := digs_mono (show (val a + val b) * (val c + val d) - val a * val c - val b * val d ≤ (val a + val b) * (val c + val d) - val a * val c from Nat.sub_le _ _)
        have p3 := plus_digs (val a * val c) ((val a + val b) * (val c + val d) - val a * val c - val b * val d) n (by omega) (by omega) (by omega)
        have kk := kar_mid (18446744073709551616 ^ n) (val a) (val b) (val c) (val d)
        rw [← sx, ← sy] at kk
        have l6 : (digs (val a * val c + 18446744073709551616 ^ n * ((val a + val b) * (val c + val d) - val a * val c - val b * val d))).length ≤ 4200 := by
          refine Nat.le_trans (digs_mono (v := val x * val y) (by rw [kk]; exact Nat.le_add_right _ _)) ?_
          exact Nat.le_trans (digs_len (mul_lt_pow ox oy)) (by omega)
        have p4 := plus_digs (val a * val c + 18446744073709551616 ^ n * ((val a + val b) * (val c + val d) - val a * val c - val b * val d)) (val b * val d) (2 * n) (by omega) (by omega) (by omega)
        rw [show 18446744073709551616 ^ (2 * n) = 18446744073709551616 ^ n * 18446744073709551616 ^ n from by rw [Nat.two_mul, Nat.pow_add], ← kk] at p4
        obtain ⟨D1, hD1⟩ : ∃ D, D = digs (val a * val c) := ⟨_, rfl⟩
        obtain ⟨D2, hD2⟩ : ∃ D, D = digs (val b * val d) := ⟨_, rfl⟩
        obtain ⟨S, hS⟩ : ∃ D, D = digs (val a + val b) := ⟨_, rfl⟩
        obtain ⟨T, hT⟩ : ∃ D, D = digs (val c + val d) := ⟨_, rfl⟩
        obtain ⟨D3, hD3⟩ : ∃ D, D = digs ((val a + val b) * (val c + val d)) := ⟨_, rfl⟩
        obtain ⟨D4, hD4⟩ : ∃ D, D = digs ((val a + val b) * (val c + val d) - val a * val c) := ⟨_, rfl⟩
        obtain ⟨D5, hD5⟩ : ∃ D, D = digs ((val a + val b) * (val c + val d) - val a * val c - val b * val d) := ⟨_, rfl⟩
        obtain ⟨D6, hD6⟩ : ∃ D, D = digs (val a * val c + 18446744073709551616 ^ n * ((val a + val b) * (val c + val d) - val a * val c - val b * val d)) := ⟨_, rfl⟩
        obtain ⟨D, hD⟩ : ∃ D, D = digs (val x * val y) := ⟨_, rfl⟩
        rw [← hD1] at r1 p3 q1
        rw [← hD2] at r2 q2 p4
        rw [← hS] at p1 r3
        rw [← hT] at p2 r3
        rw [← hD3] at r3 q1
        rw [← hD4] at q1 q2
        rw [← hD5] at q2 p3
        rw [← hD6] at p3 p4
        rw [← hD] at p4 ⊢
        clear ih hN hs hmin l1 l2 l3 l4 l5 l6 lp rec4 bd hPb hPd hP hD1 hD2 hD3 hD4 hD5 hD6 hD hS hT sx sy px py ta tb tc td va vc tX tY lX lY kk i1 bsum s1 s2 oS oT vS vT pb pd
        refine FnOk.of Try.func90 rfl rfl fun cx w0 => ?_
        rw [show Try.f90.ntmps = 100 from rfl]
        refine Holds.step (Px := px) (T := TT) (ρ := fun _ => []) TTe (by simp (maxSteps := 100000) (disch := omega) only [go_sem, V.isAgg, V.flat, ↓reduceIte, Nat.reduceAdd, Nat.reduceSub, Nat.reduceLT, Nat.reduceEqDiff, reduceCtorEq, Nat.reduceLeDiff, Nat.reduceBEq, Nat.reduceMul, Int.reduceToNat, List.length_cons, List.length_nil, wayV]; rfl) (by repeat' first | exact trivial | constructor) ?_
        refine Holds.step (Px := px) (T := TT) (ρ := fun d => if d = 16 then [.v true (words x)] else [.v true (words y)]) TTe (by simp (maxSteps := 100000) (disch := omega) only [go_sem, V.isAgg, V.flat, ↓reduceIte, Nat.reduceAdd, Nat.reduceSub, Nat.reduceLT, Nat.reduceEqDiff, reduceCtorEq, Nat.reduceLeDiff, Nat.reduceBEq, Nat.reduceMul, Int.reduceToNat]; rfl) (by first | exact ⟨h1, h2⟩ | (repeat' first | exact trivial | exact h1 | exact h2 | constructor)) ?_
        refine Holds.next (fun σ => ∀ a w, Rel cx w0 σ a w → Rel cx w0 { nt := 100, env := [(0, .v true (words x)), (1, .v true (words y)), (3, .knot false 90 (wayV least))], mem := [] } a w) ?_ ?_
        · refine Holds.step (Px := px) (T := TT) (ρ := fun _ => []) TTe (by simp (maxSteps := 100000) (disch := omega) only [go_sem, V.isAgg, V.flat, ↓reduceIte, Nat.reduceAdd, Nat.reduceSub, Nat.reduceLT, Nat.reduceEqDiff, reduceCtorEq, Nat.reduceLeDiff, Nat.reduceBEq, Nat.reduceMul, Int.reduceToNat, e1]; rfl) (by repeat' first | exact trivial | constructor) ?_
          exact Holds.condF rfl (Holds.skip fun a w h => Rel.keep [0, 1, 3] [] h)
        · intro σ hσ
          refine Holds.from hσ ?_
          refine Holds.step (Px := px) (T := TT) (ρ := fun _ => []) TTe (by simp (maxSteps := 100000) (disch := omega) only [go_sem, V.isAgg, V.flat, ↓reduceIte, Nat.reduceAdd, Nat.reduceSub, Nat.reduceLT, Nat.reduceEqDiff, reduceCtorEq, Nat.reduceLeDiff, Nat.reduceBEq, Nat.reduceMul, Int.reduceToNat, e2, e3]; rfl) (by repeat' first | exact trivial | constructor) ?_
          refine Holds.step (Px := px) (T := TT) (ρ := fun d => if d = 39 then [.v true (words a)] else [.v false (words b)]) TTe (by simp (maxSteps := 100000) (disch := omega) only [go_sem, V.isAgg, V.flat, ↓reduceIte, Nat.reduceAdd, Nat.reduceSub, Nat.reduceLT, Nat.reduceEqDiff, reduceCtorEq, Nat.reduceLeDiff, Nat.reduceBEq, Nat.reduceMul, Int.reduceToNat]; rfl) (by first | exact ⟨la, hb⟩ | (repeat' first | exact trivial | exact la | exact hb | constructor)) ?_
          refine Holds.step (Px := px) (T := TT) (ρ := fun t => if t = 45 then [.v true (words c)] else [.v false (words d)]) TTe (by simp (maxSteps := 100000) (disch := omega) only [go_sem, V.isAgg, V.flat, ↓reduceIte, Nat.reduceAdd, Nat.reduceSub, Nat.reduceLT, Nat.reduceEqDiff, reduceCtorEq, Nat.reduceLeDiff, Nat.reduceBEq, Nat.reduceMul, Int.reduceToNat]; rfl) (by first | exact ⟨lc, hd⟩ | (repeat' first | exact trivial | exact lc | exact hd | constructor)) ?_
          refine Holds.next (fun σ => ∀ a' w, Rel cx w0 σ a' w → Rel cx w0 { nt := 100, env := [(8, .v true (words a)), (9, .v false (words b)), (10, .v true (words c)), (11, .v false (words d)), (7, .v true (.int .i64 n)), (3, .knot false 90 (wayV least))], mem := [] } a' w) ?_ ?_
          · refine Holds.step (Px := px) (T := TT) (ρ := fun _ => []) TTe (by simp (maxSteps := 100000) (disch := omega) only [go_sem, V.isAgg, V.flat, ↓reduceIte, Nat.reduceAdd, Nat.reduceSub, Nat.reduceLT, Nat.reduceEqDiff, reduceCtorEq, Nat.reduceLeDiff, Nat.reduceBEq, Nat.reduceMul, Int.reduceToNat, hb0, hd0]; rfl) (by repeat' first | exact trivial | constructor) ?_
            exact Holds.condF rfl (Holds.skip fun a' w h => Rel.keep [8, 9, 10, 11, 7, 3] [] h)
          · intro σ hσ
            refine Holds.from hσ ?_
            refine Holds.dstep (Px := px) (T := TT) (ρ := fun t => if t = 75 then [.v true (words D1)] else [.v true (words D2)]) [] mixed (by kernel_rfl) TTe (by simp (maxSteps := 100000) (disch := omega) only [go_sem, V.isAgg, V.flat, ↓reduceIte, Nat.reduceAdd, Nat.reduceSub, Nat.reduceLT, Nat.reduceEqDiff, reduceCtorEq, Nat.reduceLeDiff, Nat.reduceBEq, Nat.reduceMul, Int.reduceToNat, tsz53, agg53, wayV]; rfl) (by first | exact ⟨r1, r2⟩ | (repeat' first | exact trivial | exact r1 | exact r2 | constructor)) (by rfl) (by rfl) (by rfl) ?_
            refine Holds.dstep (Px := px) (T := TT) (ρ := fun t => if t = 83 then [.v true (words S)] else if t = 86 then [.v true (words T)] else if t = 87 then [.v true (words D3)] else if t = 89 then [.v true (words D4)] else [.v true (words D5)]) [] mixed (by kernel_rfl) TTe (by simp (maxSteps := 100000) (disch := omega) only [go_sem, V.isAgg, V.flat, ↓reduceIte, Nat.reduceAdd, Nat.reduceSub, Nat.reduceLT, Nat.reduceEqDiff, reduceCtorEq, Nat.reduceLeDiff, Nat.reduceBEq, Nat.reduceMul, Int.reduceToNat, tsz53, agg53, wayV]; rfl) (by first | exact ⟨p1, p2, r3, q1, q2⟩ | (repeat' first | exact trivial | exact p1 | exact p2 | exact r3 | exact q1 | exact q2 | constructor)) (by rfl) (by rfl) (by rfl) ?_
            refine Holds.step (Px := px) (T := TT) (ρ := fun t => if t = 95 then [.v true (words D6)] else [.v true (words D)]) TTe (by simp (maxSteps := 100000) (disch := omega) only [go_sem, V.isAgg, V.flat, ↓reduceIte, Nat.reduceAdd, Nat.reduceSub, Nat.reduceLT, Nat.reduceEqDiff, reduceCtorEq, Nat.reduceLeDiff, Nat.reduceBEq, Nat.reduceMul, Int.reduceToNat, e4]; rfl) (by first | exact ⟨p3, p4⟩ | (repeat' first | exact trivial | exact p3 | exact p4 | constructor)) ?_
            exact Holds.ret (RetOk.vs rfl (by exact ⟨⟨rfl, fun h => h⟩, trivial⟩) rfl)
/-
  Toom's way, for all numbers.
-/

theorem zp_nat (v : Nat) : pV (zp (v : Int)) = .agg [.bool false, words (digs v)] := by
  have h : decide ((v : Int) < 0) = false := decide_eq_false (by omega)
  rw [zp, h]; rfl
theorem top_ok (x : List Int) (n : Nat) (hx : x.length < 1000000) (ox : okW x) (hn : n ≤ 100000) : FnOk Try.prog 145 [.v (words x), .el (.int .i64 n)] [.v true (pV (zp ((val (x.drop (2 * n)) : Nat) : Int)))] := by
  have h1 := high_ok x (2 * n) hx
  have h2 := Trim_ok (x.drop (2 * n)) (by rw [List.length_drop]; omega)
  rw [trim_digs (okW_drop ox _)] at h2
  rw [zp_nat]
  obtain ⟨D, hD⟩ : ∃ D, D = digs (val (x.drop (2 * n))) := ⟨_, rfl⟩
  rw [← hD] at h2 ⊢
  have e : (2 : Int) * (n : Int) = ((2 * n : Nat) : Int) := by omega
  refine FnOk.of Try.func145 rfl rfl fun cx w0 => ?_
  rw [show Try.f145.ntmps = 10 from rfl]
  refine Holds.step (Px := px) (T := TT) (ρ := fun _ => []) TTe (by simp (maxSteps := 100000) (disch := omega) only [go_sem, V.isAgg, V.flat, ↓reduceIte, Nat.reduceAdd, Nat.reduceSub, Nat.reduceLT, Nat.reduceEqDiff, reduceCtorEq, Nat.reduceLeDiff, Nat.reduceBEq, Nat.reduceMul, Int.reduceToNat, List.length_cons, List.length_nil]; rfl) (by repeat' first | exact trivial | constructor) ?_
  refine Holds.step (Px := px) (T := TT) (ρ := fun t => if t = 7 then [.v false (words (x.drop (2 * n)))] else [.v true (words D)]) TTe (by simp (maxSteps := 100000) (disch := omega) only [go_sem, V.isAgg, V.flat, ↓reduceIte, Nat.reduceAdd, Nat.reduceSub, Nat.reduceLT, Nat.reduceEqDiff, reduceCtorEq, Nat.reduceLeDiff, Nat.reduceBEq, Nat.reduceMul, Int.reduceToNat, e]; rfl) (by first | exact ⟨h1, h2⟩ | (repeat' first | exact trivial | exact h1 | exact h2 | constructor)) ?_
  exact Holds.ret (RetOk.vs (show resAVs Try.prog _ _ [ResultVar.cell 3 85] = _ from by simp (maxSteps := 100000) (disch := omega) only [resAVs, AV.isPtr, go_sem, V.isAgg, V.flat, ↓reduceIte, Nat.reduceAdd, Nat.reduceSub, Nat.reduceLT, Nat.reduceEqDiff, reduceCtorEq, Nat.reduceLeDiff, Nat.reduceBEq, Nat.reduceMul, Int.reduceToNat]; rfl) (by exact ⟨⟨rfl, fun h => h⟩, trivial⟩) rfl)

/-- The pieces' numbers. -/
def pcz (x : List Int) (n k : Nat) : List Int := (List.range k).map fun j => ((val ((x.drop (j * n)).take n) : Nat) : Int)
theorem pcs_whole {x : List Int} (o : okW x) (n k : Nat) : (pcs x n k).map wholeV = (pcz x n k).map fun z => pV (zp z) := by
  rw [pcs, pcz, List.map_map, List.map_map]
  refine List.map_congr_left fun j _ => ?_
  show wholeV (trimL _) = pV (zp _)
  rw [zp_nat, trim_digs (okW_take (okW_drop o _) _)]
  rfl
theorem pcz_getD {x : List Int} {n : Nat} (hn : 0 < n) (i : Nat) : (pcz x n (pcsM x n)).getD i 0 = ((val ((x.drop (i * n)).take n) : Nat) : Int) := by
  rw [pcz, List.getD_eq_getElem?_getD, List.getElem?_map]
  by_cases h : i < pcsM x n
  · rw [List.getElem?_range h]; rfl
  · rw [List.getElem?_eq_none (by rw [List.length_range]; omega)]
    have h2 := mt (pcsM_lt (x := x) hn).2 h
    rw [List.drop_of_length_le (by omega), List.take_nil]
    rfl
theorem val_three {x : List Int} {n : Nat} (h : x.length ≤ 3 * n) : val x = val ((x.drop (0 * n)).take n) + 18446744073709551616 ^ n * val ((x.drop (1 * n)).take n) + 18446744073709551616 ^ n * 18446744073709551616 ^ n * val (x.drop (2 * n)) ∧ (x.drop (2 * n)).take n = x.drop (2 * n) := by
  have h1 := val_split x n
  have h2 := val_split (x.drop n) n
  rw [List.drop_drop, show n + n = 2 * n from by omega] at h2
  refine ⟨?_, List.take_of_length_le (by rw [List.length_drop]; omega)⟩
  rw [Nat.zero_mul, List.drop_zero, Nat.one_mul, h1, h2, Nat.mul_add]
  simp only [Nat.add_assoc, Nat.mul_assoc]

theorem toom_sum (P a0 a1 a2 b0 b1 b2 : Nat) : (a0 + P * a1 + P * P * a2) * (b0 + P * b1 + P * P * b2) = a0 * b0 + P * (a0 * b1 + a1 * b0) + P * P * (a0 * b2 + a1 * b1 + a2 * b0) + P * P * P * (a1 * b2 + a2 * b1) + P * P * P * P * (a2 * b2) := by grind

def tsum (P c0 c1 c2 c3 c4 : Nat) : Nat → Nat
  | 0 => 0
  | 1 => c0
  | 2 => c0 + P * c1
  | 3 => c0 + P * c1 + P * P * c2
  | 4 => c0 + P * c1 + P * P * c2 + P * P * P * c3
  | _ + 5 => c0 + P * c1 + P * P * c2 + P * P * P * c3 + P * P * P * P * c4
theorem tsum_le (P c0 c1 c2 c3 c4 : Nat) (k : Nat) : tsum P c0 c1 c2 c3 c4 k ≤ tsum P c0 c1 c2 c3 c4 5 := by
  match k with
  | 0 | 1 | 2 | 3 | 4 => simp only [tsum]; omega
  | _ + 5 => simp only [tsum]; exact Nat.le_refl _
theorem tsum_step (n c0 c1 c2 c3 c4 : Nat) {k : Nat} (h : k < 5) : tsum (18446744073709551616 ^ n) c0 c1 c2 c3 c4 (k + 1) = tsum (18446744073709551616 ^ n) c0 c1 c2 c3 c4 k + 18446744073709551616 ^ (k * n) * [c0, c1, c2, c3, c4].getD k 0 := by
  have e2 : 18446744073709551616 ^ (2 * n) = 18446744073709551616 ^ n * 18446744073709551616 ^ n := by rw [Nat.two_mul, Nat.pow_add]
  have e3 : 18446744073709551616 ^ (3 * n) = 18446744073709551616 ^ n * 18446744073709551616 ^ n * 18446744073709551616 ^ n := by rw [show 3 * n = n + n + n from by omega, Nat.pow_add, Nat.pow_add]
  have e4 : 18446744073709551616 ^ (4 * n) = 18446744073709551616 ^ n * 18446744073709551616 ^ n * 18446744073709551616 ^ n * 18446744073709551616 ^ n := by rw [show 4 * n = n + n + n + n from by omega, Nat.pow_add, Nat.pow_add, Nat.pow_add]
  match k, h with
  | 0, _ => simp [tsum]
  | 1, _ => rw [Nat.one_mul]; rfl
  | 2, _ => rw [e2]; rfl
  | 3, _ => rw [e3]; rfl
  | 4, _ => rw [e4]; rfl

theorem sgn_mul (a b : Int) : zp (a * b) = ((decide (a < 0) != decide (b < 0)) && decide (0 < (digs (a.natAbs * b.natAbs)).length), digs (a.natAbs * b.natAbs)) := by
  have h : a * b = if (decide (a < 0) != decide (b < 0)) = true then -((a.natAbs * b.natAbs : Nat) : Int) else ((a.natAbs * b.natAbs : Nat) : Int) := by
    rw [Int.natCast_mul]
    by_cases ha : a < 0
    · have ea : ((a.natAbs : Nat) : Int) = -a := by omega
      by_cases hb : b < 0
      · have eb : ((b.natAbs : Nat) : Int) = -b := by omega
        rw [decide_eq_true ha, decide_eq_true hb, ea, eb]; simp [Int.neg_mul, Int.mul_neg]
      · have eb : ((b.natAbs : Nat) : Int) = b := by omega
        rw [decide_eq_true ha, decide_eq_false hb, ea, eb]; simp [Int.neg_mul, Int.mul_neg]
    · have ea : ((a.natAbs : Nat) : Int) = a := by omega
      by_cases hb : b < 0
      · have eb : ((b.natAbs : Nat) : Int) = -b := by omega
        rw [decide_eq_false ha, decide_eq_true hb, ea, eb]; simp [Int.neg_mul, Int.mul_neg]
      · have eb : ((b.natAbs : Nat) : Int) = b := by omega
        rw [decide_eq_false ha, decide_eq_false hb, ea, eb]; simp [Int.neg_mul, Int.mul_neg]
  rw [h, zp_of]
end Go.Proofs.Ytjmclobbfabnpaa.L
