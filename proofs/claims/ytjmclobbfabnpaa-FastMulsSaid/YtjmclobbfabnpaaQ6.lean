/-
  Uj
-/
import Derived.Test.YtjmclobbfabnpaaQ5
set_option linter.unusedSimpArgs false
set_option linter.unusedVariables false
/-
  Toom's way: the walk.
-/
namespace Go.Proofs.Ytjmclobbfabnpaa.L
open Go Go.RowKit Go.Proofs
attribute [local go_sem] evalOps_nil evalOps_cons runW_t runW_f runE_s runP_s wantA evalOp effOp letters okDst coreA St.opv St.get St.at look constA St.put St.upd St.set decide_true List.all_nil List.all_cons Bool.and_true Bool.true_and and_self and_true true_and if_true if_false true_or Int.sub_zero List.nil_append List.cons_append List.append_nil Option.isSome_some List.getElem?_toArray List.getElem?_cons_succ List.getElem?_cons_zero Option.bind_some Option.map_some Option.map_none beq_self_eq_true Bool.false_beq Bool.true_beq Bool.not_true Bool.not_false Bool.false_eq_true cond_true cond_false binA binI List.map_cons List.map_nil boundA List.length_nil List.length_cons Nat.zero_mul Nat.one_mul Nat.mul_one Nat.zero_add Nat.add_zero Nat.zero_le Option.toList St.freshB AV.ment AV.ments Blk.ment V.sizes Nat.lt_add_one Bool.or_true Bool.true_or Bool.or_false Bool.false_or Bool.or_self if_pos if_neg decide_false decide_eq_true decide_eq_false wrap_i64 Int.toNat_natCast minA maxA Int.natCast_add Int.cast_ofNat_Int Option.isSome_none false_implies true_implies forall_const List.drop_zero Int.toNat_zero Int.add_sub_cancel lenA sliceA loadA indexAddrA partA fitsT V.atP V.offP V.size List.length_map List.getElem?_map Int.toNat_natCast_add_one Int.ofNat_eq_natCast TY calleeA capArg knotA capArgs toArgs toArg callA R.res R.mems R.blks R.av R.names R.nw invokeA storeA storeV fieldAddrA liveB V.off V.offs V.setP List.set_cons_zero List.set_cons_succ buildA buildP partsA appendA srcA copyA boxOk makeA AV.pure List.take_succ_cons List.take_zero nilA words entry List.zipIdx_cons List.zipIdx_nil Arg.av Arg.avs

/-- What toom makes of a number: its five values, the last one the highest piece. -/
structure Piece5 (x : List Int) (n : Nat) where
  a0 : Nat
  a1 : Nat
  a2 : Nat
  L : List Int
  hx : val x = a0 + 18446744073709551616 ^ n * a1 + 18446744073709551616 ^ n * 18446744073709551616 ^ n * a2
  five : FnOk Try.prog 57 [.v (.sl 2 ((pcs x n (pcsM x n)).map wholeV))] [.v false (arrV [(a0 : Int), hornZ 1 L, hornZ (-1) L, hornZ 2 L, 0])]
  top : FnOk Try.prog 145 [.v (words x), .el (.int .i64 n)] [.v true (pV (zp (a2 : Int)))]
  hL : L.length ≤ 3
  l0 : L.getD 0 0 = a0
  l1 : L.getD 1 0 = a1
  l2 : L.getD 2 0 = a2
  b0 : (a0 : Int).natAbs < 18446744073709551616 ^ (n + 1)
  b1 : (hornZ 1 L).natAbs < 18446744073709551616 ^ (n + 1)
  b2 : (hornZ (-1) L).natAbs < 18446744073709551616 ^ (n + 1)
  b3 : (hornZ 2 L).natAbs < 18446744073709551616 ^ (n + 1)
  b4 : (a2 : Int).natAbs < 18446744073709551616 ^ (n + 1)

theorem piece5 {x : List Int} (o : okW x) {n : Nat} (hn : 0 < n) (hn2 : n ≤ 10000) (h : x.length ≤ 3 * n) : Nonempty (Piece5 x n) := by
  obtain ⟨v1, v2⟩ := val_three h
  have g0 := pcz_getD (x := x) hn 0
  have g1 := pcz_getD (x := x) hn 1
  have g2 := pcz_getD (x := x) hn 2
  have g4 := pcz_getD (x := x) hn 4
  rw [v2] at g2
  rw [List.drop_of_length_le (show x.length ≤ 4 * n by omega), List.take_nil] at g4
  have hM : pcsM x n ≤ 3 := by
    refine Nat.le_of_not_lt fun hc => ?_
    have := (pcsM_lt (x := x) (k := 3) hn).1 hc
    omega
  have hl : (pcz x n (pcsM x n)).length ≤ 3 := by rw [pcz, List.length_map, List.length_range]; exact hM
  have hz : ∀ z ∈ pcz x n (pcsM x n), z.natAbs < 18446744073709551616 ^ n := fun z hz => by
    rw [pcz] at hz
    obtain ⟨j, _, rfl⟩ := List.mem_map.1 hz
    rw [Int.natAbs_natCast]
    exact lt_pow (val_lt (okW_take (okW_drop o _) _)) (by rw [List.length_take]; omega)
  have h5 := five_ok (pcz x n (pcsM x n)) n (by omega) (by omega) hz
  rw [wholesV, ← pcs_whole o, fiveZ, g0, g4] at h5
  have hlt := five_lt (by omega) hz
  have hp : 0 < 18446744073709551616 ^ n := Nat.pow_pos (by decide)
  have hlt2 : (((val (x.drop (2 * n)) : Nat) : Int)).natAbs < 18446744073709551616 ^ (n + 1) := by rw [← g2]; exact lt_up (getD_lt hp hz)
  rw [fiveZ, g0] at hlt
  exact ⟨⟨_, _, _, pcz x n (pcsM x n), v1, h5, top_ok x n (by omega) o (by omega), hl, g0, g1, g2, hlt _ (by simp), hlt _ (by simp), hlt _ (by simp), hlt _ (by simp), hlt2⟩⟩

theorem agg5 (L : List Int) (hL : L.length = 5) : V.sizes (L.map fun z => pV (zp z)) = 10 := by
  match L, hL with
  | [a, b, c, d, e], _ => rfl

set_option maxHeartbeats 2000000 in
set_option maxRecDepth 100000 in
theorem toom_all (least : Nat) (hl : 3 ≤ least) (hl2 : least ≤ 64) : ∀ (N : Nat) (X Y : List Int), X.length < N → Y.length < N → okW X → okW Y → X.length ≤ 2100 → Y.length ≤ 2100 →
    (X.length + Y.length ≤ 4096 ∨ (64 ≤ (trimL X).length ∧ 64 ≤ (trimL Y).length)) →
    FnOk Try.prog 143 [.v (wayV least), .v (words X), .v (words Y)] [.v true (words (digs (val X * val Y)))] := by
  intro N
  induction N with
  | zero => intro X Y h; exact absurd h (by omega)
  | succ N ih =>
    intro X Y hN1 hN2 oX oY lX lY hs
    have ox := trimL_ok oX
    have oy := trimL_ok oY
    have tX := trimL_len X
    have tY := trimL_len Y
    have vx := val_trim X
    have vy := val_trim Y
    have h1 := Trim_ok X (by omega)
    have h2 := Trim_ok Y (by omega)
    rw [← vx, ← vy]
    clear vx vy
    obtain ⟨x, hx⟩ : ∃ x, x = trimL X := ⟨_, rfl⟩
    obtain ⟨y, hy⟩ : ∃ y, y = trimL Y := ⟨_, rfl⟩
    rw [← hx] at h1 ox tX hs ⊢
    rw [← hy] at h2 oy tY hs ⊢
    by_cases hmin : (x.length : Int) < least ∨ (y.length : Int) < least
    · have h := plain_ok x y (by omega) ox oy
      rw [prodL_val ox oy] at h
      have e1 : (if (y.length : Int) < (x.length : Int) then (y.length : Int) else x.length) < least := by split <;> omega
      obtain ⟨D, hD⟩ : ∃ D, D = digs (val x * val y) := ⟨_, rfl⟩
      rw [← hD] at h ⊢
      refine FnOk.of Try.func143 rfl rfl fun cx w0 => ?_
      rw [show Try.f143.ntmps = 111 from rfl]
      refine Holds.step (Px := px) (T := TT) (ρ := fun _ => []) TTe (by simp (maxSteps := 100000) (disch := omega) only [go_sem, V.isAgg, V.flat, ↓reduceIte, Nat.reduceAdd, Nat.reduceSub, Nat.reduceLT, Nat.reduceEqDiff, reduceCtorEq, Nat.reduceLeDiff, Nat.reduceBEq, Nat.reduceMul, Int.reduceToNat, List.length_cons, List.length_nil, wayV]; rfl) (by repeat' first | exact trivial | constructor) ?_
      refine Holds.step (Px := px) (T := TT) (ρ := fun d => if d = 21 then [.v true (words x)] else [.v true (words y)]) TTe (by simp (maxSteps := 100000) (disch := omega) only [go_sem, V.isAgg, V.flat, ↓reduceIte, Nat.reduceAdd, Nat.reduceSub, Nat.reduceLT, Nat.reduceEqDiff, reduceCtorEq, Nat.reduceLeDiff, Nat.reduceBEq, Nat.reduceMul, Int.reduceToNat]; rfl) (by first | exact ⟨h1, h2⟩ | (repeat' first | exact trivial | exact h1 | exact h2 | constructor)) ?_
      refine Holds.seq ?_
      refine Holds.step (Px := px) (T := TT) (ρ := fun _ => []) TTe (by simp (maxSteps := 100000) (disch := omega) only [go_sem, V.isAgg, V.flat, ↓reduceIte, Nat.reduceAdd, Nat.reduceSub, Nat.reduceLT, Nat.reduceEqDiff, reduceCtorEq, Nat.reduceLeDiff, Nat.reduceBEq, Nat.reduceMul, Int.reduceToNat, e1]; rfl) (by repeat' first | exact trivial | constructor) ?_
      refine Holds.condT rfl ?_
      refine Holds.step (Px := px) (T := TT) (ρ := fun _ => [.v true (words D)]) TTe (by simp (maxSteps := 100000) (disch := omega) only [go_sem, V.isAgg, V.flat, ↓reduceIte, Nat.reduceAdd, Nat.reduceSub, Nat.reduceLT, Nat.reduceEqDiff, reduceCtorEq, Nat.reduceLeDiff, Nat.reduceBEq, Nat.reduceMul, Int.reduceToNat]; rfl) (by first | exact h | (repeat' first | exact trivial | exact h | constructor)) ?_
      exact Holds.ret (RetOk.vs rfl (by exact ⟨⟨rfl, fun h => h⟩, trivial⟩) rfl)
    · obtain ⟨m, hm⟩ : ∃ m, m = max x.length y.length := ⟨_, rfl⟩
      obtain ⟨n, hn⟩ : ∃ n, n = (m + 2) / 3 := ⟨_, rfl⟩
      have hn1 : 1 ≤ n := by omega
      have hn7 : n ≤ 700 := by omega
      have hnm : n + 1 < m := by omega
      have hmN : m ≤ N := by omega
      have hmb : m ≤ 2100 := by omega
      have e1 : ¬ (if (y.length : Int) < (x.length : Int) then (y.length : Int) else x.length) < least := by split <;> omega
      have e2 : (if (x.length : Int) < (y.length : Int) then (y.length : Int) else x.length) = m := by split <;> omega
      have e3 : ((m : Int) + 2).tdiv 3 = n := by rw [Int.tdiv_eq_ediv_of_nonneg (by omega)]; omega
      obtain ⟨P⟩ := piece5 ox hn1 (by omega) (show x.length ≤ 3 * n by omega)
      obtain ⟨Q⟩ := piece5 oy hn1 (by omega) (show y.length ≤ 3 * n by omega)
      have hpx := pieces_ok x n hn1 (by omega) (by omega)
      have hpy := pieces_ok y n hn1 (by omega) (by omega)
      obtain ⟨a0, a1, a2, LA, hxv, fA, tA, lA, ga0, ga1, ga2, bA0, bA1, bA2, bA3, bA4⟩ := P
      obtain ⟨b0, b1, b2, LB, hyv, fB, tB, lB, gb0, gb1, gb2, bB0, bB1, bB2, bB3, bB4⟩ := Q
      obtain ⟨c0, c1, c2, c3, c4, hc, m0, m1, m2, m3, m4⟩ := fives_mul lA lB
      rw [ga0, ga1, ga2, gb0, gb1, gb2] at hc
      rw [ga0, gb0] at m0
      rw [ga2, gb2] at m4
      -- the coefficients are numbers
      have hcs : c0 = ((a0 * b0 : Nat) : Int) ∧ c1 = ((a0 * b1 + a1 * b0 : Nat) : Int) ∧ c2 = ((a0 * b2 + a1 * b1 + a2 * b0 : Nat) : Int) ∧ c3 = ((a1 * b2 + a2 * b1 : Nat) : Int) ∧ c4 = ((a2 * b2 : Nat) : Int) := by
        unfold convL at hc
        injection hc with q0 hc
        injection hc with q1 hc
        injection hc with q2 hc
        injection hc with q3 hc
        injection hc with q4 hc
        refine ⟨?_, ?_, ?_, ?_, ?_⟩
        · rw [← q0, Int.natCast_mul]
        · rw [← q1]; simp
        · rw [← q2]; simp
        · rw [← q3]; simp
        · rw [← q4, Int.natCast_mul]
      -- the five products
      obtain ⟨AZ, hAZ⟩ : ∃ AZ : List Int, AZ = [(a0 : Int), hornZ 1 LA, hornZ (-1) LA, hornZ 2 LA, (a2 : Int)] := ⟨_, rfl⟩
      obtain ⟨BZ, hBZ⟩ : ∃ BZ : List Int, BZ = [(b0 : Int), hornZ 1 LB, hornZ (-1) LB, hornZ 2 LB, (b2 : Int)] := ⟨_, rfl⟩
      have kA : ∀ k, k < 5 → (AZ.getD k 0).natAbs < 18446744073709551616 ^ (n + 1) := fun k hk => by
        rw [hAZ]
        match k, hk with
        | 0, _ => exact bA0
        | 1, _ => exact bA1
        | 2, _ => exact bA2
        | 3, _ => exact bA3
        | 4, _ => exact bA4
      have kB : ∀ k, k < 5 → (BZ.getD k 0).natAbs < 18446744073709551616 ^ (n + 1) := fun k hk => by
        rw [hBZ]
        match k, hk with
        | 0, _ => exact bB0
        | 1, _ => exact bB1
        | 2, _ => exact bB2
        | 3, _ => exact bB3
        | 4, _ => exact bB4
      have lAZ : AZ.length = 5 := by rw [hAZ]; rfl
      have lBZ : BZ.length = 5 := by rw [hBZ]; rfl
      have bmul : ∀ {u v : Int}, u.natAbs < 18446744073709551616 ^ (n + 1) → v.natAbs < 18446744073709551616 ^ (n + 1) → (u * v).natAbs < 18446744073709551616 ^ (n + 1 + (n + 1)) := fun {u v} hu hv => by
        rw [Int.natAbs_mul, Nat.pow_add]
        exact Nat.mul_lt_mul'' hu hv
      have hback := back_vals c0 c1 c2 c3 c4 _ _ _ _ _ (n + 1 + (n + 1)) (by omega) (bmul bA0 bB0) (bmul bA1 bB1) (bmul bA2 bB2) (bmul bA3 bB3) (bmul bA4 bB4) m0 m1 m2 m3 m4
      obtain ⟨H, hH⟩ : ∃ H : List V, H = [pV (zp ((a0 : Int) * b0)), pV (zp (hornZ 1 LA * hornZ 1 LB)), pV (zp (hornZ (-1) LA * hornZ (-1) LB)), pV (zp (hornZ 2 LA * hornZ 2 LB)), pV (zp ((a2 : Int) * b2))] := ⟨_, rfl⟩
      rw [show arrV [(a0 : Int) * b0, hornZ 1 LA * hornZ 1 LB, hornZ (-1) LA * hornZ (-1) LB, hornZ 2 LA * hornZ 2 LB, (a2 : Int) * b2] = .agg H from by rw [hH]; rfl] at hback
      have lH : H.length = 5 := by rw [hH]; rfl
      have hHk : ∀ k, k < 5 → H[k]? = some (pV (zp (AZ.getD k 0 * BZ.getD k 0))) := fun k hk => by
        rw [hH, hAZ, hBZ]
        match k, hk with
        | 0, _ | 1, _ | 2, _ | 3, _ | 4, _ => rfl
      have hHs : ∀ v ∈ H, v.size = 2 := fun v hv => by
        rw [hH] at hv
        simp only [List.mem_cons, List.not_mem_nil, or_false] at hv
        rcases hv with rfl | rfl | rfl | rfl | rfl <;> rfl
      have sH : V.sizes H = 10 := by rw [hH]; rfl
      -- the arrays of values
      obtain ⟨AV5, hAV⟩ : ∃ AV5 : List V, AV5 = AZ.map fun z => pV (zp z) := ⟨_, rfl⟩
      obtain ⟨BV5, hBV⟩ : ∃ BV5 : List V, BV5 = BZ.map fun z => pV (zp z) := ⟨_, rfl⟩
      have gAV : ∀ k, k < 5 → AV5[k]? = some (.agg [.bool (decide (AZ.getD k 0 < 0)), words (digs (AZ.getD k 0).natAbs)]) := fun k hk => by
        rw [hAV, List.getElem?_map, get_mapI (by omega)]; rfl
      have gBV : ∀ k, k < 5 → BV5[k]? = some (.agg [.bool (decide (BZ.getD k 0 < 0)), words (digs (BZ.getD k 0).natAbs)]) := fun k hk => by
        rw [hBV, List.getElem?_map, get_mapI (by omega)]; rfl
      have oAV : ∀ k, k < 5 → V.off AV5 k = k * 2 := fun k hk => by rw [hAV]; exact offZ (by omega)
      have oBV : ∀ k, k < 5 → V.off BV5 k = k * 2 := fun k hk => by rw [hBV]; exact offZ (by omega)
      have fA' : FnOk Try.prog 57 [.v (.sl 2 ((pcs x n (pcsM x n)).map wholeV))] [.v false (.agg [pV (zp (a0 : Int)), pV (zp (hornZ 1 LA)), pV (zp (hornZ (-1) LA)), pV (zp (hornZ 2 LA)), pV (zp 0)])] := fA
      have fB' : FnOk Try.prog 57 [.v (.sl 2 ((pcs y n (pcsM y n)).map wholeV))] [.v false (.agg [pV (zp (b0 : Int)), pV (zp (hornZ 1 LB)), pV (zp (hornZ (-1) LB)), pV (zp (hornZ 2 LB)), pV (zp 0)])] := fB
      have eAV : [pV (zp (a0 : Int)), pV (zp (hornZ 1 LA)), pV (zp (hornZ (-1) LA)), pV (zp (hornZ 2 LA)), pV (zp (a2 : Int))] = AV5 := by rw [hAV, hAZ]; rfl
      have eBV : [pV (zp (b0 : Int)), pV (zp (hornZ 1 LB)), pV (zp (hornZ (-1) LB)), pV (zp (hornZ 2 LB)), pV (zp (b2 : Int))] = BV5 := by rw [hBV, hBZ]; rfl
      obtain ⟨PX, hPX⟩ : ∃ PX, PX = (pcs x n (pcsM x n)).map wholeV := ⟨_, rfl⟩
      obtain ⟨PY, hPY⟩ : ∃ PY, PY = (pcs y n (pcsM y n)).map wholeV := ⟨_, rfl⟩
      rw [← hPX] at hpx fA'
      rw [← hPY] at hpy fB'
      -- the sum
      have htot : tsum (18446744073709551616 ^ n) (a0 * b0) (a0 * b1 + a1 * b0) (a0 * b2 + a1 * b1 + a2 * b0) (a1 * b2 + a2 * b1) (a2 * b2) 5 = val x * val y := by
        rw [hxv, hyv, toom_sum]; rfl
      have hstep : ∀ k, k < 5 → tsum (18446744073709551616 ^ n) (a0 * b0) (a0 * b1 + a1 * b0) (a0 * b2 + a1 * b1 + a2 * b0) (a1 * b2 + a2 * b1) (a2 * b2) (k + 1) = tsum (18446744073709551616 ^ n) (a0 * b0) (a0 * b1 + a1 * b0) (a0 * b2 + a1 * b1 + a2 * b0) (a1 * b2 + a2 * b1) (a2 * b2) k + 18446744073709551616 ^ (k * n) * [a0 * b0, a0 * b1 + a1 * b0, a0 * b2 + a1 * b1 + a2 * b0, a1 * b2 + a2 * b1, a2 * b2].getD k 0 := fun k hk => tsum_step _ _ _ _ _ _ hk
      have hle := tsum_le (18446744073709551616 ^ n) (a0 * b0) (a0 * b1 + a1 * b0) (a0 * b2 + a1 * b1 + a2 * b0) (a1 * b2 + a2 * b1) (a2 * b2)
      obtain ⟨CN, hCN⟩ : ∃ CN : List Nat, CN = [a0 * b0, a0 * b1 + a1 * b0, a0 * b2 + a1 * b1 + a2 * b0, a1 * b2 + a2 * b1, a2 * b2] := ⟨_, rfl⟩
      rw [← hCN] at hstep
      obtain ⟨S, hS⟩ : ∃ S, S = tsum (18446744073709551616 ^ n) (a0 * b0) (a0 * b1 + a1 * b0) (a0 * b2 + a1 * b1 + a2 * b0) (a1 * b2 + a2 * b1) (a2 * b2) := ⟨_, rfl⟩
      have hS0 : S 0 = 0 := by rw [hS]; rfl
      rw [← hS] at htot hstep hle
      rw [htot] at hle
      have hSl : ∀ k, (digs (S k)).length ≤ 4200 := fun k => Nat.le_trans (digs_mono (hle k)) (Nat.le_trans (digs_len (mul_lt_pow ox oy)) (by omega))
      have hCl : ∀ k, k < 5 → (digs (CN.getD k 0)).length ≤ 4200 := fun k hk => by
        refine Nat.le_trans (digs_mono (v := S (k + 1)) ?_) (hSl (k + 1))
        rw [hstep k hk]
        have : 1 * CN.getD k 0 ≤ 18446744073709551616 ^ (k * n) * CN.getD k 0 := Nat.mul_le_mul_right _ (Nat.pow_pos (by decide))
        omega
      obtain ⟨CV, hCV⟩ : ∃ CV : List V, CV = [pV (zp c0), pV (zp c1), pV (zp c2), pV (zp c3), pV (zp c4)] := ⟨_, rfl⟩
      rw [show arrV [c0, c1, c2, c3, c4] = .agg CV from by rw [hCV]; rfl] at hback
      have gCV : ∀ k, k < 5 → CV[k]? = some (.agg [.bool false, words (digs (CN.getD k 0))]) := fun k hk => by
        rw [hCV, hcs.1, hcs.2.1, hcs.2.2.1, hcs.2.2.2.1, hcs.2.2.2.2, zp_nat, zp_nat, zp_nat, zp_nat, zp_nat, hCN]
        match k, hk with
        | 0, _ | 1, _ | 2, _ | 3, _ | 4, _ => rfl
      have oCV : ∀ k, k < 5 → V.off CV k = k * 2 := fun k hk => by
        have := offZ (L := [c0, c1, c2, c3, c4]) (k := k) (by show k ≤ 5; omega)
        rw [hCV]
        exact this
      have sCV : V.sizes CV = 10 := by rw [hCV]; rfl
      rw [← htot]
      clear htot hle hCV hcs hc m0 m1 m2 m3 m4 hH hAZ hBZ hAV hBV hPX hPY hS hCN hxv hyv ga0 ga1 ga2 gb0 gb1 gb2 bA0 bA1 bA2 bA3 bA4 bB0 bB1 bB2 bB3 bB4 bmul fA fB lA lB hN1 hN2 hs hx hy hmin tX tY lX lY
      refine FnOk.of Try.func143 rfl rfl fun cx w0 => ?_
      rw [show Try.f143.ntmps = 111 from rfl]
      refine Holds.step (Px := px) (T := TT) (ρ := fun _ => []) TTe (by simp (maxSteps := 100000) (disch := omega) only [go_sem, V.isAgg, V.flat, ↓reduceIte, Nat.reduceAdd, Nat.reduceSub, Nat.reduceLT, Nat.reduceEqDiff, reduceCtorEq, Nat.reduceLeDiff, Nat.reduceBEq, Nat.reduceMul, Int.reduceToNat, List.length_cons, List.length_nil, wayV]; rfl) (by repeat' first | exact trivial | constructor) ?_
      refine Holds.step (Px := px) (T := TT) (ρ := fun d => if d = 21 then [.v true (words x)] else [.v true (words y)]) TTe (by simp (maxSteps := 100000) (disch := omega) only [go_sem, V.isAgg, V.flat, ↓reduceIte, Nat.reduceAdd, Nat.reduceSub, Nat.reduceLT, Nat.reduceEqDiff, reduceCtorEq, Nat.reduceLeDiff, Nat.reduceBEq, Nat.reduceMul, Int.reduceToNat]; rfl) (by first | exact ⟨h1, h2⟩ | (repeat' first | exact trivial | exact h1 | exact h2 | constructor)) ?_
      refine Holds.next (fun σ => ∀ a w, Rel cx w0 σ a w → Rel cx w0 { nt := 111, env := [(1, .v true (words x)), (2, .v true (words y)), (3, .ptr 3 0 [] 0)], mem := [(3, .box 95 (.v false (wayV least)))] } a w) ?_ ?_
      · refine Holds.step (Px := px) (T := TT) (ρ := fun _ => []) TTe (by simp (maxSteps := 100000) (disch := omega) only [go_sem, V.isAgg, V.flat, ↓reduceIte, Nat.reduceAdd, Nat.reduceSub, Nat.reduceLT, Nat.reduceEqDiff, reduceCtorEq, Nat.reduceLeDiff, Nat.reduceBEq, Nat.reduceMul, Int.reduceToNat, e1]; rfl) (by repeat' first | exact trivial | constructor) ?_
        exact Holds.condF rfl (Holds.skip fun a w h => Rel.keep [1, 2, 3] [3] h)
      · intro σ hσ
        refine Holds.from hσ ?_
        refine Holds.step (Px := px) (T := TT) (ρ := fun _ => []) TTe (by simp (maxSteps := 100000) (disch := omega) only [go_sem, V.isAgg, V.flat, ↓reduceIte, Nat.reduceAdd, Nat.reduceSub, Nat.reduceLT, Nat.reduceEqDiff, reduceCtorEq, Nat.reduceLeDiff, Nat.reduceBEq, Nat.reduceMul, Int.reduceToNat, e2, e3]; rfl) (by repeat' first | exact trivial | constructor) ?_
        refine Holds.step (Px := px) (T := TT) (ρ := fun _ => []) TTe (by simp (maxSteps := 100000) (disch := omega) only [go_sem, V.isAgg, V.flat, ↓reduceIte, Nat.reduceAdd, Nat.reduceSub, Nat.reduceLT, Nat.reduceEqDiff, reduceCtorEq, Nat.reduceLeDiff, Nat.reduceBEq, Nat.reduceMul, Int.reduceToNat]; rfl) (by repeat' first | exact trivial | constructor) ?_
        refine Holds.step (Px := px) (T := TT) (ρ := fun d => if d = 45 then [.v true (.sl 2 PX)] else if d = 46 then [.v false (.agg [pV (zp (a0 : Int)), pV (zp (hornZ 1 LA)), pV (zp (hornZ (-1) LA)), pV (zp (hornZ 2 LA)), pV (zp 0)])] else if d = 49 then [.v true (.sl 2 PY)] else [.v false (.agg [pV (zp (b0 : Int)), pV (zp (hornZ 1 LB)), pV (zp (hornZ (-1) LB)), pV (zp (hornZ 2 LB)), pV (zp 0)])]) TTe (by simp (maxSteps := 100000) (disch := omega) only [go_sem, V.isAgg, V.flat, ↓reduceIte, Nat.reduceAdd, Nat.reduceSub, Nat.reduceLT, Nat.reduceEqDiff, reduceCtorEq, Nat.reduceLeDiff, Nat.reduceBEq, Nat.reduceMul, Int.reduceToNat, -V.isAgg, -V.flat, isAgg_agg, isAgg_int, isAgg_bool, isAgg_sl, flat_agg, flat_int, flat_bool, flat_sl, pV_size, pV_agg]; rfl) (by first | exact ⟨hpx, fA', hpy, fB'⟩ | (repeat' first | exact trivial | exact hpx | exact fA' | exact hpy | exact fB' | constructor)) ?_
        refine Holds.step (Px := px) (T := TT) (ρ := fun _ => []) TTe (by simp (maxSteps := 100000) (disch := omega) only [go_sem, V.isAgg, V.flat, ↓reduceIte, Nat.reduceAdd, Nat.reduceSub, Nat.reduceLT, Nat.reduceEqDiff, reduceCtorEq, Nat.reduceLeDiff, Nat.reduceBEq, Nat.reduceMul, Int.reduceToNat]; rfl) (by repeat' first | exact trivial | constructor) ?_
        refine Holds.step (Px := px) (T := TT) (ρ := fun d => if d = 54 then [.v true (pV (zp (a2 : Int)))] else [.v true (pV (zp (b2 : Int)))]) TTe (by simp (maxSteps := 100000) (disch := omega) only [go_sem, V.isAgg, V.flat, ↓reduceIte, Nat.reduceAdd, Nat.reduceSub, Nat.reduceLT, Nat.reduceEqDiff, reduceCtorEq, Nat.reduceLeDiff, Nat.reduceBEq, Nat.reduceMul, Int.reduceToNat, -V.isAgg, -V.flat, isAgg_agg, isAgg_int, isAgg_bool, isAgg_sl, flat_agg, flat_int, flat_bool, flat_sl, pV_size, pV_agg]; rfl) (by first | exact ⟨tA, tB⟩ | (repeat' first | exact trivial | exact tA | exact tB | constructor)) ?_
        refine Holds.step (Px := px) (T := TT) (ρ := fun _ => []) TTe (by simp (maxSteps := 100000) (disch := omega) only [go_sem, V.isAgg, V.flat, ↓reduceIte, Nat.reduceAdd, Nat.reduceSub, Nat.reduceLT, Nat.reduceEqDiff, reduceCtorEq, Nat.reduceLeDiff, Nat.reduceBEq, Nat.reduceMul, Int.reduceToNat]; rfl) (by repeat' first | exact trivial | constructor) ?_
        obtain ⟨Z, hZ⟩ : ∃ Z, Z = V.agg [.bool false, .sl 1 []] := ⟨_, rfl⟩
        have Zs : Z.size = 2 := by rw [hZ]; rfl
        refine Holds.from (σ' := { nt := 111, env := [(3, .ptr 3 0 [] 0), (7, .ptr 7 0 [] 0), (9, .ptr 9 0 [] 0), (10, .ptr 10 0 [] 0), (12, .ptr 12 0 [] 0)], mem := [(3, .box 95 (.v false (wayV least))), (7, .box 3 (.v false (.int .i64 n))), (9, .box 86 (.v false (.agg AV5))), (10, .box 86 (.v false (.agg BV5))), (12, .box 86 (.v false (.agg (H.take 0 ++ List.replicate (5 - 0) Z))))] }) (fun a w h => by
          have := Rel.dim (Rel.keep [3, 7, 9, 10, 12] [3, 7, 9, 10, 12] h)
          rw [← eAV, ← eBV, hZ]
          exact this) ?_
        clear eAV eBV fA' fB' hpx hpy tA tB h1 h2 e1 e2 e3 hZ
        refine Holds.next (fun σ => ∀ a w, Rel cx w0 σ a w → Rel cx w0 { nt := 111, env := [(7, .ptr 7 0 [] 0), (12, .ptr 12 0 [] 0)], mem := [(7, .box 3 (.v false (.int .i64 n))), (12, .box 86 (.v false (.agg H)))] } a w) ?_ ?_
        · refine Holds.step (Px := px) (T := TT) (ρ := fun _ => []) TTe (by simp (maxSteps := 100000) (disch := omega) only [go_sem, V.isAgg, V.flat, ↓reduceIte, Nat.reduceAdd, Nat.reduceSub, Nat.reduceLT, Nat.reduceEqDiff, reduceCtorEq, Nat.reduceLeDiff, Nat.reduceBEq, Nat.reduceMul, Int.reduceToNat]; rfl) (by repeat' first | exact trivial | constructor) ?_
          refine Holds.loopB (fun k : Nat => { nt := 111, env := [(60, .v false (.int .i64 k)), (3, .ptr 3 0 [] 0), (7, .ptr 7 0 [] 0), (9, .ptr 9 0 [] 0), (10, .ptr 10 0 [] 0), (12, .ptr 12 0 [] 0)], mem := [(3, .box 95 (.v false (wayV least))), (7, .box 3 (.v false (.int .i64 n))), (9, .box 86 (.v false (.agg AV5))), (10, .box 86 (.v false (.agg BV5))), (12, .box 86 (.v false (.agg (H.take k ++ List.replicate (5 - k) Z))))] }) (fun k => k ≤ 5) (fun k => 5 - k) 0 (Nat.zero_le _) (fun a w h => Rel.dim (Rel.keep [60, 3, 7, 9, 10, 12] [3, 7, 9, 10, 12] h)) ?_
          intro k hk
          by_cases hend : k = 5
          · refine Holds.step (Px := px) (T := TT) (ρ := fun _ => []) TTe (by simp (maxSteps := 100000) (disch := omega) only [go_sem, V.isAgg, V.flat, ↓reduceIte, Nat.reduceAdd, Nat.reduceSub, Nat.reduceLT, Nat.reduceEqDiff, reduceCtorEq, Nat.reduceLeDiff, Nat.reduceBEq, Nat.reduceMul, Int.reduceToNat]; rfl) (by repeat' first | exact trivial | constructor) ?_
            refine Holds.seq ?_
            refine Holds.condF rfl (Holds.exit ⟨rfl, fun a w h => ?_⟩)
            have := Rel.dim (Rel.keep [7, 12] [7, 12] h)
            rw [hend, Nat.sub_self, List.replicate_zero, List.append_nil, List.take_of_length_le (by omega)] at this
            exact this
          · have hk5 : k < 5 := by omega
            have ga := gAV k hk5
            have gb := gBV k hk5
            have oa := oAV k hk5
            have ob := oBV k hk5
            have ba := kA k hk5
            have bb := kB k hk5
            have hHk' := hHk k hk5
            have lda := digs_len ba
            have ldb := digs_len bb
            have hrec := ih (digs (AZ.getD k 0).natAbs) (digs (BZ.getD k 0).natAbs) (by omega) (by omega) (digs_ok _).1 (digs_ok _).1 (by omega) (by omega) (.inl (by omega))
            rw [(digs_ok _).2.2, (digs_ok _).2.2] at hrec
            rw [sgn_mul] at hHk'
            have g1 := outV_get (z := Z) lH hk5
            have g2 := outV_set (z := Z) lH hk5 hHk'
            have g3 := outV_off (z := Z) (k := k) (j := k) lH (by omega) Zs hHs (by omega)
            obtain ⟨Y5, hY5⟩ : ∃ Y5, Y5 = H.take k ++ List.replicate (5 - k) Z := ⟨_, rfl⟩
            rw [← hY5] at g1 g2 g3 ⊢
            obtain ⟨D, hD⟩ : ∃ D, D = digs ((AZ.getD k 0).natAbs * (BZ.getD k 0).natAbs) := ⟨_, rfl⟩
            rw [← hD] at hrec g2
            obtain ⟨DA, hDA⟩ : ∃ D, D = digs (AZ.getD k 0).natAbs := ⟨_, rfl⟩
            obtain ⟨DB, hDB⟩ : ∃ D, D = digs (BZ.getD k 0).natAbs := ⟨_, rfl⟩
            rw [← hDA] at hrec ga
            rw [← hDB] at hrec gb
            obtain ⟨s, hs⟩ : ∃ s, s = decide (AZ.getD k 0 < 0) := ⟨_, rfl⟩
            obtain ⟨t, ht⟩ : ∃ t, t = decide (BZ.getD k 0 < 0) := ⟨_, rfl⟩
            rw [← hs] at ga g2
            rw [← ht] at gb g2
            clear hHk' hD hDA hDB hs ht ba bb lda ldb hY5
            refine Holds.step (Px := px) (T := TT) (ρ := fun _ => []) TTe (by simp (maxSteps := 100000) (disch := omega) only [go_sem, V.isAgg, V.flat, ↓reduceIte, Nat.reduceAdd, Nat.reduceSub, Nat.reduceLT, Nat.reduceEqDiff, reduceCtorEq, Nat.reduceLeDiff, Nat.reduceBEq, Nat.reduceMul, Int.reduceToNat]; rfl) (by repeat' first | exact trivial | constructor) ?_
            refine Holds.seq ?_
            refine Holds.condT rfl (Holds.skip ?_)
            refine Holds.next (fun σ => ∀ a w, Rel cx w0 σ a w → Rel cx w0 { nt := 111, env := [(60, .v false (.int .i64 k)), (3, .ptr 3 0 [] 0), (7, .ptr 7 0 [] 0), (9, .ptr 9 0 [] 0), (10, .ptr 10 0 [] 0), (12, .ptr 12 0 [] 0)], mem := [(3, .box 95 (.v false (wayV least))), (7, .box 3 (.v false (.int .i64 n))), (9, .box 86 (.v false (.agg AV5))), (10, .box 86 (.v false (.agg BV5))), (12, .box 86 (.v false (.agg (Y5.set k (pV ((s != t) && decide (0 < D.length), D))))))] } a w) ?_ ?_
            · refine Holds.blockN ?_
              refine Holds.step (Px := px) (T := TT) (ρ := fun _ => []) TTe (by simp (maxSteps := 100000) (disch := omega) only [go_sem, V.isAgg, V.flat, ↓reduceIte, Nat.reduceAdd, Nat.reduceSub, Nat.reduceLT, Nat.reduceEqDiff, reduceCtorEq, Nat.reduceLeDiff, Nat.reduceBEq, Nat.reduceMul, Int.reduceToNat]; rfl) (by repeat' first | exact trivial | constructor) ?_
              refine Holds.dstep (Px := px) (T := TT) (ρ := fun _ => [.v true (words D)]) [] mixed (by kernel_rfl) TTe (by simp (maxSteps := 100000) (disch := omega) only [go_sem, V.isAgg, V.flat, ↓reduceIte, Nat.reduceAdd, Nat.reduceSub, Nat.reduceLT, Nat.reduceEqDiff, reduceCtorEq, Nat.reduceLeDiff, Nat.reduceBEq, Nat.reduceMul, Int.reduceToNat, wayV, ga, gb, oa, ob]; rfl) (by first | exact hrec | (repeat' first | exact trivial | exact hrec | constructor)) (by rfl) (by rfl) (by rfl) ?_
              cases s <;> cases t
              · refine Holds.dregion (Px := px) (T := TT) (ρ := fun _ => []) [] mixed (by kernel_rfl) TTe (by simp (maxSteps := 100000) (disch := omega) only [go_sem, V.isAgg, V.flat, ↓reduceIte, Nat.reduceAdd, Nat.reduceSub, Nat.reduceLT, Nat.reduceEqDiff, reduceCtorEq, Nat.reduceLeDiff, Nat.reduceBEq, Nat.reduceMul, Int.reduceToNat, ga, gb, oa, ob, g1, g3, Zs]; rfl) (by repeat' first | exact trivial | constructor) (by rfl) (by rfl) (by rfl) ?_
                exact fun a w h => Rel.dim (Rel.keep [60, 3, 7, 9, 10, 12] [3, 7, 9, 10, 12] h)
              · by_cases hD0 : 0 < D.length
                · rw [decide_eq_true hD0]
                  refine Holds.dregion (Px := px) (T := TT) (ρ := fun _ => []) [] mixed (by kernel_rfl) TTe (by simp (maxSteps := 100000) (disch := omega) only [go_sem, V.isAgg, V.flat, ↓reduceIte, Nat.reduceAdd, Nat.reduceSub, Nat.reduceLT, Nat.reduceEqDiff, reduceCtorEq, Nat.reduceLeDiff, Nat.reduceBEq, Nat.reduceMul, Int.reduceToNat, ga, gb, oa, ob, g1, g3, Zs, hD0]; rfl) (by repeat' first | exact trivial | constructor) (by rfl) (by rfl) (by rfl) ?_
                  exact fun a w h => Rel.dim (Rel.keep [60, 3, 7, 9, 10, 12] [3, 7, 9, 10, 12] h)
                · rw [decide_eq_false hD0]
                  refine Holds.dregion (Px := px) (T := TT) (ρ := fun _ => []) [] mixed (by kernel_rfl) TTe (by simp (maxSteps := 100000) (disch := omega) only [go_sem, V.isAgg, V.flat, ↓reduceIte, Nat.reduceAdd, Nat.reduceSub, Nat.reduceLT, Nat.reduceEqDiff, reduceCtorEq, Nat.reduceLeDiff, Nat.reduceBEq, Nat.reduceMul, Int.reduceToNat, ga, gb, oa, ob, g1, g3, Zs, hD0]; rfl) (by repeat' first | exact trivial | constructor) (by rfl) (by rfl) (by rfl) ?_
                  exact fun a w h => Rel.dim (Rel.keep [60, 3, 7, 9, 10, 12] [3, 7, 9, 10, 12] h)
              · by_cases hD0 : 0 < D.length
                · rw [decide_eq_true hD0]
                  refine Holds.dregion (Px := px) (T := TT) (ρ := fun _ => []) [] mixed (by kernel_rfl) TTe (by simp (maxSteps := 100000) (disch := omega) only [go_sem, V.isAgg, V.flat, ↓reduceIte, Nat.reduceAdd, Nat.reduceSub, Nat.reduceLT, Nat.reduceEqDiff, reduceCtorEq, Nat.reduceLeDiff, Nat.reduceBEq, Nat.reduceMul, Int.reduceToNat, ga, gb, oa, ob, g1, g3, Zs, hD0]; rfl) (by repeat' first | exact trivial | constructor) (by rfl) (by rfl) (by rfl) ?_
                  exact fun a w h => Rel.dim (Rel.keep [60, 3, 7, 9, 10, 12] [3, 7, 9, 10, 12] h)
                · rw [decide_eq_false hD0]
                  refine Holds.dregion (Px := px) (T := TT) (ρ := fun _ => []) [] mixed (by kernel_rfl) TTe (by simp (maxSteps := 100000) (disch := omega) only [go_sem, V.isAgg, V.flat, ↓reduceIte, Nat.reduceAdd, Nat.reduceSub, Nat.reduceLT, Nat.reduceEqDiff, reduceCtorEq, Nat.reduceLeDiff, Nat.reduceBEq, Nat.reduceMul, Int.reduceToNat, ga, gb, oa, ob, g1, g3, Zs, hD0]; rfl) (by repeat' first | exact trivial | constructor) (by rfl) (by rfl) (by rfl) ?_
                  exact fun a w h => Rel.dim (Rel.keep [60, 3, 7, 9, 10, 12] [3, 7, 9, 10, 12] h)
              · refine Holds.dregion (Px := px) (T := TT) (ρ := fun _ => []) [] mixed (by kernel_rfl) TTe (by simp (maxSteps := 100000) (disch := omega) only [go_sem, V.isAgg, V.flat, ↓reduceIte, Nat.reduceAdd, Nat.reduceSub, Nat.reduceLT, Nat.reduceEqDiff, reduceCtorEq, Nat.reduceLeDiff, Nat.reduceBEq, Nat.reduceMul, Int.reduceToNat, ga, gb, oa, ob, g1, g3, Zs]; rfl) (by repeat' first | exact trivial | constructor) (by rfl) (by rfl) (by rfl) ?_
                exact fun a w h => Rel.dim (Rel.keep [60, 3, 7, 9, 10, 12] [3, 7, 9, 10, 12] h)
            · intro σ hσ
              refine Holds.from hσ ?_
              refine Holds.region (Px := px) (T := TT) (ρ := fun _ => []) TTe (by simp (maxSteps := 100000) (disch := omega) only [go_sem, V.isAgg, V.flat, ↓reduceIte, Nat.reduceAdd, Nat.reduceSub, Nat.reduceLT, Nat.reduceEqDiff, reduceCtorEq, Nat.reduceLeDiff, Nat.reduceBEq, Nat.reduceMul, Int.reduceToNat]; rfl) (by repeat' first | exact trivial | constructor) ?_
              refine ⟨k + 1, (by show k + 1 ≤ 5; omega), (show 5 - (k + 1) < 5 - k by omega), fun a w h => ?_⟩
              have := Rel.dim (Rel.keep [60, 3, 7, 9, 10, 12] [3, 7, 9, 10, 12] h)
              rw [g2] at this
              exact this
        · intro σ hσ
          refine Holds.from hσ ?_
          refine Holds.step (Px := px) (T := TT) (ρ := fun _ => [.v false (.agg CV), .v true (.bool true)]) TTe (by simp (maxSteps := 100000) (disch := omega) only [go_sem, V.isAgg, V.flat, ↓reduceIte, Nat.reduceAdd, Nat.reduceSub, Nat.reduceLT, Nat.reduceEqDiff, reduceCtorEq, Nat.reduceLeDiff, Nat.reduceBEq, Nat.reduceMul, Int.reduceToNat, -V.isAgg, -V.flat, isAgg_agg, isAgg_int, isAgg_bool, isAgg_sl, flat_agg, flat_int, flat_bool, flat_sl, sH, sCV]; rfl) (by first | exact hback | (repeat' first | exact trivial | exact hback | constructor)) ?_
          refine Holds.step (Px := px) (T := TT) (ρ := fun _ => []) TTe (by simp (maxSteps := 100000) (disch := omega) only [go_sem, V.isAgg, V.flat, ↓reduceIte, Nat.reduceAdd, Nat.reduceSub, Nat.reduceLT, Nat.reduceEqDiff, reduceCtorEq, Nat.reduceLeDiff, Nat.reduceBEq, Nat.reduceMul, Int.reduceToNat]; rfl) (by repeat' first | exact trivial | constructor) ?_
          refine Holds.from (σ' := { nt := 111, env := [(17, .v true (words (digs (S 0)))), (7, .ptr 7 0 [] 0), (15, .ptr 15 0 [] 0)], mem := [(7, .box 3 (.v false (.int .i64 n))), (15, .box 86 (.v false (.agg CV)))] }) (fun a w h => by
            rw [hS0]
            have := Rel.keep [17, 7, 15] [7, 15] (Rel.nilV (t := 17) (z := 1) rfl h)
            exact this) ?_
          refine Holds.next (fun σ => ∀ a w, Rel cx w0 σ a w → Rel cx w0 { nt := 111, env := [(17, .v true (words (digs (S 5))))], mem := [] } a w) ?_ ?_
          · refine Holds.step (Px := px) (T := TT) (ρ := fun _ => []) TTe (by simp (maxSteps := 100000) (disch := omega) only [go_sem, V.isAgg, V.flat, ↓reduceIte, Nat.reduceAdd, Nat.reduceSub, Nat.reduceLT, Nat.reduceEqDiff, reduceCtorEq, Nat.reduceLeDiff, Nat.reduceBEq, Nat.reduceMul, Int.reduceToNat, -V.isAgg, -V.flat, isAgg_agg, isAgg_int, isAgg_bool, isAgg_sl, flat_agg, flat_int, flat_bool, flat_sl, sCV]; rfl) (by repeat' first | exact trivial | constructor) ?_
            refine Holds.loopB (fun k : Nat => { nt := 111, env := [(98, .v true (.int .i64 k)), (97, .v false (.agg CV)), (17, .v true (words (digs (S k)))), (7, .ptr 7 0 [] 0)], mem := [(7, .box 3 (.v false (.int .i64 n)))] }) (fun k => k ≤ 5) (fun k => 5 - k) 0 (Nat.zero_le _) (fun a w h => Rel.keep [98, 97, 17, 7] [7] h) ?_
            intro k hk
            by_cases hend : k = 5
            · refine Holds.step (Px := px) (T := TT) (ρ := fun _ => []) TTe (by simp (maxSteps := 100000) (disch := omega) only [go_sem, V.isAgg, V.flat, ↓reduceIte, Nat.reduceAdd, Nat.reduceSub, Nat.reduceLT, Nat.reduceEqDiff, reduceCtorEq, Nat.reduceLeDiff, Nat.reduceBEq, Nat.reduceMul, Int.reduceToNat]; rfl) (by repeat' first | exact trivial | constructor) ?_
              refine Holds.seq ?_
              refine Holds.condF rfl (Holds.exit ⟨rfl, fun a w h => ?_⟩)
              rw [← hend]
              exact Rel.keep [17] [] h
            · have hk5 : k < 5 := by omega
              have gc := gCV k hk5
              have oc := oCV k hk5
              have lc := hCl k hk5
              have ls := hSl k
              have hkn : k * n ≤ 5 * 700 := Nat.mul_le_mul (by omega) hn7
              have hp := plus_digs (S k) (CN.getD k 0) (k * n) (by omega) (by omega) (by omega)
              rw [← hstep k hk5] at hp
              have ekn : (k : Int) * (n : Int) = ((k * n : Nat) : Int) := (Int.natCast_mul k n).symm
              obtain ⟨j, hj⟩ : ∃ j, j = k * n := ⟨_, rfl⟩
              rw [← hj] at ekn hp hkn
              obtain ⟨DC, hDC⟩ : ∃ D, D = digs (CN.getD k 0) := ⟨_, rfl⟩
              rw [← hDC] at gc hp
              refine Holds.step (Px := px) (T := TT) (ρ := fun _ => []) TTe (by simp (maxSteps := 100000) (disch := omega) only [go_sem, V.isAgg, V.flat, ↓reduceIte, Nat.reduceAdd, Nat.reduceSub, Nat.reduceLT, Nat.reduceEqDiff, reduceCtorEq, Nat.reduceLeDiff, Nat.reduceBEq, Nat.reduceMul, Int.reduceToNat]; rfl) (by repeat' first | exact trivial | constructor) ?_
              refine Holds.seq ?_
              refine Holds.condT rfl (Holds.skip ?_)
              refine Holds.next (fun σ => ∀ a w, Rel cx w0 σ a w → Rel cx w0 { nt := 111, env := [(98, .v true (.int .i64 k)), (97, .v false (.agg CV)), (17, .v true (words (digs (S (k + 1))))), (7, .ptr 7 0 [] 0)], mem := [(7, .box 3 (.v false (.int .i64 n)))] } a w) ?_ ?_
              · refine Holds.blockN ?_
                refine Holds.step (Px := px) (T := TT) (ρ := fun _ => []) TTe (by simp (maxSteps := 100000) (disch := omega) only [go_sem, V.isAgg, V.flat, ↓reduceIte, Nat.reduceAdd, Nat.reduceSub, Nat.reduceLT, Nat.reduceEqDiff, reduceCtorEq, Nat.reduceLeDiff, Nat.reduceBEq, Nat.reduceMul, Int.reduceToNat, indexA, gc, oc]; rfl) (by repeat' first | exact trivial | constructor) ?_
                refine Holds.region (Px := px) (T := TT) (ρ := fun _ => [.v true (words (digs (S (k + 1))))]) TTe (by simp (maxSteps := 100000) (disch := omega) only [go_sem, V.isAgg, V.flat, ↓reduceIte, Nat.reduceAdd, Nat.reduceSub, Nat.reduceLT, Nat.reduceEqDiff, reduceCtorEq, Nat.reduceLeDiff, Nat.reduceBEq, Nat.reduceMul, Int.reduceToNat, ekn]; rfl) (by first | exact hp | (repeat' first | exact trivial | exact hp | constructor)) ?_
                exact fun a w h => Rel.keep [98, 97, 17, 7] [7] h
              · intro σ hσ
                refine Holds.from hσ ?_
                refine Holds.region (Px := px) (T := TT) (ρ := fun _ => []) TTe (by simp (maxSteps := 100000) (disch := omega) only [go_sem, V.isAgg, V.flat, ↓reduceIte, Nat.reduceAdd, Nat.reduceSub, Nat.reduceLT, Nat.reduceEqDiff, reduceCtorEq, Nat.reduceLeDiff, Nat.reduceBEq, Nat.reduceMul, Int.reduceToNat]; rfl) (by repeat' first | exact trivial | constructor) ?_
                exact ⟨k + 1, (by show k + 1 ≤ 5; omega), (show 5 - (k + 1) < 5 - k by omega), fun a w h => Rel.keep [98, 97, 17, 7] [7] h⟩
          · intro σ hσ
            refine Holds.from hσ ?_
            refine Holds.step (Px := px) (T := TT) (ρ := fun _ => []) TTe (by simp (maxSteps := 100000) (disch := omega) only [go_sem, V.isAgg, V.flat, ↓reduceIte, Nat.reduceAdd, Nat.reduceSub, Nat.reduceLT, Nat.reduceEqDiff, reduceCtorEq, Nat.reduceLeDiff, Nat.reduceBEq, Nat.reduceMul, Int.reduceToNat]; rfl) (by repeat' first | exact trivial | constructor) ?_
            exact Holds.ret (RetOk.vs rfl (by exact ⟨⟨rfl, fun h => h⟩, trivial⟩) rfl)
end Go.Proofs.Ytjmclobbfabnpaa.L
