/-
  Qa Qb
-/
import Derived.Test.YtjmclobbfabnpaaGreatJ4
import Derived.Test.YtjmclobbfabnpaaGreatH1
set_option linter.unusedSimpArgs false
set_option linter.unusedVariables false
/-
  Products of words, and of halves: what they come to.
-/
namespace Go.Proofs.YtjmclobbfabnpaaGreat.L
open Go Go.RowKit Go.Proofs

theorem mulI_val {x : List Int} {w c : Int} (ox : okW x) (hw : 0 ≤ w ∧ w < 18446744073709551616) (hc : 0 ≤ c ∧ c < 18446744073709551616) : ∀ k, k ≤ x.length → val (mulI x w c k).1 + 18446744073709551616 ^ k * (mulI x w c k).2.toNat = val (x.take k) * w.toNat + c.toNat
  | 0, _ => by rw [mulI, List.take_zero, val]; simp
  | k + 1, hk => by
    have ih := mulI_val ox hw hc k (by omega)
    obtain ⟨h1, h2, h3⟩ := mulI_ok ox hw hc k
    have hz := okW_getD ox k
    rw [mulI, val_take_succ]
    simp only
    rw [val_append, h3, val, val]
    generalize x.getD k 0 = z at *
    generalize (mulI x w c k).2 = d at *
    obtain ⟨z, rfl⟩ : ∃ n : Nat, z = n := ⟨z.toNat, by omega⟩
    obtain ⟨d, rfl⟩ : ∃ n : Nat, d = n := ⟨d.toNat, by omega⟩
    obtain ⟨w, rfl⟩ : ∃ n : Nat, w = n := ⟨w.toNat, by omega⟩
    have e1 : ((((z : Int) * w + d) % 18446744073709551616)).toNat + 18446744073709551616 * ((((z : Int) * w + d) / 18446744073709551616)).toNat = z * w + d := by
      have : ((z : Int) * w + d) = ((z * w + d : Nat) : Int) := by rw [Int.natCast_add, Int.natCast_mul]
      rw [this]
      omega
    rw [Int.toNat_natCast] at ih ⊢
    rw [Int.toNat_natCast] at ih ⊢
    generalize (((z : Int) * w + d) % 18446744073709551616).toNat = r at *
    generalize (((z : Int) * w + d) / 18446744073709551616).toNat = q at *
    rw [Nat.pow_succ, Nat.mul_assoc, Nat.mul_zero, Nat.add_zero, Nat.add_mul, Nat.mul_assoc _ z w]
    have e2 : 18446744073709551616 ^ k * r + 18446744073709551616 ^ k * (18446744073709551616 * q) = 18446744073709551616 ^ k * (z * w) + 18446744073709551616 ^ k * d := by
      rw [← Nat.mul_add, e1, Nat.mul_add]
    omega

theorem rowL_val {x : List Int} {w : Int} (ox : okW x) (hw : 0 ≤ w ∧ w < 18446744073709551616) : val (rowL x w) = val x * w.toNat := by
  have h := mulI_val ox hw (c := 0) (by omega) x.length (Nat.le_refl _)
  rw [rowL, val_append, mulRow_len ox hw, val, val]
  rw [List.take_length] at h
  have h' : val (mulRow x w) + 18446744073709551616 ^ x.length * (mulHigh x w).toNat = val x * w.toNat + 0 := h
  omega

theorem mulO_val {x y : List Int} (ox : okW x) (oy : okW y) : ∀ i, i ≤ y.length → val (mulO x y i) = val x * val (y.take i)
  | 0, _ => by
    rw [mulO, List.take_zero, val, Nat.mul_zero]
    have := val_zeros [] (x.length + y.length)
    rw [List.nil_append] at this
    exact this
  | i + 1, hi => by
    have ih := mulO_val ox oy i (by omega)
    obtain ⟨h1, h2⟩ := mulO_ok ox oy i
    have hw := okW_getD oy i
    have hr := rowL_ok ox hw
    have hrl := rowL_len ox hw
    have hv := plusI_val (y := rowL x (y.getD i 0)) (at_ := i) (s := (mulO x y i, 0)) hr h1 (by simp) (x.length + 1) (by simp only; omega)
    rw [List.take_of_length_le (by omega), rowL_val ox hw] at hv
    simp only [Int.toNat_zero, Nat.add_zero] at hv
    rw [ih] at hv
    have e : val x * val (y.take i) + 18446744073709551616 ^ i * (val x * (y.getD i 0).toNat) = val x * val (y.take (i + 1)) := by
      rw [val_take_succ, Nat.mul_add, Nat.mul_left_comm]
    rw [e] at hv
    rw [mulO]
    -- no carry is left
    have b1 := val_lt ox
    have b2 := val_lt (okW_take oy (i + 1))
    rw [List.length_take, Nat.min_eq_left hi] at b2
    have b3 : val x * val (y.take (i + 1)) < 18446744073709551616 ^ (i + (x.length + 1)) := by
      have := Nat.mul_lt_mul'' b1 b2
      rw [← Nat.pow_add] at this
      rw [show i + (x.length + 1) = x.length + (i + 1) from by omega]
      exact this
    rcases Nat.eq_zero_or_pos ((plusI (rowL x (y.getD i 0)) i (mulO x y i, 0) (x.length + 1)).2.toNat) with h0 | h0
    · rw [h0, Nat.mul_zero, Nat.add_zero] at hv
      exact hv
    · have := Nat.le_mul_of_pos_right (18446744073709551616 ^ (i + (x.length + 1))) h0
      omega

/-- nat's product is the product. -/
theorem prodL_val {X Y : List Int} (oX : okW X) (oY : okW Y) : prodL X Y = digs (val X * val Y) := by
  have o1 := (mulO_ok (trimL_ok oX) (trimL_ok oY) (trimL Y).length).1
  have v1 := mulO_val (trimL_ok oX) (trimL_ok oY) (trimL Y).length (Nat.le_refl _)
  rw [List.take_length, val_trim, val_trim] at v1
  rw [prodL, trim_digs (trimL_ok o1), val_trim, v1]

/-! ### Halves -/
theorem valH_set : ∀ {l : List Int} {i : Nat} {n : Int}, i < l.length → valH (l.set i n) + 4294967296 ^ i * (l.getD i 0).toNat = valH l + 4294967296 ^ i * n.toNat
  | [], i, n, h => by simp at h
  | x :: r, 0, n, h => by simp [valH]; omega
  | x :: r, i + 1, n, h => by
    have ih := valH_set (l := r) (i := i) (n := n) (by simpa using h)
    rw [List.set_cons_succ, valH, valH, List.getD_cons_succ, Nat.pow_succ]
    have e1 : ∀ m : Nat, 4294967296 ^ i * 4294967296 * m = 4294967296 * (4294967296 ^ i * m) := fun m => by
      rw [Nat.mul_comm (4294967296 ^ i), Nat.mul_assoc]
    rw [e1, e1]
    omega
theorem valH_append : ∀ (l m : List Int), valH (l ++ m) = valH l + 4294967296 ^ l.length * valH m
  | [], m => by simp [valH]
  | x :: r, m => by
    rw [List.cons_append, valH, valH, valH_append r m, List.length_cons, Nat.pow_succ]
    rw [Nat.mul_add, Nat.mul_comm _ (4294967296 : Nat), ← Nat.mul_assoc]
    omega
theorem valH_take_succ {l : List Int} (k : Nat) : valH (l.take (k + 1)) = valH (l.take k) + 4294967296 ^ k * (l.getD k 0).toNat := by
  rcases Nat.lt_or_ge k l.length with h | h
  · rw [take_succ h, valH_append, List.length_take, Nat.min_eq_left (by omega)]
    simp [valH]
  · rw [List.take_of_length_le (by omega), List.take_of_length_le h, List.getD_eq_getElem?_getD, List.getElem?_eq_none h]
    simp

def tmI (ai : Int) (b : List Int) (i : Nat) (s : List Int × Int) : Nat → List Int × Int
  | 0 => s
  | k + 1 => ((tmI ai b i s k).1.set (i + k) (((tmI ai b i s k).2 + (tmI ai b i s k).1.getD (i + k) 0 + ai * b.getD k 0) % 4294967296), ((tmI ai b i s k).2 + (tmI ai b i s k).1.getD (i + k) 0 + ai * b.getD k 0) / 4294967296)
def tmO (a b : List Int) : Nat → List Int
  | 0 => List.replicate (a.length + b.length) 0
  | i + 1 => (tmI (a.getD i 0) b i (tmO a b i, 0) b.length).1.set (i + b.length) (tmI (a.getD i 0) b i (tmO a b i, 0) b.length).2

theorem okH_set {l : List Int} (h : okH l) {i : Nat} {n : Int} (hn : 0 ≤ n ∧ n < 4294967296) : okH (l.set i n) := fun m hm => by
  rcases List.mem_or_eq_of_mem_set hm with h1 | rfl
  · exact h m h1
  · exact hn

theorem tm_bound {ai u : Int} (ha : 0 ≤ ai ∧ ai < 4294967296) (hu : 0 ≤ u ∧ u < 4294967296) : 0 ≤ ai * u ∧ ai * u ≤ 18446744065119617025 := by
  refine ⟨Int.mul_nonneg ha.1 hu.1, ?_⟩
  have : ai * u ≤ 4294967295 * 4294967295 := Int.mul_le_mul (by omega) (by omega) hu.1 (by omega)
  omega

theorem tmI_ok {ai : Int} {b : List Int} {i : Nat} {s : List Int × Int} (ha : 0 ≤ ai ∧ ai < 4294967296) (ob : okH b) (hs : okH s.1) (hc : 0 ≤ s.2 ∧ s.2 < 4294967296) : ∀ k, okH (tmI ai b i s k).1 ∧ (0 ≤ (tmI ai b i s k).2 ∧ (tmI ai b i s k).2 < 4294967296) ∧ (tmI ai b i s k).1.length = s.1.length
  | 0 => ⟨hs, hc, rfl⟩
  | k + 1 => by
    obtain ⟨h1, h2, h3⟩ := tmI_ok (i := i) ha ob hs hc k
    have h4 := okH_getD h1 (i + k)
    have h5 := tm_bound ha (okH_getD ob k)
    rw [tmI]
    refine ⟨okH_set h1 (by omega), by simp only; omega, by simp only; rw [List.length_set, h3]⟩

theorem tmI_far {ai : Int} {b : List Int} {i : Nat} {s : List Int × Int} : ∀ k j, i + k ≤ j → (tmI ai b i s k).1.getD j 0 = s.1.getD j 0
  | 0, _, _ => rfl
  | k + 1, j, h => by
    rw [tmI]
    simp only
    rw [List.getD_eq_getElem?_getD, List.getElem?_set_ne (by omega), ← List.getD_eq_getElem?_getD]
    exact tmI_far k j (by omega)

theorem tmI_val {ai : Int} {b : List Int} {i : Nat} {s : List Int × Int} (ha : 0 ≤ ai ∧ ai < 4294967296) (ob : okH b) (hs : okH s.1) (hc : 0 ≤ s.2 ∧ s.2 < 4294967296) : ∀ k, i + k ≤ s.1.length →
    valH (tmI ai b i s k).1 + 4294967296 ^ (i + k) * (tmI ai b i s k).2.toNat = valH s.1 + 4294967296 ^ i * (ai.toNat * valH (b.take k) + s.2.toNat)
  | 0, _ => by rw [tmI, List.take_zero, valH]; simp
  | k + 1, hk => by
    have ih := tmI_val (i := i) ha ob hs hc k (by omega)
    obtain ⟨h1, h2, h3⟩ := tmI_ok (i := i) ha ob hs hc k
    have hi : i + k < (tmI ai b i s k).1.length := by omega
    have hz := okH_getD h1 (i + k)
    have hu := okH_getD ob k
    have hp := tm_bound ha hu
    rw [tmI, valH_take_succ]
    simp only
    have hset := valH_set (n := ((tmI ai b i s k).2 + (tmI ai b i s k).1.getD (i + k) 0 + ai * b.getD k 0) % 4294967296) hi
    generalize (tmI ai b i s k).1.getD (i + k) 0 = z at *
    generalize b.getD k 0 = u at *
    generalize (tmI ai b i s k).2 = c at *
    have em0 : (ai * u).toNat = ai.toNat * u.toNat := by
      obtain ⟨A, rfl⟩ : ∃ n : Nat, ai = n := ⟨ai.toNat, by omega⟩
      obtain ⟨U, rfl⟩ : ∃ n : Nat, u = n := ⟨u.toNat, by omega⟩
      rw [← Int.natCast_mul, Int.toNat_natCast, Int.toNat_natCast, Int.toNat_natCast]
    have eD : 4294967296 ^ (i + (k + 1)) = 4294967296 ^ (i + k) * 4294967296 := by rw [← Nat.add_assoc, Nat.pow_succ]
    have eA : 4294967296 ^ i * (ai.toNat * (valH (b.take k) + 4294967296 ^ k * u.toNat) + s.2.toNat) = 4294967296 ^ i * (ai.toNat * valH (b.take k) + s.2.toNat) + 4294967296 ^ (i + k) * (ai * u).toNat := by
      rw [em0, Nat.pow_add, Nat.mul_assoc, ← Nat.mul_add]
      congr 1
      rw [Nat.mul_add, Nat.mul_left_comm]
      omega
    generalize ai * u = m at *
    have er : ((c + z + m) % 4294967296).toNat + 4294967296 * ((c + z + m) / 4294967296).toNat = z.toNat + m.toNat + c.toNat := by omega
    have em : 4294967296 ^ (i + k) * ((c + z + m) % 4294967296).toNat + 4294967296 ^ (i + k) * (4294967296 * ((c + z + m) / 4294967296).toNat) = 4294967296 ^ (i + k) * z.toNat + 4294967296 ^ (i + k) * m.toNat + 4294967296 ^ (i + k) * c.toNat := by
      rw [← Nat.mul_add, er, Nat.mul_add, Nat.mul_add]
    rw [eD, eA, Nat.mul_assoc]
    generalize 4294967296 ^ (i + k) * ((c + z + m) % 4294967296).toNat = a1 at *
    generalize 4294967296 ^ (i + k) * (4294967296 * ((c + z + m) / 4294967296).toNat) = a2 at *
    generalize 4294967296 ^ (i + k) * z.toNat = a3 at *
    generalize 4294967296 ^ (i + k) * m.toNat = a4 at *
    generalize 4294967296 ^ (i + k) * c.toNat = a5 at *
    generalize 4294967296 ^ i * (ai.toNat * valH (b.take k) + s.2.toNat) = a6 at *
    omega

theorem tmO_ok {a b : List Int} (oa : okH a) (ob : okH b) : ∀ i, i ≤ a.length → okH (tmO a b i) ∧ (tmO a b i).length = a.length + b.length ∧ valH (tmO a b i) = valH (a.take i) * valH b ∧ ∀ j, i + b.length ≤ j → (tmO a b i).getD j 0 = 0
  | 0, _ => by
    refine ⟨fun n hn => by rw [tmO, List.mem_replicate] at hn; omega, by rw [tmO, List.length_replicate], ?_, fun j hj => ?_⟩
    · rw [tmO, List.take_zero, valH, Nat.zero_mul]
      have := valH_zeros [] (a.length + b.length)
      rw [List.nil_append] at this
      exact this
    · rw [tmO, List.getD_eq_getElem?_getD]
      cases h : (List.replicate (a.length + b.length) (0 : Int))[j]? with
      | none => rfl
      | some x => have := List.mem_of_getElem? h; rw [List.mem_replicate] at this; exact this.2
  | i + 1, hi => by
    obtain ⟨h1, h2, h3, h4⟩ := tmO_ok oa ob i (by omega)
    have ha := okH_getD oa i
    obtain ⟨k1, k2, k3⟩ := tmI_ok (i := i) (s := (tmO a b i, 0)) ha ob h1 (by simp) b.length
    have kv := tmI_val (i := i) (s := (tmO a b i, 0)) ha ob h1 (by simp) b.length (by simp only; omega)
    have kf := tmI_far (ai := a.getD i 0) (b := b) (i := i) (s := (tmO a b i, 0)) b.length
    have hlt : i + b.length < (tmI (a.getD i 0) b i (tmO a b i, 0) b.length).1.length := by rw [k3]; simp only; omega
    rw [tmO]
    refine ⟨okH_set k1 k2, by rw [List.length_set, k3]; exact h2, ?_, fun j hj => ?_⟩
    · have hs := valH_set (n := (tmI (a.getD i 0) b i (tmO a b i, 0) b.length).2) hlt
      have h0 : (tmI (a.getD i 0) b i (tmO a b i, 0) b.length).1.getD (i + b.length) 0 = 0 := by
        rw [kf _ (Nat.le_refl _)]
        exact h4 _ (Nat.le_refl _)
      rw [h0, Int.toNat_zero, Nat.mul_zero, Nat.add_zero] at hs
      rw [List.take_length] at kv
      simp only [Int.toNat_zero, Nat.add_zero] at kv
      rw [hs, kv, h3, valH_take_succ, Nat.add_mul, Nat.mul_assoc]
    · rw [List.getD_eq_getElem?_getD, List.getElem?_set_ne (by omega), ← List.getD_eq_getElem?_getD, kf _ (by omega)]
      exact h4 _ (by omega)
/-- The digits of a product. -/
def timesL (a b : List Int) : List Int := tmO a b a.length
theorem timesL_ok {a b : List Int} (oa : okH a) (ob : okH b) : okH (timesL a b) ∧ (timesL a b).length = a.length + b.length ∧ valH (timesL a b) = valH a * valH b := by
  obtain ⟨h1, h2, h3, _⟩ := tmO_ok oa ob a.length (Nat.le_refl _)
  rw [List.take_length] at h3
  exact ⟨h1, h2, h3⟩
/-
  reckonerref01.Times, reckonerref02.Mul.
-/
attribute [local go_sem] evalOps_nil evalOps_cons runW_t runW_f runE_s runP_s wantA evalOp effOp letters okDst coreA St.opv St.get St.at look constA St.put St.upd St.set decide_true List.all_nil List.all_cons Bool.and_true Bool.true_and and_self and_true true_and if_true if_false true_or Int.sub_zero List.nil_append List.cons_append List.append_nil Option.isSome_some List.getElem?_toArray List.getElem?_cons_succ List.getElem?_cons_zero Option.bind_some Option.map_some Option.map_none beq_self_eq_true Bool.false_beq Bool.true_beq Bool.not_true Bool.not_false Bool.false_eq_true cond_true cond_false binA binI List.map_cons List.map_nil boundA List.length_nil List.length_cons Nat.zero_mul Nat.one_mul Nat.mul_one Nat.zero_add Nat.add_zero Nat.zero_le Option.toList St.freshB AV.ment AV.ments Blk.ment V.sizes Nat.lt_add_one Bool.or_true Bool.true_or Bool.or_false Bool.false_or Bool.or_self if_pos if_neg decide_false decide_eq_true decide_eq_false wrap_i64 Int.toNat_natCast minA maxA Int.natCast_add Int.cast_ofNat_Int Option.isSome_none false_implies true_implies forall_const List.drop_zero Int.toNat_zero Int.add_sub_cancel lenA sliceA loadA indexAddrA partA fitsT V.atP V.offP V.size List.length_map List.getElem?_map Int.toNat_natCast_add_one Int.ofNat_eq_natCast TY calleeA capArg knotA capArgs toArgs toArg callA R.res R.mems R.blks R.av R.names R.nw invokeA storeA storeV fieldAddrA liveB V.off V.offs V.setP List.set_cons_zero List.set_cons_succ buildA buildP partsA appendA srcA copyA boxOk makeA AV.pure List.take_succ_cons List.take_zero nilA words entry List.zipIdx_cons List.zipIdx_nil Arg.av Arg.avs

theorem Times_ok (a b : List Int) (hal : a.length < 100000) (hbl : b.length < 100000) (oa : okH a) (ob : okH b) : FnOk Tryz.prog 54 [.v (words a), .v (words b)] [.v true (words (timesL a b))] := by
  refine FnOk.of Tryz.func54 rfl rfl fun cx w0 => ?_
  rw [show Tryz.f54.ntmps = 62 from rfl]
  refine Holds.step (Px := px) (T := TT) (ρ := fun _ => []) TTe (by simp (maxSteps := 100000) (disch := omega) only [go_sem, V.isAgg, V.flat, ↓reduceIte, Nat.reduceAdd, Nat.reduceSub, Nat.reduceLT, Nat.reduceEqDiff, reduceCtorEq, Nat.reduceLeDiff, Nat.reduceBEq, Nat.reduceMul, Int.reduceToNat, List.length_cons, List.length_nil]; rfl) (by repeat' first | exact trivial | constructor) ?_
  refine Holds.step (Px := px) (T := TT) (ρ := fun _ => []) TTe (by simp (maxSteps := 100000) (disch := omega) only [go_sem, V.isAgg, V.flat, ↓reduceIte, Nat.reduceAdd, Nat.reduceSub, Nat.reduceLT, Nat.reduceEqDiff, reduceCtorEq, Nat.reduceLeDiff, Nat.reduceBEq, Nat.reduceMul, Int.reduceToNat]; rfl) (by repeat' first | exact trivial | constructor) ?_
  obtain ⟨N, hN⟩ : ∃ N, N = a.length + b.length := ⟨_, rfl⟩
  refine Holds.next (fun σ => ∀ x w, Rel cx w0 σ x w → Rel cx w0 { nt := 62, env := [(5, .own 300 0 N)], mem := [(300, .buf 52 1 true ((timesL a b).map fun n => .int .u64 n))] } x w) ?_ ?_
  · refine Holds.step (Px := px) (T := TT) (ρ := fun _ => []) TTe (by simp (maxSteps := 100000) (disch := omega) only [go_sem, V.isAgg, V.flat, ↓reduceIte, Nat.reduceAdd, Nat.reduceSub, Nat.reduceLT, Nat.reduceEqDiff, reduceCtorEq, Nat.reduceLeDiff, Nat.reduceBEq, Nat.reduceMul, Int.reduceToNat]; rfl) (by repeat' first | exact trivial | constructor) ?_
    refine Holds.loopB (fun i : Nat => { nt := 62, env := [(6, .v true (.int .i64 i)), (5, .own 300 0 N), (0, .v false (words a)), (1, .v false (words b))], mem := [(300, .buf 52 1 true ((tmO a b i).map fun n => .int .u64 n))] }) (fun i => i ≤ a.length) (fun i => a.length - i) 0 (Nat.zero_le _) (fun x w h => by
      have := Rel.ren (s := 14) (s' := 300) (Rel.keep [6, 5, 0, 1] [14] h) (by decide) rfl rfl
      rw [tmO, List.map_replicate, hN]
      exact this) ?_
    intro i hi
    obtain ⟨h1, h2, h3, h4⟩ := tmO_ok oa ob i hi
    by_cases hend : i = a.length
    · refine Holds.seq ?_
      refine Holds.step (Px := px) (T := TT) (ρ := fun _ => []) TTe (by simp (maxSteps := 100000) (disch := omega) only [go_sem, V.isAgg, V.flat, ↓reduceIte, Nat.reduceAdd, Nat.reduceSub, Nat.reduceLT, Nat.reduceEqDiff, reduceCtorEq, Nat.reduceLeDiff, Nat.reduceBEq, Nat.reduceMul, Int.reduceToNat]; rfl) (by repeat' first | exact trivial | constructor) ?_
      refine Holds.condF rfl (Holds.exit ⟨rfl, fun x w h => ?_⟩)
      rw [timesL, ← hend]
      exact Rel.keep [5] [300] h
    · have hia : i < a.length := by omega
      have hA := okH_getD oa i
      obtain ⟨A, hAe⟩ : ∃ A, A = a.getD i 0 := ⟨_, rfl⟩
      obtain ⟨s, hs⟩ : ∃ s : List Int × Int, s = (tmO a b i, 0) := ⟨_, rfl⟩
      have gA := get_map hia
      rw [← hAe] at hA gA
      have hs1 : s.1 = tmO a b i := by rw [hs]
      have hs2 : s.2 = 0 := by rw [hs]
      have os : okH s.1 := by rw [hs1]; exact h1
      have hsl : s.1.length = N := by rw [hs1, h2, hN]
      have hI := tmI_ok (i := i) hA ob os (by rw [hs2]; omega)
      refine Holds.seq ?_
      refine Holds.step (Px := px) (T := TT) (ρ := fun _ => []) TTe (by simp (maxSteps := 100000) (disch := omega) only [go_sem, V.isAgg, V.flat, ↓reduceIte, Nat.reduceAdd, Nat.reduceSub, Nat.reduceLT, Nat.reduceEqDiff, reduceCtorEq, Nat.reduceLeDiff, Nat.reduceBEq, Nat.reduceMul, Int.reduceToNat]; rfl) (by repeat' first | exact trivial | constructor) ?_
      refine Holds.condT rfl (Holds.skip ?_)
      refine Holds.next (fun σ => ∀ x w, Rel cx w0 σ x w → Rel cx w0 { nt := 62, env := [(6, .v true (.int .i64 i)), (5, .own 300 0 N), (0, .v false (words a)), (1, .v false (words b))], mem := [(300, .buf 52 1 true ((tmO a b (i + 1)).map fun n => .int .u64 n))] } x w) ?_ ?_
      · refine Holds.blockN ?_
        refine Holds.step (Px := px) (T := TT) (ρ := fun _ => []) TTe (by simp (maxSteps := 100000) (disch := omega) only [go_sem, V.isAgg, V.flat, ↓reduceIte, Nat.reduceAdd, Nat.reduceSub, Nat.reduceLT, Nat.reduceEqDiff, reduceCtorEq, Nat.reduceLeDiff, Nat.reduceBEq, Nat.reduceMul, Int.reduceToNat]; rfl) (by repeat' first | exact trivial | constructor) ?_
        refine Holds.next (fun σ => ∀ x w, Rel cx w0 σ x w → Rel cx w0 { nt := 62, env := [(7, .v true (.int .u64 (tmI A b i s b.length).2)), (6, .v true (.int .i64 i)), (5, .own 300 0 N), (0, .v false (words a)), (1, .v false (words b))], mem := [(300, .buf 52 1 true ((tmI A b i s b.length).1.map fun n => .int .u64 n))] } x w) ?_ ?_
        · refine Holds.step (Px := px) (T := TT) (ρ := fun _ => []) TTe (by simp (maxSteps := 100000) (disch := omega) only [go_sem, V.isAgg, V.flat, ↓reduceIte, Nat.reduceAdd, Nat.reduceSub, Nat.reduceLT, Nat.reduceEqDiff, reduceCtorEq, Nat.reduceLeDiff, Nat.reduceBEq, Nat.reduceMul, Int.reduceToNat]; rfl) (by repeat' first | exact trivial | constructor) ?_
          refine Holds.loopB (fun k : Nat => { nt := 62, env := [(8, .v true (.int .i64 k)), (7, .v true (.int .u64 (tmI A b i s k).2)), (6, .v true (.int .i64 i)), (5, .own 300 0 N), (0, .v false (words a)), (1, .v false (words b))], mem := [(300, .buf 52 1 true ((tmI A b i s k).1.map fun n => .int .u64 n))] }) (fun k => k ≤ b.length) (fun k => b.length - k) 0 (Nat.zero_le _) (fun x w h => by
            have := Rel.keep [8, 7, 6, 5, 0, 1] [300] h
            rw [tmI, hs]
            exact this) ?_
          intro k hk
          obtain ⟨k1, k2, k3⟩ := hI k
          by_cases hend2 : k = b.length
          · refine Holds.seq ?_
            refine Holds.step (Px := px) (T := TT) (ρ := fun _ => []) TTe (by simp (maxSteps := 100000) (disch := omega) only [go_sem, V.isAgg, V.flat, ↓reduceIte, Nat.reduceAdd, Nat.reduceSub, Nat.reduceLT, Nat.reduceEqDiff, reduceCtorEq, Nat.reduceLeDiff, Nat.reduceBEq, Nat.reduceMul, Int.reduceToNat]; rfl) (by repeat' first | exact trivial | constructor) ?_
            refine Holds.condF rfl (Holds.exit ⟨rfl, fun x w h => ?_⟩)
            rw [← hend2]
            have := Rel.keep [7, 6, 5, 0, 1] [300] h
            exact this
          · have hkb : k < b.length := by omega
            have gB := get_map hkb
            have hU := okH_getD ob k
            have hik : i + k < (tmI A b i s k).1.length := by omega
            have gZ := get_map hik
            have hZ := okH_getD k1 (i + k)
            have esucc : tmI A b i s (k + 1) = ((tmI A b i s k).1.set (i + k) (((tmI A b i s k).2 + (tmI A b i s k).1.getD (i + k) 0 + A * b.getD k 0) % 4294967296), ((tmI A b i s k).2 + (tmI A b i s k).1.getD (i + k) 0 + A * b.getD k 0) / 4294967296) := rfl
            obtain ⟨U, hUe⟩ : ∃ U, U = b.getD k 0 := ⟨_, rfl⟩
            rw [← hUe] at gB hU esucc
            obtain ⟨T, hT⟩ : ∃ T, T = tmI A b i s k := ⟨_, rfl⟩
            rw [← hT] at k1 k2 k3 hik gZ hZ esucc ⊢
            obtain ⟨z, hz⟩ : ∃ z, z = T.1.getD (i + k) 0 := ⟨_, rfl⟩
            rw [← hz] at gZ hZ esucc
            have hp := tm_bound hA hU
            obtain ⟨p, hpe⟩ : ∃ p, p = A * U := ⟨_, rfl⟩
            have e2 : IntKind.u64.wrap (A * U) = p := by rw [wrap_u64, ← hpe]; rw [← hpe] at hp; omega
            rw [← hpe] at hp esucc
            have e1 : IntKind.u64.wrap (T.2 + z) = T.2 + z := by rw [wrap_u64]; omega
            obtain ⟨q, hq⟩ : ∃ q, q = T.2 + z + p := ⟨_, rfl⟩
            have e3 : IntKind.u64.wrap (T.2 + z + p) = q := by rw [wrap_u64, hq]; omega
            rw [← hq] at esucc
            have hq0 : 0 ≤ q ∧ q < 18446744073709551616 := by omega
            have e4 : q.tmod 4294967296 = q % 4294967296 := Int.tmod_eq_emod_of_nonneg hq0.1
            have e5 : q.tdiv 4294967296 = q / 4294967296 := Int.tdiv_eq_ediv_of_nonneg hq0.1
            have e6 : IntKind.u64.wrap (q / 4294967296) = q / 4294967296 := by rw [wrap_u64]; omega
            have hadd : ((i : Int) + k).toNat = i + k := by omega
            refine Holds.seq ?_
            refine Holds.step (Px := px) (T := TT) (ρ := fun _ => []) TTe (by simp (maxSteps := 100000) (disch := omega) only [go_sem, V.isAgg, V.flat, ↓reduceIte, Nat.reduceAdd, Nat.reduceSub, Nat.reduceLT, Nat.reduceEqDiff, reduceCtorEq, Nat.reduceLeDiff, Nat.reduceBEq, Nat.reduceMul, Int.reduceToNat]; rfl) (by repeat' first | exact trivial | constructor) ?_
            refine Holds.condT rfl (Holds.skip ?_)
            refine Holds.next (fun σ => ∀ x w, Rel cx w0 σ x w → Rel cx w0 { nt := 62, env := [(8, .v true (.int .i64 k)), (7, .v true (.int .u64 (q / 4294967296))), (6, .v true (.int .i64 i)), (5, .own 300 0 N), (0, .v false (words a)), (1, .v false (words b))], mem := [(300, .buf 52 1 true ((T.1.set (i + k) (q % 4294967296)).map fun n => .int .u64 n))] } x w) ?_ ?_
            · refine Holds.blockN ?_
              refine Holds.dstep (Px := px) (T := TT) (ρ := fun _ => []) [] mixed (by kernel_rfl) TTe (by simp (maxSteps := 100000) (disch := omega) only [go_sem, V.isAgg, V.flat, ↓reduceIte, Nat.reduceAdd, Nat.reduceSub, Nat.reduceLT, Nat.reduceEqDiff, reduceCtorEq, Nat.reduceLeDiff, Nat.reduceBEq, Nat.reduceMul, Int.reduceToNat, gA, gB, gZ, hadd, e1, e2, e3]; rfl) (by repeat' first | exact trivial | constructor) (by rfl) (by rfl) (by rfl) ?_
              refine Holds.step (Px := px) (T := TT) (ρ := fun _ => []) TTe (by simp (maxSteps := 100000) (disch := omega) only [go_sem, V.isAgg, V.flat, ↓reduceIte, Nat.reduceAdd, Nat.reduceSub, Nat.reduceLT, Nat.reduceEqDiff, reduceCtorEq, Nat.reduceLeDiff, Nat.reduceBEq, Nat.reduceMul, Int.reduceToNat, hadd, e4, gZ]; rfl) (by repeat' first | exact trivial | constructor) ?_
              refine Holds.region (Px := px) (T := TT) (ρ := fun _ => []) TTe (by simp (maxSteps := 100000) (disch := omega) only [go_sem, V.isAgg, V.flat, ↓reduceIte, Nat.reduceAdd, Nat.reduceSub, Nat.reduceLT, Nat.reduceEqDiff, reduceCtorEq, Nat.reduceLeDiff, Nat.reduceBEq, Nat.reduceMul, Int.reduceToNat, e5, e6]; rfl) (by repeat' first | exact trivial | constructor) ?_
              intro x w h
              have := Rel.keep [8, 7, 6, 5, 0, 1] [300] h
              rw [List.map_set]
              exact this
            · intro σ hσ
              refine Holds.from hσ ?_
              refine Holds.region (Px := px) (T := TT) (ρ := fun _ => []) TTe (by simp (maxSteps := 100000) (disch := omega) only [go_sem, V.isAgg, V.flat, ↓reduceIte, Nat.reduceAdd, Nat.reduceSub, Nat.reduceLT, Nat.reduceEqDiff, reduceCtorEq, Nat.reduceLeDiff, Nat.reduceBEq, Nat.reduceMul, Int.reduceToNat]; rfl) (by repeat' first | exact trivial | constructor) ?_
              refine ⟨k + 1, (by show k + 1 ≤ b.length; omega), (show b.length - (k + 1) < b.length - k by omega), fun x w h => ?_⟩
              simp only [esucc]
              exact Rel.keep [8, 7, 6, 5, 0, 1] [300] h
        · intro σ hσ
          refine Holds.from hσ ?_
          obtain ⟨k1, k2, k3⟩ := hI b.length
          have hib : i + b.length < (tmI A b i s b.length).1.length := by omega
          have gZ := get_map hib
          have hadd : ((i : Int) + b.length).toNat = i + b.length := by omega
          have e : tmO a b (i + 1) = (tmI A b i s b.length).1.set (i + b.length) (tmI A b i s b.length).2 := by rw [tmO, hAe, hs]
          refine Holds.region (Px := px) (T := TT) (ρ := fun _ => []) TTe (by simp (maxSteps := 100000) (disch := omega) only [go_sem, V.isAgg, V.flat, ↓reduceIte, Nat.reduceAdd, Nat.reduceSub, Nat.reduceLT, Nat.reduceEqDiff, reduceCtorEq, Nat.reduceLeDiff, Nat.reduceBEq, Nat.reduceMul, Int.reduceToNat, gZ, hadd]; rfl) (by repeat' first | exact trivial | constructor) ?_
          intro x w h
          rw [e, List.map_set]
          exact Rel.keep [6, 5, 0, 1] [300] h
      · intro σ hσ
        refine Holds.from hσ ?_
        refine Holds.region (Px := px) (T := TT) (ρ := fun _ => []) TTe (by simp (maxSteps := 100000) (disch := omega) only [go_sem, V.isAgg, V.flat, ↓reduceIte, Nat.reduceAdd, Nat.reduceSub, Nat.reduceLT, Nat.reduceEqDiff, reduceCtorEq, Nat.reduceLeDiff, Nat.reduceBEq, Nat.reduceMul, Int.reduceToNat]; rfl) (by repeat' first | exact trivial | constructor) ?_
        exact ⟨i + 1, (by show i + 1 ≤ a.length; omega), (show a.length - (i + 1) < a.length - i by omega), fun x w h => Rel.keep [6, 5, 0, 1] [300] h⟩
  · intro σ hσ
    refine Holds.from hσ ?_
    have hl := (timesL_ok oa ob).2.1
    refine Holds.step (Px := px) (T := TT) (ρ := fun _ => []) TTe (by simp (maxSteps := 100000) (disch := omega) only [go_sem, V.isAgg, V.flat, ↓reduceIte, Nat.reduceAdd, Nat.reduceSub, Nat.reduceLT, Nat.reduceEqDiff, reduceCtorEq, Nat.reduceLeDiff, Nat.reduceBEq, Nat.reduceMul, Int.reduceToNat]; rfl) (by repeat' first | exact trivial | constructor) ?_
    exact Holds.ret ⟨_, [], rfl, ⟨⟨rfl, by rw [List.drop_zero, List.take_of_length_le (by rw [List.length_map, hl, hN]; exact Nat.le_refl _)], fun h => h, rfl⟩, trivial⟩, by simp [R.names, R.mems, R.blks], by simp, rfl⟩

theorem rMul_ok (x y : List Int) (hx : x.length < 40000) (hy : y.length < 40000) (ox : okW x) (oy : okW y) : FnOk Tryz.prog 30 [.v (words x), .v (words y)] [.v true (words (digs (val x * val y)))] := by
  have h1 := Digits_ok x (by omega) ox
  have h2 := Digits_ok y (by omega) oy
  have lx := digL_len x
  have ly := digL_len y
  have h3 := Times_ok (digL x) (digL y) (by omega) (by omega) (digL_ok ox) (digL_ok oy)
  obtain ⟨t1, t2, t3⟩ := timesL_ok (digL_ok ox) (digL_ok oy)
  have h4 := nat_ok (timesL (digL x) (digL y)) (by omega) t1
  rw [t3, val_dig ox, val_dig oy] at h4
  refine FnOk.of Tryz.func30 rfl rfl fun cx w0 => ?_
  rw [show Tryz.f30.ntmps = 11 from rfl]
  refine Holds.step (Px := px) (T := TT) (ρ := fun _ => []) TTe (by simp (maxSteps := 100000) (disch := omega) only [go_sem, V.isAgg, V.flat, ↓reduceIte, Nat.reduceAdd, Nat.reduceSub, Nat.reduceLT, Nat.reduceEqDiff, reduceCtorEq, Nat.reduceLeDiff, Nat.reduceBEq, Nat.reduceMul, Int.reduceToNat, List.length_cons, List.length_nil]; rfl) (by repeat' first | exact trivial | constructor) ?_
  refine Holds.step (Px := px) (T := TT) (ρ := fun d => if d = 6 then [.v true (words (digL x))] else if d = 8 then [.v true (words (digL y))] else if d = 9 then [.v true (words (timesL (digL x) (digL y)))] else [.v true (words (digs (val x * val y)))]) TTe (by simp (maxSteps := 100000) (disch := omega) only [go_sem, V.isAgg, V.flat, ↓reduceIte, Nat.reduceAdd, Nat.reduceSub, Nat.reduceLT, Nat.reduceEqDiff, reduceCtorEq, Nat.reduceLeDiff, Nat.reduceBEq, Nat.reduceMul, Int.reduceToNat]; rfl) (by first | exact ⟨h1, h2, h3, h4⟩ | (repeat' first | exact trivial | exact h1 | exact h2 | exact h3 | exact h4 | constructor)) ?_
  exact Holds.ret (RetOk.vs rfl (by exact ⟨⟨rfl, fun h => h⟩, trivial⟩) rfl)
end Go.Proofs.YtjmclobbfabnpaaGreat.L
