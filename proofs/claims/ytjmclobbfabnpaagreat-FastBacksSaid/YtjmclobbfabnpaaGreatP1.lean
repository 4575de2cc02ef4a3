/-
  Ta Tb
-/
import Derived.Test.YtjmclobbfabnpaaGreatN1
set_option linter.unusedSimpArgs false
set_option linter.unusedVariables false
/-
  Comparisons of numbers: the references' and the package's.
-/
namespace Go.Proofs.YtjmclobbfabnpaaGreat.L
open Go Go.RowKit Go.Proofs
attribute [local go_sem] evalOps_nil evalOps_cons runW_t runW_f runE_s runP_s wantA evalOp effOp letters okDst coreA St.opv St.get St.at look constA St.put St.upd St.set decide_true List.all_nil List.all_cons Bool.and_true Bool.true_and and_self and_true true_and if_true if_false true_or Int.sub_zero List.nil_append List.cons_append List.append_nil Option.isSome_some List.getElem?_toArray List.getElem?_cons_succ List.getElem?_cons_zero Option.bind_some Option.map_some Option.map_none beq_self_eq_true Bool.false_beq Bool.true_beq Bool.not_true Bool.not_false Bool.false_eq_true cond_true cond_false binA binI List.map_cons List.map_nil boundA List.length_nil List.length_cons Nat.zero_mul Nat.one_mul Nat.mul_one Nat.zero_add Nat.add_zero Nat.zero_le Option.toList St.freshB AV.ment AV.ments Blk.ment V.sizes Nat.lt_add_one Bool.or_true Bool.true_or Bool.or_false Bool.false_or Bool.or_self if_pos if_neg decide_false decide_eq_true decide_eq_false wrap_i64 Int.toNat_natCast minA maxA Int.natCast_add Int.cast_ofNat_Int Option.isSome_none false_implies true_implies forall_const List.drop_zero Int.toNat_zero Int.add_sub_cancel lenA sliceA loadA indexAddrA partA fitsT V.atP V.offP V.size List.length_map List.getElem?_map Int.toNat_natCast_add_one Int.ofNat_eq_natCast TY calleeA capArg knotA capArgs toArgs toArg callA R.res R.mems R.blks R.av R.names R.nw invokeA storeA storeV fieldAddrA liveB V.off V.offs V.setP List.set_cons_zero List.set_cons_succ buildA buildP partsA appendA srcA copyA boxOk makeA AV.pure List.take_succ_cons List.take_zero nilA words entry List.zipIdx_cons List.zipIdx_nil Arg.av Arg.avs

def cmpN (a b : Nat) : Int := if a < b then -1 else if b < a then 1 else 0
def cmpD (f g : Nat → Int) : Nat → Int
  | 0 => 0
  | j + 1 => if f j < g j then -1 else if g j < f j then 1 else cmpD f g j

theorem cmpD_val {B : Nat} {f g : Nat → Int} {F G : Nat → Nat} (hF0 : F 0 = 0) (hG0 : G 0 = 0) (hF : ∀ j, F (j + 1) = F j + B ^ j * (f j).toNat) (hG : ∀ j, G (j + 1) = G j + B ^ j * (g j).toNat)
    (bf : ∀ j, 0 ≤ f j ∧ f j < B) (bg : ∀ j, 0 ≤ g j ∧ g j < B) : ∀ j, F j < B ^ j ∧ G j < B ^ j ∧ cmpD f g j = cmpN (F j) (G j)
  | 0 => by rw [hF0, hG0]; exact ⟨by simp, by simp, rfl⟩
  | j + 1 => by
    obtain ⟨h1, h2, h3⟩ := cmpD_val hF0 hG0 hF hG bf bg j
    obtain ⟨f0, f1⟩ := bf j
    obtain ⟨g0, g1⟩ := bg j
    have step : ∀ {P Q : Nat} {u v : Nat}, P < B ^ j → u < v → P + B ^ j * u < Q + B ^ j * v := fun {P Q u v} hP huv => by
      have : B ^ j * (u + 1) ≤ B ^ j * v := Nat.mul_le_mul_left _ huv
      rw [Nat.mul_add, Nat.mul_one] at this
      omega
    have bnd : ∀ {P : Nat} {x : Int}, P < B ^ j → 0 ≤ x → x < B → P + B ^ j * x.toNat < B ^ (j + 1) := fun {P x} hP hx0 hx => by
      have := step (Q := 0) (v := B) hP (show x.toNat < B by omega)
      rw [Nat.zero_add] at this
      rw [Nat.pow_succ]
      exact this
    rw [hF, hG]
    refine ⟨bnd h1 f0 f1, bnd h2 g0 g1, ?_⟩
    rw [cmpD]
    rcases Int.lt_trichotomy (f j) (g j) with h | h | h
    · have := step (Q := G j) h1 (show (f j).toNat < (g j).toNat by omega)
      rw [if_pos h, cmpN, if_pos this]
    · rw [h, if_neg (by omega), if_neg (by omega), h3, cmpN, cmpN]
      rcases Nat.lt_trichotomy (F j) (G j) with h4 | h4 | h4
      · rw [if_pos h4, if_pos (by omega)]
      · rw [h4, if_neg (by omega), if_neg (by omega), if_neg (by omega), if_neg (by omega)]
      · rw [if_neg (by omega), if_pos h4, if_neg (by omega), if_pos (by omega)]
    · have := step (Q := F j) h2 (show (g j).toNat < (f j).toNat by omega)
      rw [if_neg (by omega), if_pos h, cmpN, if_neg (by omega), if_pos this]

theorem val_takeS {l : List Int} (j : Nat) : val (l.take (j + 1)) = val (l.take j) + 18446744073709551616 ^ j * (l.getD j 0).toNat := by
  rcases Nat.lt_or_ge j l.length with h | h
  · rw [take_succ h, val_append, List.length_take, Nat.min_eq_left (by omega), val, val]; simp
  · rw [List.take_of_length_le (by omega), List.take_of_length_le h, List.getD_eq_getElem?_getD, List.getElem?_eq_none h]; rfl
theorem valH_takeS {l : List Int} (j : Nat) : valH (l.take (j + 1)) = valH (l.take j) + 4294967296 ^ j * (l.getD j 0).toNat := by
  rcases Nat.lt_or_ge j l.length with h | h
  · rw [take_succ h, valH_append, List.length_take, Nat.min_eq_left (by omega), valH, valH]; simp
  · rw [List.take_of_length_le (by omega), List.take_of_length_le h, List.getD_eq_getElem?_getD, List.getElem?_eq_none h]; rfl

theorem cmpD_W {x y : List Int} (ox : okW x) (oy : okW y) {M : Nat} (hx : x.length ≤ M) (hy : y.length ≤ M) : cmpD (fun i => x.getD i 0) (fun i => y.getD i 0) M = cmpN (val x) (val y) := by
  have h := (cmpD_val (B := 18446744073709551616) (F := fun j => val (x.take j)) (G := fun j => val (y.take j)) (f := fun i => x.getD i 0) (g := fun i => y.getD i 0) rfl rfl (fun j => val_takeS j) (fun j => val_takeS j) (okW_getD ox) (okW_getD oy) M).2.2
  simp only [List.take_of_length_le hx, List.take_of_length_le hy] at h
  exact h
theorem cmpD_H {x y : List Int} (ox : okH x) (oy : okH y) {M : Nat} (hx : x.length ≤ M) (hy : y.length ≤ M) : cmpD (fun i => x.getD i 0) (fun i => y.getD i 0) M = cmpN (valH x) (valH y) := by
  have h := (cmpD_val (B := 4294967296) (F := fun j => valH (x.take j)) (G := fun j => valH (y.take j)) (f := fun i => x.getD i 0) (g := fun i => y.getD i 0) rfl rfl (fun j => valH_takeS j) (fun j => valH_takeS j) (okH_getD ox) (okH_getD oy) M).2.2
  simp only [List.take_of_length_le hx, List.take_of_length_le hy] at h
  exact h

theorem Compare_ok (a b : List Int) (hal : a.length < 100000) (hbl : b.length < 100000) (oa : okH a) (ob : okH b) : FnOk Tryz.prog 68 [.v (words a), .v (words b)] [.v true (.int .i64 (cmpN (valH a) (valH b)))] := by
  obtain ⟨M, hM⟩ : ∃ M, M = max a.length b.length := ⟨_, rfl⟩
  have hmax : (if (a.length : Int) < (b.length : Int) then (b.length : Int) else a.length) = M := by rw [hM]; split <;> omega
  rw [← cmpD_H oa ob (M := M) (by omega) (by omega)]
  obtain ⟨C, hC⟩ : ∃ C, C = cmpD (fun i => a.getD i 0) (fun i => b.getD i 0) := ⟨_, rfl⟩
  have hs : ∀ j, C (j + 1) = if a.getD j 0 < b.getD j 0 then -1 else if b.getD j 0 < a.getD j 0 then 1 else C j := fun j => by rw [hC, cmpD]
  have h0 : C 0 = 0 := by rw [hC, cmpD]
  rw [← hC]
  refine FnOk.of Tryz.func68 rfl rfl fun cx w0 => ?_
  rw [show Tryz.f68.ntmps = 32 from rfl]
  refine Holds.step (Px := px) (T := TT) (ρ := fun _ => []) TTe (by simp (maxSteps := 100000) (disch := omega) only [go_sem, V.isAgg, V.flat, ↓reduceIte, Nat.reduceAdd, Nat.reduceSub, Nat.reduceLT, Nat.reduceEqDiff, reduceCtorEq, Nat.reduceLeDiff, Nat.reduceBEq, Nat.reduceMul, Int.reduceToNat, List.length_cons, List.length_nil]; rfl) (by repeat' first | exact trivial | constructor) ?_
  refine Holds.next (fun σ => C M = 0 ∧ ∀ x w, Rel cx w0 σ x w → Rel cx w0 { nt := 32, env := [], mem := [] } x w) ?_ ?_
  · refine Holds.step (Px := px) (T := TT) (ρ := fun _ => []) TTe (by simp (maxSteps := 100000) (disch := omega) only [go_sem, V.isAgg, V.flat, ↓reduceIte, Nat.reduceAdd, Nat.reduceSub, Nat.reduceLT, Nat.reduceEqDiff, reduceCtorEq, Nat.reduceLeDiff, Nat.reduceBEq, Nat.reduceMul, Int.reduceToNat, hmax]; rfl) (by repeat' first | exact trivial | constructor) ?_
    refine Holds.loopB (fun j : Nat => { nt := 32, env := [(5, .v true (.int .i64 ((j : Int) - 1))), (0, .v false (words a)), (1, .v false (words b))], mem := [] }) (fun j => j ≤ M ∧ C M = C j) id M ⟨Nat.le_refl _, rfl⟩ (fun x w hr => Rel.keep [5, 0, 1] [] hr) ?_
    rintro j ⟨hj, hCj⟩
    rcases j with _ | j
    · refine Holds.seq ?_
      refine Holds.step (Px := px) (T := TT) (ρ := fun _ => []) TTe (by simp (maxSteps := 100000) (disch := omega) only [go_sem, V.isAgg, V.flat, ↓reduceIte, Nat.reduceAdd, Nat.reduceSub, Nat.reduceLT, Nat.reduceEqDiff, reduceCtorEq, Nat.reduceLeDiff, Nat.reduceBEq, Nat.reduceMul, Int.reduceToNat]; rfl) (by repeat' first | exact trivial | constructor) ?_
      exact Holds.condF rfl (Holds.exit ⟨rfl, by rw [hCj, h0], fun x w hr => Rel.keep [] [] hr⟩)
    · have dA := digit_ok a j (by omega)
      have dB := digit_ok b j (by omega)
      have hsj := hs j
      rw [← hCj] at hsj
      obtain ⟨p, hp⟩ : ∃ p, p = a.getD j 0 := ⟨_, rfl⟩
      obtain ⟨q, hq⟩ : ∃ q, q = b.getD j 0 := ⟨_, rfl⟩
      rw [← hp] at dA hsj
      rw [← hq] at dB hsj
      refine Holds.seq ?_
      refine Holds.step (Px := px) (T := TT) (ρ := fun _ => []) TTe (by simp (maxSteps := 100000) (disch := omega) only [go_sem, V.isAgg, V.flat, ↓reduceIte, Nat.reduceAdd, Nat.reduceSub, Nat.reduceLT, Nat.reduceEqDiff, reduceCtorEq, Nat.reduceLeDiff, Nat.reduceBEq, Nat.reduceMul, Int.reduceToNat]; rfl) (by repeat' first | exact trivial | constructor) ?_
      refine Holds.condT rfl (Holds.skip ?_)
      refine Holds.next (fun σ => C M = C j ∧ ∀ x w, Rel cx w0 σ x w → Rel cx w0 { nt := 32, env := [(5, .v true (.int .i64 (j : Int))), (0, .v false (words a)), (1, .v false (words b))], mem := [] } x w) ?_ ?_
      · refine Holds.blockN ?_
        refine Holds.step (Px := px) (T := TT) (ρ := fun d => if d = 20 then [.v true (.int .u64 p)] else [.v true (.int .u64 q)]) TTe (by simp (maxSteps := 100000) (disch := omega) only [go_sem, V.isAgg, V.flat, ↓reduceIte, Nat.reduceAdd, Nat.reduceSub, Nat.reduceLT, Nat.reduceEqDiff, reduceCtorEq, Nat.reduceLeDiff, Nat.reduceBEq, Nat.reduceMul, Int.reduceToNat]; rfl) (by first | exact ⟨dA, dB⟩ | (repeat' first | exact trivial | exact dA | exact dB | constructor)) ?_
        refine Holds.blockN ?_
        rcases Int.lt_trichotomy p q with h | h | h
        · rw [if_pos h] at hsj
          refine Holds.step (Px := px) (T := TT) (ρ := fun _ => []) TTe (by simp (maxSteps := 100000) (disch := omega) only [go_sem, V.isAgg, V.flat, ↓reduceIte, Nat.reduceAdd, Nat.reduceSub, Nat.reduceLT, Nat.reduceEqDiff, reduceCtorEq, Nat.reduceLeDiff, Nat.reduceBEq, Nat.reduceMul, Int.reduceToNat, h]; rfl) (by repeat' first | exact trivial | constructor) ?_
          refine Holds.condT rfl ?_
          rw [hsj]
          refine Holds.step (Px := px) (T := TT) (ρ := fun _ => []) TTe (by simp (maxSteps := 100000) (disch := omega) only [go_sem, V.isAgg, V.flat, ↓reduceIte, Nat.reduceAdd, Nat.reduceSub, Nat.reduceLT, Nat.reduceEqDiff, reduceCtorEq, Nat.reduceLeDiff, Nat.reduceBEq, Nat.reduceMul, Int.reduceToNat]; rfl) (by repeat' first | exact trivial | constructor) ?_
          exact Holds.ret (RetOk.vs rfl (by exact ⟨⟨rfl, fun h => h⟩, trivial⟩) rfl)
        · have n1 : ¬ p < q := by omega
          have n2 : ¬ q < p := by omega
          rw [if_neg n1, if_neg n2] at hsj
          refine Holds.step (Px := px) (T := TT) (ρ := fun _ => []) TTe (by simp (maxSteps := 100000) (disch := omega) only [go_sem, V.isAgg, V.flat, ↓reduceIte, Nat.reduceAdd, Nat.reduceSub, Nat.reduceLT, Nat.reduceEqDiff, reduceCtorEq, Nat.reduceLeDiff, Nat.reduceBEq, Nat.reduceMul, Int.reduceToNat, n1, n2]; rfl) (by repeat' first | exact trivial | constructor) ?_
          refine Holds.condF rfl ?_
          refine Holds.step (Px := px) (T := TT) (ρ := fun _ => []) TTe (by simp (maxSteps := 100000) (disch := omega) only [go_sem, V.isAgg, V.flat, ↓reduceIte, Nat.reduceAdd, Nat.reduceSub, Nat.reduceLT, Nat.reduceEqDiff, reduceCtorEq, Nat.reduceLeDiff, Nat.reduceBEq, Nat.reduceMul, Int.reduceToNat, n1, n2]; rfl) (by repeat' first | exact trivial | constructor) ?_
          exact Holds.condF rfl (Holds.skip ⟨hsj, fun x w hr => Rel.keep [5, 0, 1] [] hr⟩)
        · have n1 : ¬ p < q := by omega
          rw [if_neg n1, if_pos h] at hsj
          refine Holds.step (Px := px) (T := TT) (ρ := fun _ => []) TTe (by simp (maxSteps := 100000) (disch := omega) only [go_sem, V.isAgg, V.flat, ↓reduceIte, Nat.reduceAdd, Nat.reduceSub, Nat.reduceLT, Nat.reduceEqDiff, reduceCtorEq, Nat.reduceLeDiff, Nat.reduceBEq, Nat.reduceMul, Int.reduceToNat, n1, h]; rfl) (by repeat' first | exact trivial | constructor) ?_
          refine Holds.condF rfl ?_
          refine Holds.step (Px := px) (T := TT) (ρ := fun _ => []) TTe (by simp (maxSteps := 100000) (disch := omega) only [go_sem, V.isAgg, V.flat, ↓reduceIte, Nat.reduceAdd, Nat.reduceSub, Nat.reduceLT, Nat.reduceEqDiff, reduceCtorEq, Nat.reduceLeDiff, Nat.reduceBEq, Nat.reduceMul, Int.reduceToNat, n1, h]; rfl) (by repeat' first | exact trivial | constructor) ?_
          refine Holds.condT rfl ?_
          rw [hsj]
          refine Holds.step (Px := px) (T := TT) (ρ := fun _ => []) TTe (by simp (maxSteps := 100000) (disch := omega) only [go_sem, V.isAgg, V.flat, ↓reduceIte, Nat.reduceAdd, Nat.reduceSub, Nat.reduceLT, Nat.reduceEqDiff, reduceCtorEq, Nat.reduceLeDiff, Nat.reduceBEq, Nat.reduceMul, Int.reduceToNat]; rfl) (by repeat' first | exact trivial | constructor) ?_
          exact Holds.ret (RetOk.vs rfl (by exact ⟨⟨rfl, fun h => h⟩, trivial⟩) rfl)
      · rintro σ ⟨hC2, hσ⟩
        refine Holds.from hσ ?_
        refine Holds.region (Px := px) (T := TT) (ρ := fun _ => []) TTe (by simp (maxSteps := 100000) (disch := omega) only [go_sem, V.isAgg, V.flat, ↓reduceIte, Nat.reduceAdd, Nat.reduceSub, Nat.reduceLT, Nat.reduceEqDiff, reduceCtorEq, Nat.reduceLeDiff, Nat.reduceBEq, Nat.reduceMul, Int.reduceToNat]; rfl) (by repeat' first | exact trivial | constructor) ?_
        exact ⟨j, ⟨by omega, hC2⟩, (show j < j + 1 by omega), fun x w hr => Rel.keep [5, 0, 1] [] hr⟩
  · rintro σ ⟨hC0, hσ⟩
    rw [hC0]
    refine Holds.from hσ ?_
    refine Holds.step (Px := px) (T := TT) (ρ := fun _ => []) TTe (by simp (maxSteps := 100000) (disch := omega) only [go_sem, V.isAgg, V.flat, ↓reduceIte, Nat.reduceAdd, Nat.reduceSub, Nat.reduceLT, Nat.reduceEqDiff, reduceCtorEq, Nat.reduceLeDiff, Nat.reduceBEq, Nat.reduceMul, Int.reduceToNat]; rfl) (by repeat' first | exact trivial | constructor) ?_
    exact Holds.ret (RetOk.vs rfl (by exact ⟨⟨rfl, fun h => h⟩, trivial⟩) rfl)

theorem rCmp_ok (x y : List Int) (hx : x.length < 40000) (hy : y.length < 40000) (ox : okW x) (oy : okW y) : FnOk Tryz.prog 43 [.v (words x), .v (words y)] [.v true (.int .i64 (cmpN (val x) (val y)))] := by
  have h1 := Digits_ok x (by omega) ox
  have h2 := Digits_ok y (by omega) oy
  have lx := digL_len x
  have ly := digL_len y
  have h3 := Compare_ok (digL x) (digL y) (by omega) (by omega) (digL_ok ox) (digL_ok oy)
  rw [val_dig ox, val_dig oy] at h3
  refine FnOk.of Tryz.func43 rfl rfl fun cx w0 => ?_
  rw [show Tryz.f43.ntmps = 10 from rfl]
  refine Holds.step (Px := px) (T := TT) (ρ := fun _ => []) TTe (by simp (maxSteps := 100000) (disch := omega) only [go_sem, V.isAgg, V.flat, ↓reduceIte, Nat.reduceAdd, Nat.reduceSub, Nat.reduceLT, Nat.reduceEqDiff, reduceCtorEq, Nat.reduceLeDiff, Nat.reduceBEq, Nat.reduceMul, Int.reduceToNat, List.length_cons, List.length_nil]; rfl) (by repeat' first | exact trivial | constructor) ?_
  refine Holds.step (Px := px) (T := TT) (ρ := fun d => if d = 6 then [.v true (words (digL x))] else if d = 8 then [.v true (words (digL y))] else [.v true (.int .i64 (cmpN (val x) (val y)))]) TTe (by simp (maxSteps := 100000) (disch := omega) only [go_sem, V.isAgg, V.flat, ↓reduceIte, Nat.reduceAdd, Nat.reduceSub, Nat.reduceLT, Nat.reduceEqDiff, reduceCtorEq, Nat.reduceLeDiff, Nat.reduceBEq, Nat.reduceMul, Int.reduceToNat]; rfl) (by first | exact ⟨h1, h2, h3⟩ | (repeat' first | exact trivial | exact h1 | exact h2 | exact h3 | constructor)) ?_
  exact Holds.ret (RetOk.vs rfl (by exact ⟨⟨rfl, fun h => h⟩, trivial⟩) rfl)

/-- nat.compare: of trimmed numbers. -/
theorem compare_ok (x y : List Int) (hx : x.length < 100000000) (hy : y.length < 100000000) (ox : okW x) (oy : okW y) (zx : noZ x) (zy : noZ y) : FnOk Tryz.prog 76 [.v (words x), .v (words y)] [.v true (.int .i64 (cmpN (val x) (val y)))] := by
  have longer : ∀ {u v : List Int}, okW u → okW v → noZ v → u.length < v.length → val u < val v := fun {u v} ou ov zv h => by
    have h1 := val_lt ou
    refine Nat.lt_of_lt_of_le h1 (Nat.le_of_not_lt fun h2 => ?_)
    have h3 := digs_len h2
    rw [← digs_of ov zv] at h3
    omega
  by_cases hl : x.length = y.length
  · rw [← cmpD_W ox oy (M := x.length) (Nat.le_refl _) (by omega)]
    obtain ⟨C, hC⟩ : ∃ C, C = cmpD (fun i => x.getD i 0) (fun i => y.getD i 0) := ⟨_, rfl⟩
    have hs : ∀ j, C (j + 1) = if x.getD j 0 < y.getD j 0 then -1 else if y.getD j 0 < x.getD j 0 then 1 else C j := fun j => by rw [hC, cmpD]
    have h0 : C 0 = 0 := by rw [hC, cmpD]
    rw [← hC]
    have hl' : (x.length : Int) = y.length := by omega
    refine FnOk.of Tryz.func76 rfl rfl fun cx w0 => ?_
    rw [show Tryz.f76.ntmps = 45 from rfl]
    refine Holds.step (Px := px) (T := TT) (ρ := fun _ => []) TTe (by simp (maxSteps := 100000) (disch := omega) only [go_sem, V.isAgg, V.flat, ↓reduceIte, Nat.reduceAdd, Nat.reduceSub, Nat.reduceLT, Nat.reduceEqDiff, reduceCtorEq, Nat.reduceLeDiff, Nat.reduceBEq, Nat.reduceMul, Int.reduceToNat, List.length_cons, List.length_nil]; rfl) (by repeat' first | exact trivial | constructor) ?_
    refine Holds.next (fun σ => ∀ a w, Rel cx w0 σ a w → Rel cx w0 { nt := 45, env := [(0, .v false (words x)), (1, .v false (words y))], mem := [] } a w) ?_ ?_
    · refine Holds.step (Px := px) (T := TT) (ρ := fun _ => []) TTe (by simp (maxSteps := 100000) (disch := omega) only [go_sem, V.isAgg, V.flat, ↓reduceIte, Nat.reduceAdd, Nat.reduceSub, Nat.reduceLT, Nat.reduceEqDiff, reduceCtorEq, Nat.reduceLeDiff, Nat.reduceBEq, Nat.reduceMul, Int.reduceToNat, hl']; rfl) (by repeat' first | exact trivial | constructor) ?_
      exact Holds.condF rfl (Holds.skip fun a w h => Rel.keep [0, 1] [] h)
    · intro σ hσ
      refine Holds.from hσ ?_
      refine Holds.next (fun σ => C x.length = 0 ∧ ∀ x w, Rel cx w0 σ x w → Rel cx w0 { nt := 45, env := [], mem := [] } x w) ?_ ?_
      · refine Holds.step (Px := px) (T := TT) (ρ := fun _ => []) TTe (by simp (maxSteps := 100000) (disch := omega) only [go_sem, V.isAgg, V.flat, ↓reduceIte, Nat.reduceAdd, Nat.reduceSub, Nat.reduceLT, Nat.reduceEqDiff, reduceCtorEq, Nat.reduceLeDiff, Nat.reduceBEq, Nat.reduceMul, Int.reduceToNat]; rfl) (by repeat' first | exact trivial | constructor) ?_
        refine Holds.loopB (fun j : Nat => { nt := 45, env := [(5, .v true (.int .i64 ((j : Int) - 1))), (0, .v false (words x)), (1, .v false (words y))], mem := [] }) (fun j => j ≤ x.length ∧ C x.length = C j) id x.length ⟨Nat.le_refl _, rfl⟩ (fun x w hr => Rel.keep [5, 0, 1] [] hr) ?_
        rintro j ⟨hj, hCj⟩
        rcases j with _ | j
        · refine Holds.seq ?_
          refine Holds.step (Px := px) (T := TT) (ρ := fun _ => []) TTe (by simp (maxSteps := 100000) (disch := omega) only [go_sem, V.isAgg, V.flat, ↓reduceIte, Nat.reduceAdd, Nat.reduceSub, Nat.reduceLT, Nat.reduceEqDiff, reduceCtorEq, Nat.reduceLeDiff, Nat.reduceBEq, Nat.reduceMul, Int.reduceToNat]; rfl) (by repeat' first | exact trivial | constructor) ?_
          exact Holds.condF rfl (Holds.exit ⟨rfl, by rw [hCj, h0], fun x w hr => Rel.keep [] [] hr⟩)
        · have hjx : j < x.length := by omega
          have hjy : j < y.length := by omega
          have gx := get_map hjx
          have gy := get_map hjy
          have hsj := hs j
          rw [← hCj] at hsj
          obtain ⟨p, hp⟩ : ∃ p, p = x.getD j 0 := ⟨_, rfl⟩
          obtain ⟨q, hq⟩ : ∃ q, q = y.getD j 0 := ⟨_, rfl⟩
          rw [← hp] at gx hsj
          rw [← hq] at gy hsj
          refine Holds.seq ?_
          refine Holds.step (Px := px) (T := TT) (ρ := fun _ => []) TTe (by simp (maxSteps := 100000) (disch := omega) only [go_sem, V.isAgg, V.flat, ↓reduceIte, Nat.reduceAdd, Nat.reduceSub, Nat.reduceLT, Nat.reduceEqDiff, reduceCtorEq, Nat.reduceLeDiff, Nat.reduceBEq, Nat.reduceMul, Int.reduceToNat]; rfl) (by repeat' first | exact trivial | constructor) ?_
          refine Holds.condT rfl (Holds.skip ?_)
          refine Holds.next (fun σ => C x.length = C j ∧ ∀ a w, Rel cx w0 σ a w → Rel cx w0 { nt := 45, env := [(5, .v true (.int .i64 (j : Int))), (0, .v false (words x)), (1, .v false (words y))], mem := [] } a w) ?_ ?_
          · refine Holds.blockN ?_
            by_cases he : p = q
            · rw [if_neg (by omega), if_neg (by omega)] at hsj
              refine Holds.dstep (Px := px) (T := TT) (ρ := fun _ => []) [] mixed (by kernel_rfl) TTe (by simp (maxSteps := 100000) (disch := omega) only [go_sem, V.isAgg, V.flat, ↓reduceIte, Nat.reduceAdd, Nat.reduceSub, Nat.reduceLT, Nat.reduceEqDiff, reduceCtorEq, Nat.reduceLeDiff, Nat.reduceBEq, Nat.reduceMul, Int.reduceToNat, gx, gy, he]; rfl) (by repeat' first | exact trivial | constructor) (by rfl) (by rfl) (by rfl) ?_
              exact Holds.condF rfl (Holds.skip ⟨hsj, fun x w hr => Rel.keep [5, 0, 1] [] hr⟩)
            · refine Holds.dstep (Px := px) (T := TT) (ρ := fun _ => []) [] mixed (by kernel_rfl) TTe (by simp (maxSteps := 100000) (disch := omega) only [go_sem, V.isAgg, V.flat, ↓reduceIte, Nat.reduceAdd, Nat.reduceSub, Nat.reduceLT, Nat.reduceEqDiff, reduceCtorEq, Nat.reduceLeDiff, Nat.reduceBEq, Nat.reduceMul, Int.reduceToNat, gx, gy, he]; rfl) (by repeat' first | exact trivial | constructor) (by rfl) (by rfl) (by rfl) ?_
              refine Holds.condT rfl ?_
              refine Holds.seq ?_
              by_cases hlt : p < q
              · rw [if_pos hlt] at hsj
                rw [hsj]
                refine Holds.dstep (Px := px) (T := TT) (ρ := fun _ => []) [] mixed (by kernel_rfl) TTe (by simp (maxSteps := 100000) (disch := omega) only [go_sem, V.isAgg, V.flat, ↓reduceIte, Nat.reduceAdd, Nat.reduceSub, Nat.reduceLT, Nat.reduceEqDiff, reduceCtorEq, Nat.reduceLeDiff, Nat.reduceBEq, Nat.reduceMul, Int.reduceToNat, gx, gy, hlt]; rfl) (by repeat' first | exact trivial | constructor) (by rfl) (by rfl) (by rfl) ?_
                refine Holds.condT rfl ?_
                refine Holds.step (Px := px) (T := TT) (ρ := fun _ => []) TTe (by simp (maxSteps := 100000) (disch := omega) only [go_sem, V.isAgg, V.flat, ↓reduceIte, Nat.reduceAdd, Nat.reduceSub, Nat.reduceLT, Nat.reduceEqDiff, reduceCtorEq, Nat.reduceLeDiff, Nat.reduceBEq, Nat.reduceMul, Int.reduceToNat]; rfl) (by repeat' first | exact trivial | constructor) ?_
                exact Holds.ret (RetOk.vs rfl (by exact ⟨⟨rfl, fun h => h⟩, trivial⟩) rfl)
              · rw [if_neg hlt, if_pos (by omega)] at hsj
                rw [hsj]
                refine Holds.dstep (Px := px) (T := TT) (ρ := fun _ => []) [] mixed (by kernel_rfl) TTe (by simp (maxSteps := 100000) (disch := omega) only [go_sem, V.isAgg, V.flat, ↓reduceIte, Nat.reduceAdd, Nat.reduceSub, Nat.reduceLT, Nat.reduceEqDiff, reduceCtorEq, Nat.reduceLeDiff, Nat.reduceBEq, Nat.reduceMul, Int.reduceToNat, gx, gy, hlt]; rfl) (by repeat' first | exact trivial | constructor) (by rfl) (by rfl) (by rfl) ?_
                refine Holds.condF rfl (Holds.skip ?_)
                show Holds _ _ _ _ _ _ _
                refine Holds.step (Px := px) (T := TT) (ρ := fun _ => []) TTe (by simp (maxSteps := 100000) (disch := omega) only [go_sem, V.isAgg, V.flat, ↓reduceIte, Nat.reduceAdd, Nat.reduceSub, Nat.reduceLT, Nat.reduceEqDiff, reduceCtorEq, Nat.reduceLeDiff, Nat.reduceBEq, Nat.reduceMul, Int.reduceToNat]; rfl) (by repeat' first | exact trivial | constructor) ?_
                exact Holds.ret (RetOk.vs rfl (by exact ⟨⟨rfl, fun h => h⟩, trivial⟩) rfl)
          · rintro σ ⟨hC2, hσ⟩
            refine Holds.from hσ ?_
            refine Holds.region (Px := px) (T := TT) (ρ := fun _ => []) TTe (by simp (maxSteps := 100000) (disch := omega) only [go_sem, V.isAgg, V.flat, ↓reduceIte, Nat.reduceAdd, Nat.reduceSub, Nat.reduceLT, Nat.reduceEqDiff, reduceCtorEq, Nat.reduceLeDiff, Nat.reduceBEq, Nat.reduceMul, Int.reduceToNat]; rfl) (by repeat' first | exact trivial | constructor) ?_
            exact ⟨j, ⟨by omega, hC2⟩, (show j < j + 1 by omega), fun x w hr => Rel.keep [5, 0, 1] [] hr⟩
      · rintro σ ⟨hC0, hσ⟩
        rw [hC0]
        refine Holds.from hσ ?_
        refine Holds.step (Px := px) (T := TT) (ρ := fun _ => []) TTe (by simp (maxSteps := 100000) (disch := omega) only [go_sem, V.isAgg, V.flat, ↓reduceIte, Nat.reduceAdd, Nat.reduceSub, Nat.reduceLT, Nat.reduceEqDiff, reduceCtorEq, Nat.reduceLeDiff, Nat.reduceBEq, Nat.reduceMul, Int.reduceToNat]; rfl) (by repeat' first | exact trivial | constructor) ?_
        exact Holds.ret (RetOk.vs rfl (by exact ⟨⟨rfl, fun h => h⟩, trivial⟩) rfl)
  · have hl' : ¬ (x.length : Int) = y.length := by omega
    refine FnOk.of Tryz.func76 rfl rfl fun cx w0 => ?_
    rw [show Tryz.f76.ntmps = 45 from rfl]
    refine Holds.step (Px := px) (T := TT) (ρ := fun _ => []) TTe (by simp (maxSteps := 100000) (disch := omega) only [go_sem, V.isAgg, V.flat, ↓reduceIte, Nat.reduceAdd, Nat.reduceSub, Nat.reduceLT, Nat.reduceEqDiff, reduceCtorEq, Nat.reduceLeDiff, Nat.reduceBEq, Nat.reduceMul, Int.reduceToNat, List.length_cons, List.length_nil]; rfl) (by repeat' first | exact trivial | constructor) ?_
    refine Holds.seq ?_
    refine Holds.step (Px := px) (T := TT) (ρ := fun _ => []) TTe (by simp (maxSteps := 100000) (disch := omega) only [go_sem, V.isAgg, V.flat, ↓reduceIte, Nat.reduceAdd, Nat.reduceSub, Nat.reduceLT, Nat.reduceEqDiff, reduceCtorEq, Nat.reduceLeDiff, Nat.reduceBEq, Nat.reduceMul, Int.reduceToNat, hl']; rfl) (by repeat' first | exact trivial | constructor) ?_
    refine Holds.condT rfl ?_
    rcases Nat.lt_or_ge x.length y.length with h | h
    · have hlt := longer ox oy zy h
      have hm : (if (0 : Int) < (x.length : Int) - y.length then (x.length : Int) - y.length else 0) = 0 := if_neg (by omega)
      rw [cmpN, if_pos hlt]
      refine Holds.step (Px := px) (T := TT) (ρ := fun _ => []) TTe (by simp (maxSteps := 100000) (disch := omega) only [go_sem, V.isAgg, V.flat, ↓reduceIte, Nat.reduceAdd, Nat.reduceSub, Nat.reduceLT, Nat.reduceEqDiff, reduceCtorEq, Nat.reduceLeDiff, Nat.reduceBEq, Nat.reduceMul, Int.reduceToNat, hm]; rfl) (by repeat' first | exact trivial | constructor) ?_
      exact Holds.ret (RetOk.vs rfl (by exact ⟨⟨rfl, fun h => h⟩, trivial⟩) rfl)
    · have hlt := longer oy ox zx (by omega)
      have hm : (if (0 : Int) < (x.length : Int) - y.length then (x.length : Int) - y.length else 0) = (x.length : Int) - y.length := if_pos (by omega)
      have hm2 : (if (x.length : Int) - y.length < 1 then (x.length : Int) - y.length else 1) = 1 := by split <;> omega
      rw [cmpN, if_neg (by omega), if_pos hlt]
      refine Holds.step (Px := px) (T := TT) (ρ := fun _ => []) TTe (by simp (maxSteps := 100000) (disch := omega) only [go_sem, V.isAgg, V.flat, ↓reduceIte, Nat.reduceAdd, Nat.reduceSub, Nat.reduceLT, Nat.reduceEqDiff, reduceCtorEq, Nat.reduceLeDiff, Nat.reduceBEq, Nat.reduceMul, Int.reduceToNat, hm, hm2]; rfl) (by repeat' first | exact trivial | constructor) ?_
      exact Holds.ret (RetOk.vs rfl (by exact ⟨⟨rfl, fun h => h⟩, trivial⟩) rfl)

theorem Cmp_ok (x y : List Int) (hx : x.length < 100000000) (hy : y.length < 100000000) (ox : okW x) (oy : okW y) : FnOk Tryz.prog 57 [.v (words x), .v (words y)] [.v true (.int .i64 (cmpN (val x) (val y)))] := by
  have h1 := trim_ok x (by omega)
  have h2 := trim_ok y (by omega)
  have e1 : x.take (trimW x x.length) = trimL x := rfl
  have e2 : y.take (trimW y y.length) = trimL y := rfl
  rw [e1] at h1
  rw [e2] at h2
  have l1 := trimL_len x
  have l2 := trimL_len y
  have h3 := compare_ok (trimL x) (trimL y) (by omega) (by omega) (trimL_ok ox) (trimL_ok oy) (noZ_trim x) (noZ_trim y)
  rw [val_trim, val_trim] at h3
  refine FnOk.of Tryz.func57 rfl rfl fun cx w0 => ?_
  rw [show Tryz.f57.ntmps = 10 from rfl]
  refine Holds.step (Px := px) (T := TT) (ρ := fun _ => []) TTe (by simp (maxSteps := 100000) (disch := omega) only [go_sem, V.isAgg, V.flat, ↓reduceIte, Nat.reduceAdd, Nat.reduceSub, Nat.reduceLT, Nat.reduceEqDiff, reduceCtorEq, Nat.reduceLeDiff, Nat.reduceBEq, Nat.reduceMul, Int.reduceToNat, List.length_cons, List.length_nil]; rfl) (by repeat' first | exact trivial | constructor) ?_
  refine Holds.step (Px := px) (T := TT) (ρ := fun d => if d = 6 then [.v false (words (trimL x))] else if d = 8 then [.v false (words (trimL y))] else [.v true (.int .i64 (cmpN (val x) (val y)))]) TTe (by simp (maxSteps := 100000) (disch := omega) only [go_sem, V.isAgg, V.flat, ↓reduceIte, Nat.reduceAdd, Nat.reduceSub, Nat.reduceLT, Nat.reduceEqDiff, reduceCtorEq, Nat.reduceLeDiff, Nat.reduceBEq, Nat.reduceMul, Int.reduceToNat]; rfl) (by first | exact ⟨h1, h2, h3⟩ | (repeat' first | exact trivial | exact h1 | exact h2 | exact h3 | constructor)) ?_
  exact Holds.ret (RetOk.vs rfl (by exact ⟨⟨rfl, fun h => h⟩, trivial⟩) rfl)
/-
  Differences of numbers: the references' and the package's.
-/

def mnC (f g : Nat → Int) : Nat → Int
  | 0 => 0
  | k + 1 => if f k < g k + mnC f g k then 1 else 0
def mnD (B : Int) (f g : Nat → Int) (k : Nat) : Int := (f k - g k - mnC f g k) % B
def mnW (B : Int) (f g : Nat → Int) (k : Nat) : List Int := (List.range k).map (mnD B f g)
theorem mnW_len (B : Int) (f g : Nat → Int) (k : Nat) : (mnW B f g k).length = k := by rw [mnW, List.length_map, List.length_range]
theorem mnW_succ (B : Int) (f g : Nat → Int) (k : Nat) : mnW B f g (k + 1) = mnW B f g k ++ [mnD B f g k] := by rw [mnW, List.range_succ, List.map_append]; rfl
theorem mnC_01 (f g : Nat → Int) : ∀ k, mnC f g k = 0 ∨ mnC f g k = 1
  | 0 => .inl rfl
  | k + 1 => by rw [mnC]; split <;> simp
theorem mn_val {B : Nat} (hB : 0 < B) {f g : Nat → Int} {F G W : Nat → Nat} (hF0 : F 0 = 0) (hG0 : G 0 = 0) (hW0 : W 0 = 0) (hF : ∀ j, F (j + 1) = F j + B ^ j * (f j).toNat) (hG : ∀ j, G (j + 1) = G j + B ^ j * (g j).toNat)
    (hW : ∀ j, W (j + 1) = W j + B ^ j * (mnD B f g j).toNat) (bf : ∀ j, 0 ≤ f j ∧ f j < B) (bg : ∀ j, 0 ≤ g j ∧ g j < B) : ∀ k, W k < B ^ k ∧ F k + B ^ k * (mnC f g k).toNat = G k + W k
  | 0 => by rw [hF0, hG0, hW0]; exact ⟨by simp, rfl⟩
  | k + 1 => by
    obtain ⟨h1, h2⟩ := mn_val hB hF0 hG0 hW0 hF hG hW bf bg k
    obtain ⟨f0, f1⟩ := bf k
    obtain ⟨g0, g1⟩ := bg k
    have hc := mnC_01 f g k
    have d0 : 0 ≤ mnD B f g k := Int.emod_nonneg _ (by omega)
    have d1 : mnD B f g k < B := Int.emod_lt_of_pos _ (by omega)
    have e : (f k).toNat + B * (mnC f g (k + 1)).toNat = (g k).toNat + (mnD B f g k).toNat + (mnC f g k).toNat := by
      rw [mnC]
      by_cases h : f k < g k + mnC f g k
      · have hd : mnD B f g k = f k - g k - mnC f g k + B := by
          rw [mnD, ← Int.add_emod_right, Int.emod_eq_of_lt (by omega) (by omega)]
        rw [if_pos h]
        show _ + B * 1 = _
        omega
      · have hd : mnD B f g k = f k - g k - mnC f g k := by
          rw [mnD, Int.emod_eq_of_lt (by omega) (by omega)]
        rw [if_neg h]
        show _ + B * 0 = _
        omega
    have e2 : B ^ k * ((f k).toNat + B * (mnC f g (k + 1)).toNat) = B ^ k * ((g k).toNat + (mnD B f g k).toNat + (mnC f g k).toNat) := by rw [e]
    have hp : B ^ (k + 1) = B ^ k * B := Nat.pow_succ ..
    rw [Nat.mul_add, Nat.mul_add, Nat.mul_add, ← Nat.mul_assoc, ← hp] at e2
    refine ⟨?_, by rw [hF, hG, hW]; omega⟩
    have h3 : B ^ k * ((mnD B f g k).toNat + 1) ≤ B ^ k * B := Nat.mul_le_mul_left _ (by omega)
    rw [Nat.mul_add, Nat.mul_one, ← hp] at h3
    rw [hW]
    omega

theorem mnW_64 {x y : List Int} (ox : okW x) (oy : okW y) (hl : y.length ≤ x.length) (h : val y ≤ val x) : okW (mnW 18446744073709551616 (fun i => x.getD i 0) (fun i => y.getD i 0) x.length) ∧ val (mnW 18446744073709551616 (fun i => x.getD i 0) (fun i => y.getD i 0) x.length) = val x - val y := by
  have key := mn_val (B := 18446744073709551616) (by decide) (F := fun j => val (x.take j)) (G := fun j => val (y.take j)) (W := fun j => val (mnW 18446744073709551616 (fun i => x.getD i 0) (fun i => y.getD i 0) j)) (f := fun i => x.getD i 0) (g := fun i => y.getD i 0) rfl rfl rfl (fun j => val_takeS j) (fun j => val_takeS j)
    (fun j => by simp only [mnW_succ]; rw [val_append, mnW_len]; simp [val]) (okW_getD ox) (okW_getD oy) x.length
  simp only [List.take_length, List.take_of_length_le hl] at key
  obtain ⟨k1, k2⟩ := key
  refine ⟨fun n hn => ?_, ?_⟩
  · rw [mnW] at hn
    obtain ⟨j, _, rfl⟩ := List.mem_map.1 hn
    exact ⟨Int.emod_nonneg _ (by decide), Int.emod_lt_of_pos _ (by decide)⟩
  · rcases mnC_01 (fun i => x.getD i 0) (fun i => y.getD i 0) x.length with hc | hc
    · rw [hc, show (0 : Int).toNat = 0 from rfl, Nat.mul_zero, Nat.add_zero] at k2
      omega
    · rw [hc, show (1 : Int).toNat = 1 from rfl, Nat.mul_one] at k2
      omega
theorem mnW_32 {x y : List Int} (ox : okH x) (oy : okH y) (hl : y.length ≤ x.length) (h : valH y ≤ valH x) : okH (mnW 4294967296 (fun i => x.getD i 0) (fun i => y.getD i 0) x.length) ∧ valH (mnW 4294967296 (fun i => x.getD i 0) (fun i => y.getD i 0) x.length) = valH x - valH y := by
  have key := mn_val (B := 4294967296) (by decide) (F := fun j => valH (x.take j)) (G := fun j => valH (y.take j)) (W := fun j => valH (mnW 4294967296 (fun i => x.getD i 0) (fun i => y.getD i 0) j)) (f := fun i => x.getD i 0) (g := fun i => y.getD i 0) rfl rfl rfl (fun j => valH_takeS j) (fun j => valH_takeS j)
    (fun j => by simp only [mnW_succ]; rw [valH_append, mnW_len]; simp [valH]) (okH_getD ox) (okH_getD oy) x.length
  simp only [List.take_length, List.take_of_length_le hl] at key
  obtain ⟨k1, k2⟩ := key
  refine ⟨fun n hn => ?_, ?_⟩
  · rw [mnW] at hn
    obtain ⟨j, _, rfl⟩ := List.mem_map.1 hn
    exact ⟨Int.emod_nonneg _ (by decide), Int.emod_lt_of_pos _ (by decide)⟩
  · rcases mnC_01 (fun i => x.getD i 0) (fun i => y.getD i 0) x.length with hc | hc
    · rw [hc, show (0 : Int).toNat = 0 from rfl, Nat.mul_zero, Nat.add_zero] at k2
      omega
    · rw [hc, show (1 : Int).toNat = 1 from rfl, Nat.mul_one] at k2
      omega

def mnA (k : Nat) : AV := if k = 0 then .nil else .own 300 0 k
def mnB (W : Nat → List Int) (k : Nat) : List (Nat × Blk) := if k = 0 then [] else [(300, .buf 52 1 true ((W k).map fun n => .int .u64 n))]
theorem mnA_s (k : Nat) : mnA (k + 1) = .own 300 0 (k + 1) := if_neg (by omega)
theorem mnB_s (W : Nat → List Int) (k : Nat) : mnB W (k + 1) = [(300, .buf 52 1 true ((W (k + 1)).map fun n => .int .u64 n))] := if_neg (by omega)

theorem Minus_ok (a b : List Int) (hal : a.length < 100000) (hbl : b.length < 100000) (oa : okH a) (ob : okH b) :
    FnOk Tryz.prog 69 [.v (words a), .v (words b)] [.v true (words (mnW 4294967296 (fun i => a.getD i 0) (fun i => b.getD i 0) a.length)), .v true (.bool (decide (mnC (fun i => a.getD i 0) (fun i => b.getD i 0) a.length = 1)))] := by
  obtain ⟨W, hW⟩ : ∃ W, W = mnW 4294967296 (fun i => a.getD i 0) (fun i => b.getD i 0) := ⟨_, rfl⟩
  obtain ⟨C, hC⟩ : ∃ C, C = mnC (fun i => a.getD i 0) (fun i => b.getD i 0) := ⟨_, rfl⟩
  have C01 : ∀ k, C k = 0 ∨ C k = 1 := fun k => by rw [hC]; exact mnC_01 _ _ k
  have C0 : C 0 = 0 := by rw [hC, mnC]
  have Cs : ∀ k, C (k + 1) = if a.getD k 0 < b.getD k 0 + C k then 1 else 0 := fun k => by rw [hC, mnC]
  have Ws : ∀ k, W (k + 1) = W k ++ [(a.getD k 0 - b.getD k 0 - C k) % 4294967296] := fun k => by rw [hW, mnW_succ, hC]; rfl
  have Wl : ∀ k, (W k).length = k := fun k => by rw [hW, mnW_len]
  have W0 : W 0 = [] := List.eq_nil_of_length_eq_zero (Wl 0)
  rw [← hW, ← hC]
  refine FnOk.of Tryz.func69 rfl rfl fun cx w0 => ?_
  rw [show Tryz.f69.ntmps = 38 from rfl]
  refine Holds.step (Px := px) (T := TT) (ρ := fun _ => []) TTe (by simp (maxSteps := 100000) (disch := omega) only [go_sem, V.isAgg, V.flat, ↓reduceIte, Nat.reduceAdd, Nat.reduceSub, Nat.reduceLT, Nat.reduceEqDiff, reduceCtorEq, Nat.reduceLeDiff, Nat.reduceBEq, Nat.reduceMul, Int.reduceToNat, List.length_cons, List.length_nil]; rfl) (by repeat' first | exact trivial | constructor) ?_
  refine Holds.step (Px := px) (T := TT) (ρ := fun _ => []) TTe (by simp (maxSteps := 100000) (disch := omega) only [go_sem, V.isAgg, V.flat, ↓reduceIte, Nat.reduceAdd, Nat.reduceSub, Nat.reduceLT, Nat.reduceEqDiff, reduceCtorEq, Nat.reduceLeDiff, Nat.reduceBEq, Nat.reduceMul, Int.reduceToNat]; rfl) (by repeat' first | exact trivial | constructor) ?_
  refine Holds.step (Px := px) (T := TT) (ρ := fun _ => []) TTe (by simp (maxSteps := 100000) (disch := omega) only [go_sem, V.isAgg, V.flat, ↓reduceIte, Nat.reduceAdd, Nat.reduceSub, Nat.reduceLT, Nat.reduceEqDiff, reduceCtorEq, Nat.reduceLeDiff, Nat.reduceBEq, Nat.reduceMul, Int.reduceToNat]; rfl) (by repeat' first | exact trivial | constructor) ?_
  refine Holds.next (fun σ => ∀ x w, Rel cx w0 σ x w → Rel cx w0 { nt := 38, env := [(7, .v true (.int .u64 (C a.length))), (6, mnA a.length)], mem := mnB W a.length } x w) ?_ ?_
  · refine Holds.step (Px := px) (T := TT) (ρ := fun _ => []) TTe (by simp (maxSteps := 100000) (disch := omega) only [go_sem, V.isAgg, V.flat, ↓reduceIte, Nat.reduceAdd, Nat.reduceSub, Nat.reduceLT, Nat.reduceEqDiff, reduceCtorEq, Nat.reduceLeDiff, Nat.reduceBEq, Nat.reduceMul, Int.reduceToNat]; rfl) (by repeat' first | exact trivial | constructor) ?_
    refine Holds.loopB (fun k : Nat => { nt := 38, env := [(8, .v true (.int .i64 k)), (7, .v true (.int .u64 (C k))), (6, mnA k), (0, .v false (words a)), (1, .v false (words b))], mem := mnB W k }) (fun k => k ≤ a.length) (fun k => a.length - k) 0 (Nat.zero_le _) (fun x w hr => by
      rw [C0]
      exact Rel.keep [8, 7, 6, 0, 1] [] hr) ?_
    intro k hk
    by_cases hend : k = a.length
    · refine Holds.seq ?_
      refine Holds.step (Px := px) (T := TT) (ρ := fun _ => []) TTe (by simp (maxSteps := 100000) (disch := omega) only [go_sem, V.isAgg, V.flat, ↓reduceIte, Nat.reduceAdd, Nat.reduceSub, Nat.reduceLT, Nat.reduceEqDiff, reduceCtorEq, Nat.reduceLeDiff, Nat.reduceBEq, Nat.reduceMul, Int.reduceToNat]; rfl) (by repeat' first | exact trivial | constructor) ?_
      refine Holds.condF rfl (Holds.exit ⟨rfl, fun x w hr => ?_⟩)
      rw [← hend]
      exact Rel.less [7, 6] (fun _ => rfl) hr
    · have hka : k < a.length := by omega
      have ga := get_map hka
      have ha := okH_getD oa k
      have hb := okH_getD ob k
      have hc := C01 k
      have dB := digit_ok b k (by omega)
      have hCs := Cs k
      have hWs := Ws k
      have hWl := Wl k
      obtain ⟨p, hp⟩ : ∃ p, p = a.getD k 0 := ⟨_, rfl⟩
      obtain ⟨q, hq⟩ : ∃ q, q = b.getD k 0 := ⟨_, rfl⟩
      obtain ⟨c, hcc⟩ : ∃ c, c = C k := ⟨_, rfl⟩
      rw [← hp] at ga ha hCs hWs
      rw [← hq] at hb dB hCs hWs
      rw [← hcc] at hc hCs hWs ⊢
      have e1 : IntKind.u64.wrap (p + 4294967296) = p + 4294967296 := by rw [wrap_u64]; omega
      have e2 : IntKind.u64.wrap (p + 4294967296 - q) = p + 4294967296 - q := by rw [wrap_u64]; omega
      obtain ⟨X, hX⟩ : ∃ X, X = p + 4294967296 - q - c := ⟨_, rfl⟩
      have e3 : IntKind.u64.wrap (p + 4294967296 - q - c) = X := by rw [wrap_u64, hX]; omega
      have e4 : X.tmod 4294967296 = (p - q - c) % 4294967296 := by rw [Int.tmod_eq_emod_of_nonneg (by omega)]; omega
      have e4' : IntKind.u64.wrap ((p - q - c) % 4294967296) = (p - q - c) % 4294967296 := by rw [wrap_u64]; omega
      have e5 : X.tdiv 4294967296 = X / 4294967296 := Int.tdiv_eq_ediv_of_nonneg (by omega)
      have e5' : IntKind.u64.wrap (X / 4294967296) = X / 4294967296 := by rw [wrap_u64]; omega
      have e6 : IntKind.u64.wrap (1 - X / 4294967296) = C (k + 1) := by
        rw [wrap_u64, hCs]
        split <;> omega
      refine Holds.seq ?_
      refine Holds.step (Px := px) (T := TT) (ρ := fun _ => []) TTe (by simp (maxSteps := 100000) (disch := omega) only [go_sem, V.isAgg, V.flat, ↓reduceIte, Nat.reduceAdd, Nat.reduceSub, Nat.reduceLT, Nat.reduceEqDiff, reduceCtorEq, Nat.reduceLeDiff, Nat.reduceBEq, Nat.reduceMul, Int.reduceToNat]; rfl) (by repeat' first | exact trivial | constructor) ?_
      refine Holds.condT rfl (Holds.skip ?_)
      refine Holds.next (fun σ => ∀ x w, Rel cx w0 σ x w → Rel cx w0 { nt := 38, env := [(8, .v true (.int .i64 k)), (7, .v true (.int .u64 (C (k + 1)))), (6, mnA (k + 1)), (0, .v false (words a)), (1, .v false (words b))], mem := mnB W (k + 1) } x w) ?_ ?_
      · refine Holds.blockN ?_
        refine Holds.dstep (Px := px) (T := TT) (ρ := fun _ => [.v true (.int .u64 q)]) [] mixed (by kernel_rfl) TTe (by simp (maxSteps := 100000) (disch := omega) only [go_sem, V.isAgg, V.flat, ↓reduceIte, Nat.reduceAdd, Nat.reduceSub, Nat.reduceLT, Nat.reduceEqDiff, reduceCtorEq, Nat.reduceLeDiff, Nat.reduceBEq, Nat.reduceMul, Int.reduceToNat, ga, e1, e2, e3]; rfl) (by first | exact dB | (repeat' first | exact trivial | exact dB | constructor)) (by rfl) (by rfl) (by rfl) ?_
        rcases k with _ | k
        · refine Holds.step (Px := px) (T := TT) (ρ := fun _ => []) TTe (by simp (maxSteps := 100000) (disch := omega) only [go_sem, V.isAgg, V.flat, ↓reduceIte, Nat.reduceAdd, Nat.reduceSub, Nat.reduceLT, Nat.reduceEqDiff, reduceCtorEq, Nat.reduceLeDiff, Nat.reduceBEq, Nat.reduceMul, Int.reduceToNat, e4, e4', mnA, mnB]; rfl) (by repeat' first | exact trivial | constructor) ?_
          refine Holds.region (Px := px) (T := TT) (ρ := fun _ => []) TTe (by simp (maxSteps := 100000) (disch := omega) only [go_sem, V.isAgg, V.flat, ↓reduceIte, Nat.reduceAdd, Nat.reduceSub, Nat.reduceLT, Nat.reduceEqDiff, reduceCtorEq, Nat.reduceLeDiff, Nat.reduceBEq, Nat.reduceMul, Int.reduceToNat, e5, e5', e6]; rfl) (by repeat' first | exact trivial | constructor) ?_
          intro x w h
          have := Rel.ren (s := 31) (s' := 300) (Rel.keep [8, 7, 6, 0, 1] [31] h) (by decide) rfl rfl
          rw [mnB, if_neg (by omega), hWs, W0, mnA, if_neg (by omega)]
          exact this
        · rw [mnA_s, mnB_s]
          refine Holds.step (Px := px) (T := TT) (ρ := fun _ => []) TTe (by simp (maxSteps := 100000) (disch := omega) only [go_sem, V.isAgg, V.flat, ↓reduceIte, Nat.reduceAdd, Nat.reduceSub, Nat.reduceLT, Nat.reduceEqDiff, reduceCtorEq, Nat.reduceLeDiff, Nat.reduceBEq, Nat.reduceMul, Int.reduceToNat, e4, e4', hWl]; rfl) (by repeat' first | exact trivial | constructor) ?_
          refine Holds.region (Px := px) (T := TT) (ρ := fun _ => []) TTe (by simp (maxSteps := 100000) (disch := omega) only [go_sem, V.isAgg, V.flat, ↓reduceIte, Nat.reduceAdd, Nat.reduceSub, Nat.reduceLT, Nat.reduceEqDiff, reduceCtorEq, Nat.reduceLeDiff, Nat.reduceBEq, Nat.reduceMul, Int.reduceToNat, e5, e5', e6]; rfl) (by repeat' first | exact trivial | constructor) ?_
          intro x w h
          have := Rel.ren (s := 31) (s' := 300) (Rel.keep [8, 7, 6, 0, 1] [31] h) (by decide) rfl rfl
          rw [mnB, if_neg (by omega), hWs, mnA, if_neg (by omega), List.map_append]
          exact this
      · intro σ hσ
        refine Holds.from hσ ?_
        refine Holds.region (Px := px) (T := TT) (ρ := fun _ => []) TTe (by simp (maxSteps := 100000) (disch := omega) only [go_sem, V.isAgg, V.flat, ↓reduceIte, Nat.reduceAdd, Nat.reduceSub, Nat.reduceLT, Nat.reduceEqDiff, reduceCtorEq, Nat.reduceLeDiff, Nat.reduceBEq, Nat.reduceMul, Int.reduceToNat]; rfl) (by repeat' first | exact trivial | constructor) ?_
        exact ⟨k + 1, (by show k + 1 ≤ a.length; omega), (show a.length - (k + 1) < a.length - k by omega), fun x w hr => Rel.less [8, 7, 6, 0, 1] (fun _ => rfl) hr⟩
  · intro σ hσ
    refine Holds.from hσ ?_
    have hWl := Wl a.length
    obtain ⟨b1, hb1⟩ : ∃ b1, b1 = decide (C a.length = 1) := ⟨_, rfl⟩
    rw [mnA, mnB, ← hb1]
    by_cases h0 : a.length = 0
    · rw [if_pos h0, if_pos h0, h0, W0]
      have hbf : b1 = false := by rw [hb1, h0, C0]; rfl
      rw [hbf, C0]
      refine Holds.step (Px := px) (T := TT) (ρ := fun _ => []) TTe (by simp (maxSteps := 100000) (disch := omega) only [go_sem, V.isAgg, V.flat, ↓reduceIte, Nat.reduceAdd, Nat.reduceSub, Nat.reduceLT, Nat.reduceEqDiff, reduceCtorEq, Nat.reduceLeDiff, Nat.reduceBEq, Nat.reduceMul, Int.reduceToNat]; rfl) (by repeat' first | exact trivial | constructor) ?_
      exact Holds.ret ⟨_, [], rfl, ⟨rfl, ⟨rfl, fun h => h⟩, trivial⟩, by simp [R.names, R.mems, R.blks], by simp, rfl⟩
    · rw [if_neg h0, if_neg h0]
      refine Holds.step (Px := px) (T := TT) (ρ := fun _ => []) TTe (by simp (maxSteps := 100000) (disch := omega) only [go_sem, V.isAgg, V.flat, ↓reduceIte, Nat.reduceAdd, Nat.reduceSub, Nat.reduceLT, Nat.reduceEqDiff, reduceCtorEq, Nat.reduceLeDiff, Nat.reduceBEq, Nat.reduceMul, Int.reduceToNat, ← hb1]; rfl) (by repeat' first | exact trivial | constructor) ?_
      exact Holds.ret ⟨_, [], rfl, ⟨⟨rfl, by rw [List.drop_zero, List.take_of_length_le (by rw [List.length_map, hWl]; exact Nat.le_refl _)], fun h => h, rfl⟩, ⟨rfl, fun h => h⟩, trivial⟩, by simp [R.names, R.mems, R.blks], by simp, rfl⟩

theorem rSub_ok (x y : List Int) (hx : x.length < 40000) (hy : y.length < 40000) (ox : okW x) (oy : okW y) (h : val y ≤ val x) : FnOk Tryz.prog 44 [.v (words x), .v (words y)] [.v true (words (digs (val x - val y)))] := by
  have h1 := Digits_ok x (by omega) ox
  have h2 := rTrim_ok y (by omega) oy
  obtain ⟨o2, _, v2⟩ := digs_ok (val y)
  have l2 : (digs (val y)).length ≤ x.length := digs_len (Nat.lt_of_le_of_lt h (val_lt ox))
  have h3 := Digits_ok (digs (val y)) (by omega) o2
  have lx := digL_len x
  have ly := digL_len (digs (val y))
  have h4 := Minus_ok (digL x) (digL (digs (val y))) (by omega) (by omega) (digL_ok ox) (digL_ok o2)
  obtain ⟨m1, m2⟩ := mnW_32 (digL_ok ox) (digL_ok o2) (by omega) (by rw [val_dig ox, val_dig o2, v2]; exact h)
  rw [val_dig ox, val_dig o2, v2] at m2
  have m3 := mnW_len 4294967296 (fun i => (digL x).getD i 0) (fun i => (digL (digs (val y))).getD i 0) (digL x).length
  obtain ⟨W, hW⟩ : ∃ W, W = mnW 4294967296 (fun i => (digL x).getD i 0) (fun i => (digL (digs (val y))).getD i 0) (digL x).length := ⟨_, rfl⟩
  obtain ⟨b, hb⟩ : ∃ b, b = decide (mnC (fun i => (digL x).getD i 0) (fun i => (digL (digs (val y))).getD i 0) (digL x).length = 1) := ⟨_, rfl⟩
  rw [← hW] at m1 m2 m3 h4
  rw [← hb] at h4
  have h5 := nat_ok W (by omega) m1
  rw [m2] at h5
  obtain ⟨D, hD⟩ : ∃ D, D = digs (val y) := ⟨_, rfl⟩
  rw [← hD] at h2 h3 h4
  refine FnOk.of Tryz.func44 rfl rfl fun cx w0 => ?_
  rw [show Tryz.f44.ntmps = 18 from rfl]
  refine Holds.step (Px := px) (T := TT) (ρ := fun _ => []) TTe (by simp (maxSteps := 100000) (disch := omega) only [go_sem, V.isAgg, V.flat, ↓reduceIte, Nat.reduceAdd, Nat.reduceSub, Nat.reduceLT, Nat.reduceEqDiff, reduceCtorEq, Nat.reduceLeDiff, Nat.reduceBEq, Nat.reduceMul, Int.reduceToNat, List.length_cons, List.length_nil]; rfl) (by repeat' first | exact trivial | constructor) ?_
  refine Holds.step (Px := px) (T := TT) (ρ := fun d => if d = 9 then [.v true (words (digL x))] else if d = 11 then [.v true (words D)] else if d = 12 then [.v true (words (digL D))] else [.v true (words W), .v true (.bool b)]) TTe (by simp (maxSteps := 100000) (disch := omega) only [go_sem, V.isAgg, V.flat, ↓reduceIte, Nat.reduceAdd, Nat.reduceSub, Nat.reduceLT, Nat.reduceEqDiff, reduceCtorEq, Nat.reduceLeDiff, Nat.reduceBEq, Nat.reduceMul, Int.reduceToNat]; rfl) (by first | exact ⟨h1, h2, h3, h4⟩ | (repeat' first | exact trivial | exact h1 | exact h2 | exact h3 | exact h4 | constructor)) ?_
  refine Holds.step (Px := px) (T := TT) (ρ := fun _ => [.v true (words (digs (val x - val y)))]) TTe (by simp (maxSteps := 100000) (disch := omega) only [go_sem, V.isAgg, V.flat, ↓reduceIte, Nat.reduceAdd, Nat.reduceSub, Nat.reduceLT, Nat.reduceEqDiff, reduceCtorEq, Nat.reduceLeDiff, Nat.reduceBEq, Nat.reduceMul, Int.reduceToNat]; rfl) (by first | exact h5 | (repeat' first | exact trivial | exact h5 | constructor)) ?_
  exact Holds.ret (RetOk.vs rfl (by exact ⟨⟨rfl, fun h => h⟩, trivial⟩) rfl)

/-- fast.minus. -/
theorem minus_ok (x y : List Int) (hx : x.length < 1000000) (ox : okW x) (oy : okW y) (hl : y.length ≤ x.length) (h : val y ≤ val x) : FnOk Tryz.prog 58 [.v (words x), .v (words y)] [.v true (words (digs (val x - val y)))] := by
  obtain ⟨m1, m2⟩ := mnW_64 ox oy hl h
  obtain ⟨W, hW⟩ : ∃ W, W = mnW 18446744073709551616 (fun i => x.getD i 0) (fun i => y.getD i 0) := ⟨_, rfl⟩
  obtain ⟨C, hC⟩ : ∃ C, C = mnC (fun i => x.getD i 0) (fun i => y.getD i 0) := ⟨_, rfl⟩
  have C01 : ∀ k, C k = 0 ∨ C k = 1 := fun k => by rw [hC]; exact mnC_01 _ _ k
  have C0 : C 0 = 0 := by rw [hC, mnC]
  have Cs : ∀ k, C (k + 1) = if x.getD k 0 < y.getD k 0 + C k then 1 else 0 := fun k => by rw [hC, mnC]
  have Ws : ∀ k, W (k + 1) = W k ++ [(x.getD k 0 - y.getD k 0 - C k) % 18446744073709551616] := fun k => by rw [hW, mnW_succ, hC]; rfl
  have Wl : ∀ k, (W k).length = k := fun k => by rw [hW, mnW_len]
  have W0 : W 0 = [] := List.eq_nil_of_length_eq_zero (Wl 0)
  rw [← hW] at m1 m2
  obtain ⟨N, hN⟩ : ∃ N, N = x.length := ⟨_, rfl⟩
  have hT := Trim_ok (W N) (by rw [Wl]; omega)
  rw [trim_digs (by rw [hN]; exact m1), hN, m2, ← hN] at hT
  refine FnOk.of Tryz.func58 rfl rfl fun cx w0 => ?_
  rw [show Tryz.f58.ntmps = 41 from rfl]
  refine Holds.step (Px := px) (T := TT) (ρ := fun _ => []) TTe (by simp (maxSteps := 100000) (disch := omega) only [go_sem, V.isAgg, V.flat, ↓reduceIte, Nat.reduceAdd, Nat.reduceSub, Nat.reduceLT, Nat.reduceEqDiff, reduceCtorEq, Nat.reduceLeDiff, Nat.reduceBEq, Nat.reduceMul, Int.reduceToNat, List.length_cons, List.length_nil]; rfl) (by repeat' first | exact trivial | constructor) ?_
  refine Holds.step (Px := px) (T := TT) (ρ := fun _ => []) TTe (by simp (maxSteps := 100000) (disch := omega) only [go_sem, V.isAgg, V.flat, ↓reduceIte, Nat.reduceAdd, Nat.reduceSub, Nat.reduceLT, Nat.reduceEqDiff, reduceCtorEq, Nat.reduceLeDiff, Nat.reduceBEq, Nat.reduceMul, Int.reduceToNat]; rfl) (by repeat' first | exact trivial | constructor) ?_
  refine Holds.step (Px := px) (T := TT) (ρ := fun _ => []) TTe (by simp (maxSteps := 100000) (disch := omega) only [go_sem, V.isAgg, V.flat, ↓reduceIte, Nat.reduceAdd, Nat.reduceSub, Nat.reduceLT, Nat.reduceEqDiff, reduceCtorEq, Nat.reduceLeDiff, Nat.reduceBEq, Nat.reduceMul, Int.reduceToNat]; rfl) (by repeat' first | exact trivial | constructor) ?_
  refine Holds.next (fun σ => ∀ a w, Rel cx w0 σ a w → Rel cx w0 { nt := 41, env := [(5, .own 300 0 N)], mem := [(300, .buf 52 1 true ((W N).map fun n => .int .u64 n))] } a w) ?_ ?_
  · refine Holds.step (Px := px) (T := TT) (ρ := fun _ => []) TTe (by simp (maxSteps := 100000) (disch := omega) only [go_sem, V.isAgg, V.flat, ↓reduceIte, Nat.reduceAdd, Nat.reduceSub, Nat.reduceLT, Nat.reduceEqDiff, reduceCtorEq, Nat.reduceLeDiff, Nat.reduceBEq, Nat.reduceMul, Int.reduceToNat]; rfl) (by repeat' first | exact trivial | constructor) ?_
    refine Holds.loopB (fun k : Nat => { nt := 41, env := [(15, .v true (.int .i64 k)), (14, .v true (.int .i64 N)), (13, .v false (words x)), (6, .v true (.int .u64 (C k))), (5, .own 300 0 N), (1, .v false (words y))], mem := [(300, .buf 52 1 true ((W k ++ List.replicate (N - k) 0).map fun n => .int .u64 n))] }) (fun k => k ≤ N) (fun k => N - k) 0 (Nat.zero_le _) (fun a w hr => by
      have := Rel.ren (s := 12) (s' := 300) (Rel.keep [15, 14, 13, 6, 5, 1] [12] hr) (by decide) rfl rfl
      rw [C0, W0, List.nil_append, Nat.sub_zero, List.map_replicate, hN]
      exact this) ?_
    intro k hk
    by_cases hend : k = N
    · refine Holds.step (Px := px) (T := TT) (ρ := fun _ => []) TTe (by simp (maxSteps := 100000) (disch := omega) only [go_sem, V.isAgg, V.flat, ↓reduceIte, Nat.reduceAdd, Nat.reduceSub, Nat.reduceLT, Nat.reduceEqDiff, reduceCtorEq, Nat.reduceLeDiff, Nat.reduceBEq, Nat.reduceMul, Int.reduceToNat]; rfl) (by repeat' first | exact trivial | constructor) ?_
      refine Holds.seq ?_
      refine Holds.condF rfl (Holds.exit ⟨rfl, fun a w hr => ?_⟩)
      have := Rel.keep [5] [300] hr
      rw [hend, Nat.sub_self, List.replicate_zero, List.append_nil] at this
      exact this
    · have hkx : k < x.length := by omega
      have gx := get_map hkx
      have hp0 := okW_getD ox k
      have hq0 := okW_getD oy k
      have hc := C01 k
      have hCs := Cs k
      have hWs := Ws k
      have hWl := Wl k
      have hgy : k < y.length → (y.map fun n => V.int .u64 n)[k]? = some (V.int .u64 (y.getD k 0)) := fun h => by
        rw [List.getElem?_map, List.getElem?_eq_getElem h, List.getD_eq_getElem?_getD, List.getElem?_eq_getElem h]; rfl
      have hgy0 : ¬ k < y.length → y.getD k 0 = 0 := fun h => by rw [List.getD_eq_getElem?_getD, List.getElem?_eq_none (by omega)]; rfl
      have hLl : (W k ++ List.replicate (N - k) 0).length = N := by rw [List.length_append, List.length_replicate, hWl]; omega
      have hkL : k < (W k ++ List.replicate (N - k) 0).length := by omega
      have eset : (W k ++ List.replicate (N - k) 0).set k ((x.getD k 0 - y.getD k 0 - C k) % 18446744073709551616) = W (k + 1) ++ List.replicate (N - (k + 1)) 0 := by
        rw [hWs, List.set_append_right _ _ (by omega), hWl, Nat.sub_self, show N - k = N - (k + 1) + 1 from by omega, List.replicate_succ, List.set_cons_zero, List.append_assoc]
        rfl
      obtain ⟨L, hL⟩ : ∃ L, L = W k ++ List.replicate (N - k) 0 := ⟨_, rfl⟩
      rw [← hL] at hLl hkL eset ⊢
      have gL := get_map hkL
      obtain ⟨p, hp⟩ : ∃ p, p = x.getD k 0 := ⟨_, rfl⟩
      obtain ⟨q, hq⟩ : ∃ q, q = y.getD k 0 := ⟨_, rfl⟩
      obtain ⟨c, hcc⟩ : ∃ c, c = C k := ⟨_, rfl⟩
      rw [← hp] at gx hp0 hCs eset
      rw [← hq] at hq0 hCs eset hgy hgy0
      rw [← hcc] at hc hCs eset ⊢
      have hS := sub64_ok p q c hp0.1 hp0.2 hq0.1 hq0.2 (by omega) (by omega)
      rw [← hCs] at hS
      obtain ⟨r, hr⟩ : ∃ r, r = (p - q - c) % 18446744073709551616 := ⟨_, rfl⟩
      rw [← hr] at hS eset
      refine Holds.step (Px := px) (T := TT) (ρ := fun _ => []) TTe (by simp (maxSteps := 100000) (disch := omega) only [go_sem, V.isAgg, V.flat, ↓reduceIte, Nat.reduceAdd, Nat.reduceSub, Nat.reduceLT, Nat.reduceEqDiff, reduceCtorEq, Nat.reduceLeDiff, Nat.reduceBEq, Nat.reduceMul, Int.reduceToNat]; rfl) (by repeat' first | exact trivial | constructor) ?_
      refine Holds.seq ?_
      refine Holds.condT rfl (Holds.skip ?_)
      refine Holds.next (fun σ => ∀ a w, Rel cx w0 σ a w → Rel cx w0 { nt := 41, env := [(15, .v true (.int .i64 k)), (14, .v true (.int .i64 N)), (13, .v false (words x)), (6, .v true (.int .u64 (C (k + 1)))), (5, .own 300 0 N), (1, .v false (words y))], mem := [(300, .buf 52 1 true ((L.set k r).map fun n => .int .u64 n))] } a w) ?_ ?_
      · refine Holds.blockN ?_
        refine Holds.step (Px := px) (T := TT) (ρ := fun _ => []) TTe (by simp (maxSteps := 100000) (disch := omega) only [go_sem, V.isAgg, V.flat, ↓reduceIte, Nat.reduceAdd, Nat.reduceSub, Nat.reduceLT, Nat.reduceEqDiff, reduceCtorEq, Nat.reduceLeDiff, Nat.reduceBEq, Nat.reduceMul, Int.reduceToNat, gx]; rfl) (by repeat' first | exact trivial | constructor) ?_
        refine Holds.step (Px := px) (T := TT) (ρ := fun _ => []) TTe (by simp (maxSteps := 100000) (disch := omega) only [go_sem, V.isAgg, V.flat, ↓reduceIte, Nat.reduceAdd, Nat.reduceSub, Nat.reduceLT, Nat.reduceEqDiff, reduceCtorEq, Nat.reduceLeDiff, Nat.reduceBEq, Nat.reduceMul, Int.reduceToNat]; rfl) (by repeat' first | exact trivial | constructor) ?_
        refine Holds.next (fun σ => ∀ a w, Rel cx w0 σ a w → Rel cx w0 { nt := 41, env := [(9, .v true (.int .u64 q)), (8, .v true (.int .u64 p)), (7, .v true (.int .i64 k)), (15, .v true (.int .i64 k)), (14, .v true (.int .i64 N)), (13, .v false (words x)), (6, .v true (.int .u64 c)), (5, .own 300 0 N), (1, .v false (words y))], mem := [(300, .buf 52 1 true (L.map fun n => .int .u64 n))] } a w) ?_ ?_
        · by_cases hky : k < y.length
          · have gy := hgy hky
            refine Holds.step (Px := px) (T := TT) (ρ := fun _ => []) TTe (by simp (maxSteps := 100000) (disch := omega) only [go_sem, V.isAgg, V.flat, ↓reduceIte, Nat.reduceAdd, Nat.reduceSub, Nat.reduceLT, Nat.reduceEqDiff, reduceCtorEq, Nat.reduceLeDiff, Nat.reduceBEq, Nat.reduceMul, Int.reduceToNat, hky]; rfl) (by repeat' first | exact trivial | constructor) ?_
            refine Holds.condT rfl ?_
            refine Holds.region (Px := px) (T := TT) (ρ := fun _ => []) TTe (by simp (maxSteps := 100000) (disch := omega) only [go_sem, V.isAgg, V.flat, ↓reduceIte, Nat.reduceAdd, Nat.reduceSub, Nat.reduceLT, Nat.reduceEqDiff, reduceCtorEq, Nat.reduceLeDiff, Nat.reduceBEq, Nat.reduceMul, Int.reduceToNat, gy, hky]; rfl) (by repeat' first | exact trivial | constructor) ?_
            exact fun a w h => Rel.keep [9, 8, 7, 15, 14, 13, 6, 5, 1] [300] h
          · refine Holds.step (Px := px) (T := TT) (ρ := fun _ => []) TTe (by simp (maxSteps := 100000) (disch := omega) only [go_sem, V.isAgg, V.flat, ↓reduceIte, Nat.reduceAdd, Nat.reduceSub, Nat.reduceLT, Nat.reduceEqDiff, reduceCtorEq, Nat.reduceLeDiff, Nat.reduceBEq, Nat.reduceMul, Int.reduceToNat, hky]; rfl) (by repeat' first | exact trivial | constructor) ?_
            rw [hgy0 hky]
            exact Holds.condF rfl (Holds.skip fun a w h => Rel.keep [9, 8, 7, 15, 14, 13, 6, 5, 1] [300] h)
        · intro σ hσ
          refine Holds.from hσ ?_
          refine Holds.region (Px := px) (T := TT) (ρ := fun _ => [.v true (.int .u64 r), .v true (.int .u64 (C (k + 1)))]) TTe (by simp (maxSteps := 100000) (disch := omega) only [go_sem, V.isAgg, V.flat, ↓reduceIte, Nat.reduceAdd, Nat.reduceSub, Nat.reduceLT, Nat.reduceEqDiff, reduceCtorEq, Nat.reduceLeDiff, Nat.reduceBEq, Nat.reduceMul, Int.reduceToNat, gL, hLl]; rfl) (by first | exact hS | (repeat' first | exact trivial | exact hS | constructor)) ?_
          intro a w h
          have := Rel.keep [15, 14, 13, 6, 5, 1] [300] h
          rw [List.map_set]
          exact this
      · intro σ hσ
        refine Holds.from hσ ?_
        refine Holds.region (Px := px) (T := TT) (ρ := fun _ => []) TTe (by simp (maxSteps := 100000) (disch := omega) only [go_sem, V.isAgg, V.flat, ↓reduceIte, Nat.reduceAdd, Nat.reduceSub, Nat.reduceLT, Nat.reduceEqDiff, reduceCtorEq, Nat.reduceLeDiff, Nat.reduceBEq, Nat.reduceMul, Int.reduceToNat]; rfl) (by repeat' first | exact trivial | constructor) ?_
        refine ⟨k + 1, (by show k + 1 ≤ N; omega), (show N - (k + 1) < N - k by omega), fun a w hr => ?_⟩
        have := Rel.keep [15, 14, 13, 6, 5, 1] [300] hr
        rw [eset] at this
        exact this
  · intro σ hσ
    refine Holds.from hσ ?_
    have hWl := Wl N
    have htk : List.take N (List.map (fun n => V.int .u64 n) (W N)) = List.map (fun n => V.int .u64 n) (W N) := List.take_of_length_le (by rw [List.length_map]; omega)
    refine Holds.step (Px := px) (T := TT) (ρ := fun _ => [.v true (words (digs (val x - val y)))]) TTe (by simp (maxSteps := 100000) (disch := omega) only [go_sem, V.isAgg, V.flat, ↓reduceIte, Nat.reduceAdd, Nat.reduceSub, Nat.reduceLT, Nat.reduceEqDiff, reduceCtorEq, Nat.reduceLeDiff, Nat.reduceBEq, Nat.reduceMul, Int.reduceToNat, htk]; rfl) (by first | exact hT | (repeat' first | exact trivial | exact hT | constructor)) ?_
    exact Holds.ret (RetOk.vs rfl (by exact ⟨⟨rfl, fun h => h⟩, trivial⟩) rfl)
end Go.Proofs.YtjmclobbfabnpaaGreat.L
