/-
  Pa Pb
-/
import Derived.Test.YtjmclobbfabnpaaGreatH9
import Derived.Test.YtjmclobbfabnpaaGreatH1
set_option linter.unusedSimpArgs false
set_option linter.unusedVariables false
/-
  reckonerref01: Digits, Short, Row.
-/
namespace Go.Proofs.YtjmclobbfabnpaaGreat.L
open Go Go.RowKit Go.Proofs
attribute [local go_sem] evalOps_nil evalOps_cons runW_t runW_f runE_s runP_s wantA evalOp effOp letters okDst coreA St.opv St.get St.at look constA St.put St.upd St.set decide_true List.all_nil List.all_cons Bool.and_true Bool.true_and and_self and_true true_and if_true if_false true_or Int.sub_zero List.nil_append List.cons_append List.append_nil Option.isSome_some List.getElem?_toArray List.getElem?_cons_succ List.getElem?_cons_zero Option.bind_some Option.map_some Option.map_none beq_self_eq_true Bool.false_beq Bool.true_beq Bool.not_true Bool.not_false Bool.false_eq_true cond_true cond_false binA binI List.map_cons List.map_nil boundA List.length_nil List.length_cons Nat.zero_mul Nat.one_mul Nat.mul_one Nat.zero_add Nat.add_zero Nat.zero_le Option.toList St.freshB AV.ment AV.ments Blk.ment V.sizes Nat.lt_add_one Bool.or_true Bool.true_or Bool.or_false Bool.false_or Bool.or_self if_pos if_neg decide_false decide_eq_true decide_eq_false wrap_i64 Int.toNat_natCast minA maxA Int.natCast_add Int.cast_ofNat_Int Option.isSome_none false_implies true_implies forall_const List.drop_zero Int.toNat_zero Int.add_sub_cancel lenA sliceA loadA indexAddrA partA fitsT V.atP V.offP V.size List.length_map List.getElem?_map Int.toNat_natCast_add_one Int.ofNat_eq_natCast TY calleeA capArg knotA capArgs toArgs toArg callA R.res R.mems R.blks R.av R.names R.nw invokeA storeA storeV fieldAddrA liveB V.off V.offs V.setP List.set_cons_zero List.set_cons_succ buildA buildP partsA appendA srcA copyA boxOk makeA AV.pure List.take_succ_cons List.take_zero nilA words entry List.zipIdx_cons List.zipIdx_nil Arg.av Arg.avs

/-- The halves of words, the lower one first. -/
def digL : List Int → List Int
  | [] => []
  | n :: r => n % 4294967296 :: n / 4294967296 :: digL r
def okH (l : List Int) : Prop := ∀ n ∈ l, 0 ≤ n ∧ n < 4294967296
theorem digL_len : ∀ l : List Int, (digL l).length = 2 * l.length
  | [] => rfl
  | _ :: r => by rw [digL, List.length_cons, List.length_cons, digL_len r, List.length_cons]; omega
theorem digL_append : ∀ l m : List Int, digL (l ++ m) = digL l ++ digL m
  | [], _ => rfl
  | n :: r, m => by rw [List.cons_append, digL, digL, digL_append r m]; rfl
theorem digL_ok : ∀ {l : List Int}, okW l → okH (digL l)
  | [], _ => fun n h => by cases h
  | x :: r, h => fun n hn => by
    obtain ⟨h1, h2⟩ := okW_cons h
    rw [digL] at hn
    rcases List.mem_cons.1 hn with rfl | hn
    · omega
    · rcases List.mem_cons.1 hn with rfl | hn
      · omega
      · exact digL_ok h2 n hn
theorem okH_okW {l : List Int} (h : okH l) : okW l := fun n hn => by have := h n hn; omega

def dgA (k : Nat) : AV := if k = 0 then .nil else .own 300 0 (2 * k)
def dgB (x : List Int) (k : Nat) : List (Nat × Blk) := if k = 0 then [] else [(300, .buf 52 1 true ((digL (x.take k)).map fun n => .int .u64 n))]
theorem dgA_s (k : Nat) : dgA (k + 1) = .own 300 0 (2 * (k + 1)) := if_neg (by omega)
theorem dgB_s (x : List Int) (k : Nat) : dgB x (k + 1) = [(300, .buf 52 1 true ((digL (x.take (k + 1))).map fun n => .int .u64 n))] := if_neg (by omega)
def dgS (x : List Int) (k : Nat) : St := { nt := 25, env := [(4, .v true (.int .i64 k)), (3, dgA k), (0, .v false (words x))], mem := dgB x k }

theorem Digits_ok (x : List Int) (hx : x.length < 1000000) (ox : okW x) : FnOk Tryz.prog 55 [.v (words x)] [.v true (words (digL x))] := by
  refine FnOk.of Tryz.func55 rfl rfl fun cx w0 => ?_
  rw [show Tryz.f55.ntmps = 25 from rfl]
  refine Holds.step (Px := px) (T := TT) (ρ := fun _ => []) TTe (by simp (maxSteps := 100000) (disch := omega) only [go_sem, V.isAgg, V.flat, ↓reduceIte, Nat.reduceAdd, Nat.reduceSub, Nat.reduceLT, Nat.reduceEqDiff, reduceCtorEq, Nat.reduceLeDiff, Nat.reduceBEq, Nat.reduceMul, Int.reduceToNat, List.length_cons, List.length_nil]; rfl) (by repeat' first | exact trivial | constructor) ?_
  refine Holds.step (Px := px) (T := TT) (ρ := fun _ => []) TTe (by simp (maxSteps := 100000) (disch := omega) only [go_sem, V.isAgg, V.flat, ↓reduceIte, Nat.reduceAdd, Nat.reduceSub, Nat.reduceLT, Nat.reduceEqDiff, reduceCtorEq, Nat.reduceLeDiff, Nat.reduceBEq, Nat.reduceMul, Int.reduceToNat]; rfl) (by repeat' first | exact trivial | constructor) ?_
  refine Holds.next (fun σ => ∀ a w, Rel cx w0 σ a w → Rel cx w0 { nt := 25, env := [(3, dgA x.length)], mem := dgB x x.length } a w) ?_ ?_
  · refine Holds.step (Px := px) (T := TT) (ρ := fun _ => []) TTe (by simp (maxSteps := 100000) (disch := omega) only [go_sem, V.isAgg, V.flat, ↓reduceIte, Nat.reduceAdd, Nat.reduceSub, Nat.reduceLT, Nat.reduceEqDiff, reduceCtorEq, Nat.reduceLeDiff, Nat.reduceBEq, Nat.reduceMul, Int.reduceToNat]; rfl) (by repeat' first | exact trivial | constructor) ?_
    refine Holds.loopB (fun k => dgS x k) (fun k => k ≤ x.length) (fun k => x.length - k) 0 (Nat.zero_le _) (fun a w h => Rel.keep [4, 3, 0] [] h) ?_
    intro k hk
    by_cases hend : k = x.length
    · refine Holds.seq ?_
      rw [hend, dgS]
      refine Holds.step (Px := px) (T := TT) (ρ := fun _ => []) TTe (by simp (maxSteps := 100000) (disch := omega) only [go_sem, V.isAgg, V.flat, ↓reduceIte, Nat.reduceAdd, Nat.reduceSub, Nat.reduceLT, Nat.reduceEqDiff, reduceCtorEq, Nat.reduceLeDiff, Nat.reduceBEq, Nat.reduceMul, Int.reduceToNat]; rfl) (by repeat' first | exact trivial | constructor) ?_
      refine Holds.condF rfl (Holds.exit ⟨rfl, fun a w h => Rel.less [3] (fun _ => rfl) h⟩)
    · have hkl : k < x.length := by omega
      have hw := okW_getD ox k
      have hlt : (digL (x.take k)).length = 2 * k := by rw [digL_len, List.length_take]; omega
      have htk : x.take (k + 1) = x.take k ++ [x.getD k 0] := by
        rw [List.take_add_one, List.getElem?_eq_getElem hkl, List.getD_eq_getElem?_getD, List.getElem?_eq_getElem hkl]; rfl
      have hm : (x.getD k 0).tmod 4294967296 = x.getD k 0 % 4294967296 := Int.tmod_eq_emod_of_nonneg hw.1
      have hd : (x.getD k 0).tdiv 4294967296 = x.getD k 0 / 4294967296 := Int.tdiv_eq_ediv_of_nonneg hw.1
      have hdw : IntKind.u64.wrap (x.getD k 0 / 4294967296) = x.getD k 0 / 4294967296 := by rw [wrap_u64]; omega
      refine Holds.seq ?_
      rw [dgS]
      refine Holds.step (Px := px) (T := TT) (ρ := fun _ => []) TTe (by simp (maxSteps := 100000) (disch := omega) only [go_sem, V.isAgg, V.flat, ↓reduceIte, Nat.reduceAdd, Nat.reduceSub, Nat.reduceLT, Nat.reduceEqDiff, reduceCtorEq, Nat.reduceLeDiff, Nat.reduceBEq, Nat.reduceMul, Int.reduceToNat]; rfl) (by repeat' first | exact trivial | constructor) ?_
      refine Holds.condT rfl (Holds.skip ?_)
      refine Holds.next (fun σ => ∀ a w, Rel cx w0 σ a w → Rel cx w0 { nt := 25, env := [(4, .v true (.int .i64 k)), (3, dgA (k + 1)), (0, .v false (words x))], mem := dgB x (k + 1) } a w) ?_ ?_
      · refine Holds.blockN ?_
        rcases k with _ | k
        · refine Holds.dregionT (Px := px) (T := TT) (ρ := fun _ => []) [(3, 12), (4, 12), (8, 12), (9, 12)] mixed (by kernel_rfl) TTe (by simp (maxSteps := 100000) (disch := omega) only [go_sem, V.isAgg, V.flat, ↓reduceIte, Nat.reduceAdd, Nat.reduceSub, Nat.reduceLT, Nat.reduceEqDiff, reduceCtorEq, Nat.reduceLeDiff, Nat.reduceBEq, Nat.reduceMul, Int.reduceToNat, dgA, dgB, get_map hkl, hm, hd, hdw]; rfl) (by repeat' first | exact trivial | constructor) (by rfl) (by rfl) (by simp (maxSteps := 100000) (disch := omega) only [trc_nil, trc_cons, effW_t, effW_f, trcE_s, opSites_eq, sitesOf, AV.sites, AV.sitesL, Op.operands, Call.operands, List.append_toArray, List.toList_toArray, List.filter_nil, List.filter_cons, List.contains_cons, List.contains_nil, go_sem, V.isAgg, V.flat, ↓reduceIte, Nat.reduceAdd, Nat.reduceSub, Nat.reduceLT, Nat.reduceEqDiff, reduceCtorEq, Nat.reduceLeDiff, Nat.reduceBEq, Nat.reduceMul, Int.reduceToNat, dgA, dgB, get_map hkl, hm, hd, hdw]; rfl) (by rfl) ?_
          intro a w h
          have := Rel.ren (s := 23) (s' := 300) (Rel.keep [4, 3, 0] [23] h) (by decide) rfl rfl
          rw [dgB, if_neg (by omega), htk, dgA, if_neg (by omega)]
          exact this
        · rw [dgA_s, dgB_s]
          refine Holds.dregionT (Px := px) (T := TT) (ρ := fun _ => []) [(3, 12), (4, 12), (8, 12), (9, 12)] mixed (by kernel_rfl) TTe (by simp (maxSteps := 100000) (disch := omega) only [go_sem, V.isAgg, V.flat, ↓reduceIte, Nat.reduceAdd, Nat.reduceSub, Nat.reduceLT, Nat.reduceEqDiff, reduceCtorEq, Nat.reduceLeDiff, Nat.reduceBEq, Nat.reduceMul, Int.reduceToNat, get_map hkl, hm, hd, hdw, hlt]; rfl) (by repeat' first | exact trivial | constructor) (by rfl) (by rfl) (by simp (maxSteps := 100000) (disch := omega) only [trc_nil, trc_cons, effW_t, effW_f, trcE_s, opSites_eq, sitesOf, AV.sites, AV.sitesL, Op.operands, Call.operands, List.append_toArray, List.toList_toArray, List.filter_nil, List.filter_cons, List.contains_cons, List.contains_nil, go_sem, V.isAgg, V.flat, ↓reduceIte, Nat.reduceAdd, Nat.reduceSub, Nat.reduceLT, Nat.reduceEqDiff, reduceCtorEq, Nat.reduceLeDiff, Nat.reduceBEq, Nat.reduceMul, Int.reduceToNat, get_map hkl, hm, hd, hdw, hlt]; rfl) (by rfl) ?_
          intro a w h
          have := Rel.ren (s := 23) (s' := 300) (Rel.keep [4, 3, 0] [23] h) (by decide) rfl rfl
          rw [dgB, if_neg (by omega), htk, dgA, if_neg (by omega), digL_append, List.map_append]
          exact this
      · intro σ hσ
        refine Holds.from hσ ?_
        refine Holds.region (Px := px) (T := TT) (ρ := fun _ => []) TTe (by simp (maxSteps := 100000) (disch := omega) only [go_sem, V.isAgg, V.flat, ↓reduceIte, Nat.reduceAdd, Nat.reduceSub, Nat.reduceLT, Nat.reduceEqDiff, reduceCtorEq, Nat.reduceLeDiff, Nat.reduceBEq, Nat.reduceMul, Int.reduceToNat]; rfl) (by repeat' first | exact trivial | constructor) ?_
        exact ⟨k + 1, (by show k + 1 ≤ x.length; omega), (show x.length - (k + 1) < x.length - k by omega), fun a w h => Rel.less [4, 3, 0] (fun _ => rfl) h⟩
  · intro σ hσ
    refine Holds.from hσ ?_
    have hl := digL_len x
    rw [dgA, dgB, List.take_length]
    by_cases h0 : x.length = 0
    · rw [if_pos h0, if_pos h0]
      have : x = [] := List.eq_nil_of_length_eq_zero h0
      subst this
      refine Holds.step (Px := px) (T := TT) (ρ := fun _ => []) TTe (by simp (maxSteps := 100000) (disch := omega) only [go_sem, V.isAgg, V.flat, ↓reduceIte, Nat.reduceAdd, Nat.reduceSub, Nat.reduceLT, Nat.reduceEqDiff, reduceCtorEq, Nat.reduceLeDiff, Nat.reduceBEq, Nat.reduceMul, Int.reduceToNat]; rfl) (by repeat' first | exact trivial | constructor) ?_
      exact Holds.ret ⟨_, [], rfl, ⟨rfl, trivial⟩, by simp [R.names, R.mems, R.blks], by simp, rfl⟩
    · rw [if_neg h0, if_neg h0]
      refine Holds.step (Px := px) (T := TT) (ρ := fun _ => []) TTe (by simp (maxSteps := 100000) (disch := omega) only [go_sem, V.isAgg, V.flat, ↓reduceIte, Nat.reduceAdd, Nat.reduceSub, Nat.reduceLT, Nat.reduceEqDiff, reduceCtorEq, Nat.reduceLeDiff, Nat.reduceBEq, Nat.reduceMul, Int.reduceToNat]; rfl) (by repeat' first | exact trivial | constructor) ?_
      exact Holds.ret ⟨_, [], rfl, ⟨⟨rfl, by rw [List.drop_zero, List.take_of_length_le (by rw [List.length_map, hl]; exact Nat.le_refl _)], fun h => h, rfl⟩, trivial⟩, by simp [R.names, R.mems, R.blks], by simp, rfl⟩

theorem Short_ok (l : List Int) (hl : l.length < 1000000000) : FnOk Tryz.prog 74 [.v (words l)] [.v false (words (trimL l))] := by
  refine FnOk.of Tryz.func74 rfl rfl fun cx w0 => ?_
  rw [show Tryz.f74.ntmps = 21 from rfl]
  refine Holds.step (Px := px) (T := TT) (ρ := fun _ => []) TTe (by simp (maxSteps := 100000) (disch := omega) only [go_sem, V.isAgg, V.flat, ↓reduceIte, Nat.reduceAdd, Nat.reduceSub, Nat.reduceLT, Nat.reduceEqDiff, reduceCtorEq, Nat.reduceLeDiff, Nat.reduceBEq, Nat.reduceMul, Int.reduceToNat, List.length_cons, List.length_nil]; rfl) (by repeat' first | exact trivial | constructor) ?_
  refine Holds.step (Px := px) (T := TT) (ρ := fun _ => []) TTe (by simp (maxSteps := 100000) (disch := omega) only [go_sem, V.isAgg, V.flat, ↓reduceIte, Nat.reduceAdd, Nat.reduceSub, Nat.reduceLT, Nat.reduceEqDiff, reduceCtorEq, Nat.reduceLeDiff, Nat.reduceBEq, Nat.reduceMul, Int.reduceToNat]; rfl) (by repeat' first | exact trivial | constructor) ?_
  refine Holds.next (fun σ => ∃ env, σ = { nt := 21, env, mem := [] } ∧ look env 3 = .v true (.int .i64 (trimW l l.length : Nat)) ∧ look env 0 = .v false (.sl 1 (l.map fun n => .int .u64 n)))
    (Holds.loopB (fun n : Nat => { nt := 21, env := [(3, .v true (.int .i64 (n : Int))), (0, .v false (.sl 1 (l.map fun n => .int .u64 n)))], mem := [] }) (fun n => n ≤ l.length ∧ trimW l n = trimW l l.length) id l.length ⟨Nat.le_refl _, rfl⟩ (fun a w h => Rel.keep [3, 0] [] h) ?_) ?_
  · rintro n ⟨hn, ht⟩
    rcases n with _ | n
    · refine Holds.seq ?_
      refine Holds.step (Px := px) (T := TT) (ρ := fun _ => []) TTe (by simp (maxSteps := 100000) (disch := omega) only [go_sem, V.isAgg, V.flat, ↓reduceIte, Nat.reduceAdd, Nat.reduceSub, Nat.reduceLT, Nat.reduceEqDiff, reduceCtorEq, Nat.reduceLeDiff, Nat.reduceBEq, Nat.reduceMul, Int.reduceToNat]; rfl) (by repeat' first | exact trivial | constructor) ?_
      refine Holds.condF rfl (Holds.exit ⟨rfl, _, rfl, ?_, rfl⟩)
      rw [← ht]; rfl
    · have hlt : n < l.length := by omega
      have e1 : l[n]? = some (l.getD n 0) := by rw [List.getD_eq_getElem?_getD, List.getElem?_eq_getElem hlt]; rfl
      refine Holds.seq ?_
      refine Holds.step (Px := px) (T := TT) (ρ := fun _ => []) TTe (by simp (maxSteps := 100000) (disch := omega) only [go_sem, V.isAgg, V.flat, ↓reduceIte, Nat.reduceAdd, Nat.reduceSub, Nat.reduceLT, Nat.reduceEqDiff, reduceCtorEq, Nat.reduceLeDiff, Nat.reduceBEq, Nat.reduceMul, Int.reduceToNat, e1]; rfl) (by repeat' first | exact trivial | constructor) ?_
      by_cases h0 : l.getD n 0 = 0
      · refine Holds.condT (nw := true) (by rw [h0]; rfl) (Holds.skip ?_)
        refine Holds.block ?_
        refine Holds.region (Px := px) (T := TT) (ρ := fun _ => []) TTe (by simp (maxSteps := 100000) (disch := omega) only [go_sem, V.isAgg, V.flat, ↓reduceIte, Nat.reduceAdd, Nat.reduceSub, Nat.reduceLT, Nat.reduceEqDiff, reduceCtorEq, Nat.reduceLeDiff, Nat.reduceBEq, Nat.reduceMul, Int.reduceToNat]; rfl) (by repeat' first | exact trivial | constructor) ?_
        refine ⟨n, ⟨by omega, ?_⟩, by simp, fun a w h => Rel.keep [3, 0] [] h⟩
        rw [← ht, trimW, if_pos h0]
      · refine Holds.condF (nw := true) (by rw [decide_eq_false h0]; rfl) (Holds.exit ⟨rfl, _, rfl, ?_, rfl⟩)
        rw [← ht, trimW, if_neg h0]
        rfl
  · rintro σ ⟨env, rfl, e3, e0⟩
    have hle := trimW_le l l.length
    refine Holds.step (Px := px) (T := TT) (ρ := fun _ => []) TTe (by simp (maxSteps := 100000) (disch := omega) only [go_sem, V.isAgg, V.flat, ↓reduceIte, Nat.reduceAdd, Nat.reduceSub, Nat.reduceLT, Nat.reduceEqDiff, reduceCtorEq, Nat.reduceLeDiff, Nat.reduceBEq, Nat.reduceMul, Int.reduceToNat, e3, e0]; rfl) (by repeat' first | exact trivial | constructor) ?_
    refine Holds.ret ⟨_, [], rfl, ⟨⟨?_, by simp⟩, trivial⟩, by simp [R.names, R.mems, R.blks], by simp, rfl⟩
    rw [words, trimL, List.map_take]

theorem take_succ {x : List Int} {k : Nat} (h : k < x.length) : x.take (k + 1) = x.take k ++ [x.getD k 0] := by
  rw [List.take_add_one, List.getElem?_eq_getElem h, List.getD_eq_getElem?_getD, List.getElem?_eq_getElem h]; rfl
/-- Words of halves, two by two. -/
def rowOf : List Int → List Int
  | a :: b :: r => (a + b * 4294967296) :: rowOf r
  | _ => []
theorem rowOf_len : ∀ l : List Int, (rowOf l).length = l.length / 2
  | [] => by simp [rowOf]
  | [_] => by simp [rowOf]
  | a :: b :: r => by rw [rowOf, List.length_cons, rowOf_len r, List.length_cons, List.length_cons]; omega
theorem rowOf_append : ∀ (l : List Int) (a b : Int), l.length % 2 = 0 → rowOf (l ++ [a, b]) = rowOf l ++ [a + b * 4294967296]
  | [], a, b, _ => rfl
  | [_], _, _, h => by simp at h
  | x :: y :: r, a, b, h => by
    rw [List.cons_append, List.cons_append, rowOf, rowOf, rowOf_append r a b (by simp at h; omega)]; rfl
theorem rowOf_odd : ∀ (l : List Int) (a : Int), l.length % 2 = 0 → rowOf (l ++ [a]) = rowOf l
  | [], _, _ => rfl
  | [_], _, h => by simp at h
  | x :: y :: r, a, h => by
    rw [List.cons_append, List.cons_append, rowOf, rowOf, rowOf_odd r a (by simp at h; omega)]
theorem rowOf_ok : ∀ {l : List Int}, okH l → okW (rowOf l)
  | [], _ => fun n h => by cases h
  | [_], _ => fun n h => by cases h
  | x :: y :: r, h => fun n hn => by
    rw [rowOf] at hn
    have h1 := h x (by simp)
    have h2 := h y (by simp)
    rcases List.mem_cons.1 hn with rfl | hn
    · omega
    · exact rowOf_ok (fun m hm => h m (by simp [hm])) n hn
theorem rowOf_dig : ∀ {l : List Int}, okW l → rowOf (digL l) = l
  | [], _ => rfl
  | x :: r, h => by
    obtain ⟨h1, h2⟩ := okW_cons h
    rw [digL, rowOf, rowOf_dig h2, show x % 4294967296 + x / 4294967296 * 4294967296 = x from by omega]

def rwA (k : Nat) : AV := if k = 0 then .nil else .own 300 0 k
def rwB (x : List Int) (k : Nat) : List (Nat × Blk) := if k = 0 then [] else [(300, .buf 52 1 true ((rowOf (x.take (2 * k))).map fun n => .int .u64 n))]
theorem rwA_s (k : Nat) : rwA (k + 1) = .own 300 0 (k + 1) := if_neg (by omega)
theorem rwB_s (x : List Int) (k : Nat) : rwB x (k + 1) = [(300, .buf 52 1 true ((rowOf (x.take (2 * (k + 1)))).map fun n => .int .u64 n))] := if_neg (by omega)
def rwS (x : List Int) (k : Nat) : St := { nt := 27, env := [(4, .v true (.int .i64 (2 * (k : Int)))), (3, rwA k), (0, .v false (words x))], mem := rwB x k }

theorem Row_ok (x : List Int) (hx : x.length < 1000000) (ox : okH x) : FnOk Tryz.prog 82 [.v (words x)] [.v true (words (rowOf x))] := by
  refine FnOk.of Tryz.func82 rfl rfl fun cx w0 => ?_
  rw [show Tryz.f82.ntmps = 27 from rfl]
  refine Holds.step (Px := px) (T := TT) (ρ := fun _ => []) TTe (by simp (maxSteps := 100000) (disch := omega) only [go_sem, V.isAgg, V.flat, ↓reduceIte, Nat.reduceAdd, Nat.reduceSub, Nat.reduceLT, Nat.reduceEqDiff, reduceCtorEq, Nat.reduceLeDiff, Nat.reduceBEq, Nat.reduceMul, Int.reduceToNat, List.length_cons, List.length_nil]; rfl) (by repeat' first | exact trivial | constructor) ?_
  refine Holds.step (Px := px) (T := TT) (ρ := fun _ => []) TTe (by simp (maxSteps := 100000) (disch := omega) only [go_sem, V.isAgg, V.flat, ↓reduceIte, Nat.reduceAdd, Nat.reduceSub, Nat.reduceLT, Nat.reduceEqDiff, reduceCtorEq, Nat.reduceLeDiff, Nat.reduceBEq, Nat.reduceMul, Int.reduceToNat]; rfl) (by repeat' first | exact trivial | constructor) ?_
  have hend2 : rowOf (x.take (2 * (x.length / 2))) = rowOf x := by
    by_cases hp : x.length % 2 = 0
    · rw [List.take_of_length_le (by omega)]
    · have hl : 2 * (x.length / 2) < x.length := by omega
      have e : x = x.take (2 * (x.length / 2)) ++ [x.getD (2 * (x.length / 2)) 0] := by
        have h1 : x.take (2 * (x.length / 2) + 1) = x := List.take_of_length_le (by omega)
        rw [List.take_add_one, List.getElem?_eq_getElem hl] at h1
        rw [List.getD_eq_getElem?_getD, List.getElem?_eq_getElem hl]
        exact h1.symm
      have h2 := rowOf_odd (x.take (2 * (x.length / 2))) (x.getD (2 * (x.length / 2)) 0) (by rw [List.length_take]; omega)
      rw [← e] at h2
      exact h2.symm
  refine Holds.next (fun σ => ∀ a w, Rel cx w0 σ a w → Rel cx w0 { nt := 27, env := [(3, rwA (x.length / 2))], mem := rwB x (x.length / 2) } a w) ?_ ?_
  · refine Holds.step (Px := px) (T := TT) (ρ := fun _ => []) TTe (by simp (maxSteps := 100000) (disch := omega) only [go_sem, V.isAgg, V.flat, ↓reduceIte, Nat.reduceAdd, Nat.reduceSub, Nat.reduceLT, Nat.reduceEqDiff, reduceCtorEq, Nat.reduceLeDiff, Nat.reduceBEq, Nat.reduceMul, Int.reduceToNat]; rfl) (by repeat' first | exact trivial | constructor) ?_
    refine Holds.loopB (fun k => rwS x k) (fun k => k ≤ x.length / 2) (fun k => x.length / 2 - k) 0 (Nat.zero_le _) (fun a w h => Rel.keep [4, 3, 0] [] h) ?_
    intro k hk
    by_cases hend : k = x.length / 2
    · refine Holds.seq ?_
      rw [rwS]
      refine Holds.step (Px := px) (T := TT) (ρ := fun _ => []) TTe (by simp (maxSteps := 100000) (disch := omega) only [go_sem, V.isAgg, V.flat, ↓reduceIte, Nat.reduceAdd, Nat.reduceSub, Nat.reduceLT, Nat.reduceEqDiff, reduceCtorEq, Nat.reduceLeDiff, Nat.reduceBEq, Nat.reduceMul, Int.reduceToNat]; rfl) (by repeat' first | exact trivial | constructor) ?_
      refine Holds.condF rfl (Holds.exit ⟨rfl, fun a w h => ?_⟩)
      rw [← hend]
      exact Rel.less [3] (fun _ => rfl) h
    · have hkl : 2 * k < x.length := by omega
      have hkl2 : 2 * k + 1 < x.length := by omega
      have hw := okW_getD (okH_okW ox) (2 * k)
      have h1 : 0 ≤ x.getD (2 * k) 0 ∧ x.getD (2 * k) 0 < 4294967296 := by
        rw [List.getD_eq_getElem?_getD, List.getElem?_eq_getElem hkl]; exact ox _ (List.getElem_mem hkl)
      have h2 : 0 ≤ x.getD (2 * k + 1) 0 ∧ x.getD (2 * k + 1) 0 < 4294967296 := by
        rw [List.getD_eq_getElem?_getD, List.getElem?_eq_getElem hkl2]; exact ox _ (List.getElem_mem hkl2)
      have hlt : (rowOf (x.take (2 * k))).length = k := by rw [rowOf_len, List.length_take]; omega
      have htk : x.take (2 * (k + 1)) = x.take (2 * k) ++ [x.getD (2 * k) 0, x.getD (2 * k + 1) 0] := by
        rw [show 2 * (k + 1) = 2 * k + 1 + 1 from by omega, take_succ hkl2, take_succ hkl, List.append_assoc]
        rfl
      have hro : rowOf (x.take (2 * (k + 1))) = rowOf (x.take (2 * k)) ++ [x.getD (2 * k) 0 + x.getD (2 * k + 1) 0 * 4294967296] := by
        rw [htk, rowOf_append _ _ _ (by rw [List.length_take]; omega)]
      have e1 : (2 * (k : Int)).toNat = 2 * k := by omega
      have e2 : (2 * (k : Int) + 1).toNat = 2 * k + 1 := by omega
      have e3 : IntKind.u64.wrap (x.getD (2 * k + 1) 0 * 4294967296) = x.getD (2 * k + 1) 0 * 4294967296 := by rw [wrap_u64]; omega
      have e4 : IntKind.u64.wrap (x.getD (2 * k) 0 + x.getD (2 * k + 1) 0 * 4294967296) = x.getD (2 * k) 0 + x.getD (2 * k + 1) 0 * 4294967296 := by rw [wrap_u64]; omega
      refine Holds.seq ?_
      rw [rwS]
      refine Holds.step (Px := px) (T := TT) (ρ := fun _ => []) TTe (by simp (maxSteps := 100000) (disch := omega) only [go_sem, V.isAgg, V.flat, ↓reduceIte, Nat.reduceAdd, Nat.reduceSub, Nat.reduceLT, Nat.reduceEqDiff, reduceCtorEq, Nat.reduceLeDiff, Nat.reduceBEq, Nat.reduceMul, Int.reduceToNat]; rfl) (by repeat' first | exact trivial | constructor) ?_
      refine Holds.condT rfl (Holds.skip ?_)
      refine Holds.next (fun σ => ∀ a w, Rel cx w0 σ a w → Rel cx w0 { nt := 27, env := [(4, .v true (.int .i64 (2 * (k : Int)))), (3, rwA (k + 1)), (0, .v false (words x))], mem := rwB x (k + 1) } a w) ?_ ?_
      · refine Holds.blockN ?_
        rcases Nat.eq_zero_or_pos k with h0 | h0
        · have ea : rwA k = .nil := if_pos h0
          have eb : rwB x k = [] := if_pos h0
          have er : rowOf (x.take (2 * k)) = [] := by rw [h0]; rfl
          have hk1 : k + 1 = 1 := by omega
          rw [ea, eb]
          refine Holds.dregionT (Px := px) (T := TT) (ρ := fun _ => []) [(3, 13), (4, 13), (8, 13), (9, 13)] mixed (by kernel_rfl) TTe (by simp (maxSteps := 100000) (disch := omega) only [go_sem, V.isAgg, V.flat, ↓reduceIte, Nat.reduceAdd, Nat.reduceSub, Nat.reduceLT, Nat.reduceEqDiff, reduceCtorEq, Nat.reduceLeDiff, Nat.reduceBEq, Nat.reduceMul, Int.reduceToNat, get_map hkl, get_map hkl2, e1, e2, e3, e4]; rfl) (by repeat' first | exact trivial | constructor) (by rfl) (by rfl) (by simp (maxSteps := 100000) (disch := omega) only [trc_nil, trc_cons, effW_t, effW_f, trcE_s, opSites_eq, sitesOf, AV.sites, AV.sitesL, Op.operands, Call.operands, List.append_toArray, List.toList_toArray, List.filter_nil, List.filter_cons, List.contains_cons, List.contains_nil, go_sem, V.isAgg, V.flat, ↓reduceIte, Nat.reduceAdd, Nat.reduceSub, Nat.reduceLT, Nat.reduceEqDiff, reduceCtorEq, Nat.reduceLeDiff, Nat.reduceBEq, Nat.reduceMul, Int.reduceToNat, get_map hkl, get_map hkl2, e1, e2, e3, e4]; rfl) (by rfl) ?_
          intro a w h
          have := Rel.ren (s := 25) (s' := 300) (Rel.keep [4, 3, 0] [25] h) (by decide) rfl rfl
          rw [rwB, if_neg (by omega), hro, er, rwA, if_neg (by omega), hk1]
          exact this
        · have ea : rwA k = .own 300 0 k := if_neg (by omega)
          have eb : rwB x k = [(300, .buf 52 1 true ((rowOf (x.take (2 * k))).map fun n => .int .u64 n))] := if_neg (by omega)
          rw [ea, eb]
          refine Holds.dregionT (Px := px) (T := TT) (ρ := fun _ => []) [(3, 13), (4, 13), (8, 13), (9, 13)] mixed (by kernel_rfl) TTe (by simp (maxSteps := 100000) (disch := omega) only [go_sem, V.isAgg, V.flat, ↓reduceIte, Nat.reduceAdd, Nat.reduceSub, Nat.reduceLT, Nat.reduceEqDiff, reduceCtorEq, Nat.reduceLeDiff, Nat.reduceBEq, Nat.reduceMul, Int.reduceToNat, get_map hkl, get_map hkl2, e1, e2, e3, e4, hlt]; rfl) (by repeat' first | exact trivial | constructor) (by rfl) (by rfl) (by simp (maxSteps := 100000) (disch := omega) only [trc_nil, trc_cons, effW_t, effW_f, trcE_s, opSites_eq, sitesOf, AV.sites, AV.sitesL, Op.operands, Call.operands, List.append_toArray, List.toList_toArray, List.filter_nil, List.filter_cons, List.contains_cons, List.contains_nil, go_sem, V.isAgg, V.flat, ↓reduceIte, Nat.reduceAdd, Nat.reduceSub, Nat.reduceLT, Nat.reduceEqDiff, reduceCtorEq, Nat.reduceLeDiff, Nat.reduceBEq, Nat.reduceMul, Int.reduceToNat, get_map hkl, get_map hkl2, e1, e2, e3, e4, hlt]; rfl) (by rfl) ?_
          intro a w h
          have := Rel.ren (s := 25) (s' := 300) (Rel.keep [4, 3, 0] [25] h) (by decide) rfl rfl
          rw [rwB, if_neg (by omega), hro, rwA, if_neg (by omega), List.map_append]
          exact this
      · intro σ hσ
        refine Holds.from hσ ?_
        refine Holds.region (Px := px) (T := TT) (ρ := fun _ => []) TTe (by simp (maxSteps := 100000) (disch := omega) only [go_sem, V.isAgg, V.flat, ↓reduceIte, Nat.reduceAdd, Nat.reduceSub, Nat.reduceLT, Nat.reduceEqDiff, reduceCtorEq, Nat.reduceLeDiff, Nat.reduceBEq, Nat.reduceMul, Int.reduceToNat]; rfl) (by repeat' first | exact trivial | constructor) ?_
        refine ⟨k + 1, (by show k + 1 ≤ x.length / 2; omega), (show x.length / 2 - (k + 1) < x.length / 2 - k by omega), fun a w h => ?_⟩
        have := Rel.less [4, 3, 0] (fun _ => rfl) h
        show Rel cx w0 (rwS x (k + 1)) a w
        rw [rwS, show (2 * ((k + 1 : Nat) : Int)) = 2 * (k : Int) + 2 from by omega]
        exact this
  · intro σ hσ
    refine Holds.from hσ ?_
    have hl := rowOf_len x
    rw [rwA, rwB, hend2]
    by_cases h0 : x.length / 2 = 0
    · rw [if_pos h0, if_pos h0]
      have : rowOf x = [] := List.eq_nil_of_length_eq_zero (by omega)
      rw [this]
      refine Holds.step (Px := px) (T := TT) (ρ := fun _ => []) TTe (by simp (maxSteps := 100000) (disch := omega) only [go_sem, V.isAgg, V.flat, ↓reduceIte, Nat.reduceAdd, Nat.reduceSub, Nat.reduceLT, Nat.reduceEqDiff, reduceCtorEq, Nat.reduceLeDiff, Nat.reduceBEq, Nat.reduceMul, Int.reduceToNat]; rfl) (by repeat' first | exact trivial | constructor) ?_
      exact Holds.ret ⟨_, [], rfl, ⟨rfl, trivial⟩, by simp [R.names, R.mems, R.blks], by simp, rfl⟩
    · rw [if_neg h0, if_neg h0]
      refine Holds.step (Px := px) (T := TT) (ρ := fun _ => []) TTe (by simp (maxSteps := 100000) (disch := omega) only [go_sem, V.isAgg, V.flat, ↓reduceIte, Nat.reduceAdd, Nat.reduceSub, Nat.reduceLT, Nat.reduceEqDiff, reduceCtorEq, Nat.reduceLeDiff, Nat.reduceBEq, Nat.reduceMul, Int.reduceToNat]; rfl) (by repeat' first | exact trivial | constructor) ?_
      exact Holds.ret ⟨_, [], rfl, ⟨⟨rfl, by rw [List.drop_zero, List.take_of_length_le (by rw [List.length_map, hl]; exact Nat.le_refl _)], fun h => h, rfl⟩, trivial⟩, by simp [R.names, R.mems, R.blks], by simp, rfl⟩
/-
  Plain laws of halves.
-/

def valH : List Int → Nat
  | [] => 0
  | x :: r => x.toNat + 4294967296 * valH r

theorem val_dig : ∀ {l : List Int}, okW l → valH (digL l) = val l
  | [], _ => rfl
  | x :: r, h => by
    obtain ⟨h1, h2⟩ := okW_cons h
    rw [digL, valH, valH, val, val_dig h2]
    have : (x % 4294967296).toNat + 4294967296 * (x / 4294967296).toNat = x.toNat := by omega
    omega

theorem val_row : ∀ {l : List Int}, okH l → l.length % 2 = 0 → val (rowOf l) = valH l
  | [], _, _ => rfl
  | [_], _, h => by simp at h
  | a :: b :: r, h, hl => by
    have h1 := h a (by simp)
    have h2 := h b (by simp)
    rw [rowOf, val, valH, valH, val_row (fun m hm => h m (by simp [hm])) (by simp at hl; omega)]
    have : (a + b * 4294967296).toNat = a.toNat + 4294967296 * b.toNat := by omega
    omega

theorem valH_zeros : ∀ (l : List Int) (n : Nat), valH (l ++ List.replicate n 0) = valH l
  | [], n => by
    rw [List.nil_append]
    induction n with
    | zero => rfl
    | succ n ih =>
      rw [List.replicate_succ]
      show (0 : Int).toNat + 4294967296 * valH (List.replicate n 0) = 0
      rw [ih]; rfl
  | x :: r, n => by rw [List.cons_append, valH, valH, valH_zeros r n]
theorem val_zeros : ∀ (l : List Int) (n : Nat), val (l ++ List.replicate n 0) = val l
  | [], n => by
    rw [List.nil_append]
    induction n with
    | zero => rfl
    | succ n ih =>
      rw [List.replicate_succ]
      show (0 : Int).toNat + 18446744073709551616 * val (List.replicate n 0) = 0
      rw [ih]; rfl
  | x :: r, n => by rw [List.cons_append, val, val, val_zeros r n]

theorem trim_split (l : List Int) : ∀ k, k ≤ l.length → l.take k = l.take (trimW l k) ++ List.replicate (k - trimW l k) 0
  | 0, _ => by simp [trimW]
  | k + 1, h => by
    have hk : k < l.length := h
    rw [trimW]
    split
    · next h0 =>
      have h1 := trim_split l k (by omega)
      have h2 := trimW_le l k
      rw [List.getD_eq_getElem?_getD, List.getElem?_eq_getElem hk] at h0
      have h0' : l[k] = 0 := h0
      rw [List.take_add_one, List.getElem?_eq_getElem hk, h1, h0', show k + 1 - trimW l k = (k - trimW l k) + 1 from by omega, List.replicate_succ', List.append_assoc]
      rfl
    · simp
theorem trimL_split (l : List Int) : ∃ n, l = trimL l ++ List.replicate n 0 := ⟨l.length - trimW l l.length, by
  have := trim_split l l.length (Nat.le_refl _)
  rw [List.take_length] at this
  exact this⟩
theorem valH_trim (l : List Int) : valH (trimL l) = valH l := by
  obtain ⟨n, h⟩ := trimL_split l
  have := valH_zeros (trimL l) n
  rw [← h] at this
  exact this.symm
theorem val_trim (l : List Int) : val (trimL l) = val l := by
  obtain ⟨n, h⟩ := trimL_split l
  have := val_zeros (trimL l) n
  rw [← h] at this
  exact this.symm

theorem trimW_last (l : List Int) : ∀ (k m : Nat), trimW l k = m + 1 → l.getD m 0 ≠ 0 ∧ m < k
  | 0, m, h => by rw [trimW] at h; omega
  | k + 1, m, h => by
    rw [trimW] at h
    split at h
    · obtain ⟨h1, h2⟩ := trimW_last l k m h
      exact ⟨h1, by omega⟩
    · next h0 =>
      have : m = k := by omega
      subst this
      exact ⟨h0, by omega⟩
theorem trimL_last (l : List Int) : trimL l = [] ∨ ∃ t z, trimL l = t ++ [z] ∧ z ≠ 0 := by
  cases hm : trimW l l.length with
  | zero => left; rw [trimL, hm]; rfl
  | succ m =>
    obtain ⟨h1, h2⟩ := trimW_last l l.length m hm
    right
    refine ⟨l.take m, l.getD m 0, ?_, h1⟩
    rw [trimL, hm, List.take_add_one, List.getElem?_eq_getElem h2, List.getD_eq_getElem?_getD, List.getElem?_eq_getElem h2]
    rfl
theorem noZ_end : ∀ (L : List Int) (z : Int), z ≠ 0 → noZ (L ++ [z])
  | [], z, h => h
  | [x], z, h => h
  | x :: y :: r, z, h => noZ_end (y :: r) z h
theorem noZ_trim (l : List Int) : noZ (trimL l) := by
  rcases trimL_last l with h | ⟨t, z, h, hz⟩
  · rw [h]; trivial
  · rw [h]; exact noZ_end t z hz
/-- What is left of words is the number's words. -/
theorem trim_digs {l : List Int} (ol : okW l) : trimL l = digs (val l) := by
  have := digs_of (trimL_ok ol) (noZ_trim l)
  rw [val_trim] at this
  exact this
theorem snoc_of : ∀ {l : List Int}, l ≠ [] → ∃ t z, l = t ++ [z]
  | [], h => absurd rfl h
  | [x], _ => ⟨[], x, rfl⟩
  | x :: y :: r, _ => by
    obtain ⟨t, z, h⟩ := snoc_of (l := y :: r) (by simp)
    exact ⟨x :: t, z, by rw [h]; rfl⟩

/-- Halves filled up to whole words, and two more. -/
def padH (h : List Int) (k : Nat) : List Int := h ++ List.replicate (2 * k + 2 - h.length) 0
def natOf (h : List Int) : List Int := rowOf ((padH (trimL h) (((trimL h).length + 1) / 2)).take (2 * (((trimL h).length + 1) / 2)))
theorem trimL_okH {l : List Int} (ol : okH l) : okH (trimL l) := fun n hn => ol n (List.mem_of_mem_take hn)

theorem natOf_eq {h : List Int} (oh : okH h) : natOf h = digs (valH h) := by
  have ot := trimL_okH oh
  rw [← valH_trim h]
  unfold natOf
  rcases trimL_last h with ht | ⟨t, z, ht, hz⟩
  · rw [ht]; rfl
  · rw [ht] at ot ⊢
    have oz := ot z (by simp)
    have otk : ∀ m ∈ t, 0 ≤ m ∧ m < 4294967296 := fun m hm => ot m (by simp [hm])
    have hlen : (t ++ [z]).length = t.length + 1 := by simp
    rcases Nat.mod_two_eq_zero_or_one t.length with he | he
    · -- an odd number of halves
      have hk : ((t ++ [z]).length + 1) / 2 = t.length / 2 + 1 := by rw [hlen]; omega
      have e : (padH (t ++ [z]) (t.length / 2 + 1)).take (2 * (t.length / 2 + 1)) = t ++ [z, 0] := by
        have e1 : padH (t ++ [z]) (t.length / 2 + 1) = (t ++ [z, 0]) ++ List.replicate 2 0 := by
          unfold padH
          rw [hlen, show 2 * (t.length / 2 + 1) + 2 - (t.length + 1) = 2 + 1 from by omega]
          rw [List.append_assoc, List.append_assoc]
          rfl
        rw [e1, List.take_append_of_le_length (by simp; omega), List.take_of_length_le (by simp; omega)]
      rw [hk, e, rowOf_append t z 0 he]
      have ok : okW (rowOf t ++ [z + 0 * 4294967296]) := by
        intro m hm
        rcases List.mem_append.1 hm with hm | hm
        · exact rowOf_ok (l := t) otk m hm
        · rw [List.mem_singleton] at hm; omega
      have hv : val (rowOf t ++ [z + 0 * 4294967296]) = valH (t ++ [z]) := by
        rw [← rowOf_append t z 0 he, val_row (l := t ++ [z, 0]) (fun m hm => by
          rcases List.mem_append.1 hm with hm | hm
          · exact otk m hm
          · rcases List.mem_cons.1 hm with rfl | hm
            · exact oz
            · rw [List.mem_singleton] at hm; omega) (by simp; omega)]
        have := valH_zeros (t ++ [z]) 1
        rw [List.append_assoc] at this
        exact this
      rw [← hv]
      exact digs_of ok (noZ_end _ _ (by omega))
    · -- an even number
      have htne : t ≠ [] := fun h => by rw [h] at he; simp at he
      obtain ⟨s, y, rfl⟩ := snoc_of htne
      have hsl : (s ++ [y]).length = s.length + 1 := by simp
      have oy := otk y (by simp)
      have osk : ∀ m ∈ s, 0 ≤ m ∧ m < 4294967296 := fun m hm => otk m (by simp [hm])
      have hk : ((s ++ [y] ++ [z]).length + 1) / 2 = s.length / 2 + 1 := by rw [hlen, hsl]; omega
      have e : (padH (s ++ [y] ++ [z]) (s.length / 2 + 1)).take (2 * (s.length / 2 + 1)) = s ++ [y, z] := by
        have e1 : padH (s ++ [y] ++ [z]) (s.length / 2 + 1) = (s ++ [y, z]) ++ List.replicate 2 0 := by
          unfold padH
          rw [hlen, hsl, show 2 * (s.length / 2 + 1) + 2 - (s.length + 1 + 1) = 2 from by omega, List.append_assoc s]
          rfl
        rw [e1, List.take_append_of_le_length (by simp; omega), List.take_of_length_le (by simp; omega)]
      have hse : s.length % 2 = 0 := by omega
      rw [hk, e, rowOf_append s y z hse]
      have ok : okW (rowOf s ++ [y + z * 4294967296]) := by
        intro m hm
        rcases List.mem_append.1 hm with hm | hm
        · exact rowOf_ok (l := s) osk m hm
        · rw [List.mem_singleton] at hm; omega
      have hv : val (rowOf s ++ [y + z * 4294967296]) = valH (s ++ [y] ++ [z]) := by
        rw [← rowOf_append s y z hse, val_row (l := s ++ [y, z]) (fun m hm => by
          rcases List.mem_append.1 hm with hm | hm
          · exact osk m hm
          · rcases List.mem_cons.1 hm with rfl | hm
            · exact oy
            · rw [List.mem_singleton] at hm; rw [hm]; exact oz) (by simp; omega), List.append_assoc]
        rfl
      rw [← hv]
      exact digs_of ok (noZ_end _ _ (by omega))
end Go.Proofs.YtjmclobbfabnpaaGreat.L
