/-
  Na Pa Nb Pb Pc Qa Qb Ra
-/
import Derived.Test.YtobacemgcjnahaaGreatDoorH1
set_option linter.unusedSimpArgs false
set_option linter.unusedVariables false
/-
  Numbers by their words.
-/
namespace Go.Proofs.YtobacemgcjnahaaGreatDoor.L

def okW (l : List Int) : Prop := ∀ n ∈ l, 0 ≤ n ∧ n < 18446744073709551616

theorem okW_getD {l : List Int} (h : okW l) (i : Nat) : 0 ≤ l.getD i 0 ∧ l.getD i 0 < 18446744073709551616 := by
  rw [List.getD_eq_getElem?_getD]
  cases hi : l[i]? with
  | none => simp
  | some n => exact h n (List.mem_of_getElem? hi)
theorem okW_set {l : List Int} (h : okW l) {i : Nat} {n : Int} (hn : 0 ≤ n ∧ n < 18446744073709551616) : okW (l.set i n) := fun m hm => by
  rcases List.mem_or_eq_of_mem_set hm with h1 | rfl
  · exact h m h1
  · exact hn

theorem get_map {l : List Int} {i : Nat} (h : i < l.length) : l[i]? = some (l.getD i 0) := by
  rw [List.getD_eq_getElem?_getD, List.getElem?_eq_getElem h]; rfl

/-- How many words are left when the zero words at the end fall away. -/
def trimW (l : List Int) : Nat → Nat
  | 0 => 0
  | n + 1 => if l.getD n 0 = 0 then trimW l n else n + 1

theorem trimW_le (l : List Int) : ∀ n, trimW l n ≤ n
  | 0 => Nat.le_refl _
  | n + 1 => by
    rw [trimW]
    split
    · exact Nat.le_succ_of_le (trimW_le l n)
    · exact Nat.le_refl _

/-- A number's words, without zero words at the end. -/
def trimL (l : List Int) : List Int := l.take (trimW l l.length)

theorem trimL_len (l : List Int) : (trimL l).length ≤ l.length := by
  unfold trimL
  rw [List.length_take]
  exact Nat.min_le_right _ _


/-- What the words come to. -/
def val : List Int → Nat
  | [] => 0
  | x :: r => x.toNat + 18446744073709551616 * val r

/-- A number's words. -/
def digsF : Nat → Nat → List Int
  | 0, _ => []
  | f + 1, n => if n = 0 then [] else ((n % 18446744073709551616 : Nat) : Int) :: digsF f (n / 18446744073709551616)
def digs (n : Nat) : List Int := digsF (n.log2 / 64 + 1) n

/-- No zero word at the end. -/
def noZ : List Int → Prop
  | [] => True
  | [x] => x ≠ 0
  | _ :: y :: r => noZ (y :: r)

theorem okW_cons {x : Int} {r : List Int} (h : okW (x :: r)) : (0 ≤ x ∧ x < 18446744073709551616) ∧ okW r := ⟨h x (by simp), fun n hn => h n (by simp [hn])⟩

theorem noZ_cons {x : Int} {r : List Int} (h : noZ (x :: r)) : noZ r := by
  cases r with
  | nil => trivial
  | cons y q => exact h

theorem val_pos : ∀ {l : List Int}, okW l → noZ l → l ≠ [] → 0 < val l
  | [], _, _, h => absurd rfl h
  | [x], ok, h, _ => by
    have h1 := (okW_cons ok).1
    have h2 : x ≠ 0 := h
    rw [val, val]
    omega
  | x :: y :: r, ok, h, _ => by
    have := val_pos (okW_cons ok).2 h (by simp)
    rw [val]
    omega

/-- Two numbers in words without zero words at the end: alike in value, alike in words. -/
theorem val_inj : ∀ {l m : List Int}, okW l → okW m → noZ l → noZ m → val l = val m → l = m
  | [], [], _, _, _, _, _ => rfl
  | [], y :: q, _, om, _, zm, h => by have := val_pos om zm (by simp); rw [← h] at this; simp [val] at this
  | x :: r, [], ol, _, zl, _, h => by have := val_pos ol zl (by simp); rw [h] at this; simp [val] at this
  | x :: r, y :: q, ol, om, zl, zm, h => by
    have h1 := okW_cons ol
    have h2 := okW_cons om
    rw [val, val] at h
    have e1 : x = y := by omega
    have e2 : val r = val q := by omega
    rw [e1, val_inj h1.2 h2.2 (noZ_cons zl) (noZ_cons zm) e2]

theorem digsF_ok : ∀ (f n : Nat), n < 18446744073709551616 ^ f → okW (digsF f n) ∧ noZ (digsF f n) ∧ val (digsF f n) = n
  | 0, n, h => by
    rw [digsF]
    refine ⟨(fun n hn => by cases hn), trivial, ?_⟩
    rw [val]
    simp at h
    omega
  | f + 1, n, h => by
    rw [digsF]
    split
    · next h0 => exact ⟨(fun n hn => by cases hn), trivial, by rw [val, h0]⟩
    · next h0 =>
      obtain ⟨h1, h2, h3⟩ := digsF_ok f (n / 18446744073709551616) (by rw [Nat.pow_succ] at h; exact (Nat.div_lt_iff_lt_mul (by decide)).2 h)
      refine ⟨fun m hm => ?_, ?_, by rw [val, h3]; omega⟩
      · rcases List.mem_cons.1 hm with rfl | hm
        · omega
        · exact h1 m hm
      · cases hd : digsF f (n / 18446744073709551616) with
        | nil =>
          rw [hd] at h3
          rw [val] at h3
          show ((n % 18446744073709551616 : Nat) : Int) ≠ 0
          omega
        | cons y q => rw [hd] at h2; exact h2

theorem digs_ok (n : Nat) : okW (digs n) ∧ noZ (digs n) ∧ val (digs n) = n := by
  refine digsF_ok _ n ?_
  have h1 : n < 2 ^ (n.log2 + 1) := Nat.lt_log2_self
  refine Nat.lt_of_lt_of_le h1 ?_
  rw [show (18446744073709551616 : Nat) = 2 ^ 64 from rfl, ← Nat.pow_mul]
  exact Nat.pow_le_pow_right (by decide) (by omega)

theorem digs_of {l : List Int} (ol : okW l) (zl : noZ l) : l = digs (val l) := by
  obtain ⟨h1, h2, h3⟩ := digs_ok (val l)
  exact val_inj ol h1 zl h2 h3.symm

theorem val_append : ∀ (l m : List Int), val (l ++ m) = val l + 18446744073709551616 ^ l.length * val m
  | [], m => by simp [val]
  | x :: r, m => by
    rw [List.cons_append, val, val, val_append r m, List.length_cons, Nat.pow_succ]
    rw [Nat.mul_add, Nat.mul_comm _ (18446744073709551616 : Nat), ← Nat.mul_assoc]
    omega
end Go.Proofs.YtobacemgcjnahaaGreatDoor.L
/-
  reckonerref01: Digits, Short, Row.
-/
namespace Go.Proofs.YtobacemgcjnahaaGreatDoor.L
open Go Go.RowKit Go.Proofs
attribute [local go_sem] evalOps_nil evalOps_cons runW_t runW_f runE_s runP_s wantA evalOp effOp letters okDst coreA St.opv St.get St.at look constA St.put St.upd St.set decide_true List.all_nil List.all_cons Bool.and_true Bool.true_and and_self and_true true_and if_true if_false true_or Int.sub_zero List.nil_append List.cons_append List.append_nil Option.isSome_some List.getElem?_toArray List.getElem?_cons_succ List.getElem?_cons_zero Option.bind_some Option.map_some Option.map_none beq_self_eq_true Bool.false_beq Bool.true_beq Bool.not_true Bool.not_false Bool.false_eq_true cond_true cond_false binA binI List.map_cons List.map_nil boundA List.length_nil List.length_cons Nat.zero_mul Nat.one_mul Nat.mul_one Nat.zero_add Nat.add_zero Nat.zero_le Option.toList St.freshB AV.ment AV.ments Blk.ment V.sizes Nat.lt_add_one Bool.or_true Bool.true_or Bool.or_false Bool.false_or Bool.or_self if_pos if_neg decide_false decide_eq_true decide_eq_false wrap_i64 Int.toNat_natCast minA maxA Int.natCast_add Int.cast_ofNat_Int Option.isSome_none false_implies true_implies forall_const List.drop_zero Int.toNat_zero Int.add_sub_cancel lenA sliceA loadA indexAddrA partA fitsT V.atP V.offP V.size List.length_map List.getElem?_map Int.toNat_natCast_add_one Int.ofNat_eq_natCast TY calleeA capArg knotA capArgs toArgs toArg callA R.res R.mems R.blks R.av R.names R.nw invokeA storeA storeV fieldAddrA liveB V.off V.offs V.setP List.set_cons_zero List.set_cons_succ buildA buildP partsA appendA srcA copyA boxOk makeA AV.pure List.take_succ_cons List.take_zero nilA words entry List.zipIdx_cons List.zipIdx_nil Arg.av Arg.avs

/-- The halves of words, the lower one first. -/
def digL : List Int → List Int
  | [] => []
  | n :: r => n % 4294967296 :: n / 4294967296 :: digL r
def okH (l : List Int) : Prop := ∀ n ∈ l, 0 ≤ n ∧ n < 4294967296
theorem digL_len : ∀ l : List Int, (digL l).length = 2 * l.length
  | [] => rfl
  | _ :: r => by rw [digL, List.length_cons, List.length_cons, digL_len r, List.length_cons]; omega
theorem digL_append : ∀ l m : List Int, digL (l ++ m) = digL l ++ digL m
  | [], _ => rfl
  | n :: r, m => by rw [List.cons_append, digL, digL, digL_append r m]; rfl
theorem digL_ok : ∀ {l : List Int}, okW l → okH (digL l)
  | [], _ => fun n h => by cases h
  | x :: r, h => fun n hn => by
    obtain ⟨h1, h2⟩ := okW_cons h
    rw [digL] at hn
    rcases List.mem_cons.1 hn with rfl | hn
    · omega
    · rcases List.mem_cons.1 hn with rfl | hn
      · omega
      · exact digL_ok h2 n hn
theorem okH_okW {l : List Int} (h : okH l) : okW l := fun n hn => by have := h n hn; omega

def dgA (k : Nat) : AV := if k = 0 then .nil else .own 300 0 (2 * k)
def dgB (x : List Int) (k : Nat) : List (Nat × Blk) := if k = 0 then [] else [(300, .buf 76 1 true ((digL (x.take k)).map fun n => .int .u64 n))]
theorem dgA_s (k : Nat) : dgA (k + 1) = .own 300 0 (2 * (k + 1)) := if_neg (by omega)
theorem dgB_s (x : List Int) (k : Nat) : dgB x (k + 1) = [(300, .buf 76 1 true ((digL (x.take (k + 1))).map fun n => .int .u64 n))] := if_neg (by omega)
def dgS (x : List Int) (k : Nat) : St := { nt := 25, env := [(4, .v true (.int .i64 k)), (3, dgA k), (0, .v false (words x))], mem := dgB x k }

theorem Digits_ok (x : List Int) (hx : x.length < 1000000) (ox : okW x) : FnOk Tryz.prog 122 [.v (words x)] [.v true (words (digL x))] := by
  refine FnOk.of Tryz.func122 rfl rfl fun cx w0 => ?_
  rw [show Tryz.f122.ntmps = 25 from rfl]
  refine Holds.step (Px := px) (T := TT) (ρ := fun _ => []) TTe (by simp (maxSteps := 100000) (disch := omega) only [go_sem, V.isAgg, V.flat, ↓reduceIte, Nat.reduceAdd, Nat.reduceSub, Nat.reduceLT, Nat.reduceEqDiff, reduceCtorEq, Nat.reduceLeDiff, Nat.reduceBEq, Nat.reduceMul, Int.reduceToNat, List.length_cons, List.length_nil]; rfl) (by repeat' first | exact trivial | constructor) ?_
  refine Holds.step (Px := px) (T := TT) (ρ := fun _ => []) TTe (by simp (maxSteps := 100000) (disch := omega) only [go_sem, V.isAgg, V.flat, ↓reduceIte, Nat.reduceAdd, Nat.reduceSub, Nat.reduceLT, Nat.reduceEqDiff, reduceCtorEq, Nat.reduceLeDiff, Nat.reduceBEq, Nat.reduceMul, Int.reduceToNat]; rfl) (by repeat' first | exact trivial | constructor) ?_
  refine Holds.next (fun σ => ∀ a w, Rel cx w0 σ a w → Rel cx w0 { nt := 25, env := [(3, dgA x.length)], mem := dgB x x.length } a w) ?_ ?_
  · refine Holds.step (Px := px) (T := TT) (ρ := fun _ => []) TTe (by simp (maxSteps := 100000) (disch := omega) only [go_sem, V.isAgg, V.flat, ↓reduceIte, Nat.reduceAdd, Nat.reduceSub, Nat.reduceLT, Nat.reduceEqDiff, reduceCtorEq, Nat.reduceLeDiff, Nat.reduceBEq, Nat.reduceMul, Int.reduceToNat]; rfl) (by repeat' first | exact trivial | constructor) ?_
    refine Holds.loopB (fun k => dgS x k) (fun k => k ≤ x.length) (fun k => x.length - k) 0 (Nat.zero_le _) (fun a w h => Rel.keep [4, 3, 0] [] h) ?_
    intro k hk
    by_cases hend : k = x.length
    · refine Holds.seq ?_
      rw [hend, dgS]
      refine Holds.step (Px := px) (T := TT) (ρ := fun _ => []) TTe (by simp (maxSteps := 100000) (disch := omega) only [go_sem, V.isAgg, V.flat, ↓reduceIte, Nat.reduceAdd, Nat.reduceSub, Nat.reduceLT, Nat.reduceEqDiff, reduceCtorEq, Nat.reduceLeDiff, Nat.reduceBEq, Nat.reduceMul, Int.reduceToNat]; rfl) (by repeat' first | exact trivial | constructor) ?_
      refine Holds.condF rfl (Holds.exit ⟨rfl, fun a w h => Rel.less [3] (fun _ => rfl) h⟩)
    · have hkl : k < x.length := by omega
      have hw := okW_getD ox k
      have hlt : (digL (x.take k)).length = 2 * k := by rw [digL_len, List.length_take]; omega
      have htk : x.take (k + 1) = x.take k ++ [x.getD k 0] := by
        rw [List.take_add_one, List.getElem?_eq_getElem hkl, List.getD_eq_getElem?_getD, List.getElem?_eq_getElem hkl]; rfl
      have hm : (x.getD k 0).tmod 4294967296 = x.getD k 0 % 4294967296 := Int.tmod_eq_emod_of_nonneg hw.1
      have hd : (x.getD k 0).tdiv 4294967296 = x.getD k 0 / 4294967296 := Int.tdiv_eq_ediv_of_nonneg hw.1
      have hdw : IntKind.u64.wrap (x.getD k 0 / 4294967296) = x.getD k 0 / 4294967296 := by rw [wrap_u64]; omega
      refine Holds.seq ?_
      rw [dgS]
      refine Holds.step (Px := px) (T := TT) (ρ := fun _ => []) TTe (by simp (maxSteps := 100000) (disch := omega) only [go_sem, V.isAgg, V.flat, ↓reduceIte, Nat.reduceAdd, Nat.reduceSub, Nat.reduceLT, Nat.reduceEqDiff, reduceCtorEq, Nat.reduceLeDiff, Nat.reduceBEq, Nat.reduceMul, Int.reduceToNat]; rfl) (by repeat' first | exact trivial | constructor) ?_
      refine Holds.condT rfl (Holds.skip ?_)
      refine Holds.next (fun σ => ∀ a w, Rel cx w0 σ a w → Rel cx w0 { nt := 25, env := [(4, .v true (.int .i64 k)), (3, dgA (k + 1)), (0, .v false (words x))], mem := dgB x (k + 1) } a w) ?_ ?_
      · refine Holds.blockN ?_
        rcases k with _ | k
        · refine Holds.dregionT (Px := px) (T := TT) (ρ := fun _ => []) [(3, 12), (4, 12), (8, 12), (9, 12)] mixed (by kernel_rfl) TTe (by simp (maxSteps := 100000) (disch := omega) only [go_sem, V.isAgg, V.flat, ↓reduceIte, Nat.reduceAdd, Nat.reduceSub, Nat.reduceLT, Nat.reduceEqDiff, reduceCtorEq, Nat.reduceLeDiff, Nat.reduceBEq, Nat.reduceMul, Int.reduceToNat, dgA, dgB, get_map hkl, hm, hd, hdw]; rfl) (by repeat' first | exact trivial | constructor) (by rfl) (by rfl) (by simp (maxSteps := 100000) (disch := omega) only [trc_nil, trc_cons, effW_t, effW_f, trcE_s, opSites_eq, sitesOf, AV.sites, AV.sitesL, Op.operands, Call.operands, List.append_toArray, List.toList_toArray, List.filter_nil, List.filter_cons, List.contains_cons, List.contains_nil, go_sem, V.isAgg, V.flat, ↓reduceIte, Nat.reduceAdd, Nat.reduceSub, Nat.reduceLT, Nat.reduceEqDiff, reduceCtorEq, Nat.reduceLeDiff, Nat.reduceBEq, Nat.reduceMul, Int.reduceToNat, dgA, dgB, get_map hkl, hm, hd, hdw]; rfl) (by rfl) ?_
          intro a w h
          have := Rel.ren (s := 23) (s' := 300) (Rel.keep [4, 3, 0] [23] h) (by decide) rfl rfl
          rw [dgB, if_neg (by omega), htk, dgA, if_neg (by omega)]
          exact this
        · rw [dgA_s, dgB_s]
          refine Holds.dregionT (Px := px) (T := TT) (ρ := fun _ => []) [(3, 12), (4, 12), (8, 12), (9, 12)] mixed (by kernel_rfl) TTe (by simp (maxSteps := 100000) (disch := omega) only [go_sem, V.isAgg, V.flat, ↓reduceIte, Nat.reduceAdd, Nat.reduceSub, Nat.reduceLT, Nat.reduceEqDiff, reduceCtorEq, Nat.reduceLeDiff, Nat.reduceBEq, Nat.reduceMul, Int.reduceToNat, get_map hkl, hm, hd, hdw, hlt]; rfl) (by repeat' first | exact trivial | constructor) (by rfl) (by rfl) (by simp (maxSteps := 100000) (disch := omega) only [trc_nil, trc_cons, effW_t, effW_f, trcE_s, opSites_eq, sitesOf, AV.sites, AV.sitesL, Op.operands, Call.operands, List.append_toArray, List.toList_toArray, List.filter_nil, List.filter_cons, List.contains_cons, List.contains_nil, go_sem, V.isAgg, V.flat, ↓reduceIte, Nat.reduceAdd, Nat.reduceSub, Nat.reduceLT, Nat.reduceEqDiff, reduceCtorEq, Nat.reduceLeDiff, Nat.reduceBEq, Nat.reduceMul, Int.reduceToNat, get_map hkl, hm, hd, hdw, hlt]; rfl) (by rfl) ?_
          intro a w h
          have := Rel.ren (s := 23) (s' := 300) (Rel.keep [4, 3, 0] [23] h) (by decide) rfl rfl
          rw [dgB, if_neg (by omega), htk, dgA, if_neg (by omega), digL_append, List.map_append]
          exact this
      · intro σ hσ
        refine Holds.from hσ ?_
        refine Holds.region (Px := px) (T := TT) (ρ := fun _ => []) TTe (by simp (maxSteps := 100000) (disch := omega) only [go_sem, V.isAgg, V.flat, ↓reduceIte, Nat.reduceAdd, Nat.reduceSub, Nat.reduceLT, Nat.reduceEqDiff, reduceCtorEq, Nat.reduceLeDiff, Nat.reduceBEq, Nat.reduceMul, Int.reduceToNat]; rfl) (by repeat' first | exact trivial | constructor) ?_
        exact ⟨k + 1, (by show k + 1 ≤ x.length; omega), (show x.length - (k + 1) < x.length - k by omega), fun a w h => Rel.less [4, 3, 0] (fun _ => rfl) h⟩
  · intro σ hσ
    refine Holds.from hσ ?_
    have hl := digL_len x
    rw [dgA, dgB, List.take_length]
    by_cases h0 : x.length = 0
    · rw [if_pos h0, if_pos h0]
      have : x = [] := List.eq_nil_of_length_eq_zero h0
      subst this
      refine Holds.step (Px := px) (T := TT) (ρ := fun _ => []) TTe (by simp (maxSteps := 100000) (disch := omega) only [go_sem, V.isAgg, V.flat, ↓reduceIte, Nat.reduceAdd, Nat.reduceSub, Nat.reduceLT, Nat.reduceEqDiff, reduceCtorEq, Nat.reduceLeDiff, Nat.reduceBEq, Nat.reduceMul, Int.reduceToNat]; rfl) (by repeat' first | exact trivial | constructor) ?_
      exact Holds.ret ⟨_, [], rfl, ⟨rfl, trivial⟩, by simp [R.names, R.mems, R.blks], by simp, rfl⟩
    · rw [if_neg h0, if_neg h0]
      refine Holds.step (Px := px) (T := TT) (ρ := fun _ => []) TTe (by simp (maxSteps := 100000) (disch := omega) only [go_sem, V.isAgg, V.flat, ↓reduceIte, Nat.reduceAdd, Nat.reduceSub, Nat.reduceLT, Nat.reduceEqDiff, reduceCtorEq, Nat.reduceLeDiff, Nat.reduceBEq, Nat.reduceMul, Int.reduceToNat]; rfl) (by repeat' first | exact trivial | constructor) ?_
      exact Holds.ret ⟨_, [], rfl, ⟨⟨rfl, by rw [List.drop_zero, List.take_of_length_le (by rw [List.length_map, hl]; exact Nat.le_refl _)], fun h => h, rfl⟩, trivial⟩, by simp [R.names, R.mems, R.blks], by simp, rfl⟩

theorem Short_ok (l : List Int) (hl : l.length < 1000000000) : FnOk Tryz.prog 126 [.v (words l)] [.v false (words (trimL l))] := by
  refine FnOk.of Tryz.func126 rfl rfl fun cx w0 => ?_
  rw [show Tryz.f126.ntmps = 21 from rfl]
  refine Holds.step (Px := px) (T := TT) (ρ := fun _ => []) TTe (by simp (maxSteps := 100000) (disch := omega) only [go_sem, V.isAgg, V.flat, ↓reduceIte, Nat.reduceAdd, Nat.reduceSub, Nat.reduceLT, Nat.reduceEqDiff, reduceCtorEq, Nat.reduceLeDiff, Nat.reduceBEq, Nat.reduceMul, Int.reduceToNat, List.length_cons, List.length_nil]; rfl) (by repeat' first | exact trivial | constructor) ?_
  refine Holds.step (Px := px) (T := TT) (ρ := fun _ => []) TTe (by simp (maxSteps := 100000) (disch := omega) only [go_sem, V.isAgg, V.flat, ↓reduceIte, Nat.reduceAdd, Nat.reduceSub, Nat.reduceLT, Nat.reduceEqDiff, reduceCtorEq, Nat.reduceLeDiff, Nat.reduceBEq, Nat.reduceMul, Int.reduceToNat]; rfl) (by repeat' first | exact trivial | constructor) ?_
  refine Holds.next (fun σ => ∃ env, σ = { nt := 21, env, mem := [] } ∧ look env 3 = .v true (.int .i64 (trimW l l.length : Nat)) ∧ look env 0 = .v false (.sl 1 (l.map fun n => .int .u64 n)))
    (Holds.loopB (fun n : Nat => { nt := 21, env := [(3, .v true (.int .i64 (n : Int))), (0, .v false (.sl 1 (l.map fun n => .int .u64 n)))], mem := [] }) (fun n => n ≤ l.length ∧ trimW l n = trimW l l.length) id l.length ⟨Nat.le_refl _, rfl⟩ (fun a w h => Rel.keep [3, 0] [] h) ?_) ?_
  · rintro n ⟨hn, ht⟩
    rcases n with _ | n
    · refine Holds.seq ?_
      refine Holds.step (Px := px) (T := TT) (ρ := fun _ => []) TTe (by simp (maxSteps := 100000) (disch := omega) only [go_sem, V.isAgg, V.flat, ↓reduceIte, Nat.reduceAdd, Nat.reduceSub, Nat.reduceLT, Nat.reduceEqDiff, reduceCtorEq, Nat.reduceLeDiff, Nat.reduceBEq, Nat.reduceMul, Int.reduceToNat]; rfl) (by repeat' first | exact trivial | constructor) ?_
      refine Holds.condF rfl (Holds.exit ⟨rfl, _, rfl, ?_, rfl⟩)
      rw [← ht]; rfl
    · have hlt : n < l.length := by omega
      have e1 : l[n]? = some (l.getD n 0) := by rw [List.getD_eq_getElem?_getD, List.getElem?_eq_getElem hlt]; rfl
      refine Holds.seq ?_
      refine Holds.step (Px := px) (T := TT) (ρ := fun _ => []) TTe (by simp (maxSteps := 100000) (disch := omega) only [go_sem, V.isAgg, V.flat, ↓reduceIte, Nat.reduceAdd, Nat.reduceSub, Nat.reduceLT, Nat.reduceEqDiff, reduceCtorEq, Nat.reduceLeDiff, Nat.reduceBEq, Nat.reduceMul, Int.reduceToNat, e1]; rfl) (by repeat' first | exact trivial | constructor) ?_
      by_cases h0 : l.getD n 0 = 0
      · refine Holds.condT (nw := true) (by rw [h0]; rfl) (Holds.skip ?_)
        refine Holds.block ?_
        refine Holds.region (Px := px) (T := TT) (ρ := fun _ => []) TTe (by simp (maxSteps := 100000) (disch := omega) only [go_sem, V.isAgg, V.flat, ↓reduceIte, Nat.reduceAdd, Nat.reduceSub, Nat.reduceLT, Nat.reduceEqDiff, reduceCtorEq, Nat.reduceLeDiff, Nat.reduceBEq, Nat.reduceMul, Int.reduceToNat]; rfl) (by repeat' first | exact trivial | constructor) ?_
        refine ⟨n, ⟨by omega, ?_⟩, by simp, fun a w h => Rel.keep [3, 0] [] h⟩
        rw [← ht, trimW, if_pos h0]
      · refine Holds.condF (nw := true) (by rw [decide_eq_false h0]; rfl) (Holds.exit ⟨rfl, _, rfl, ?_, rfl⟩)
        rw [← ht, trimW, if_neg h0]
        rfl
  · rintro σ ⟨env, rfl, e3, e0⟩
    have hle := trimW_le l l.length
    refine Holds.step (Px := px) (T := TT) (ρ := fun _ => []) TTe (by simp (maxSteps := 100000) (disch := omega) only [go_sem, V.isAgg, V.flat, ↓reduceIte, Nat.reduceAdd, Nat.reduceSub, Nat.reduceLT, Nat.reduceEqDiff, reduceCtorEq, Nat.reduceLeDiff, Nat.reduceBEq, Nat.reduceMul, Int.reduceToNat, e3, e0]; rfl) (by repeat' first | exact trivial | constructor) ?_
    refine Holds.ret ⟨_, [], rfl, ⟨⟨?_, by simp⟩, trivial⟩, by simp [R.names, R.mems, R.blks], by simp, rfl⟩
    rw [words, trimL, List.map_take]

theorem take_succ {x : List Int} {k : Nat} (h : k < x.length) : x.take (k + 1) = x.take k ++ [x.getD k 0] := by
  rw [List.take_add_one, List.getElem?_eq_getElem h, List.getD_eq_getElem?_getD, List.getElem?_eq_getElem h]; rfl
/-- Words of halves, two by two. -/
def rowOf : List Int → List Int
  | a :: b :: r => (a + b * 4294967296) :: rowOf r
  | _ => []
theorem rowOf_len : ∀ l : List Int, (rowOf l).length = l.length / 2
  | [] => by simp [rowOf]
  | [_] => by simp [rowOf]
  | a :: b :: r => by rw [rowOf, List.length_cons, rowOf_len r, List.length_cons, List.length_cons]; omega
theorem rowOf_append : ∀ (l : List Int) (a b : Int), l.length % 2 = 0 → rowOf (l ++ [a, b]) = rowOf l ++ [a + b * 4294967296]
  | [], a, b, _ => rfl
  | [_], _, _, h => by simp at h
  | x :: y :: r, a, b, h => by
    rw [List.cons_append, List.cons_append, rowOf, rowOf, rowOf_append r a b (by simp at h; omega)]; rfl
theorem rowOf_odd : ∀ (l : List Int) (a : Int), l.length % 2 = 0 → rowOf (l ++ [a]) = rowOf l
  | [], _, _ => rfl
  | [_], _, h => by simp at h
  | x :: y :: r, a, h => by
    rw [List.cons_append, List.cons_append, rowOf, rowOf, rowOf_odd r a (by simp at h; omega)]
theorem rowOf_ok : ∀ {l : List Int}, okH l → okW (rowOf l)
  | [], _ => fun n h => by cases h
  | [_], _ => fun n h => by cases h
  | x :: y :: r, h => fun n hn => by
    rw [rowOf] at hn
    have h1 := h x (by simp)
    have h2 := h y (by simp)
    rcases List.mem_cons.1 hn with rfl | hn
    · omega
    · exact rowOf_ok (fun m hm => h m (by simp [hm])) n hn
theorem rowOf_dig : ∀ {l : List Int}, okW l → rowOf (digL l) = l
  | [], _ => rfl
  | x :: r, h => by
    obtain ⟨h1, h2⟩ := okW_cons h
    rw [digL, rowOf, rowOf_dig h2, show x % 4294967296 + x / 4294967296 * 4294967296 = x from by omega]

def rwA (k : Nat) : AV := if k = 0 then .nil else .own 300 0 k
def rwB (x : List Int) (k : Nat) : List (Nat × Blk) := if k = 0 then [] else [(300, .buf 76 1 true ((rowOf (x.take (2 * k))).map fun n => .int .u64 n))]
theorem rwA_s (k : Nat) : rwA (k + 1) = .own 300 0 (k + 1) := if_neg (by omega)
theorem rwB_s (x : List Int) (k : Nat) : rwB x (k + 1) = [(300, .buf 76 1 true ((rowOf (x.take (2 * (k + 1)))).map fun n => .int .u64 n))] := if_neg (by omega)
def rwS (x : List Int) (k : Nat) : St := { nt := 27, env := [(4, .v true (.int .i64 (2 * (k : Int)))), (3, rwA k), (0, .v false (words x))], mem := rwB x k }

theorem Row_ok (x : List Int) (hx : x.length < 1000000) (ox : okH x) : FnOk Tryz.prog 173 [.v (words x)] [.v true (words (rowOf x))] := by
  refine FnOk.of Tryz.func173 rfl rfl fun cx w0 => ?_
  rw [show Tryz.f173.ntmps = 27 from rfl]
  refine Holds.step (Px := px) (T := TT) (ρ := fun _ => []) TTe (by simp (maxSteps := 100000) (disch := omega) only [go_sem, V.isAgg, V.flat, ↓reduceIte, Nat.reduceAdd, Nat.reduceSub, Nat.reduceLT, Nat.reduceEqDiff, reduceCtorEq, Nat.reduceLeDiff, Nat.reduceBEq, Nat.reduceMul, Int.reduceToNat, List.length_cons, List.length_nil]; rfl) (by repeat' first | exact trivial | constructor) ?_
  refine Holds.step (Px := px) (T := TT) (ρ := fun _ => []) TTe (by simp (maxSteps := 100000) (disch := omega) only [go_sem, V.isAgg, V.flat, ↓reduceIte, Nat.reduceAdd, Nat.reduceSub, Nat.reduceLT, Nat.reduceEqDiff, reduceCtorEq, Nat.reduceLeDiff, Nat.reduceBEq, Nat.reduceMul, Int.reduceToNat]; rfl) (by repeat' first | exact trivial | constructor) ?_
  have hend2 : rowOf (x.take (2 * (x.length / 2))) = rowOf x := by
    by_cases hp : x.length % 2 = 0
    · rw [List.take_of_length_le (by omega)]
    · have hl : 2 * (x.length / 2) < x.length := by omega
      have e : x = x.take (2 * (x.length / 2)) ++ [x.getD (2 * (x.length / 2)) 0] := by
        have h1 : x.take (2 * (x.length / 2) + 1) = x := List.take_of_length_le (by omega)
        rw [List.take_add_one, List.getElem?_eq_getElem hl] at h1
        rw [List.getD_eq_getElem?_getD, List.getElem?_eq_getElem hl]
        exact h1.symm
      have h2 := rowOf_odd (x.take (2 * (x.length / 2))) (x.getD (2 * (x.length / 2)) 0) (by rw [List.length_take]; omega)
      rw [← e] at h2
      exact h2.symm
  refine Holds.next (fun σ => ∀ a w, Rel cx w0 σ a w → Rel cx w0 { nt := 27, env := [(3, rwA (x.length / 2))], mem := rwB x (x.length / 2) } a w) ?_ ?_
  · refine Holds.step (Px := px) (T := TT) (ρ := fun _ => []) TTe (by simp (maxSteps := 100000) (disch := omega) only [go_sem, V.isAgg, V.flat, ↓reduceIte, Nat.reduceAdd, Nat.reduceSub, Nat.reduceLT, Nat.reduceEqDiff, reduceCtorEq, Nat.reduceLeDiff, Nat.reduceBEq, Nat.reduceMul, Int.reduceToNat]; rfl) (by repeat' first | exact trivial | constructor) ?_
    refine Holds.loopB (fun k => rwS x k) (fun k => k ≤ x.length / 2) (fun k => x.length / 2 - k) 0 (Nat.zero_le _) (fun a w h => Rel.keep [4, 3, 0] [] h) ?_
    intro k hk
    by_cases hend : k = x.length / 2
    · refine Holds.seq ?_
      rw [rwS]
      refine Holds.step (Px := px) (T := TT) (ρ := fun _ => []) TTe (by simp (maxSteps := 100000) (disch := omega) only [go_sem, V.isAgg, V.flat, ↓reduceIte, Nat.reduceAdd, Nat.reduceSub, Nat.reduceLT, Nat.reduceEqDiff, reduceCtorEq, Nat.reduceLeDiff, Nat.reduceBEq, Nat.reduceMul, Int.reduceToNat]; rfl) (by repeat' first | exact trivial | constructor) ?_
      refine Holds.condF rfl (Holds.exit ⟨rfl, fun a w h => ?_⟩)
      rw [← hend]
      exact Rel.less [3] (fun _ => rfl) h
    · have hkl : 2 * k < x.length := by omega
      have hkl2 : 2 * k + 1 < x.length := by omega
      have hw := okW_getD (okH_okW ox) (2 * k)
      have h1 : 0 ≤ x.getD (2 * k) 0 ∧ x.getD (2 * k) 0 < 4294967296 := by
        rw [List.getD_eq_getElem?_getD, List.getElem?_eq_getElem hkl]; exact ox _ (List.getElem_mem hkl)
      have h2 : 0 ≤ x.getD (2 * k + 1) 0 ∧ x.getD (2 * k + 1) 0 < 4294967296 := by
        rw [List.getD_eq_getElem?_getD, List.getElem?_eq_getElem hkl2]; exact ox _ (List.getElem_mem hkl2)
      have hlt : (rowOf (x.take (2 * k))).length = k := by rw [rowOf_len, List.length_take]; omega
      have htk : x.take (2 * (k + 1)) = x.take (2 * k) ++ [x.getD (2 * k) 0, x.getD (2 * k + 1) 0] := by
        rw [show 2 * (k + 1) = 2 * k + 1 + 1 from by omega, take_succ hkl2, take_succ hkl, List.append_assoc]
        rfl
      have hro : rowOf (x.take (2 * (k + 1))) = rowOf (x.take (2 * k)) ++ [x.getD (2 * k) 0 + x.getD (2 * k + 1) 0 * 4294967296] := by
        rw [htk, rowOf_append _ _ _ (by rw [List.length_take]; omega)]
      have e1 : (2 * (k : Int)).toNat = 2 * k := by omega
      have e2 : (2 * (k : Int) + 1).toNat = 2 * k + 1 := by omega
      have e3 : IntKind.u64.wrap (x.getD (2 * k + 1) 0 * 4294967296) = x.getD (2 * k + 1) 0 * 4294967296 := by rw [wrap_u64]; omega
      have e4 : IntKind.u64.wrap (x.getD (2 * k) 0 + x.getD (2 * k + 1) 0 * 4294967296) = x.getD (2 * k) 0 + x.getD (2 * k + 1) 0 * 4294967296 := by rw [wrap_u64]; omega
      refine Holds.seq ?_
      rw [rwS]
      refine Holds.step (Px := px) (T := TT) (ρ := fun _ => []) TTe (by simp (maxSteps := 100000) (disch := omega) only [go_sem, V.isAgg, V.flat, ↓reduceIte, Nat.reduceAdd, Nat.reduceSub, Nat.reduceLT, Nat.reduceEqDiff, reduceCtorEq, Nat.reduceLeDiff, Nat.reduceBEq, Nat.reduceMul, Int.reduceToNat]; rfl) (by repeat' first | exact trivial | constructor) ?_
      refine Holds.condT rfl (Holds.skip ?_)
      refine Holds.next (fun σ => ∀ a w, Rel cx w0 σ a w → Rel cx w0 { nt := 27, env := [(4, .v true (.int .i64 (2 * (k : Int)))), (3, rwA (k + 1)), (0, .v false (words x))], mem := rwB x (k + 1) } a w) ?_ ?_
      · refine Holds.blockN ?_
        rcases Nat.eq_zero_or_pos k with h0 | h0
        · have ea : rwA k = .nil := if_pos h0
          have eb : rwB x k = [] := if_pos h0
          have er : rowOf (x.take (2 * k)) = [] := by rw [h0]; rfl
          have hk1 : k + 1 = 1 := by omega
          rw [ea, eb]
          refine Holds.dregionT (Px := px) (T := TT) (ρ := fun _ => []) [(3, 13), (4, 13), (8, 13), (9, 13)] mixed (by kernel_rfl) TTe (by simp (maxSteps := 100000) (disch := omega) only [go_sem, V.isAgg, V.flat, ↓reduceIte, Nat.reduceAdd, Nat.reduceSub, Nat.reduceLT, Nat.reduceEqDiff, reduceCtorEq, Nat.reduceLeDiff, Nat.reduceBEq, Nat.reduceMul, Int.reduceToNat, get_map hkl, get_map hkl2, e1, e2, e3, e4]; rfl) (by repeat' first | exact trivial | constructor) (by rfl) (by rfl) (by simp (maxSteps := 100000) (disch := omega) only [trc_nil, trc_cons, effW_t, effW_f, trcE_s, opSites_eq, sitesOf, AV.sites, AV.sitesL, Op.operands, Call.operands, List.append_toArray, List.toList_toArray, List.filter_nil, List.filter_cons, List.contains_cons, List.contains_nil, go_sem, V.isAgg, V.flat, ↓reduceIte, Nat.reduceAdd, Nat.reduceSub, Nat.reduceLT, Nat.reduceEqDiff, reduceCtorEq, Nat.reduceLeDiff, Nat.reduceBEq, Nat.reduceMul, Int.reduceToNat, get_map hkl, get_map hkl2, e1, e2, e3, e4]; rfl) (by rfl) ?_
          intro a w h
          have := Rel.ren (s := 25) (s' := 300) (Rel.keep [4, 3, 0] [25] h) (by decide) rfl rfl
          rw [rwB, if_neg (by omega), hro, er, rwA, if_neg (by omega), hk1]
          exact this
        · have ea : rwA k = .own 300 0 k := if_neg (by omega)
          have eb : rwB x k = [(300, .buf 76 1 true ((rowOf (x.take (2 * k))).map fun n => .int .u64 n))] := if_neg (by omega)
          rw [ea, eb]
          refine Holds.dregionT (Px := px) (T := TT) (ρ := fun _ => []) [(3, 13), (4, 13), (8, 13), (9, 13)] mixed (by kernel_rfl) TTe (by simp (maxSteps := 100000) (disch := omega) only [go_sem, V.isAgg, V.flat, ↓reduceIte, Nat.reduceAdd, Nat.reduceSub, Nat.reduceLT, Nat.reduceEqDiff, reduceCtorEq, Nat.reduceLeDiff, Nat.reduceBEq, Nat.reduceMul, Int.reduceToNat, get_map hkl, get_map hkl2, e1, e2, e3, e4, hlt]; rfl) (by repeat' first | exact trivial | constructor) (by rfl) (by rfl) (by simp (maxSteps := 100000) (disch := omega) only [trc_nil, trc_cons, effW_t, effW_f, trcE_s, opSites_eq, sitesOf, AV.sites, AV.sitesL, Op.operands, Call.operands, List.append_toArray, List.toList_toArray, List.filter_nil, List.filter_cons, List.contains_cons, List.contains_nil, go_sem, V.isAgg, V.flat, ↓reduceIte, Nat.reduceAdd, Nat.reduceSub, Nat.reduceLT, Nat.reduceEqDiff, reduceCtorEq, Nat.reduceLeDiff, Nat.reduceBEq, Nat.reduceMul, Int.reduceToNat, get_map hkl, get_map hkl2, e1, e2, e3, e4, hlt]; rfl) (by rfl) ?_
          intro a w h
          have := Rel.ren (s := 25) (s' := 300) (Rel.keep [4, 3, 0] [25] h) (by decide) rfl rfl
          rw [rwB, if_neg (by omega), hro, rwA, if_neg (by omega), List.map_append]
          exact this
      · intro σ hσ
        refine Holds.from hσ ?_
        refine Holds.region (Px := px) (T := TT) (ρ := fun _ => []) TTe (by simp (maxSteps := 100000) (disch := omega) only [go_sem, V.isAgg, V.flat, ↓reduceIte, Nat.reduceAdd, Nat.reduceSub, Nat.reduceLT, Nat.reduceEqDiff, reduceCtorEq, Nat.reduceLeDiff, Nat.reduceBEq, Nat.reduceMul, Int.reduceToNat]; rfl) (by repeat' first | exact trivial | constructor) ?_
        refine ⟨k + 1, (by show k + 1 ≤ x.length / 2; omega), (show x.length / 2 - (k + 1) < x.length / 2 - k by omega), fun a w h => ?_⟩
        have := Rel.less [4, 3, 0] (fun _ => rfl) h
        show Rel cx w0 (rwS x (k + 1)) a w
        rw [rwS, show (2 * ((k + 1 : Nat) : Int)) = 2 * (k : Int) + 2 from by omega]
        exact this
  · intro σ hσ
    refine Holds.from hσ ?_
    have hl := rowOf_len x
    rw [rwA, rwB, hend2]
    by_cases h0 : x.length / 2 = 0
    · rw [if_pos h0, if_pos h0]
      have : rowOf x = [] := List.eq_nil_of_length_eq_zero (by omega)
      rw [this]
      refine Holds.step (Px := px) (T := TT) (ρ := fun _ => []) TTe (by simp (maxSteps := 100000) (disch := omega) only [go_sem, V.isAgg, V.flat, ↓reduceIte, Nat.reduceAdd, Nat.reduceSub, Nat.reduceLT, Nat.reduceEqDiff, reduceCtorEq, Nat.reduceLeDiff, Nat.reduceBEq, Nat.reduceMul, Int.reduceToNat]; rfl) (by repeat' first | exact trivial | constructor) ?_
      exact Holds.ret ⟨_, [], rfl, ⟨rfl, trivial⟩, by simp [R.names, R.mems, R.blks], by simp, rfl⟩
    · rw [if_neg h0, if_neg h0]
      refine Holds.step (Px := px) (T := TT) (ρ := fun _ => []) TTe (by simp (maxSteps := 100000) (disch := omega) only [go_sem, V.isAgg, V.flat, ↓reduceIte, Nat.reduceAdd, Nat.reduceSub, Nat.reduceLT, Nat.reduceEqDiff, reduceCtorEq, Nat.reduceLeDiff, Nat.reduceBEq, Nat.reduceMul, Int.reduceToNat]; rfl) (by repeat' first | exact trivial | constructor) ?_
      exact Holds.ret ⟨_, [], rfl, ⟨⟨rfl, by rw [List.drop_zero, List.take_of_length_le (by rw [List.length_map, hl]; exact Nat.le_refl _)], fun h => h, rfl⟩, trivial⟩, by simp [R.names, R.mems, R.blks], by simp, rfl⟩
end Go.Proofs.YtobacemgcjnahaaGreatDoor.L
/-
  Sums of numbers by their words.
-/
namespace Go.Proofs.YtobacemgcjnahaaGreatDoor.L

theorem noZ_last : ∀ {l : List Int} {x : Int}, x ≠ 0 → noZ (l ++ [x])
  | [], _, h => h
  | [_], _, h => h
  | _ :: y :: r, _, h => noZ_last (l := y :: r) h

theorem okW_take {l : List Int} (h : okW l) (n : Nat) : okW (l.take n) := fun m hm => h m (List.mem_of_mem_take hm)

theorem trimW_ok (l : List Int) : ∀ n, n ≤ l.length → val (l.take (trimW l n)) = val (l.take n) ∧ noZ (l.take (trimW l n))
  | 0, _ => by rw [trimW, List.take_zero]; exact ⟨rfl, trivial⟩
  | n + 1, h => by
    have e : l.take (n + 1) = l.take n ++ [l.getD n 0] := by rw [List.take_add_one, get_map h]; rfl
    rw [trimW]
    split
    · next h0 =>
      obtain ⟨h1, h2⟩ := trimW_ok l n (by omega)
      refine ⟨?_, h2⟩
      rw [h1, e, val_append, h0]
      simp [val]
    · next h0 =>
      exact ⟨rfl, by rw [e]; exact noZ_last h0⟩

theorem trimL_digs {l : List Int} (ok : okW l) : trimL l = digs (val l) := by
  obtain ⟨h1, h2⟩ := trimW_ok l l.length (Nat.le_refl _)
  rw [List.take_length] at h1
  rw [← h1]
  exact digs_of (okW_take ok _) h2

theorem val_set : ∀ {l : List Int} {i : Nat} {n : Int}, i < l.length → val (l.set i n) + 18446744073709551616 ^ i * (l.getD i 0).toNat = val l + 18446744073709551616 ^ i * n.toNat
  | [], i, n, h => by simp at h
  | x :: r, 0, n, h => by simp [val]; omega
  | x :: r, i + 1, n, h => by
    have ih := val_set (l := r) (i := i) (n := n) (by simpa using h)
    rw [List.set_cons_succ, val, val, List.getD_cons_succ, Nat.pow_succ]
    have e1 : ∀ m : Nat, 18446744073709551616 ^ i * 18446744073709551616 * m = 18446744073709551616 * (18446744073709551616 ^ i * m) := fun m => by
      rw [Nat.mul_comm (18446744073709551616 ^ i), Nat.mul_assoc]
    rw [e1, e1]
    omega

theorem val_take_succ {l : List Int} (k : Nat) : val (l.take (k + 1)) = val (l.take k) + 18446744073709551616 ^ k * (l.getD k 0).toNat := by
  rcases Nat.lt_or_ge k l.length with h | h
  · rw [List.take_add_one, get_map h, val_append, List.length_take, Nat.min_eq_left (by omega)]
    simp [val]
  · rw [List.take_of_length_le (by omega), List.take_of_length_le h, List.getD_eq_getElem?_getD, List.getElem?_eq_none h]
    simp

theorem val_lt : ∀ {l : List Int}, okW l → val l < 18446744073709551616 ^ l.length
  | [], _ => by simp [val]
  | x :: r, ok => by
    have h1 := okW_cons ok
    have h2 := val_lt h1.2
    rw [val, List.length_cons, Nat.pow_succ]
    omega
theorem trimL_ok {l : List Int} (ol : okW l) : okW (trimL l) := fun n hn => ol n (List.mem_of_mem_take hn)
end Go.Proofs.YtobacemgcjnahaaGreatDoor.L
/-
  Plain laws of halves.
-/
namespace Go.Proofs.YtobacemgcjnahaaGreatDoor.L
open Go Go.RowKit Go.Proofs

def valH : List Int → Nat
  | [] => 0
  | x :: r => x.toNat + 4294967296 * valH r

theorem val_dig : ∀ {l : List Int}, okW l → valH (digL l) = val l
  | [], _ => rfl
  | x :: r, h => by
    obtain ⟨h1, h2⟩ := okW_cons h
    rw [digL, valH, valH, val, val_dig h2]
    have : (x % 4294967296).toNat + 4294967296 * (x / 4294967296).toNat = x.toNat := by omega
    omega

theorem val_row : ∀ {l : List Int}, okH l → l.length % 2 = 0 → val (rowOf l) = valH l
  | [], _, _ => rfl
  | [_], _, h => by simp at h
  | a :: b :: r, h, hl => by
    have h1 := h a (by simp)
    have h2 := h b (by simp)
    rw [rowOf, val, valH, valH, val_row (fun m hm => h m (by simp [hm])) (by simp at hl; omega)]
    have : (a + b * 4294967296).toNat = a.toNat + 4294967296 * b.toNat := by omega
    omega

theorem valH_zeros : ∀ (l : List Int) (n : Nat), valH (l ++ List.replicate n 0) = valH l
  | [], n => by
    rw [List.nil_append]
    induction n with
    | zero => rfl
    | succ n ih =>
      rw [List.replicate_succ]
      show (0 : Int).toNat + 4294967296 * valH (List.replicate n 0) = 0
      rw [ih]; rfl
  | x :: r, n => by rw [List.cons_append, valH, valH, valH_zeros r n]
theorem val_zeros : ∀ (l : List Int) (n : Nat), val (l ++ List.replicate n 0) = val l
  | [], n => by
    rw [List.nil_append]
    induction n with
    | zero => rfl
    | succ n ih =>
      rw [List.replicate_succ]
      show (0 : Int).toNat + 18446744073709551616 * val (List.replicate n 0) = 0
      rw [ih]; rfl
  | x :: r, n => by rw [List.cons_append, val, val, val_zeros r n]

theorem trim_split (l : List Int) : ∀ k, k ≤ l.length → l.take k = l.take (trimW l k) ++ List.replicate (k - trimW l k) 0
  | 0, _ => by simp [trimW]
  | k + 1, h => by
    have hk : k < l.length := h
    rw [trimW]
    split
    · next h0 =>
      have h1 := trim_split l k (by omega)
      have h2 := trimW_le l k
      rw [List.getD_eq_getElem?_getD, List.getElem?_eq_getElem hk] at h0
      have h0' : l[k] = 0 := h0
      rw [List.take_add_one, List.getElem?_eq_getElem hk, h1, h0', show k + 1 - trimW l k = (k - trimW l k) + 1 from by omega, List.replicate_succ', List.append_assoc]
      rfl
    · simp
theorem trimL_split (l : List Int) : ∃ n, l = trimL l ++ List.replicate n 0 := ⟨l.length - trimW l l.length, by
  have := trim_split l l.length (Nat.le_refl _)
  rw [List.take_length] at this
  exact this⟩
theorem valH_trim (l : List Int) : valH (trimL l) = valH l := by
  obtain ⟨n, h⟩ := trimL_split l
  have := valH_zeros (trimL l) n
  rw [← h] at this
  exact this.symm
theorem val_trim (l : List Int) : val (trimL l) = val l := by
  obtain ⟨n, h⟩ := trimL_split l
  have := val_zeros (trimL l) n
  rw [← h] at this
  exact this.symm

theorem trimW_last (l : List Int) : ∀ (k m : Nat), trimW l k = m + 1 → l.getD m 0 ≠ 0 ∧ m < k
  | 0, m, h => by rw [trimW] at h; omega
  | k + 1, m, h => by
    rw [trimW] at h
    split at h
    · obtain ⟨h1, h2⟩ := trimW_last l k m h
      exact ⟨h1, by omega⟩
    · next h0 =>
      have : m = k := by omega
      subst this
      exact ⟨h0, by omega⟩
theorem trimL_last (l : List Int) : trimL l = [] ∨ ∃ t z, trimL l = t ++ [z] ∧ z ≠ 0 := by
  cases hm : trimW l l.length with
  | zero => left; rw [trimL, hm]; rfl
  | succ m =>
    obtain ⟨h1, h2⟩ := trimW_last l l.length m hm
    right
    refine ⟨l.take m, l.getD m 0, ?_, h1⟩
    rw [trimL, hm, List.take_add_one, List.getElem?_eq_getElem h2, List.getD_eq_getElem?_getD, List.getElem?_eq_getElem h2]
    rfl
theorem noZ_end : ∀ (L : List Int) (z : Int), z ≠ 0 → noZ (L ++ [z])
  | [], z, h => h
  | [x], z, h => h
  | x :: y :: r, z, h => noZ_end (y :: r) z h
theorem noZ_trim (l : List Int) : noZ (trimL l) := by
  rcases trimL_last l with h | ⟨t, z, h, hz⟩
  · rw [h]; trivial
  · rw [h]; exact noZ_end t z hz
/-- What is left of words is the number's words. -/
theorem trim_digs {l : List Int} (ol : okW l) : trimL l = digs (val l) := by
  have := digs_of (trimL_ok ol) (noZ_trim l)
  rw [val_trim] at this
  exact this
theorem snoc_of : ∀ {l : List Int}, l ≠ [] → ∃ t z, l = t ++ [z]
  | [], h => absurd rfl h
  | [x], _ => ⟨[], x, rfl⟩
  | x :: y :: r, _ => by
    obtain ⟨t, z, h⟩ := snoc_of (l := y :: r) (by simp)
    exact ⟨x :: t, z, by rw [h]; rfl⟩

/-- Halves filled up to whole words, and two more. -/
def padH (h : List Int) (k : Nat) : List Int := h ++ List.replicate (2 * k + 2 - h.length) 0
def natOf (h : List Int) : List Int := rowOf ((padH (trimL h) (((trimL h).length + 1) / 2)).take (2 * (((trimL h).length + 1) / 2)))
theorem trimL_okH {l : List Int} (ol : okH l) : okH (trimL l) := fun n hn => ol n (List.mem_of_mem_take hn)

theorem natOf_eq {h : List Int} (oh : okH h) : natOf h = digs (valH h) := by
  have ot := trimL_okH oh
  rw [← valH_trim h]
  unfold natOf
  rcases trimL_last h with ht | ⟨t, z, ht, hz⟩
  · rw [ht]; rfl
  · rw [ht] at ot ⊢
    have oz := ot z (by simp)
    have otk : ∀ m ∈ t, 0 ≤ m ∧ m < 4294967296 := fun m hm => ot m (by simp [hm])
    have hlen : (t ++ [z]).length = t.length + 1 := by simp
    rcases Nat.mod_two_eq_zero_or_one t.length with he | he
    · -- an odd number of halves
      have hk : ((t ++ [z]).length + 1) / 2 = t.length / 2 + 1 := by rw [hlen]; omega
      have e : (padH (t ++ [z]) (t.length / 2 + 1)).take (2 * (t.length / 2 + 1)) = t ++ [z, 0] := by
        have e1 : padH (t ++ [z]) (t.length / 2 + 1) = (t ++ [z, 0]) ++ List.replicate 2 0 := by
          unfold padH
          rw [hlen, show 2 * (t.length / 2 + 1) + 2 - (t.length + 1) = 2 + 1 from by omega]
          rw [List.append_assoc, List.append_assoc]
          rfl
        rw [e1, List.take_append_of_le_length (by simp; omega), List.take_of_length_le (by simp; omega)]
      rw [hk, e, rowOf_append t z 0 he]
      have ok : okW (rowOf t ++ [z + 0 * 4294967296]) := by
        intro m hm
        rcases List.mem_append.1 hm with hm | hm
        · exact rowOf_ok (l := t) otk m hm
        · rw [List.mem_singleton] at hm; omega
      have hv : val (rowOf t ++ [z + 0 * 4294967296]) = valH (t ++ [z]) := by
        rw [← rowOf_append t z 0 he, val_row (l := t ++ [z, 0]) (fun m hm => by
          rcases List.mem_append.1 hm with hm | hm
          · exact otk m hm
          · rcases List.mem_cons.1 hm with rfl | hm
            · exact oz
            · rw [List.mem_singleton] at hm; omega) (by simp; omega)]
        have := valH_zeros (t ++ [z]) 1
        rw [List.append_assoc] at this
        exact this
      rw [← hv]
      exact digs_of ok (noZ_end _ _ (by omega))
    · -- an even number
      have htne : t ≠ [] := fun h => by rw [h] at he; simp at he
      obtain ⟨s, y, rfl⟩ := snoc_of htne
      have hsl : (s ++ [y]).length = s.length + 1 := by simp
      have oy := otk y (by simp)
      have osk : ∀ m ∈ s, 0 ≤ m ∧ m < 4294967296 := fun m hm => otk m (by simp [hm])
      have hk : ((s ++ [y] ++ [z]).length + 1) / 2 = s.length / 2 + 1 := by rw [hlen, hsl]; omega
      have e : (padH (s ++ [y] ++ [z]) (s.length / 2 + 1)).take (2 * (s.length / 2 + 1)) = s ++ [y, z] := by
        have e1 : padH (s ++ [y] ++ [z]) (s.length / 2 + 1) = (s ++ [y, z]) ++ List.replicate 2 0 := by
          unfold padH
          rw [hlen, hsl, show 2 * (s.length / 2 + 1) + 2 - (s.length + 1 + 1) = 2 from by omega, List.append_assoc s]
          rfl
        rw [e1, List.take_append_of_le_length (by simp; omega), List.take_of_length_le (by simp; omega)]
      have hse : s.length % 2 = 0 := by omega
      rw [hk, e, rowOf_append s y z hse]
      have ok : okW (rowOf s ++ [y + z * 4294967296]) := by
        intro m hm
        rcases List.mem_append.1 hm with hm | hm
        · exact rowOf_ok (l := s) osk m hm
        · rw [List.mem_singleton] at hm; omega
      have hv : val (rowOf s ++ [y + z * 4294967296]) = valH (s ++ [y] ++ [z]) := by
        rw [← rowOf_append s y z hse, val_row (l := s ++ [y, z]) (fun m hm => by
          rcases List.mem_append.1 hm with hm | hm
          · exact osk m hm
          · rcases List.mem_cons.1 hm with rfl | hm
            · exact oy
            · rw [List.mem_singleton] at hm; rw [hm]; exact oz) (by simp; omega), List.append_assoc]
        rfl
      rw [← hv]
      exact digs_of ok (noZ_end _ _ (by omega))
/-
  reckonerref01.Cut, reckonerref02: nat, Trim.
-/
attribute [local go_sem] evalOps_nil evalOps_cons runW_t runW_f runE_s runP_s wantA evalOp effOp letters okDst coreA St.opv St.get St.at look constA St.put St.upd St.set decide_true List.all_nil List.all_cons Bool.and_true Bool.true_and and_self and_true true_and if_true if_false true_or Int.sub_zero List.nil_append List.cons_append List.append_nil Option.isSome_some List.getElem?_toArray List.getElem?_cons_succ List.getElem?_cons_zero Option.bind_some Option.map_some Option.map_none beq_self_eq_true Bool.false_beq Bool.true_beq Bool.not_true Bool.not_false Bool.false_eq_true cond_true cond_false binA binI List.map_cons List.map_nil boundA List.length_nil List.length_cons Nat.zero_mul Nat.one_mul Nat.mul_one Nat.zero_add Nat.add_zero Nat.zero_le Option.toList St.freshB AV.ment AV.ments Blk.ment V.sizes Nat.lt_add_one Bool.or_true Bool.true_or Bool.or_false Bool.false_or Bool.or_self if_pos if_neg decide_false decide_eq_true decide_eq_false wrap_i64 Int.toNat_natCast minA maxA Int.natCast_add Int.cast_ofNat_Int Option.isSome_none false_implies true_implies forall_const List.drop_zero Int.toNat_zero Int.add_sub_cancel lenA sliceA loadA indexAddrA partA fitsT V.atP V.offP V.size List.length_map List.getElem?_map Int.toNat_natCast_add_one Int.ofNat_eq_natCast TY calleeA capArg knotA capArgs toArgs toArg callA R.res R.mems R.blks R.av R.names R.nw invokeA storeA storeV fieldAddrA liveB V.off V.offs V.setP List.set_cons_zero List.set_cons_succ buildA buildP partsA appendA srcA copyA boxOk makeA AV.pure List.take_succ_cons List.take_zero nilA words entry List.zipIdx_cons List.zipIdx_nil Arg.av Arg.avs

theorem padH_ok {h : List Int} (oh : okH h) (k : Nat) : okH (padH h k) := fun n hn => by
  rcases List.mem_append.1 hn with hn | hn
  · exact oh n hn
  · rw [List.mem_replicate] at hn; omega
theorem okH_getD {l : List Int} (h : okH l) (i : Nat) : 0 ≤ l.getD i 0 ∧ l.getD i 0 < 4294967296 := by
  rw [List.getD_eq_getElem?_getD]
  cases hi : l[i]? with
  | none => exact ⟨by decide, by decide⟩
  | some x => exact h x (List.mem_of_getElem? hi)

theorem Cut_ok (h : List Int) (k : Nat) (hk : k < 400000) (hl : h.length ≤ 2 * k + 2) (oh : okH h) :
    FnOk Tryz.prog 127 [.v (words h), .v (.int .i64 k)] [.v true (words (rowOf ((padH h k).take (2 * k)))), .v true (.int .u64 ((padH h k).getD (2 * k) 0 + (padH h k).getD (2 * k + 1) 0 * 4294967296))] := by
  refine FnOk.of Tryz.func127 rfl rfl fun cx w0 => ?_
  rw [show Tryz.f127.ntmps = 37 from rfl]
  refine Holds.step (Px := px) (T := TT) (ρ := fun _ => []) TTe (by simp (maxSteps := 100000) (disch := omega) only [go_sem, V.isAgg, V.flat, ↓reduceIte, Nat.reduceAdd, Nat.reduceSub, Nat.reduceLT, Nat.reduceEqDiff, reduceCtorEq, Nat.reduceLeDiff, Nat.reduceBEq, Nat.reduceMul, Int.reduceToNat, List.length_cons, List.length_nil]; rfl) (by repeat' first | exact trivial | constructor) ?_
  refine Holds.step (Px := px) (T := TT) (ρ := fun _ => []) TTe (by simp (maxSteps := 100000) (disch := omega) only [go_sem, V.isAgg, V.flat, ↓reduceIte, Nat.reduceAdd, Nat.reduceSub, Nat.reduceLT, Nat.reduceEqDiff, reduceCtorEq, Nat.reduceLeDiff, Nat.reduceBEq, Nat.reduceMul, Int.reduceToNat]; rfl) (by repeat' first | exact trivial | constructor) ?_
  refine Holds.step (Px := px) (T := TT) (ρ := fun _ => []) TTe (by simp (maxSteps := 100000) (disch := omega) only [go_sem, V.isAgg, V.flat, ↓reduceIte, Nat.reduceAdd, Nat.reduceSub, Nat.reduceLT, Nat.reduceEqDiff, reduceCtorEq, Nat.reduceLeDiff, Nat.reduceBEq, Nat.reduceMul, Int.reduceToNat, flatW]; rfl) (by repeat' first | exact trivial | constructor) ?_
  obtain ⟨H, hH⟩ : ∃ H, H = padH h k := ⟨_, rfl⟩
  have hHl : H.length = 2 * k + 2 := by rw [hH, padH, List.length_append, List.length_replicate]; omega
  have oH : okH H := by rw [hH]; exact padH_ok oh k
  rw [← hH]
  refine Holds.next (fun σ => ∀ a w, Rel cx w0 σ a w → Rel cx w0 { nt := 37, env := [(6, .own 300 0 (2 * k + 2)), (1, .v true (.int .i64 k))], mem := [(300, .buf 76 1 true (H.map fun n => .int .u64 n))] } a w) ?_ ?_
  · refine Holds.loopB (fun j : Nat => { nt := 37, env := [(6, .own 300 0 (h.length + j)), (1, .v true (.int .i64 k))], mem := [(300, .buf 76 1 true ((h ++ List.replicate j 0).map fun n => .int .u64 n))] }) (fun j => h.length + j ≤ 2 * k + 2) (fun j => 2 * k + 2 - h.length - j) 0 (by omega) (fun a w hr => by
      have := Rel.ren (s := 9) (s' := 300) (Rel.keep [6, 1] [9] hr) (by decide) rfl rfl
      rw [List.replicate_zero, List.append_nil]
      exact this) ?_
    intro j hj
    have hjl : (h ++ List.replicate j 0).length = h.length + j := by rw [List.length_append, List.length_replicate]
    by_cases hend : h.length + j = 2 * k + 2
    · refine Holds.seq ?_
      refine Holds.step (Px := px) (T := TT) (ρ := fun _ => []) TTe (by simp (maxSteps := 100000) (disch := omega) only [go_sem, V.isAgg, V.flat, ↓reduceIte, Nat.reduceAdd, Nat.reduceSub, Nat.reduceLT, Nat.reduceEqDiff, reduceCtorEq, Nat.reduceLeDiff, Nat.reduceBEq, Nat.reduceMul, Int.reduceToNat]; rfl) (by repeat' first | exact trivial | constructor) ?_
      refine Holds.condF rfl (Holds.exit ⟨rfl, fun a w hr => ?_⟩)
      have e : h ++ List.replicate j 0 = H := by rw [hH, padH]; congr 2; omega
      have := Rel.keep [6, 1] [300] hr
      rw [e, hend] at this
      exact this
    · refine Holds.seq ?_
      refine Holds.step (Px := px) (T := TT) (ρ := fun _ => []) TTe (by simp (maxSteps := 100000) (disch := omega) only [go_sem, V.isAgg, V.flat, ↓reduceIte, Nat.reduceAdd, Nat.reduceSub, Nat.reduceLT, Nat.reduceEqDiff, reduceCtorEq, Nat.reduceLeDiff, Nat.reduceBEq, Nat.reduceMul, Int.reduceToNat]; rfl) (by repeat' first | exact trivial | constructor) ?_
      refine Holds.condT rfl (Holds.skip ?_)
      refine Holds.block ?_
      refine Holds.region (Px := px) (T := TT) (ρ := fun _ => []) TTe (by simp (maxSteps := 100000) (disch := omega) only [go_sem, V.isAgg, V.flat, ↓reduceIte, Nat.reduceAdd, Nat.reduceSub, Nat.reduceLT, Nat.reduceEqDiff, reduceCtorEq, Nat.reduceLeDiff, Nat.reduceBEq, Nat.reduceMul, Int.reduceToNat, hjl]; rfl) (by repeat' first | exact trivial | constructor) ?_
      refine ⟨j + 1, (by show h.length + (j + 1) ≤ 2 * k + 2; omega), (show 2 * k + 2 - h.length - (j + 1) < 2 * k + 2 - h.length - j by omega), fun a w hr => ?_⟩
      have := Rel.ren (s := 18) (s' := 300) (Rel.keep [6, 1] [18] hr) (by decide) rfl rfl
      have e : (h ++ List.replicate (j + 1) 0).map (fun n => V.int .u64 n) = (h ++ List.replicate j 0).map (fun n => V.int .u64 n) ++ [V.int .u64 0] := by
        rw [List.replicate_succ', ← List.append_assoc, List.map_append]; rfl
      simp only [e]
      exact this
  · intro σ hσ
    refine Holds.from hσ ?_
    have e1 : (2 * (k : Int)).toNat = 2 * k := by omega
    have e2 : (2 * (k : Int) + 1).toNat = 2 * k + 1 := by omega
    have h1 := okH_getD oH (2 * k)
    have h2 := okH_getD oH (2 * k + 1)
    have hi1 : 2 * k < H.length := by omega
    have hi2 : 2 * k + 1 < H.length := by omega
    have g1 := get_map hi1
    have g2 := get_map hi2
    obtain ⟨p, hp⟩ : ∃ p, p = H.getD (2 * k) 0 := ⟨_, rfl⟩
    obtain ⟨q, hq⟩ : ∃ q, q = H.getD (2 * k + 1) 0 := ⟨_, rfl⟩
    rw [← hp] at g1 h1
    rw [← hq] at g2 h2
    rw [← hp, ← hq]
    have e3 : IntKind.u64.wrap (q * 4294967296) = q * 4294967296 := by rw [wrap_u64]; omega
    have e4 : IntKind.u64.wrap (p + q * 4294967296) = p + q * 4294967296 := by rw [wrap_u64]; omega
    have htk : List.take (2 * k) (List.map (fun n => V.int .u64 n) H) = List.map (fun n => V.int .u64 n) (H.take (2 * k)) := by rw [List.map_take]
    have hrow := Row_ok (H.take (2 * k)) (by rw [List.length_take]; omega) (fun n hn => oH n (List.mem_of_mem_take hn))
    refine Holds.dstep (Px := px) (T := TT) (ρ := fun _ => [.v true (words (rowOf (H.take (2 * k))))]) [] mixed (by kernel_rfl) TTe (by simp (maxSteps := 100000) (disch := omega) only [go_sem, V.isAgg, V.flat, ↓reduceIte, Nat.reduceAdd, Nat.reduceSub, Nat.reduceLT, Nat.reduceEqDiff, reduceCtorEq, Nat.reduceLeDiff, Nat.reduceBEq, Nat.reduceMul, Int.reduceToNat, e1, e2, e3, e4, g1, g2, htk]; rfl) (by first | exact hrow | (repeat' first | exact trivial | exact hrow | constructor)) (by rfl) (by rfl) (by rfl) ?_
    exact Holds.ret (RetOk.vs rfl (by exact ⟨⟨rfl, fun h => h⟩, ⟨rfl, fun h => h⟩, trivial⟩) rfl)

theorem nat_ok (h : List Int) (hl : h.length < 400000) (oh : okH h) : FnOk Tryz.prog 71 [.v (words h)] [.v true (words (digs (valH h)))] := by
  rw [← natOf_eq oh]
  have ht := trimL_len h
  have hsh := Short_ok h (by omega)
  have hc := Cut_ok (trimL h) (((trimL h).length + 1) / 2) (by omega) (by omega) (trimL_okH oh)
  obtain ⟨k, hk⟩ : ∃ k, k = ((trimL h).length + 1) / 2 := ⟨_, rfl⟩
  have e : natOf h = rowOf ((padH (trimL h) k).take (2 * k)) := by rw [hk]; rfl
  rw [← hk] at hc
  rw [e]
  have hq : (((trimL h).length : Int) + 1).tdiv 2 = k := by
    rw [Int.tdiv_eq_ediv_of_nonneg (by omega)]
    omega
  obtain ⟨t, ht2⟩ : ∃ t, t = trimL h := ⟨_, rfl⟩
  have htl : t.length < 400000 := by rw [ht2]; omega
  have hkl : k < 400000 := by omega
  rw [← ht2] at hsh hc hq ⊢
  refine FnOk.of Tryz.func71 rfl rfl fun cx w0 => ?_
  rw [show Tryz.f71.ntmps = 19 from rfl]
  refine Holds.step (Px := px) (T := TT) (ρ := fun _ => []) TTe (by simp (maxSteps := 100000) (disch := omega) only [go_sem, V.isAgg, V.flat, ↓reduceIte, Nat.reduceAdd, Nat.reduceSub, Nat.reduceLT, Nat.reduceEqDiff, reduceCtorEq, Nat.reduceLeDiff, Nat.reduceBEq, Nat.reduceMul, Int.reduceToNat, List.length_cons, List.length_nil]; rfl) (by repeat' first | exact trivial | constructor) ?_
  refine Holds.step (Px := px) (T := TT) (ρ := fun _ => [.v false (words t)]) TTe (by simp (maxSteps := 100000) (disch := omega) only [go_sem, V.isAgg, V.flat, ↓reduceIte, Nat.reduceAdd, Nat.reduceSub, Nat.reduceLT, Nat.reduceEqDiff, reduceCtorEq, Nat.reduceLeDiff, Nat.reduceBEq, Nat.reduceMul, Int.reduceToNat]; rfl) (by first | exact hsh | (repeat' first | exact trivial | exact hsh | constructor)) ?_
  refine Holds.step (Px := px) (T := TT) (ρ := fun _ => []) TTe (by simp (maxSteps := 100000) (disch := omega) only [go_sem, V.isAgg, V.flat, ↓reduceIte, Nat.reduceAdd, Nat.reduceSub, Nat.reduceLT, Nat.reduceEqDiff, reduceCtorEq, Nat.reduceLeDiff, Nat.reduceBEq, Nat.reduceMul, Int.reduceToNat, hq]; rfl) (by repeat' first | exact trivial | constructor) ?_
  refine Holds.step (Px := px) (T := TT) (ρ := fun _ => [.v true (words (rowOf ((padH t k).take (2 * k)))), .v true (.int .u64 ((padH t k).getD (2 * k) 0 + (padH t k).getD (2 * k + 1) 0 * 4294967296))]) TTe (by simp (maxSteps := 100000) (disch := omega) only [go_sem, V.isAgg, V.flat, ↓reduceIte, Nat.reduceAdd, Nat.reduceSub, Nat.reduceLT, Nat.reduceEqDiff, reduceCtorEq, Nat.reduceLeDiff, Nat.reduceBEq, Nat.reduceMul, Int.reduceToNat]; rfl) (by first | exact hc | (repeat' first | exact trivial | exact hc | constructor)) ?_
  refine Holds.step (Px := px) (T := TT) (ρ := fun _ => []) TTe (by simp (maxSteps := 100000) (disch := omega) only [go_sem, V.isAgg, V.flat, ↓reduceIte, Nat.reduceAdd, Nat.reduceSub, Nat.reduceLT, Nat.reduceEqDiff, reduceCtorEq, Nat.reduceLeDiff, Nat.reduceBEq, Nat.reduceMul, Int.reduceToNat]; rfl) (by repeat' first | exact trivial | constructor) ?_
  exact Holds.ret (RetOk.vs rfl (by exact ⟨⟨rfl, fun h => h⟩, trivial⟩) rfl)

/-- The reference's Trim. -/
theorem rTrim_ok (l : List Int) (hl : l.length < 100000) (ol : okW l) : FnOk Tryz.prog 166 [.v (words l)] [.v true (words (digs (val l)))] := by
  have h1 := Digits_ok l (by omega) ol
  have h2 := nat_ok (digL l) (by rw [digL_len]; omega) (digL_ok ol)
  rw [val_dig ol] at h2
  refine FnOk.of Tryz.func166 rfl rfl fun cx w0 => ?_
  rw [show Tryz.f166.ntmps = 6 from rfl]
  refine Holds.step (Px := px) (T := TT) (ρ := fun _ => []) TTe (by simp (maxSteps := 100000) (disch := omega) only [go_sem, V.isAgg, V.flat, ↓reduceIte, Nat.reduceAdd, Nat.reduceSub, Nat.reduceLT, Nat.reduceEqDiff, reduceCtorEq, Nat.reduceLeDiff, Nat.reduceBEq, Nat.reduceMul, Int.reduceToNat, List.length_cons, List.length_nil]; rfl) (by repeat' first | exact trivial | constructor) ?_
  refine Holds.step (Px := px) (T := TT) (ρ := fun d => if d = 4 then [.v true (words (digL l))] else [.v true (words (digs (val l)))]) TTe (by simp (maxSteps := 100000) (disch := omega) only [go_sem, V.isAgg, V.flat, ↓reduceIte, Nat.reduceAdd, Nat.reduceSub, Nat.reduceLT, Nat.reduceEqDiff, reduceCtorEq, Nat.reduceLeDiff, Nat.reduceBEq, Nat.reduceMul, Int.reduceToNat]; rfl) (by first | exact ⟨h1, h2⟩ | (repeat' first | exact trivial | exact h1 | exact h2 | constructor)) ?_
  exact Holds.ret (RetOk.vs rfl (by exact ⟨⟨rfl, fun h => h⟩, trivial⟩) rfl)
/-
  Products of words, and of halves: what they come to.
-/

theorem valH_set : ∀ {l : List Int} {i : Nat} {n : Int}, i < l.length → valH (l.set i n) + 4294967296 ^ i * (l.getD i 0).toNat = valH l + 4294967296 ^ i * n.toNat
  | [], i, n, h => by simp at h
  | x :: r, 0, n, h => by simp [valH]; omega
  | x :: r, i + 1, n, h => by
    have ih := valH_set (l := r) (i := i) (n := n) (by simpa using h)
    rw [List.set_cons_succ, valH, valH, List.getD_cons_succ, Nat.pow_succ]
    have e1 : ∀ m : Nat, 4294967296 ^ i * 4294967296 * m = 4294967296 * (4294967296 ^ i * m) := fun m => by
      rw [Nat.mul_comm (4294967296 ^ i), Nat.mul_assoc]
    rw [e1, e1]
    omega
theorem valH_append : ∀ (l m : List Int), valH (l ++ m) = valH l + 4294967296 ^ l.length * valH m
  | [], m => by simp [valH]
  | x :: r, m => by
    rw [List.cons_append, valH, valH, valH_append r m, List.length_cons, Nat.pow_succ]
    rw [Nat.mul_add, Nat.mul_comm _ (4294967296 : Nat), ← Nat.mul_assoc]
    omega
theorem valH_take_succ {l : List Int} (k : Nat) : valH (l.take (k + 1)) = valH (l.take k) + 4294967296 ^ k * (l.getD k 0).toNat := by
  rcases Nat.lt_or_ge k l.length with h | h
  · rw [take_succ h, valH_append, List.length_take, Nat.min_eq_left (by omega)]
    simp [valH]
  · rw [List.take_of_length_le (by omega), List.take_of_length_le h, List.getD_eq_getElem?_getD, List.getElem?_eq_none h]
    simp

def tmI (ai : Int) (b : List Int) (i : Nat) (s : List Int × Int) : Nat → List Int × Int
  | 0 => s
  | k + 1 => ((tmI ai b i s k).1.set (i + k) (((tmI ai b i s k).2 + (tmI ai b i s k).1.getD (i + k) 0 + ai * b.getD k 0) % 4294967296), ((tmI ai b i s k).2 + (tmI ai b i s k).1.getD (i + k) 0 + ai * b.getD k 0) / 4294967296)
def tmO (a b : List Int) : Nat → List Int
  | 0 => List.replicate (a.length + b.length) 0
  | i + 1 => (tmI (a.getD i 0) b i (tmO a b i, 0) b.length).1.set (i + b.length) (tmI (a.getD i 0) b i (tmO a b i, 0) b.length).2

theorem okH_set {l : List Int} (h : okH l) {i : Nat} {n : Int} (hn : 0 ≤ n ∧ n < 4294967296) : okH (l.set i n) := fun m hm => by
  rcases List.mem_or_eq_of_mem_set hm with h1 | rfl
  · exact h m h1
  · exact hn

theorem tm_bound {ai u : Int} (ha : 0 ≤ ai ∧ ai < 4294967296) (hu : 0 ≤ u ∧ u < 4294967296) : 0 ≤ ai * u ∧ ai * u ≤ 18446744065119617025 := by
  refine ⟨Int.mul_nonneg ha.1 hu.1, ?_⟩
  have : ai * u ≤ 4294967295 * 4294967295 := Int.mul_le_mul (by omega) (by omega) hu.1 (by omega)
  omega

theorem tmI_ok {ai : Int} {b : List Int} {i : Nat} {s : List Int × Int} (ha : 0 ≤ ai ∧ ai < 4294967296) (ob : okH b) (hs : okH s.1) (hc : 0 ≤ s.2 ∧ s.2 < 4294967296) : ∀ k, okH (tmI ai b i s k).1 ∧ (0 ≤ (tmI ai b i s k).2 ∧ (tmI ai b i s k).2 < 4294967296) ∧ (tmI ai b i s k).1.length = s.1.length
  | 0 => ⟨hs, hc, rfl⟩
  | k + 1 => by
    obtain ⟨h1, h2, h3⟩ := tmI_ok (i := i) ha ob hs hc k
    have h4 := okH_getD h1 (i + k)
    have h5 := tm_bound ha (okH_getD ob k)
    rw [tmI]
    refine ⟨okH_set h1 (by omega), by simp only; omega, by simp only; rw [List.length_set, h3]⟩

theorem tmI_far {ai : Int} {b : List Int} {i : Nat} {s : List Int × Int} : ∀ k j, i + k ≤ j → (tmI ai b i s k).1.getD j 0 = s.1.getD j 0
  | 0, _, _ => rfl
  | k + 1, j, h => by
    rw [tmI]
    simp only
    rw [List.getD_eq_getElem?_getD, List.getElem?_set_ne (by omega), ← List.getD_eq_getElem?_getD]
    exact tmI_far k j (by omega)

theorem tmI_val {ai : Int} {b : List Int} {i : Nat} {s : List Int × Int} (ha : 0 ≤ ai ∧ ai < 4294967296) (ob : okH b) (hs : okH s.1) (hc : 0 ≤ s.2 ∧ s.2 < 4294967296) : ∀ k, i + k ≤ s.1.length →
    valH (tmI ai b i s k).1 + 4294967296 ^ (i + k) * (tmI ai b i s k).2.toNat = valH s.1 + 4294967296 ^ i * (ai.toNat * valH (b.take k) + s.2.toNat)
  | 0, _ => by rw [tmI, List.take_zero, valH]; simp
  | k + 1, hk => by
    have ih := tmI_val (i := i) ha ob hs hc k (by omega)
    obtain ⟨h1, h2, h3⟩ := tmI_ok (i := i) ha ob hs hc k
    have hi : i + k < (tmI ai b i s k).1.length := by omega
    have hz := okH_getD h1 (i + k)
    have hu := okH_getD ob k
    have hp := tm_bound ha hu
    rw [tmI, valH_take_succ]
    simp only
    have hset := valH_set (n := ((tmI ai b i s k).2 + (tmI ai b i s k).1.getD (i + k) 0 + ai * b.getD k 0) % 4294967296) hi
    generalize (tmI ai b i s k).1.getD (i + k) 0 = z at *
    generalize b.getD k 0 = u at *
    generalize (tmI ai b i s k).2 = c at *
    have em0 : (ai * u).toNat = ai.toNat * u.toNat := by
      obtain ⟨A, rfl⟩ : ∃ n : Nat, ai = n := ⟨ai.toNat, by omega⟩
      obtain ⟨U, rfl⟩ : ∃ n : Nat, u = n := ⟨u.toNat, by omega⟩
      rw [← Int.natCast_mul, Int.toNat_natCast, Int.toNat_natCast, Int.toNat_natCast]
    have eD : 4294967296 ^ (i + (k + 1)) = 4294967296 ^ (i + k) * 4294967296 := by rw [← Nat.add_assoc, Nat.pow_succ]
    have eA : 4294967296 ^ i * (ai.toNat * (valH (b.take k) + 4294967296 ^ k * u.toNat) + s.2.toNat) = 4294967296 ^ i * (ai.toNat * valH (b.take k) + s.2.toNat) + 4294967296 ^ (i + k) * (ai * u).toNat := by
      rw [em0, Nat.pow_add, Nat.mul_assoc, ← Nat.mul_add]
      congr 1
      rw [Nat.mul_add, Nat.mul_left_comm]
      omega
    generalize ai * u = m at *
    have er : ((c + z + m) % 4294967296).toNat + 4294967296 * ((c + z + m) / 4294967296).toNat = z.toNat + m.toNat + c.toNat := by omega
    have em : 4294967296 ^ (i + k) * ((c + z + m) % 4294967296).toNat + 4294967296 ^ (i + k) * (4294967296 * ((c + z + m) / 4294967296).toNat) = 4294967296 ^ (i + k) * z.toNat + 4294967296 ^ (i + k) * m.toNat + 4294967296 ^ (i + k) * c.toNat := by
      rw [← Nat.mul_add, er, Nat.mul_add, Nat.mul_add]
    rw [eD, eA, Nat.mul_assoc]
    generalize 4294967296 ^ (i + k) * ((c + z + m) % 4294967296).toNat = a1 at *
    generalize 4294967296 ^ (i + k) * (4294967296 * ((c + z + m) / 4294967296).toNat) = a2 at *
    generalize 4294967296 ^ (i + k) * z.toNat = a3 at *
    generalize 4294967296 ^ (i + k) * m.toNat = a4 at *
    generalize 4294967296 ^ (i + k) * c.toNat = a5 at *
    generalize 4294967296 ^ i * (ai.toNat * valH (b.take k) + s.2.toNat) = a6 at *
    omega

theorem tmO_ok {a b : List Int} (oa : okH a) (ob : okH b) : ∀ i, i ≤ a.length → okH (tmO a b i) ∧ (tmO a b i).length = a.length + b.length ∧ valH (tmO a b i) = valH (a.take i) * valH b ∧ ∀ j, i + b.length ≤ j → (tmO a b i).getD j 0 = 0
  | 0, _ => by
    refine ⟨fun n hn => by rw [tmO, List.mem_replicate] at hn; omega, by rw [tmO, List.length_replicate], ?_, fun j hj => ?_⟩
    · rw [tmO, List.take_zero, valH, Nat.zero_mul]
      have := valH_zeros [] (a.length + b.length)
      rw [List.nil_append] at this
      exact this
    · rw [tmO, List.getD_eq_getElem?_getD]
      cases h : (List.replicate (a.length + b.length) (0 : Int))[j]? with
      | none => rfl
      | some x => have := List.mem_of_getElem? h; rw [List.mem_replicate] at this; exact this.2
  | i + 1, hi => by
    obtain ⟨h1, h2, h3, h4⟩ := tmO_ok oa ob i (by omega)
    have ha := okH_getD oa i
    obtain ⟨k1, k2, k3⟩ := tmI_ok (i := i) (s := (tmO a b i, 0)) ha ob h1 (by simp) b.length
    have kv := tmI_val (i := i) (s := (tmO a b i, 0)) ha ob h1 (by simp) b.length (by simp only; omega)
    have kf := tmI_far (ai := a.getD i 0) (b := b) (i := i) (s := (tmO a b i, 0)) b.length
    have hlt : i + b.length < (tmI (a.getD i 0) b i (tmO a b i, 0) b.length).1.length := by rw [k3]; simp only; omega
    rw [tmO]
    refine ⟨okH_set k1 k2, by rw [List.length_set, k3]; exact h2, ?_, fun j hj => ?_⟩
    · have hs := valH_set (n := (tmI (a.getD i 0) b i (tmO a b i, 0) b.length).2) hlt
      have h0 : (tmI (a.getD i 0) b i (tmO a b i, 0) b.length).1.getD (i + b.length) 0 = 0 := by
        rw [kf _ (Nat.le_refl _)]
        exact h4 _ (Nat.le_refl _)
      rw [h0, Int.toNat_zero, Nat.mul_zero, Nat.add_zero] at hs
      rw [List.take_length] at kv
      simp only [Int.toNat_zero, Nat.add_zero] at kv
      rw [hs, kv, h3, valH_take_succ, Nat.add_mul, Nat.mul_assoc]
    · rw [List.getD_eq_getElem?_getD, List.getElem?_set_ne (by omega), ← List.getD_eq_getElem?_getD, kf _ (by omega)]
      exact h4 _ (by omega)
/-- The digits of a product. -/
def timesL (a b : List Int) : List Int := tmO a b a.length
theorem timesL_ok {a b : List Int} (oa : okH a) (ob : okH b) : okH (timesL a b) ∧ (timesL a b).length = a.length + b.length ∧ valH (timesL a b) = valH a * valH b := by
  obtain ⟨h1, h2, h3, _⟩ := tmO_ok oa ob a.length (Nat.le_refl _)
  rw [List.take_length] at h3
  exact ⟨h1, h2, h3⟩
/-
  reckonerref01.Times, reckonerref02.Mul.
-/

theorem Times_ok (a b : List Int) (hal : a.length < 100000) (hbl : b.length < 100000) (oa : okH a) (ob : okH b) : FnOk Tryz.prog 123 [.v (words a), .v (words b)] [.v true (words (timesL a b))] := by
  refine FnOk.of Tryz.func123 rfl rfl fun cx w0 => ?_
  rw [show Tryz.f123.ntmps = 62 from rfl]
  refine Holds.step (Px := px) (T := TT) (ρ := fun _ => []) TTe (by simp (maxSteps := 100000) (disch := omega) only [go_sem, V.isAgg, V.flat, ↓reduceIte, Nat.reduceAdd, Nat.reduceSub, Nat.reduceLT, Nat.reduceEqDiff, reduceCtorEq, Nat.reduceLeDiff, Nat.reduceBEq, Nat.reduceMul, Int.reduceToNat, List.length_cons, List.length_nil]; rfl) (by repeat' first | exact trivial | constructor) ?_
  refine Holds.step (Px := px) (T := TT) (ρ := fun _ => []) TTe (by simp (maxSteps := 100000) (disch := omega) only [go_sem, V.isAgg, V.flat, ↓reduceIte, Nat.reduceAdd, Nat.reduceSub, Nat.reduceLT, Nat.reduceEqDiff, reduceCtorEq, Nat.reduceLeDiff, Nat.reduceBEq, Nat.reduceMul, Int.reduceToNat]; rfl) (by repeat' first | exact trivial | constructor) ?_
  obtain ⟨N, hN⟩ : ∃ N, N = a.length + b.length := ⟨_, rfl⟩
  refine Holds.next (fun σ => ∀ x w, Rel cx w0 σ x w → Rel cx w0 { nt := 62, env := [(5, .own 300 0 N)], mem := [(300, .buf 76 1 true ((timesL a b).map fun n => .int .u64 n))] } x w) ?_ ?_
  · refine Holds.step (Px := px) (T := TT) (ρ := fun _ => []) TTe (by simp (maxSteps := 100000) (disch := omega) only [go_sem, V.isAgg, V.flat, ↓reduceIte, Nat.reduceAdd, Nat.reduceSub, Nat.reduceLT, Nat.reduceEqDiff, reduceCtorEq, Nat.reduceLeDiff, Nat.reduceBEq, Nat.reduceMul, Int.reduceToNat]; rfl) (by repeat' first | exact trivial | constructor) ?_
    refine Holds.loopB (fun i : Nat => { nt := 62, env := [(6, .v true (.int .i64 i)), (5, .own 300 0 N), (0, .v false (words a)), (1, .v false (words b))], mem := [(300, .buf 76 1 true ((tmO a b i).map fun n => .int .u64 n))] }) (fun i => i ≤ a.length) (fun i => a.length - i) 0 (Nat.zero_le _) (fun x w h => by
      have := Rel.ren (s := 14) (s' := 300) (Rel.keep [6, 5, 0, 1] [14] h) (by decide) rfl rfl
      rw [tmO, List.map_replicate, hN]
      exact this) ?_
    intro i hi
    obtain ⟨h1, h2, h3, h4⟩ := tmO_ok oa ob i hi
    by_cases hend : i = a.length
    · refine Holds.seq ?_
      refine Holds.step (Px := px) (T := TT) (ρ := fun _ => []) TTe (by simp (maxSteps := 100000) (disch := omega) only [go_sem, V.isAgg, V.flat, ↓reduceIte, Nat.reduceAdd, Nat.reduceSub, Nat.reduceLT, Nat.reduceEqDiff, reduceCtorEq, Nat.reduceLeDiff, Nat.reduceBEq, Nat.reduceMul, Int.reduceToNat]; rfl) (by repeat' first | exact trivial | constructor) ?_
      refine Holds.condF rfl (Holds.exit ⟨rfl, fun x w h => ?_⟩)
      rw [timesL, ← hend]
      exact Rel.keep [5] [300] h
    · have hia : i < a.length := by omega
      have hA := okH_getD oa i
      obtain ⟨A, hAe⟩ : ∃ A, A = a.getD i 0 := ⟨_, rfl⟩
      obtain ⟨s, hs⟩ : ∃ s : List Int × Int, s = (tmO a b i, 0) := ⟨_, rfl⟩
      have gA := get_map hia
      rw [← hAe] at hA gA
      have hs1 : s.1 = tmO a b i := by rw [hs]
      have hs2 : s.2 = 0 := by rw [hs]
      have os : okH s.1 := by rw [hs1]; exact h1
      have hsl : s.1.length = N := by rw [hs1, h2, hN]
      have hI := tmI_ok (i := i) hA ob os (by rw [hs2]; omega)
      refine Holds.seq ?_
      refine Holds.step (Px := px) (T := TT) (ρ := fun _ => []) TTe (by simp (maxSteps := 100000) (disch := omega) only [go_sem, V.isAgg, V.flat, ↓reduceIte, Nat.reduceAdd, Nat.reduceSub, Nat.reduceLT, Nat.reduceEqDiff, reduceCtorEq, Nat.reduceLeDiff, Nat.reduceBEq, Nat.reduceMul, Int.reduceToNat]; rfl) (by repeat' first | exact trivial | constructor) ?_
      refine Holds.condT rfl (Holds.skip ?_)
      refine Holds.next (fun σ => ∀ x w, Rel cx w0 σ x w → Rel cx w0 { nt := 62, env := [(6, .v true (.int .i64 i)), (5, .own 300 0 N), (0, .v false (words a)), (1, .v false (words b))], mem := [(300, .buf 76 1 true ((tmO a b (i + 1)).map fun n => .int .u64 n))] } x w) ?_ ?_
      · refine Holds.blockN ?_
        refine Holds.step (Px := px) (T := TT) (ρ := fun _ => []) TTe (by simp (maxSteps := 100000) (disch := omega) only [go_sem, V.isAgg, V.flat, ↓reduceIte, Nat.reduceAdd, Nat.reduceSub, Nat.reduceLT, Nat.reduceEqDiff, reduceCtorEq, Nat.reduceLeDiff, Nat.reduceBEq, Nat.reduceMul, Int.reduceToNat]; rfl) (by repeat' first | exact trivial | constructor) ?_
        refine Holds.next (fun σ => ∀ x w, Rel cx w0 σ x w → Rel cx w0 { nt := 62, env := [(7, .v true (.int .u64 (tmI A b i s b.length).2)), (6, .v true (.int .i64 i)), (5, .own 300 0 N), (0, .v false (words a)), (1, .v false (words b))], mem := [(300, .buf 76 1 true ((tmI A b i s b.length).1.map fun n => .int .u64 n))] } x w) ?_ ?_
        · refine Holds.step (Px := px) (T := TT) (ρ := fun _ => []) TTe (by simp (maxSteps := 100000) (disch := omega) only [go_sem, V.isAgg, V.flat, ↓reduceIte, Nat.reduceAdd, Nat.reduceSub, Nat.reduceLT, Nat.reduceEqDiff, reduceCtorEq, Nat.reduceLeDiff, Nat.reduceBEq, Nat.reduceMul, Int.reduceToNat]; rfl) (by repeat' first | exact trivial | constructor) ?_
          refine Holds.loopB (fun k : Nat => { nt := 62, env := [(8, .v true (.int .i64 k)), (7, .v true (.int .u64 (tmI A b i s k).2)), (6, .v true (.int .i64 i)), (5, .own 300 0 N), (0, .v false (words a)), (1, .v false (words b))], mem := [(300, .buf 76 1 true ((tmI A b i s k).1.map fun n => .int .u64 n))] }) (fun k => k ≤ b.length) (fun k => b.length - k) 0 (Nat.zero_le _) (fun x w h => by
            have := Rel.keep [8, 7, 6, 5, 0, 1] [300] h
            rw [tmI, hs]
            exact this) ?_
          intro k hk
          obtain ⟨k1, k2, k3⟩ := hI k
          by_cases hend2 : k = b.length
          · refine Holds.seq ?_
            refine Holds.step (Px := px) (T := TT) (ρ := fun _ => []) TTe (by simp (maxSteps := 100000) (disch := omega) only [go_sem, V.isAgg, V.flat, ↓reduceIte, Nat.reduceAdd, Nat.reduceSub, Nat.reduceLT, Nat.reduceEqDiff, reduceCtorEq, Nat.reduceLeDiff, Nat.reduceBEq, Nat.reduceMul, Int.reduceToNat]; rfl) (by repeat' first | exact trivial | constructor) ?_
            refine Holds.condF rfl (Holds.exit ⟨rfl, fun x w h => ?_⟩)
            rw [← hend2]
            have := Rel.keep [7, 6, 5, 0, 1] [300] h
            exact this
          · have hkb : k < b.length := by omega
            have gB := get_map hkb
            have hU := okH_getD ob k
            have hik : i + k < (tmI A b i s k).1.length := by omega
            have gZ := get_map hik
            have hZ := okH_getD k1 (i + k)
            have esucc : tmI A b i s (k + 1) = ((tmI A b i s k).1.set (i + k) (((tmI A b i s k).2 + (tmI A b i s k).1.getD (i + k) 0 + A * b.getD k 0) % 4294967296), ((tmI A b i s k).2 + (tmI A b i s k).1.getD (i + k) 0 + A * b.getD k 0) / 4294967296) := rfl
            obtain ⟨U, hUe⟩ : ∃ U, U = b.getD k 0 := ⟨_, rfl⟩
            rw [← hUe] at gB hU esucc
            obtain ⟨T, hT⟩ : ∃ T, T = tmI A b i s k := ⟨_, rfl⟩
            rw [← hT] at k1 k2 k3 hik gZ hZ esucc ⊢
            obtain ⟨z, hz⟩ : ∃ z, z = T.1.getD (i + k) 0 := ⟨_, rfl⟩
            rw [← hz] at gZ hZ esucc
            have hp := tm_bound hA hU
            obtain ⟨p, hpe⟩ : ∃ p, p = A * U := ⟨_, rfl⟩
            have e2 : IntKind.u64.wrap (A * U) = p := by rw [wrap_u64, ← hpe]; rw [← hpe] at hp; omega
            rw [← hpe] at hp esucc
            have e1 : IntKind.u64.wrap (T.2 + z) = T.2 + z := by rw [wrap_u64]; omega
            obtain ⟨q, hq⟩ : ∃ q, q = T.2 + z + p := ⟨_, rfl⟩
            have e3 : IntKind.u64.wrap (T.2 + z + p) = q := by rw [wrap_u64, hq]; omega
            rw [← hq] at esucc
            have hq0 : 0 ≤ q ∧ q < 18446744073709551616 := by omega
            have e4 : q.tmod 4294967296 = q % 4294967296 := Int.tmod_eq_emod_of_nonneg hq0.1
            have e5 : q.tdiv 4294967296 = q / 4294967296 := Int.tdiv_eq_ediv_of_nonneg hq0.1
            have e6 : IntKind.u64.wrap (q / 4294967296) = q / 4294967296 := by rw [wrap_u64]; omega
            have hadd : ((i : Int) + k).toNat = i + k := by omega
            refine Holds.seq ?_
            refine Holds.step (Px := px) (T := TT) (ρ := fun _ => []) TTe (by simp (maxSteps := 100000) (disch := omega) only [go_sem, V.isAgg, V.flat, ↓reduceIte, Nat.reduceAdd, Nat.reduceSub, Nat.reduceLT, Nat.reduceEqDiff, reduceCtorEq, Nat.reduceLeDiff, Nat.reduceBEq, Nat.reduceMul, Int.reduceToNat]; rfl) (by repeat' first | exact trivial | constructor) ?_
            refine Holds.condT rfl (Holds.skip ?_)
            refine Holds.next (fun σ => ∀ x w, Rel cx w0 σ x w → Rel cx w0 { nt := 62, env := [(8, .v true (.int .i64 k)), (7, .v true (.int .u64 (q / 4294967296))), (6, .v true (.int .i64 i)), (5, .own 300 0 N), (0, .v false (words a)), (1, .v false (words b))], mem := [(300, .buf 76 1 true ((T.1.set (i + k) (q % 4294967296)).map fun n => .int .u64 n))] } x w) ?_ ?_
            · refine Holds.blockN ?_
              refine Holds.dstep (Px := px) (T := TT) (ρ := fun _ => []) [] mixed (by kernel_rfl) TTe (by simp (maxSteps := 100000) (disch := omega) only [go_sem, V.isAgg, V.flat, ↓reduceIte, Nat.reduceAdd, Nat.reduceSub, Nat.reduceLT, Nat.reduceEqDiff, reduceCtorEq, Nat.reduceLeDiff, Nat.reduceBEq, Nat.reduceMul, Int.reduceToNat, gA, gB, gZ, hadd, e1, e2, e3]; rfl) (by repeat' first | exact trivial | constructor) (by rfl) (by rfl) (by rfl) ?_
              refine Holds.step (Px := px) (T := TT) (ρ := fun _ => []) TTe (by simp (maxSteps := 100000) (disch := omega) only [go_sem, V.isAgg, V.flat, ↓reduceIte, Nat.reduceAdd, Nat.reduceSub, Nat.reduceLT, Nat.reduceEqDiff, reduceCtorEq, Nat.reduceLeDiff, Nat.reduceBEq, Nat.reduceMul, Int.reduceToNat, hadd, e4, gZ]; rfl) (by repeat' first | exact trivial | constructor) ?_
              refine Holds.region (Px := px) (T := TT) (ρ := fun _ => []) TTe (by simp (maxSteps := 100000) (disch := omega) only [go_sem, V.isAgg, V.flat, ↓reduceIte, Nat.reduceAdd, Nat.reduceSub, Nat.reduceLT, Nat.reduceEqDiff, reduceCtorEq, Nat.reduceLeDiff, Nat.reduceBEq, Nat.reduceMul, Int.reduceToNat, e5, e6]; rfl) (by repeat' first | exact trivial | constructor) ?_
              intro x w h
              have := Rel.keep [8, 7, 6, 5, 0, 1] [300] h
              rw [List.map_set]
              exact this
            · intro σ hσ
              refine Holds.from hσ ?_
              refine Holds.region (Px := px) (T := TT) (ρ := fun _ => []) TTe (by simp (maxSteps := 100000) (disch := omega) only [go_sem, V.isAgg, V.flat, ↓reduceIte, Nat.reduceAdd, Nat.reduceSub, Nat.reduceLT, Nat.reduceEqDiff, reduceCtorEq, Nat.reduceLeDiff, Nat.reduceBEq, Nat.reduceMul, Int.reduceToNat]; rfl) (by repeat' first | exact trivial | constructor) ?_
              refine ⟨k + 1, (by show k + 1 ≤ b.length; omega), (show b.length - (k + 1) < b.length - k by omega), fun x w h => ?_⟩
              simp only [esucc]
              exact Rel.keep [8, 7, 6, 5, 0, 1] [300] h
        · intro σ hσ
          refine Holds.from hσ ?_
          obtain ⟨k1, k2, k3⟩ := hI b.length
          have hib : i + b.length < (tmI A b i s b.length).1.length := by omega
          have gZ := get_map hib
          have hadd : ((i : Int) + b.length).toNat = i + b.length := by omega
          have e : tmO a b (i + 1) = (tmI A b i s b.length).1.set (i + b.length) (tmI A b i s b.length).2 := by rw [tmO, hAe, hs]
          refine Holds.region (Px := px) (T := TT) (ρ := fun _ => []) TTe (by simp (maxSteps := 100000) (disch := omega) only [go_sem, V.isAgg, V.flat, ↓reduceIte, Nat.reduceAdd, Nat.reduceSub, Nat.reduceLT, Nat.reduceEqDiff, reduceCtorEq, Nat.reduceLeDiff, Nat.reduceBEq, Nat.reduceMul, Int.reduceToNat, gZ, hadd]; rfl) (by repeat' first | exact trivial | constructor) ?_
          intro x w h
          rw [e, List.map_set]
          exact Rel.keep [6, 5, 0, 1] [300] h
      · intro σ hσ
        refine Holds.from hσ ?_
        refine Holds.region (Px := px) (T := TT) (ρ := fun _ => []) TTe (by simp (maxSteps := 100000) (disch := omega) only [go_sem, V.isAgg, V.flat, ↓reduceIte, Nat.reduceAdd, Nat.reduceSub, Nat.reduceLT, Nat.reduceEqDiff, reduceCtorEq, Nat.reduceLeDiff, Nat.reduceBEq, Nat.reduceMul, Int.reduceToNat]; rfl) (by repeat' first | exact trivial | constructor) ?_
        exact ⟨i + 1, (by show i + 1 ≤ a.length; omega), (show a.length - (i + 1) < a.length - i by omega), fun x w h => Rel.keep [6, 5, 0, 1] [300] h⟩
  · intro σ hσ
    refine Holds.from hσ ?_
    have hl := (timesL_ok oa ob).2.1
    refine Holds.step (Px := px) (T := TT) (ρ := fun _ => []) TTe (by simp (maxSteps := 100000) (disch := omega) only [go_sem, V.isAgg, V.flat, ↓reduceIte, Nat.reduceAdd, Nat.reduceSub, Nat.reduceLT, Nat.reduceEqDiff, reduceCtorEq, Nat.reduceLeDiff, Nat.reduceBEq, Nat.reduceMul, Int.reduceToNat]; rfl) (by repeat' first | exact trivial | constructor) ?_
    exact Holds.ret ⟨_, [], rfl, ⟨⟨rfl, by rw [List.drop_zero, List.take_of_length_le (by rw [List.length_map, hl, hN]; exact Nat.le_refl _)], fun h => h, rfl⟩, trivial⟩, by simp [R.names, R.mems, R.blks], by simp, rfl⟩

theorem rMul_ok (x y : List Int) (hx : x.length < 40000) (hy : y.length < 40000) (ox : okW x) (oy : okW y) : FnOk Tryz.prog 65 [.v (words x), .v (words y)] [.v true (words (digs (val x * val y)))] := by
  have h1 := Digits_ok x (by omega) ox
  have h2 := Digits_ok y (by omega) oy
  have lx := digL_len x
  have ly := digL_len y
  have h3 := Times_ok (digL x) (digL y) (by omega) (by omega) (digL_ok ox) (digL_ok oy)
  obtain ⟨t1, t2, t3⟩ := timesL_ok (digL_ok ox) (digL_ok oy)
  have h4 := nat_ok (timesL (digL x) (digL y)) (by omega) t1
  rw [t3, val_dig ox, val_dig oy] at h4
  refine FnOk.of Tryz.func65 rfl rfl fun cx w0 => ?_
  rw [show Tryz.f65.ntmps = 11 from rfl]
  refine Holds.step (Px := px) (T := TT) (ρ := fun _ => []) TTe (by simp (maxSteps := 100000) (disch := omega) only [go_sem, V.isAgg, V.flat, ↓reduceIte, Nat.reduceAdd, Nat.reduceSub, Nat.reduceLT, Nat.reduceEqDiff, reduceCtorEq, Nat.reduceLeDiff, Nat.reduceBEq, Nat.reduceMul, Int.reduceToNat, List.length_cons, List.length_nil]; rfl) (by repeat' first | exact trivial | constructor) ?_
  refine Holds.step (Px := px) (T := TT) (ρ := fun d => if d = 6 then [.v true (words (digL x))] else if d = 8 then [.v true (words (digL y))] else if d = 9 then [.v true (words (timesL (digL x) (digL y)))] else [.v true (words (digs (val x * val y)))]) TTe (by simp (maxSteps := 100000) (disch := omega) only [go_sem, V.isAgg, V.flat, ↓reduceIte, Nat.reduceAdd, Nat.reduceSub, Nat.reduceLT, Nat.reduceEqDiff, reduceCtorEq, Nat.reduceLeDiff, Nat.reduceBEq, Nat.reduceMul, Int.reduceToNat]; rfl) (by first | exact ⟨h1, h2, h3, h4⟩ | (repeat' first | exact trivial | exact h1 | exact h2 | exact h3 | exact h4 | constructor)) ?_
  exact Holds.ret (RetOk.vs rfl (by exact ⟨⟨rfl, fun h => h⟩, trivial⟩) rfl)
/-
  reckonerref01: digit, Plus, Compare of equal numbers; reckonerref02: Add, Cmp of equal numbers.
-/

theorem digit_ok (a : List Int) (i : Nat) (hl : a.length < 1000000) : FnOk Tryz.prog 169 [.v (words a), .v (.int .i64 i)] [.v true (.int .u64 (a.getD i 0))] := by
  refine FnOk.of Tryz.func169 rfl rfl fun cx w0 => ?_
  rw [show Tryz.f169.ntmps = 13 from rfl]
  refine Holds.step (Px := px) (T := TT) (ρ := fun _ => []) TTe (by simp (maxSteps := 100000) (disch := omega) only [go_sem, V.isAgg, V.flat, ↓reduceIte, Nat.reduceAdd, Nat.reduceSub, Nat.reduceLT, Nat.reduceEqDiff, reduceCtorEq, Nat.reduceLeDiff, Nat.reduceBEq, Nat.reduceMul, Int.reduceToNat, List.length_cons, List.length_nil]; rfl) (by repeat' first | exact trivial | constructor) ?_
  refine Holds.next (fun σ => a.getD i 0 = 0 ∧ ∀ x w, Rel cx w0 σ x w → Rel cx w0 { nt := 13, env := [], mem := [] } x w) ?_ ?_
  · by_cases h : i < a.length
    · refine Holds.step (Px := px) (T := TT) (ρ := fun _ => []) TTe (by simp (maxSteps := 100000) (disch := omega) only [go_sem, V.isAgg, V.flat, ↓reduceIte, Nat.reduceAdd, Nat.reduceSub, Nat.reduceLT, Nat.reduceEqDiff, reduceCtorEq, Nat.reduceLeDiff, Nat.reduceBEq, Nat.reduceMul, Int.reduceToNat]; rfl) (by repeat' first | exact trivial | constructor) ?_
      refine Holds.condT rfl ?_
      refine Holds.step (Px := px) (T := TT) (ρ := fun _ => []) TTe (by simp (maxSteps := 100000) (disch := omega) only [go_sem, V.isAgg, V.flat, ↓reduceIte, Nat.reduceAdd, Nat.reduceSub, Nat.reduceLT, Nat.reduceEqDiff, reduceCtorEq, Nat.reduceLeDiff, Nat.reduceBEq, Nat.reduceMul, Int.reduceToNat, get_map h]; rfl) (by repeat' first | exact trivial | constructor) ?_
      exact Holds.ret (RetOk.vs rfl (by exact ⟨⟨rfl, fun h => h⟩, trivial⟩) rfl)
    · refine Holds.step (Px := px) (T := TT) (ρ := fun _ => []) TTe (by simp (maxSteps := 100000) (disch := omega) only [go_sem, V.isAgg, V.flat, ↓reduceIte, Nat.reduceAdd, Nat.reduceSub, Nat.reduceLT, Nat.reduceEqDiff, reduceCtorEq, Nat.reduceLeDiff, Nat.reduceBEq, Nat.reduceMul, Int.reduceToNat]; rfl) (by repeat' first | exact trivial | constructor) ?_
      refine Holds.condF rfl (Holds.skip ⟨?_, fun x w h => Rel.keep [] [] h⟩)
      rw [List.getD_eq_getElem?_getD, List.getElem?_eq_none (by omega)]; rfl
  · rintro σ ⟨h0, hσ⟩
    rw [h0]
    refine Holds.from hσ ?_
    refine Holds.step (Px := px) (T := TT) (ρ := fun _ => []) TTe (by simp (maxSteps := 100000) (disch := omega) only [go_sem, V.isAgg, V.flat, ↓reduceIte, Nat.reduceAdd, Nat.reduceSub, Nat.reduceLT, Nat.reduceEqDiff, reduceCtorEq, Nat.reduceLeDiff, Nat.reduceBEq, Nat.reduceMul, Int.reduceToNat]; rfl) (by repeat' first | exact trivial | constructor) ?_
    exact Holds.ret (RetOk.vs rfl (by exact ⟨⟨rfl, fun h => h⟩, trivial⟩) rfl)

def psI (a b : List Int) : Nat → List Int × Int
  | 0 => ([], 0)
  | k + 1 => ((psI a b k).1 ++ [((psI a b k).2 + a.getD k 0 + b.getD k 0) % 4294967296], ((psI a b k).2 + a.getD k 0 + b.getD k 0) / 4294967296)
theorem psI_ok {a b : List Int} (oa : okH a) (ob : okH b) : ∀ k, okH (psI a b k).1 ∧ (0 ≤ (psI a b k).2 ∧ (psI a b k).2 ≤ 1) ∧ (psI a b k).1.length = k ∧ valH (psI a b k).1 + 4294967296 ^ k * (psI a b k).2.toNat = valH (a.take k) + valH (b.take k)
  | 0 => ⟨(fun n h => by cases h), by simp [psI], rfl, by simp [psI, valH]⟩
  | k + 1 => by
    obtain ⟨h1, h2, h3, h4⟩ := psI_ok oa ob k
    have ha := okH_getD oa k
    have hb := okH_getD ob k
    rw [psI, valH_take_succ, valH_take_succ]
    simp only
    refine ⟨fun n hn => ?_, by omega, by rw [List.length_append, h3]; rfl, ?_⟩
    · rcases List.mem_append.1 hn with hn | hn
      · exact h1 n hn
      · rw [List.mem_singleton] at hn; omega
    · rw [valH_append, h3, valH, valH, Nat.mul_zero, Nat.add_zero, Nat.pow_succ, Nat.mul_assoc]
      generalize a.getD k 0 = u at *
      generalize b.getD k 0 = v at *
      generalize (psI a b k).2 = c at *
      have er : ((c + u + v) % 4294967296).toNat + 4294967296 * ((c + u + v) / 4294967296).toNat = c.toNat + u.toNat + v.toNat := by omega
      have em : 4294967296 ^ k * ((c + u + v) % 4294967296).toNat + 4294967296 ^ k * (4294967296 * ((c + u + v) / 4294967296).toNat) = 4294967296 ^ k * c.toNat + 4294967296 ^ k * u.toNat + 4294967296 ^ k * v.toNat := by
        rw [← Nat.mul_add, er, Nat.mul_add, Nat.mul_add]
      omega
def plusH (a b : List Int) : List Int := (psI a b (max a.length b.length)).1 ++ [(psI a b (max a.length b.length)).2]
theorem plusH_ok {a b : List Int} (oa : okH a) (ob : okH b) : okH (plusH a b) ∧ (plusH a b).length = max a.length b.length + 1 ∧ valH (plusH a b) = valH a + valH b := by
  obtain ⟨h1, h2, h3, h4⟩ := psI_ok oa ob (max a.length b.length)
  refine ⟨fun n hn => ?_, by rw [plusH, List.length_append, h3]; rfl, ?_⟩
  · rcases List.mem_append.1 hn with hn | hn
    · exact h1 n hn
    · rw [List.mem_singleton] at hn; omega
  · rw [plusH, valH_append, h3, valH, valH, Nat.mul_zero, Nat.add_zero, h4, List.take_of_length_le (Nat.le_max_left _ _), List.take_of_length_le (Nat.le_max_right _ _)]

def psA (k : Nat) : AV := if k = 0 then .nil else .own 300 0 k
def psB (a b : List Int) (k : Nat) : List (Nat × Blk) := if k = 0 then [] else [(300, .buf 76 1 true ((psI a b k).1.map fun n => .int .u64 n))]

theorem Plus_ok (a b : List Int) (hal : a.length < 100000) (hbl : b.length < 100000) (oa : okH a) (ob : okH b) : FnOk Tryz.prog 121 [.v (words a), .v (words b)] [.v true (words (plusH a b))] := by
  obtain ⟨M, hM⟩ : ∃ M, M = max a.length b.length := ⟨_, rfl⟩
  rw [plusH, ← hM]
  refine FnOk.of Tryz.func121 rfl rfl fun cx w0 => ?_
  rw [show Tryz.f121.ntmps = 40 from rfl]
  refine Holds.step (Px := px) (T := TT) (ρ := fun _ => []) TTe (by simp (maxSteps := 100000) (disch := omega) only [go_sem, V.isAgg, V.flat, ↓reduceIte, Nat.reduceAdd, Nat.reduceSub, Nat.reduceLT, Nat.reduceEqDiff, reduceCtorEq, Nat.reduceLeDiff, Nat.reduceBEq, Nat.reduceMul, Int.reduceToNat, List.length_cons, List.length_nil]; rfl) (by repeat' first | exact trivial | constructor) ?_
  refine Holds.step (Px := px) (T := TT) (ρ := fun _ => []) TTe (by simp (maxSteps := 100000) (disch := omega) only [go_sem, V.isAgg, V.flat, ↓reduceIte, Nat.reduceAdd, Nat.reduceSub, Nat.reduceLT, Nat.reduceEqDiff, reduceCtorEq, Nat.reduceLeDiff, Nat.reduceBEq, Nat.reduceMul, Int.reduceToNat]; rfl) (by repeat' first | exact trivial | constructor) ?_
  refine Holds.step (Px := px) (T := TT) (ρ := fun _ => []) TTe (by simp (maxSteps := 100000) (disch := omega) only [go_sem, V.isAgg, V.flat, ↓reduceIte, Nat.reduceAdd, Nat.reduceSub, Nat.reduceLT, Nat.reduceEqDiff, reduceCtorEq, Nat.reduceLeDiff, Nat.reduceBEq, Nat.reduceMul, Int.reduceToNat]; rfl) (by repeat' first | exact trivial | constructor) ?_
  refine Holds.next (fun σ => ∀ x w, Rel cx w0 σ x w → Rel cx w0 { nt := 40, env := [(6, .v true (.int .u64 (psI a b M).2)), (5, psA M)], mem := psB a b M } x w) ?_ ?_
  · refine Holds.step (Px := px) (T := TT) (ρ := fun _ => []) TTe (by simp (maxSteps := 100000) (disch := omega) only [go_sem, V.isAgg, V.flat, ↓reduceIte, Nat.reduceAdd, Nat.reduceSub, Nat.reduceLT, Nat.reduceEqDiff, reduceCtorEq, Nat.reduceLeDiff, Nat.reduceBEq, Nat.reduceMul, Int.reduceToNat]; rfl) (by repeat' first | exact trivial | constructor) ?_
    refine Holds.loopB (fun k : Nat => { nt := 40, env := [(7, .v true (.int .i64 k)), (6, .v true (.int .u64 (psI a b k).2)), (5, psA k), (0, .v false (words a)), (1, .v false (words b))], mem := psB a b k }) (fun k => k ≤ M) (fun k => M - k) 0 (Nat.zero_le _) (fun x w hr => Rel.keep [7, 6, 5, 0, 1] [] hr) ?_
    intro k hk
    obtain ⟨h1, h2, h3, _⟩ := psI_ok oa ob k
    by_cases hend : k = M
    · have n1 : ¬ (k : Int) < a.length := by omega
      have n2 : ¬ (k : Int) < b.length := by omega
      refine Holds.seq ?_
      refine Holds.step (Px := px) (T := TT) (ρ := fun _ => []) TTe (by simp (maxSteps := 100000) (disch := omega) only [go_sem, V.isAgg, V.flat, ↓reduceIte, Nat.reduceAdd, Nat.reduceSub, Nat.reduceLT, Nat.reduceEqDiff, reduceCtorEq, Nat.reduceLeDiff, Nat.reduceBEq, Nat.reduceMul, Int.reduceToNat, n1, n2]; rfl) (by repeat' first | exact trivial | constructor) ?_
      refine Holds.condF rfl (Holds.exit ⟨rfl, fun x w hr => ?_⟩)
      rw [← hend]
      exact Rel.less [6, 5] (fun _ => rfl) hr
    · have hlt : k < a.length ∨ k < b.length := by omega
      have hA := okH_getD oa k
      have hB := okH_getD ob k
      have dA := digit_ok a k (by omega)
      have dB := digit_ok b k (by omega)
      have esucc : psI a b (k + 1) = ((psI a b k).1 ++ [((psI a b k).2 + a.getD k 0 + b.getD k 0) % 4294967296], ((psI a b k).2 + a.getD k 0 + b.getD k 0) / 4294967296) := rfl
      have eB : psB a b (k + 1) = [(300, .buf 76 1 true ((psI a b (k + 1)).1.map fun n => .int .u64 n))] := if_neg (by omega)
      have eA : psA (k + 1) = .own 300 0 (k + 1) := if_neg (by omega)
      rw [esucc] at eB
      simp only at eB
      obtain ⟨u, hu⟩ : ∃ u, u = a.getD k 0 := ⟨_, rfl⟩
      obtain ⟨v, hv⟩ : ∃ v, v = b.getD k 0 := ⟨_, rfl⟩
      rw [← hu] at hA dA esucc eB
      rw [← hv] at hB dB esucc eB
      obtain ⟨T, hT⟩ : ∃ T, T = psI a b k := ⟨_, rfl⟩
      rw [← hT] at h1 h2 h3 esucc eB ⊢
      obtain ⟨q, hq⟩ : ∃ q, q = T.2 + u + v := ⟨_, rfl⟩
      rw [← hq] at esucc eB
      have e1 : IntKind.u64.wrap (T.2 + u) = T.2 + u := by rw [wrap_u64]; omega
      have e3 : IntKind.u64.wrap (T.2 + u + v) = q := by rw [wrap_u64, hq]; omega
      have hq0 : 0 ≤ q ∧ q < 18446744073709551616 := by omega
      have e4 : q.tmod 4294967296 = q % 4294967296 := Int.tmod_eq_emod_of_nonneg hq0.1
      have e5 : q.tdiv 4294967296 = q / 4294967296 := Int.tdiv_eq_ediv_of_nonneg hq0.1
      have e6 : IntKind.u64.wrap (q / 4294967296) = q / 4294967296 := by rw [wrap_u64]; omega
      refine Holds.seq ?_
      refine Holds.next (fun σ => ∀ x w, Rel cx w0 σ x w → Rel cx w0 { nt := 40, env := [(7, .v true (.int .i64 k)), (6, .v true (.int .u64 T.2)), (5, psA k), (0, .v false (words a)), (1, .v false (words b)), (17, .v true (.bool true))], mem := psB a b k } x w) ?_ ?_
      · by_cases ha : (k : Int) < a.length
        · refine Holds.region (Px := px) (T := TT) (ρ := fun _ => []) TTe (by simp (maxSteps := 100000) (disch := omega) only [go_sem, V.isAgg, V.flat, ↓reduceIte, Nat.reduceAdd, Nat.reduceSub, Nat.reduceLT, Nat.reduceEqDiff, reduceCtorEq, Nat.reduceLeDiff, Nat.reduceBEq, Nat.reduceMul, Int.reduceToNat, ha]; rfl) (by repeat' first | exact trivial | constructor) ?_
          exact fun x w hr => Rel.less [7, 6, 5, 0, 1, 17] (fun _ => rfl) hr
        · have hb : (k : Int) < b.length := by omega
          refine Holds.region (Px := px) (T := TT) (ρ := fun _ => []) TTe (by simp (maxSteps := 100000) (disch := omega) only [go_sem, V.isAgg, V.flat, ↓reduceIte, Nat.reduceAdd, Nat.reduceSub, Nat.reduceLT, Nat.reduceEqDiff, reduceCtorEq, Nat.reduceLeDiff, Nat.reduceBEq, Nat.reduceMul, Int.reduceToNat, ha, hb]; rfl) (by repeat' first | exact trivial | constructor) ?_
          exact fun x w hr => Rel.less [7, 6, 5, 0, 1, 17] (fun _ => rfl) hr
      · intro σ hσ
        refine Holds.from hσ ?_
        refine Holds.condT rfl (Holds.skip ?_)
        refine Holds.next (fun σ => ∀ x w, Rel cx w0 σ x w → Rel cx w0 { nt := 40, env := [(7, .v true (.int .i64 k)), (6, .v true (.int .u64 (psI a b (k + 1)).2)), (5, psA (k + 1)), (0, .v false (words a)), (1, .v false (words b))], mem := psB a b (k + 1) } x w) ?_ ?_
        · rw [eA, eB, esucc]
          refine Holds.blockN ?_
          refine Holds.step (Px := px) (T := TT) (ρ := fun d => if d = 23 then [.v true (.int .u64 u)] else [.v true (.int .u64 v)]) TTe (by simp (maxSteps := 100000) (disch := omega) only [go_sem, V.isAgg, V.flat, ↓reduceIte, Nat.reduceAdd, Nat.reduceSub, Nat.reduceLT, Nat.reduceEqDiff, reduceCtorEq, Nat.reduceLeDiff, Nat.reduceBEq, Nat.reduceMul, Int.reduceToNat, e1, e3]; rfl) (by first | exact ⟨dA, dB⟩ | (repeat' first | exact trivial | exact dA | exact dB | constructor)) ?_
          rcases Nat.eq_zero_or_pos k with h0 | h0
          · have ea : psA k = .nil := if_pos h0
            have eb : psB a b k = [] := if_pos h0
            have et : T.1 = [] := List.eq_nil_of_length_eq_zero (by omega)
            have hk1 : k + 1 = 1 := by omega
            rw [ea, eb]
            refine Holds.step (Px := px) (T := TT) (ρ := fun _ => []) TTe (by simp (maxSteps := 100000) (disch := omega) only [go_sem, V.isAgg, V.flat, ↓reduceIte, Nat.reduceAdd, Nat.reduceSub, Nat.reduceLT, Nat.reduceEqDiff, reduceCtorEq, Nat.reduceLeDiff, Nat.reduceBEq, Nat.reduceMul, Int.reduceToNat, e4]; rfl) (by repeat' first | exact trivial | constructor) ?_
            refine Holds.region (Px := px) (T := TT) (ρ := fun _ => []) TTe (by simp (maxSteps := 100000) (disch := omega) only [go_sem, V.isAgg, V.flat, ↓reduceIte, Nat.reduceAdd, Nat.reduceSub, Nat.reduceLT, Nat.reduceEqDiff, reduceCtorEq, Nat.reduceLeDiff, Nat.reduceBEq, Nat.reduceMul, Int.reduceToNat, e5, e6]; rfl) (by repeat' first | exact trivial | constructor) ?_
            intro x w h
            have := Rel.ren (s := 33) (s' := 300) (Rel.keep [7, 6, 5, 0, 1] [33] h) (by decide) rfl rfl
            rw [et, hk1]
            exact this
          · have ea : psA k = .own 300 0 k := if_neg (by omega)
            have eb : psB a b k = [(300, .buf 76 1 true (T.1.map fun n => .int .u64 n))] := by rw [hT]; exact if_neg (by omega)
            rw [ea, eb]
            refine Holds.step (Px := px) (T := TT) (ρ := fun _ => []) TTe (by simp (maxSteps := 100000) (disch := omega) only [go_sem, V.isAgg, V.flat, ↓reduceIte, Nat.reduceAdd, Nat.reduceSub, Nat.reduceLT, Nat.reduceEqDiff, reduceCtorEq, Nat.reduceLeDiff, Nat.reduceBEq, Nat.reduceMul, Int.reduceToNat, e4, h3]; rfl) (by repeat' first | exact trivial | constructor) ?_
            refine Holds.region (Px := px) (T := TT) (ρ := fun _ => []) TTe (by simp (maxSteps := 100000) (disch := omega) only [go_sem, V.isAgg, V.flat, ↓reduceIte, Nat.reduceAdd, Nat.reduceSub, Nat.reduceLT, Nat.reduceEqDiff, reduceCtorEq, Nat.reduceLeDiff, Nat.reduceBEq, Nat.reduceMul, Int.reduceToNat, e5, e6]; rfl) (by repeat' first | exact trivial | constructor) ?_
            intro x w h
            have := Rel.ren (s := 33) (s' := 300) (Rel.keep [7, 6, 5, 0, 1] [33] h) (by decide) rfl rfl
            rw [List.map_append]
            exact this
        · intro σ hσ
          refine Holds.from hσ ?_
          refine Holds.region (Px := px) (T := TT) (ρ := fun _ => []) TTe (by simp (maxSteps := 100000) (disch := omega) only [go_sem, V.isAgg, V.flat, ↓reduceIte, Nat.reduceAdd, Nat.reduceSub, Nat.reduceLT, Nat.reduceEqDiff, reduceCtorEq, Nat.reduceLeDiff, Nat.reduceBEq, Nat.reduceMul, Int.reduceToNat]; rfl) (by repeat' first | exact trivial | constructor) ?_
          exact ⟨k + 1, (by show k + 1 ≤ M; omega), (show M - (k + 1) < M - k by omega), fun x w hr => Rel.less [7, 6, 5, 0, 1] (fun _ => rfl) hr⟩
  · intro σ hσ
    refine Holds.from hσ ?_
    obtain ⟨h1, h2, h3, _⟩ := psI_ok oa ob M
    rw [psA, psB]
    by_cases h0 : M = 0
    · rw [if_pos h0, if_pos h0]
      have et : (psI a b M).1 = [] := List.eq_nil_of_length_eq_zero (by omega)
      rw [et]
      refine Holds.step (Px := px) (T := TT) (ρ := fun _ => []) TTe (by simp (maxSteps := 100000) (disch := omega) only [go_sem, V.isAgg, V.flat, ↓reduceIte, Nat.reduceAdd, Nat.reduceSub, Nat.reduceLT, Nat.reduceEqDiff, reduceCtorEq, Nat.reduceLeDiff, Nat.reduceBEq, Nat.reduceMul, Int.reduceToNat]; rfl) (by repeat' first | exact trivial | constructor) ?_
      exact Holds.ret ⟨_, [], rfl, ⟨⟨rfl, rfl, fun h => h, rfl⟩, trivial⟩, by simp [R.names, R.mems, R.blks], by simp, rfl⟩
    · rw [if_neg h0, if_neg h0]
      refine Holds.step (Px := px) (T := TT) (ρ := fun _ => []) TTe (by simp (maxSteps := 100000) (disch := omega) only [go_sem, V.isAgg, V.flat, ↓reduceIte, Nat.reduceAdd, Nat.reduceSub, Nat.reduceLT, Nat.reduceEqDiff, reduceCtorEq, Nat.reduceLeDiff, Nat.reduceBEq, Nat.reduceMul, Int.reduceToNat, h3]; rfl) (by repeat' first | exact trivial | constructor) ?_
      exact Holds.ret ⟨_, [], rfl, ⟨⟨rfl, by rw [List.drop_zero, List.take_of_length_le (by simp [h3]), List.map_append]; rfl, fun h => h, rfl⟩, trivial⟩, by simp [R.names, R.mems, R.blks], by simp, rfl⟩

theorem rAdd_ok (x y : List Int) (hx : x.length < 40000) (hy : y.length < 40000) (ox : okW x) (oy : okW y) : FnOk Tryz.prog 64 [.v (words x), .v (words y)] [.v true (words (digs (val x + val y)))] := by
  have h1 := Digits_ok x (by omega) ox
  have h2 := Digits_ok y (by omega) oy
  have lx := digL_len x
  have ly := digL_len y
  have h3 := Plus_ok (digL x) (digL y) (by omega) (by omega) (digL_ok ox) (digL_ok oy)
  obtain ⟨t1, t2, t3⟩ := plusH_ok (digL_ok ox) (digL_ok oy)
  have h4 := nat_ok (plusH (digL x) (digL y)) (by omega) t1
  rw [t3, val_dig ox, val_dig oy] at h4
  refine FnOk.of Tryz.func64 rfl rfl fun cx w0 => ?_
  rw [show Tryz.f64.ntmps = 11 from rfl]
  refine Holds.step (Px := px) (T := TT) (ρ := fun _ => []) TTe (by simp (maxSteps := 100000) (disch := omega) only [go_sem, V.isAgg, V.flat, ↓reduceIte, Nat.reduceAdd, Nat.reduceSub, Nat.reduceLT, Nat.reduceEqDiff, reduceCtorEq, Nat.reduceLeDiff, Nat.reduceBEq, Nat.reduceMul, Int.reduceToNat, List.length_cons, List.length_nil]; rfl) (by repeat' first | exact trivial | constructor) ?_
  refine Holds.step (Px := px) (T := TT) (ρ := fun d => if d = 6 then [.v true (words (digL x))] else if d = 8 then [.v true (words (digL y))] else if d = 9 then [.v true (words (plusH (digL x) (digL y)))] else [.v true (words (digs (val x + val y)))]) TTe (by simp (maxSteps := 100000) (disch := omega) only [go_sem, V.isAgg, V.flat, ↓reduceIte, Nat.reduceAdd, Nat.reduceSub, Nat.reduceLT, Nat.reduceEqDiff, reduceCtorEq, Nat.reduceLeDiff, Nat.reduceBEq, Nat.reduceMul, Int.reduceToNat]; rfl) (by first | exact ⟨h1, h2, h3, h4⟩ | (repeat' first | exact trivial | exact h1 | exact h2 | exact h3 | exact h4 | constructor)) ?_
  exact Holds.ret (RetOk.vs rfl (by exact ⟨⟨rfl, fun h => h⟩, trivial⟩) rfl)

theorem Compare0_ok (a b : List Int) (hal : a.length < 100000) (hbl : b.length < 100000) (h : ∀ i, a.getD i 0 = b.getD i 0) : FnOk Tryz.prog 170 [.v (words a), .v (words b)] [.v true (.int .i64 0)] := by
  obtain ⟨M, hM⟩ : ∃ M, M = max a.length b.length := ⟨_, rfl⟩
  have hmax : (if (a.length : Int) < (b.length : Int) then (b.length : Int) else a.length) = M := by rw [hM]; split <;> omega
  refine FnOk.of Tryz.func170 rfl rfl fun cx w0 => ?_
  rw [show Tryz.f170.ntmps = 32 from rfl]
  refine Holds.step (Px := px) (T := TT) (ρ := fun _ => []) TTe (by simp (maxSteps := 100000) (disch := omega) only [go_sem, V.isAgg, V.flat, ↓reduceIte, Nat.reduceAdd, Nat.reduceSub, Nat.reduceLT, Nat.reduceEqDiff, reduceCtorEq, Nat.reduceLeDiff, Nat.reduceBEq, Nat.reduceMul, Int.reduceToNat, List.length_cons, List.length_nil]; rfl) (by repeat' first | exact trivial | constructor) ?_
  refine Holds.next (fun σ => ∀ x w, Rel cx w0 σ x w → Rel cx w0 { nt := 32, env := [], mem := [] } x w) ?_ ?_
  · refine Holds.step (Px := px) (T := TT) (ρ := fun _ => []) TTe (by simp (maxSteps := 100000) (disch := omega) only [go_sem, V.isAgg, V.flat, ↓reduceIte, Nat.reduceAdd, Nat.reduceSub, Nat.reduceLT, Nat.reduceEqDiff, reduceCtorEq, Nat.reduceLeDiff, Nat.reduceBEq, Nat.reduceMul, Int.reduceToNat, hmax]; rfl) (by repeat' first | exact trivial | constructor) ?_
    refine Holds.loopB (fun j : Nat => { nt := 32, env := [(5, .v true (.int .i64 ((j : Int) - 1))), (0, .v false (words a)), (1, .v false (words b))], mem := [] }) (fun j => j ≤ M) id M (Nat.le_refl _) (fun x w hr => Rel.keep [5, 0, 1] [] hr) ?_
    intro j hj
    rcases j with _ | j
    · refine Holds.seq ?_
      refine Holds.step (Px := px) (T := TT) (ρ := fun _ => []) TTe (by simp (maxSteps := 100000) (disch := omega) only [go_sem, V.isAgg, V.flat, ↓reduceIte, Nat.reduceAdd, Nat.reduceSub, Nat.reduceLT, Nat.reduceEqDiff, reduceCtorEq, Nat.reduceLeDiff, Nat.reduceBEq, Nat.reduceMul, Int.reduceToNat]; rfl) (by repeat' first | exact trivial | constructor) ?_
      exact Holds.condF rfl (Holds.exit ⟨rfl, fun x w hr => Rel.keep [] [] hr⟩)
    · have dA := digit_ok a j (by omega)
      have dB := digit_ok b j (by omega)
      rw [h j] at dA
      refine Holds.seq ?_
      refine Holds.step (Px := px) (T := TT) (ρ := fun _ => []) TTe (by simp (maxSteps := 100000) (disch := omega) only [go_sem, V.isAgg, V.flat, ↓reduceIte, Nat.reduceAdd, Nat.reduceSub, Nat.reduceLT, Nat.reduceEqDiff, reduceCtorEq, Nat.reduceLeDiff, Nat.reduceBEq, Nat.reduceMul, Int.reduceToNat]; rfl) (by repeat' first | exact trivial | constructor) ?_
      refine Holds.condT rfl (Holds.skip ?_)
      refine Holds.next (fun σ => ∀ x w, Rel cx w0 σ x w → Rel cx w0 { nt := 32, env := [(5, .v true (.int .i64 (j : Int))), (0, .v false (words a)), (1, .v false (words b))], mem := [] } x w) ?_ ?_
      · refine Holds.blockN ?_
        refine Holds.step (Px := px) (T := TT) (ρ := fun d => if d = 20 then [.v true (.int .u64 (b.getD j 0))] else [.v true (.int .u64 (b.getD j 0))]) TTe (by simp (maxSteps := 100000) (disch := omega) only [go_sem, V.isAgg, V.flat, ↓reduceIte, Nat.reduceAdd, Nat.reduceSub, Nat.reduceLT, Nat.reduceEqDiff, reduceCtorEq, Nat.reduceLeDiff, Nat.reduceBEq, Nat.reduceMul, Int.reduceToNat]; rfl) (by first | exact ⟨dA, dB⟩ | (repeat' first | exact trivial | exact dA | exact dB | constructor)) ?_
        refine Holds.blockN ?_
        refine Holds.step (Px := px) (T := TT) (ρ := fun _ => []) TTe (by simp (maxSteps := 100000) (disch := omega) only [go_sem, V.isAgg, V.flat, ↓reduceIte, Nat.reduceAdd, Nat.reduceSub, Nat.reduceLT, Nat.reduceEqDiff, reduceCtorEq, Nat.reduceLeDiff, Nat.reduceBEq, Nat.reduceMul, Int.reduceToNat]; rfl) (by repeat' first | exact trivial | constructor) ?_
        refine Holds.condF rfl ?_
        refine Holds.step (Px := px) (T := TT) (ρ := fun _ => []) TTe (by simp (maxSteps := 100000) (disch := omega) only [go_sem, V.isAgg, V.flat, ↓reduceIte, Nat.reduceAdd, Nat.reduceSub, Nat.reduceLT, Nat.reduceEqDiff, reduceCtorEq, Nat.reduceLeDiff, Nat.reduceBEq, Nat.reduceMul, Int.reduceToNat]; rfl) (by repeat' first | exact trivial | constructor) ?_
        exact Holds.condF rfl (Holds.skip fun x w hr => Rel.keep [5, 0, 1] [] hr)
      · intro σ hσ
        refine Holds.from hσ ?_
        refine Holds.region (Px := px) (T := TT) (ρ := fun _ => []) TTe (by simp (maxSteps := 100000) (disch := omega) only [go_sem, V.isAgg, V.flat, ↓reduceIte, Nat.reduceAdd, Nat.reduceSub, Nat.reduceLT, Nat.reduceEqDiff, reduceCtorEq, Nat.reduceLeDiff, Nat.reduceBEq, Nat.reduceMul, Int.reduceToNat]; rfl) (by repeat' first | exact trivial | constructor) ?_
        exact ⟨j, (by show j ≤ M; omega), (show j < j + 1 by omega), fun x w hr => Rel.keep [5, 0, 1] [] hr⟩
  · intro σ hσ
    refine Holds.from hσ ?_
    refine Holds.step (Px := px) (T := TT) (ρ := fun _ => []) TTe (by simp (maxSteps := 100000) (disch := omega) only [go_sem, V.isAgg, V.flat, ↓reduceIte, Nat.reduceAdd, Nat.reduceSub, Nat.reduceLT, Nat.reduceEqDiff, reduceCtorEq, Nat.reduceLeDiff, Nat.reduceBEq, Nat.reduceMul, Int.reduceToNat]; rfl) (by repeat' first | exact trivial | constructor) ?_
    exact Holds.ret (RetOk.vs rfl (by exact ⟨⟨rfl, fun h => h⟩, trivial⟩) rfl)

theorem digL_zeros (n : Nat) : digL (List.replicate n 0) = List.replicate (2 * n) 0 := by
  induction n with
  | zero => rfl
  | succ n ih => rw [List.replicate_succ, digL, ih, show 2 * (n + 1) = 2 * n + 1 + 1 from by omega, List.replicate_succ, List.replicate_succ]; rfl
theorem getD_zeros (l : List Int) (n i : Nat) : (l ++ List.replicate n 0).getD i 0 = l.getD i 0 := by
  rw [List.getD_eq_getElem?_getD, List.getD_eq_getElem?_getD]
  rcases Nat.lt_or_ge i l.length with h | h
  · rw [List.getElem?_append_left h]
  · rw [List.getElem?_append_right h, List.getElem?_eq_none h]
    cases hi : (List.replicate n (0 : Int))[i - l.length]? with
    | none => rfl
    | some x => have := List.mem_of_getElem? hi; rw [List.mem_replicate] at this; exact this.2

/-- Equal numbers compare as equal. -/
theorem rCmp0_ok (x y : List Int) (hx : x.length < 40000) (hy : y.length < 40000) (ox : okW x) (oy : okW y) (h : val x = val y) : FnOk Tryz.prog 124 [.v (words x), .v (words y)] [.v true (.int .i64 0)] := by
  have h1 := Digits_ok x (by omega) ox
  have h2 := Digits_ok y (by omega) oy
  have lx := digL_len x
  have ly := digL_len y
  obtain ⟨n, hn⟩ := trimL_split x
  obtain ⟨m, hm⟩ := trimL_split y
  have e : trimL x = trimL y := by rw [trim_digs ox, trim_digs oy, h]
  have h3 := Compare0_ok (digL x) (digL y) (by omega) (by omega) (fun i => by
    have ex : digL x = digL (trimL x) ++ List.replicate (2 * n) 0 := by rw [← digL_zeros, ← digL_append, ← hn]
    have ey : digL y = digL (trimL y) ++ List.replicate (2 * m) 0 := by rw [← digL_zeros, ← digL_append, ← hm]
    rw [ex, ey, getD_zeros, getD_zeros, e])
  refine FnOk.of Tryz.func124 rfl rfl fun cx w0 => ?_
  rw [show Tryz.f124.ntmps = 10 from rfl]
  refine Holds.step (Px := px) (T := TT) (ρ := fun _ => []) TTe (by simp (maxSteps := 100000) (disch := omega) only [go_sem, V.isAgg, V.flat, ↓reduceIte, Nat.reduceAdd, Nat.reduceSub, Nat.reduceLT, Nat.reduceEqDiff, reduceCtorEq, Nat.reduceLeDiff, Nat.reduceBEq, Nat.reduceMul, Int.reduceToNat, List.length_cons, List.length_nil]; rfl) (by repeat' first | exact trivial | constructor) ?_
  refine Holds.step (Px := px) (T := TT) (ρ := fun d => if d = 6 then [.v true (words (digL x))] else if d = 8 then [.v true (words (digL y))] else [.v true (.int .i64 0)]) TTe (by simp (maxSteps := 100000) (disch := omega) only [go_sem, V.isAgg, V.flat, ↓reduceIte, Nat.reduceAdd, Nat.reduceSub, Nat.reduceLT, Nat.reduceEqDiff, reduceCtorEq, Nat.reduceLeDiff, Nat.reduceBEq, Nat.reduceMul, Int.reduceToNat]; rfl) (by first | exact ⟨h1, h2, h3⟩ | (repeat' first | exact trivial | exact h1 | exact h2 | exact h3 | constructor)) ?_
  exact Holds.ret (RetOk.vs rfl (by exact ⟨⟨rfl, fun h => h⟩, trivial⟩) rfl)
end Go.Proofs.YtobacemgcjnahaaGreatDoor.L
