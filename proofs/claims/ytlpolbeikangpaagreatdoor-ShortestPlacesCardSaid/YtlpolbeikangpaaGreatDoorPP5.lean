/-
  Na Pa Nb Pb Pc Qa Qb Ra Bld Ba Bc Bg Mc Mj Mn Ua Ub Ca Cb Cc
-/
import Derived.Test.YtlpolbeikangpaaGreatDoorPP4
import Derived.Shelf.Strings.Builder1
import Derived.Shelf.Strings.BuilderF
import Derived.Shelf.Strings.Repeat
import Derived.Shelf.Strings.Trim
import Derived.Shelf.Strconv.Itoa3
import Derived.Test.YtlpolbeikangpaaGreatDoorProg
import Derived.Test.YtlpolbeikangpaaGreatDoorPP3
import Derived.WalkKit
import Derived.WalkSpells
import Derived.WalkLawsBesides
import Derived.Deep.LoopGhost
import Derived.Laws.RangeString
import Derived.Shelf.Spec.BitsCarry
import Derived.Lib.Mul64
import Derived.Laws.Bits64b
set_option linter.unusedSimpArgs false
set_option linter.unusedVariables false
set_option maxRecDepth 100000
namespace Go.Proofs.YtlpolbeikangpaaGreatDoor.L
def okW (l : List Int) : Prop := ∀ n ∈ l, 0 ≤ n ∧ n < 18446744073709551616
theorem okW_getD {l : List Int} (h : okW l) (i : Nat) : 0 ≤ l.getD i 0 ∧ l.getD i 0 < 18446744073709551616 := by
 rw [List.getD_eq_getElem?_getD]
 cases hi : l[i]? with
 | none => simp
 | some n => exact h n (List.mem_of_getElem? hi)
theorem okW_set {l : List Int} (h : okW l) {i : Nat} {n : Int} (hn : 0 ≤ n ∧ n < 18446744073709551616) : okW (l.set i n) := fun m hm => by
 rcases List.mem_or_eq_of_mem_set hm with h1 | rfl
 ·exact h m h1
 ·exact hn
theorem get_map {l : List Int} {i : Nat} (h : i < l.length) : l[i]? = some (l.getD i 0) := by
 rw [List.getD_eq_getElem?_getD, List.getElem?_eq_getElem h]; rfl
def trimW (l : List Int) : Nat → Nat
 | 0 => 0
 | n + 1 => if l.getD n 0 = 0 then trimW l n else n + 1
theorem trimW_le (l : List Int) : ∀ n, trimW l n ≤ n
 | 0 => Nat.le_refl _
 | n + 1 => by
   rw [trimW]
   split
   ·exact Nat.le_succ_of_le (trimW_le l n)
   ·exact Nat.le_refl _
def trimL (l : List Int) : List Int := l.take (trimW l l.length)
theorem trimL_len (l : List Int) : (trimL l).length ≤ l.length := by
 unfold trimL
 rw [List.length_take]
 exact Nat.min_le_right _ _
def val : List Int → Nat
 | [] => 0
 | x :: r => x.toNat + 18446744073709551616 * val r
def digsF : Nat → Nat → List Int
 | 0, _ => []
 | f + 1, n => if n = 0 then [] else ((n % 18446744073709551616 : Nat) : Int) :: digsF f (n / 18446744073709551616)
def digs (n : Nat) : List Int := digsF (n.log2 / 64 + 1) n
def noZ : List Int → Prop
 | [] => True
 | [x] => x ≠ 0
 | _ :: y :: r => noZ (y :: r)
theorem okW_cons {x : Int} {r : List Int} (h : okW (x :: r)) : (0 ≤ x ∧ x < 18446744073709551616) ∧ okW r := ⟨h x (by simp), fun n hn => h n (by simp [hn])⟩
theorem noZ_cons {x : Int} {r : List Int} (h : noZ (x :: r)) : noZ r := by
 cases r with
 | nil => trivial
 | cons y q => exact h
theorem val_pos : ∀ {l : List Int}, okW l → noZ l → l ≠ [] → 0 < val l
 | [], _, _, h => absurd rfl h
 | [x], ok, h, _ => by
   have h1 := (okW_cons ok).1
   have h2 : x ≠ 0 := h
   rw [val, val]
   omega
 | x :: y :: r, ok, h, _ => by
   have := val_pos (okW_cons ok).2 h (by simp)
   rw [val]
   omega
theorem val_inj : ∀ {l m : List Int}, okW l → okW m → noZ l → noZ m → val l = val m → l = m
 | [], [], _, _, _, _, _ => rfl
 | [], y :: q, _, om, _, zm, h => by have := val_pos om zm (by simp); rw [← h] at this; simp [val] at this
 | x :: r, [], ol, _, zl, _, h => by have := val_pos ol zl (by simp); rw [h] at this; simp [val] at this
 | x :: r, y :: q, ol, om, zl, zm, h => by
   have h1 := okW_cons ol
   have h2 := okW_cons om
   rw [val, val] at h
   have e1 : x = y := by omega
   have e2 : val r = val q := by omega
   rw [e1, val_inj h1.2 h2.2 (noZ_cons zl) (noZ_cons zm) e2]
theorem digsF_ok : ∀ (f n : Nat), n < 18446744073709551616 ^ f → okW (digsF f n) ∧ noZ (digsF f n) ∧ val (digsF f n) = n
 | 0, n, h => by
   rw [digsF]
   refine ⟨(fun n hn => by cases hn), trivial, ?_⟩
   rw [val]
   simp at h
   omega
 | f + 1, n, h => by
   rw [digsF]
   split
   ·next h0 => exact ⟨(fun n hn => by cases hn), trivial, by rw [val, h0]⟩
   ·next h0 =>
    obtain ⟨h1, h2, h3⟩ := digsF_ok f (n / 18446744073709551616) (by rw [Nat.pow_succ] at h; exact (Nat.div_lt_iff_lt_mul (by decide)).2 h)
    refine ⟨fun m hm => ?_, ?_, by rw [val, h3]; omega⟩
    ·rcases List.mem_cons.1 hm with rfl | hm
     ·omega
     ·exact h1 m hm
    ·cases hd : digsF f (n / 18446744073709551616) with
     | nil =>
       rw [hd] at h3
       rw [val] at h3
       show ((n % 18446744073709551616 : Nat) : Int) ≠ 0
       omega
     | cons y q => rw [hd] at h2; exact h2
theorem digs_ok (n : Nat) : okW (digs n) ∧ noZ (digs n) ∧ val (digs n) = n := by
 refine digsF_ok _ n ?_
 have h1 : n < 2 ^ (n.log2 + 1) := Nat.lt_log2_self
 refine Nat.lt_of_lt_of_le h1 ?_
 rw [show (18446744073709551616 : Nat) = 2 ^ 64 from rfl, ← Nat.pow_mul]
 exact Nat.pow_le_pow_right (by decide) (by omega)
theorem digs_of {l : List Int} (ol : okW l) (zl : noZ l) : l = digs (val l) := by
 obtain ⟨h1, h2, h3⟩ := digs_ok (val l)
 exact val_inj ol h1 zl h2 h3.symm
theorem val_append : ∀ (l m : List Int), val (l ++ m) = val l + 18446744073709551616 ^ l.length * val m
 | [], m => by simp [val]
 | x :: r, m => by
   rw [List.cons_append, val, val, val_append r m, List.length_cons, Nat.pow_succ]
   rw [Nat.mul_add, Nat.mul_comm _ (18446744073709551616 : Nat), ← Nat.mul_assoc]
   omega
end Go.Proofs.YtlpolbeikangpaaGreatDoor.L
namespace Go.Proofs.YtlpolbeikangpaaGreatDoor.L
open Go Go.RowKit Go.Proofs
attribute [local go_sem] evalOps_nil evalOps_cons runW_t runW_f runE_s runP_s wantA evalOp effOp letters okDst coreA St.opv St.get St.at look constA St.put St.upd St.set decide_true List.all_nil List.all_cons Bool.and_true Bool.true_and and_self and_true true_and if_true if_false true_or Int.sub_zero List.nil_append List.cons_append List.append_nil Option.isSome_some List.getElem?_toArray List.getElem?_cons_succ List.getElem?_cons_zero Option.bind_some Option.map_some Option.map_none beq_self_eq_true Bool.false_beq Bool.true_beq Bool.not_true Bool.not_false Bool.false_eq_true cond_true cond_false binA binI List.map_cons List.map_nil boundA List.length_nil List.length_cons Nat.zero_mul Nat.one_mul Nat.mul_one Nat.zero_add Nat.add_zero Nat.zero_le Option.toList St.freshB AV.ment AV.ments Blk.ment V.sizes Nat.lt_add_one Bool.or_true Bool.true_or Bool.or_false Bool.false_or Bool.or_self if_pos if_neg decide_false decide_eq_true decide_eq_false wrap_i64 Int.toNat_natCast minA maxA Int.natCast_add Int.cast_ofNat_Int Option.isSome_none false_implies true_implies forall_const List.drop_zero Int.toNat_zero Int.add_sub_cancel lenA sliceA loadA indexAddrA partA fitsT V.atP V.offP V.size List.length_map List.getElem?_map Int.toNat_natCast_add_one Int.ofNat_eq_natCast TY calleeA capArg knotA capArgs toArgs toArg callA R.res R.mems R.blks R.av R.names R.nw invokeA storeA storeV fieldAddrA liveB V.off V.offs V.setP List.set_cons_zero List.set_cons_succ buildA buildP partsA appendA srcA copyA boxOk makeA AV.pure List.take_succ_cons List.take_zero nilA words unA entry List.zipIdx_cons List.zipIdx_nil Arg.av Arg.avs
def digL : List Int → List Int
 | [] => []
 | n :: r => n % 4294967296 :: n / 4294967296 :: digL r
def okH (l : List Int) : Prop := ∀ n ∈ l, 0 ≤ n ∧ n < 4294967296
theorem digL_len : ∀ l : List Int, (digL l).length = 2 * l.length
 | [] => rfl
 | _ :: r => by rw [digL, List.length_cons, List.length_cons, digL_len r, List.length_cons]; omega
theorem digL_append : ∀ l m : List Int, digL (l ++ m) = digL l ++ digL m
 | [], _ => rfl
 | n :: r, m => by rw [List.cons_append, digL, digL, digL_append r m]; rfl
theorem digL_ok : ∀ {l : List Int}, okW l → okH (digL l)
 | [], _ => fun n h => by cases h
 | x :: r, h => fun n hn => by
   obtain ⟨h1, h2⟩ := okW_cons h
   rw [digL] at hn
   rcases List.mem_cons.1 hn with rfl | hn
   ·omega
   ·rcases List.mem_cons.1 hn with rfl | hn
    ·omega
    ·exact digL_ok h2 n hn
theorem okH_okW {l : List Int} (h : okH l) : okW l := fun n hn => by have := h n hn; omega
def dgA (k : Nat) : AV := if k = 0 then .nil else .own 300 0 (2 * k)
def dgB (x : List Int) (k : Nat) : List (Nat × Blk) := if k = 0 then [] else [(300, .buf 91 1 true ((digL (x.take k)).map fun n => .int .u64 n))]
theorem dgA_s (k : Nat) : dgA (k + 1) = .own 300 0 (2 * (k + 1)) := if_neg (by omega)
theorem dgB_s (x : List Int) (k : Nat) : dgB x (k + 1) = [(300, .buf 91 1 true ((digL (x.take (k + 1))).map fun n => .int .u64 n))] := if_neg (by omega)
def dgS (x : List Int) (k : Nat) : St := { nt := 25, env := [(4, .v true (.int .i64 k)), (3, dgA k), (0, .v false (words x))], mem := dgB x k }
theorem Digits_ok (x : List Int) (hx : x.length < 1000000) (ox : okW x) : FnOk Tryz.prog 154 [.v (words x)] [.v true (words (digL x))] := by
 refine FnOk.of Tryz.func154 rfl rfl fun cx w0 => ?_
 rw [show Tryz.f154.ntmps = 25 from rfl]
 refine zs0 ?_
 refine zs0 ?_
 refine Holds.next (fun σ => ∀ a w, Rel cx w0 σ a w → Rel cx w0 { nt := 25, env := [(3, dgA x.length)], mem := dgB x x.length } a w) ?_ ?_
 ·refine zs0 ?_
  refine Holds.loopB (fun k => dgS x k) (fun k => k ≤ x.length) (fun k => x.length - k) 0 (Nat.zero_le _) (fun a w h => Rel.keep [4, 3, 0] [] h) ?_
  intro k hk
  by_cases hend : k = x.length
  ·refine Holds.seq ?_
   rw [hend, dgS]
   refine zs0 ?_
   refine Holds.condF rfl (Holds.exit ⟨rfl, fun a w h => Rel.less [3] (fun _ => rfl) h⟩)
  ·have hkl : k < x.length := by omega
   have hw := okW_getD ox k
   have hlt : (digL (x.take k)).length = 2 * k := by rw [digL_len, List.length_take]; omega
   have htk : x.take (k + 1) = x.take k ++ [x.getD k 0] := by
    rw [List.take_add_one, List.getElem?_eq_getElem hkl, List.getD_eq_getElem?_getD, List.getElem?_eq_getElem hkl]; rfl
   have hm : (x.getD k 0).tmod 4294967296 = x.getD k 0 % 4294967296 := Int.tmod_eq_emod_of_nonneg hw.1
   have hd : (x.getD k 0).tdiv 4294967296 = x.getD k 0 / 4294967296 := Int.tdiv_eq_ediv_of_nonneg hw.1
   have hdw : IntKind.u64.wrap (x.getD k 0 / 4294967296) = x.getD k 0 / 4294967296 := by rw [wrap_u64]; omega
   refine Holds.seq ?_
   rw [dgS]
   refine zs0 ?_
   refine Holds.condT rfl (Holds.skip ?_)
   refine Holds.next (fun σ => ∀ a w, Rel cx w0 σ a w → Rel cx w0 { nt := 25, env := [(4, .v true (.int .i64 k)), (3, dgA (k + 1)), (0, .v false (words x))], mem := dgB x (k + 1) } a w) ?_ ?_
   ·refine Holds.blockN ?_
    rcases k with _ | k
    ·refine Holds.dregionT (Px := px) (T := TT) (ρ := fun _ => []) [(3, 12), (4, 12), (8, 12), (9, 12)] mixed (by kernel_rfl) TTe (by simp (maxSteps := 100000) (disch := omega) only [go_sem, V.isAgg, V.flat, ↓reduceIte, Nat.reduceAdd, Nat.reduceSub, Nat.reduceLT, Nat.reduceEqDiff, reduceCtorEq, Nat.reduceLeDiff, Nat.reduceBEq, Nat.reduceMul, Int.reduceToNat, dgA, dgB, get_map hkl, hm, hd, hdw]; rfl) (by repeat' first | exact trivial | constructor) (by rfl) (by rfl) (by simp (maxSteps := 100000) (disch := omega) only [trc_nil, trc_cons, effW_t, effW_f, trcE_s, opSites_eq, sitesOf, AV.sites, AV.sitesL, Op.operands, Call.operands, List.append_toArray, List.toList_toArray, List.filter_nil, List.filter_cons, List.contains_cons, List.contains_nil, go_sem, V.isAgg, V.flat, ↓reduceIte, Nat.reduceAdd, Nat.reduceSub, Nat.reduceLT, Nat.reduceEqDiff, reduceCtorEq, Nat.reduceLeDiff, Nat.reduceBEq, Nat.reduceMul, Int.reduceToNat, dgA, dgB, get_map hkl, hm, hd, hdw]; rfl) (by rfl) ?_
     intro a w h
     have := Rel.ren (s := 23) (s' := 300) (Rel.keep [4, 3, 0] [23] h) (by decide) rfl rfl
     rw [dgB, if_neg (by omega), htk, dgA, if_neg (by omega)]
     exact this
    ·rw [dgA_s, dgB_s]
     refine Holds.dregionT (Px := px) (T := TT) (ρ := fun _ => []) [(3, 12), (4, 12), (8, 12), (9, 12)] mixed (by kernel_rfl) TTe (by simp (maxSteps := 100000) (disch := omega) only [go_sem, V.isAgg, V.flat, ↓reduceIte, Nat.reduceAdd, Nat.reduceSub, Nat.reduceLT, Nat.reduceEqDiff, reduceCtorEq, Nat.reduceLeDiff, Nat.reduceBEq, Nat.reduceMul, Int.reduceToNat, get_map hkl, hm, hd, hdw, hlt]; rfl) (by repeat' first | exact trivial | constructor) (by rfl) (by rfl) (by simp (maxSteps := 100000) (disch := omega) only [trc_nil, trc_cons, effW_t, effW_f, trcE_s, opSites_eq, sitesOf, AV.sites, AV.sitesL, Op.operands, Call.operands, List.append_toArray, List.toList_toArray, List.filter_nil, List.filter_cons, List.contains_cons, List.contains_nil, go_sem, V.isAgg, V.flat, ↓reduceIte, Nat.reduceAdd, Nat.reduceSub, Nat.reduceLT, Nat.reduceEqDiff, reduceCtorEq, Nat.reduceLeDiff, Nat.reduceBEq, Nat.reduceMul, Int.reduceToNat, get_map hkl, hm, hd, hdw, hlt]; rfl) (by rfl) ?_
     intro a w h
     have := Rel.ren (s := 23) (s' := 300) (Rel.keep [4, 3, 0] [23] h) (by decide) rfl rfl
     rw [dgB, if_neg (by omega), htk, dgA, if_neg (by omega), digL_append, List.map_append]
     exact this
   ·intro σ hσ
    refine Holds.from hσ ?_
    refine zr0 ?_
    exact ⟨k + 1, (by show k + 1 ≤ x.length; omega), (show x.length - (k + 1) < x.length - k by omega), fun a w h => Rel.less [4, 3, 0] (fun _ => rfl) h⟩
 ·intro σ hσ
  refine Holds.from hσ ?_
  have hl := digL_len x
  rw [dgA, dgB, List.take_length]
  by_cases h0 : x.length = 0
  ·rw [if_pos h0, if_pos h0]
   have : x = [] := List.eq_nil_of_length_eq_zero h0
   subst this
   refine zs0 ?_
   exact Holds.ret ⟨_, [], rfl, ⟨rfl, trivial⟩, by simp [R.names, R.mems, R.blks], by simp, rfl⟩
  ·rw [if_neg h0, if_neg h0]
   refine zs0 ?_
   exact Holds.ret ⟨_, [], rfl, ⟨⟨rfl, by rw [List.drop_zero, List.take_of_length_le (by rw [List.length_map, hl]; exact Nat.le_refl _)], id, rfl⟩, trivial⟩, by simp [R.names, R.mems, R.blks], by simp, rfl⟩
theorem Short_ok (l : List Int) (hl : l.length < 1000000000) : FnOk Tryz.prog 222 [.v (words l)] [.v false (words (trimL l))] := by
 refine FnOk.of Tryz.func222 rfl rfl fun cx w0 => ?_
 rw [show Tryz.f222.ntmps = 21 from rfl]
 refine zs0 ?_
 refine zs0 ?_
 refine Holds.next (fun σ => ∃ env, σ = { nt := 21, env, mem := [] } ∧ look env 3 = .v true (.int .i64 (trimW l l.length : Nat)) ∧ look env 0 = .v false (.sl 1 (l.map fun n => .int .u64 n)))
  (Holds.loopB (fun n : Nat => { nt := 21, env := [(3, .v true (.int .i64 (n : Int))), (0, .v false (.sl 1 (l.map fun n => .int .u64 n)))], mem := [] }) (fun n => n ≤ l.length ∧ trimW l n = trimW l l.length) id l.length ⟨Nat.le_refl _, rfl⟩ (fun a w h => Rel.keep [3, 0] [] h) ?_) ?_
 ·rintro n ⟨hn, ht⟩
  rcases n with _ | n
  ·refine Holds.seq ?_
   refine zs0 ?_
   refine Holds.condF rfl (Holds.exit ⟨rfl, _, rfl, ?_, rfl⟩)
   rw [← ht]; rfl
  ·have hlt : n < l.length := by omega
   have e1 : l[n]? = some (l.getD n 0) := by rw [List.getD_eq_getElem?_getD, List.getElem?_eq_getElem hlt]; rfl
   refine Holds.seq ?_
   refine zs1 e1 ?_
   by_cases h0 : l.getD n 0 = 0
   ·refine Holds.condT (nw := true) (by rw [h0]; rfl) (Holds.skip ?_)
    refine Holds.block ?_
    refine zr0 ?_
    refine ⟨n, ⟨by omega, ?_⟩, by simp, fun a w h => Rel.keep [3, 0] [] h⟩
    rw [← ht, trimW, if_pos h0]
   ·refine Holds.condF (nw := true) (by rw [decide_eq_false h0]; rfl) (Holds.exit ⟨rfl, _, rfl, ?_, rfl⟩)
    rw [← ht, trimW, if_neg h0]
    rfl
 ·rintro σ ⟨env, rfl, e3, e0⟩
  have hle := trimW_le l l.length
  refine zs1 (an e3 <| e0) ?_
  refine Holds.ret ⟨_, [], rfl, ⟨⟨?_, by simp⟩, trivial⟩, by simp [R.names, R.mems, R.blks], by simp, rfl⟩
  rw [words, trimL, List.map_take]
theorem take_succ {x : List Int} {k : Nat} (h : k < x.length) : x.take (k + 1) = x.take k ++ [x.getD k 0] := by
 rw [List.take_add_one, List.getElem?_eq_getElem h, List.getD_eq_getElem?_getD, List.getElem?_eq_getElem h]; rfl
def rowOf : List Int → List Int
 | a :: b :: r => (a + b * 4294967296) :: rowOf r
 | _ => []
theorem rowOf_len : ∀ l : List Int, (rowOf l).length = l.length / 2
 | [] => by simp [rowOf]
 | [_] => by simp [rowOf]
 | a :: b :: r => by rw [rowOf, List.length_cons, rowOf_len r, List.length_cons, List.length_cons]; omega
theorem rowOf_append : ∀ (l : List Int) (a b : Int), l.length % 2 = 0 → rowOf (l ++ [a, b]) = rowOf l ++ [a + b * 4294967296]
 | [], a, b, _ => rfl
 | [_], _, _, h => by simp at h
 | x :: y :: r, a, b, h => by
   rw [List.cons_append, List.cons_append, rowOf, rowOf, rowOf_append r a b (by simp at h; omega)]; rfl
theorem rowOf_odd : ∀ (l : List Int) (a : Int), l.length % 2 = 0 → rowOf (l ++ [a]) = rowOf l
 | [], _, _ => rfl
 | [_], _, h => by simp at h
 | x :: y :: r, a, h => by
   rw [List.cons_append, List.cons_append, rowOf, rowOf, rowOf_odd r a (by simp at h; omega)]
theorem rowOf_ok : ∀ {l : List Int}, okH l → okW (rowOf l)
 | [], _ => fun n h => by cases h
 | [_], _ => fun n h => by cases h
 | x :: y :: r, h => fun n hn => by
   rw [rowOf] at hn
   have h1 := h x (by simp)
   have h2 := h y (by simp)
   rcases List.mem_cons.1 hn with rfl | hn
   ·omega
   ·exact rowOf_ok (fun m hm => h m (by simp [hm])) n hn
def rwA (k : Nat) : AV := if k = 0 then .nil else .own 300 0 k
def rwB (x : List Int) (k : Nat) : List (Nat × Blk) := if k = 0 then [] else [(300, .buf 91 1 true ((rowOf (x.take (2 * k))).map fun n => .int .u64 n))]
def rwS (x : List Int) (k : Nat) : St := { nt := 27, env := [(4, .v true (.int .i64 (2 * (k : Int)))), (3, rwA k), (0, .v false (words x))], mem := rwB x k }
theorem Row_ok (x : List Int) (hx : x.length < 1000000) (ox : okH x) : FnOk Tryz.prog 260 [.v (words x)] [.v true (words (rowOf x))] := by
 refine FnOk.of Tryz.func260 rfl rfl fun cx w0 => ?_
 rw [show Tryz.f260.ntmps = 27 from rfl]
 refine zs0 ?_
 refine zs0 ?_
 have hend2 : rowOf (x.take (2 * (x.length / 2))) = rowOf x := by
  by_cases hp : x.length % 2 = 0
  ·rw [List.take_of_length_le (by omega)]
  ·have hl : 2 * (x.length / 2) < x.length := by omega
   have e : x = x.take (2 * (x.length / 2)) ++ [x.getD (2 * (x.length / 2)) 0] := by
    have h1 : x.take (2 * (x.length / 2) + 1) = x := List.take_of_length_le (by omega)
    rw [List.take_add_one, List.getElem?_eq_getElem hl] at h1
    rw [List.getD_eq_getElem?_getD, List.getElem?_eq_getElem hl]
    exact h1.symm
   have h2 := rowOf_odd (x.take (2 * (x.length / 2))) (x.getD (2 * (x.length / 2)) 0) (by rw [List.length_take]; omega)
   rw [← e] at h2
   exact h2.symm
 refine Holds.next (fun σ => ∀ a w, Rel cx w0 σ a w → Rel cx w0 { nt := 27, env := [(3, rwA (x.length / 2))], mem := rwB x (x.length / 2) } a w) ?_ ?_
 ·refine zs0 ?_
  refine Holds.loopB (fun k => rwS x k) (fun k => k ≤ x.length / 2) (fun k => x.length / 2 - k) 0 (Nat.zero_le _) (fun a w h => Rel.keep [4, 3, 0] [] h) ?_
  intro k hk
  by_cases hend : k = x.length / 2
  ·refine Holds.seq ?_
   rw [rwS]
   refine zs0 ?_
   refine Holds.condF rfl (Holds.exit ⟨rfl, fun a w h => ?_⟩)
   rw [← hend]
   exact Rel.less [3] (fun _ => rfl) h
  ·have hkl : 2 * k < x.length := by omega
   have hkl2 : 2 * k + 1 < x.length := by omega
   have hw := okW_getD (okH_okW ox) (2 * k)
   have h1 : 0 ≤ x.getD (2 * k) 0 ∧ x.getD (2 * k) 0 < 4294967296 := by
    rw [List.getD_eq_getElem?_getD, List.getElem?_eq_getElem hkl]; exact ox _ (List.getElem_mem hkl)
   have h2 : 0 ≤ x.getD (2 * k + 1) 0 ∧ x.getD (2 * k + 1) 0 < 4294967296 := by
    rw [List.getD_eq_getElem?_getD, List.getElem?_eq_getElem hkl2]; exact ox _ (List.getElem_mem hkl2)
   have hlt : (rowOf (x.take (2 * k))).length = k := by rw [rowOf_len, List.length_take]; omega
   have htk : x.take (2 * (k + 1)) = x.take (2 * k) ++ [x.getD (2 * k) 0, x.getD (2 * k + 1) 0] := by
    rw [show 2 * (k + 1) = 2 * k + 1 + 1 from by omega, take_succ hkl2, take_succ hkl, List.append_assoc]
    rfl
   have hro : rowOf (x.take (2 * (k + 1))) = rowOf (x.take (2 * k)) ++ [x.getD (2 * k) 0 + x.getD (2 * k + 1) 0 * 4294967296] := by
    rw [htk, rowOf_append _ _ _ (by rw [List.length_take]; omega)]
   have e1 : (2 * (k : Int)).toNat = 2 * k := by omega
   have e2 : (2 * (k : Int) + 1).toNat = 2 * k + 1 := by omega
   have e3 : IntKind.u64.wrap (x.getD (2 * k + 1) 0 * 4294967296) = x.getD (2 * k + 1) 0 * 4294967296 := by rw [wrap_u64]; omega
   have e4 : IntKind.u64.wrap (x.getD (2 * k) 0 + x.getD (2 * k + 1) 0 * 4294967296) = x.getD (2 * k) 0 + x.getD (2 * k + 1) 0 * 4294967296 := by rw [wrap_u64]; omega
   refine Holds.seq ?_
   rw [rwS]
   refine zs0 ?_
   refine Holds.condT rfl (Holds.skip ?_)
   refine Holds.next (fun σ => ∀ a w, Rel cx w0 σ a w → Rel cx w0 { nt := 27, env := [(4, .v true (.int .i64 (2 * (k : Int)))), (3, rwA (k + 1)), (0, .v false (words x))], mem := rwB x (k + 1) } a w) ?_ ?_
   ·refine Holds.blockN ?_
    rcases Nat.eq_zero_or_pos k with h0 | h0
    ·have ea : rwA k = .nil := if_pos h0
     have eb : rwB x k = [] := if_pos h0
     have er : rowOf (x.take (2 * k)) = [] := by rw [h0]; rfl
     have hk1 : k + 1 = 1 := by omega
     rw [ea, eb]
     refine Holds.dregionT (Px := px) (T := TT) (ρ := fun _ => []) [(3, 13), (4, 13), (8, 13), (9, 13)] mixed (by kernel_rfl) TTe (by simp (maxSteps := 100000) (disch := omega) only [go_sem, V.isAgg, V.flat, ↓reduceIte, Nat.reduceAdd, Nat.reduceSub, Nat.reduceLT, Nat.reduceEqDiff, reduceCtorEq, Nat.reduceLeDiff, Nat.reduceBEq, Nat.reduceMul, Int.reduceToNat, get_map hkl, get_map hkl2, e1, e2, e3, e4]; rfl) (by repeat' first | exact trivial | constructor) (by rfl) (by rfl) (by simp (maxSteps := 100000) (disch := omega) only [trc_nil, trc_cons, effW_t, effW_f, trcE_s, opSites_eq, sitesOf, AV.sites, AV.sitesL, Op.operands, Call.operands, List.append_toArray, List.toList_toArray, List.filter_nil, List.filter_cons, List.contains_cons, List.contains_nil, go_sem, V.isAgg, V.flat, ↓reduceIte, Nat.reduceAdd, Nat.reduceSub, Nat.reduceLT, Nat.reduceEqDiff, reduceCtorEq, Nat.reduceLeDiff, Nat.reduceBEq, Nat.reduceMul, Int.reduceToNat, get_map hkl, get_map hkl2, e1, e2, e3, e4]; rfl) (by rfl) ?_
     intro a w h
     have := Rel.ren (s := 25) (s' := 300) (Rel.keep [4, 3, 0] [25] h) (by decide) rfl rfl
     rw [rwB, if_neg (by omega), hro, er, rwA, if_neg (by omega), hk1]
     exact this
    ·have ea : rwA k = .own 300 0 k := if_neg (by omega)
     have eb : rwB x k = [(300, .buf 91 1 true ((rowOf (x.take (2 * k))).map fun n => .int .u64 n))] := if_neg (by omega)
     rw [ea, eb]
     refine Holds.dregionT (Px := px) (T := TT) (ρ := fun _ => []) [(3, 13), (4, 13), (8, 13), (9, 13)] mixed (by kernel_rfl) TTe (by simp (maxSteps := 100000) (disch := omega) only [go_sem, V.isAgg, V.flat, ↓reduceIte, Nat.reduceAdd, Nat.reduceSub, Nat.reduceLT, Nat.reduceEqDiff, reduceCtorEq, Nat.reduceLeDiff, Nat.reduceBEq, Nat.reduceMul, Int.reduceToNat, get_map hkl, get_map hkl2, e1, e2, e3, e4, hlt]; rfl) (by repeat' first | exact trivial | constructor) (by rfl) (by rfl) (by simp (maxSteps := 100000) (disch := omega) only [trc_nil, trc_cons, effW_t, effW_f, trcE_s, opSites_eq, sitesOf, AV.sites, AV.sitesL, Op.operands, Call.operands, List.append_toArray, List.toList_toArray, List.filter_nil, List.filter_cons, List.contains_cons, List.contains_nil, go_sem, V.isAgg, V.flat, ↓reduceIte, Nat.reduceAdd, Nat.reduceSub, Nat.reduceLT, Nat.reduceEqDiff, reduceCtorEq, Nat.reduceLeDiff, Nat.reduceBEq, Nat.reduceMul, Int.reduceToNat, get_map hkl, get_map hkl2, e1, e2, e3, e4, hlt]; rfl) (by rfl) ?_
     intro a w h
     have := Rel.ren (s := 25) (s' := 300) (Rel.keep [4, 3, 0] [25] h) (by decide) rfl rfl
     rw [rwB, if_neg (by omega), hro, rwA, if_neg (by omega), List.map_append]
     exact this
   ·intro σ hσ
    refine Holds.from hσ ?_
    refine zr0 ?_
    refine ⟨k + 1, (by show k + 1 ≤ x.length / 2; omega), (show x.length / 2 - (k + 1) < x.length / 2 - k by omega), fun a w h => ?_⟩
    have := Rel.less [4, 3, 0] (fun _ => rfl) h
    show Rel cx w0 (rwS x (k + 1)) a w
    rw [rwS, show (2 * ((k + 1 : Nat) : Int)) = 2 * (k : Int) + 2 from by omega]
    exact this
 ·intro σ hσ
  refine Holds.from hσ ?_
  have hl := rowOf_len x
  rw [rwA, rwB, hend2]
  by_cases h0 : x.length / 2 = 0
  ·rw [if_pos h0, if_pos h0]
   have : rowOf x = [] := List.eq_nil_of_length_eq_zero (by omega)
   rw [this]
   refine zs0 ?_
   exact Holds.ret ⟨_, [], rfl, ⟨rfl, trivial⟩, by simp [R.names, R.mems, R.blks], by simp, rfl⟩
  ·rw [if_neg h0, if_neg h0]
   refine zs0 ?_
   exact Holds.ret ⟨_, [], rfl, ⟨⟨rfl, by rw [List.drop_zero, List.take_of_length_le (by rw [List.length_map, hl]; exact Nat.le_refl _)], id, rfl⟩, trivial⟩, by simp [R.names, R.mems, R.blks], by simp, rfl⟩
end Go.Proofs.YtlpolbeikangpaaGreatDoor.L
namespace Go.Proofs.YtlpolbeikangpaaGreatDoor.L
theorem okW_take {l : List Int} (h : okW l) (n : Nat) : okW (l.take n) := fun m hm => h m (List.mem_of_mem_take hm)
theorem val_set : ∀ {l : List Int} {i : Nat} {n : Int}, i < l.length → val (l.set i n) + 18446744073709551616 ^ i * (l.getD i 0).toNat = val l + 18446744073709551616 ^ i * n.toNat
 | [], i, n, h => by simp at h
 | x :: r, 0, n, h => by simp [val]; omega
 | x :: r, i + 1, n, h => by
   have ih := val_set (l := r) (i := i) (n := n) (by simpa using h)
   rw [List.set_cons_succ, val, val, List.getD_cons_succ, Nat.pow_succ]
   have e1 : ∀ m : Nat, 18446744073709551616 ^ i * 18446744073709551616 * m = 18446744073709551616 * (18446744073709551616 ^ i * m) := fun m => by
    rw [Nat.mul_comm (18446744073709551616 ^ i), Nat.mul_assoc]
   rw [e1, e1]
   omega
theorem val_take_succ {l : List Int} (k : Nat) : val (l.take (k + 1)) = val (l.take k) + 18446744073709551616 ^ k * (l.getD k 0).toNat := by
 rcases Nat.lt_or_ge k l.length with h | h
 ·rw [List.take_add_one, get_map h, val_append, List.length_take, Nat.min_eq_left (by omega)]
  simp [val]
 ·rw [List.take_of_length_le (by omega), List.take_of_length_le h, List.getD_eq_getElem?_getD, List.getElem?_eq_none h]
  simp
theorem val_lt : ∀ {l : List Int}, okW l → val l < 18446744073709551616 ^ l.length
 | [], _ => by simp [val]
 | x :: r, ok => by
   have h1 := okW_cons ok
   have h2 := val_lt h1.2
   rw [val, List.length_cons, Nat.pow_succ]
   omega
theorem trimL_ok {l : List Int} (ol : okW l) : okW (trimL l) := fun n hn => ol n (List.mem_of_mem_take hn)
end Go.Proofs.YtlpolbeikangpaaGreatDoor.L
namespace Go.Proofs.YtlpolbeikangpaaGreatDoor.L
open Go Go.RowKit Go.Proofs
def valH : List Int → Nat
 | [] => 0
 | x :: r => x.toNat + 4294967296 * valH r
theorem val_dig : ∀ {l : List Int}, okW l → valH (digL l) = val l
 | [], _ => rfl
 | x :: r, h => by
   obtain ⟨h1, h2⟩ := okW_cons h
   rw [digL, valH, valH, val, val_dig h2]
   have : (x % 4294967296).toNat + 4294967296 * (x / 4294967296).toNat = x.toNat := by omega
   omega
theorem val_row : ∀ {l : List Int}, okH l → l.length % 2 = 0 → val (rowOf l) = valH l
 | [], _, _ => rfl
 | [_], _, h => by simp at h
 | a :: b :: r, h, hl => by
   have h1 := h a (by simp)
   have h2 := h b (by simp)
   rw [rowOf, val, valH, valH, val_row (fun m hm => h m (by simp [hm])) (by simp at hl; omega)]
   have : (a + b * 4294967296).toNat = a.toNat + 4294967296 * b.toNat := by omega
   omega
theorem valH_zeros : ∀ (l : List Int) (n : Nat), valH (l ++ List.replicate n 0) = valH l
 | [], n => by
   rw [List.nil_append]
   induction n with
   | zero => rfl
   | succ n ih =>
     rw [List.replicate_succ]
     show (0 : Int).toNat + 4294967296 * valH (List.replicate n 0) = 0
     rw [ih]; rfl
 | x :: r, n => by rw [List.cons_append, valH, valH, valH_zeros r n]
theorem val_zeros : ∀ (l : List Int) (n : Nat), val (l ++ List.replicate n 0) = val l
 | [], n => by
   rw [List.nil_append]
   induction n with
   | zero => rfl
   | succ n ih =>
     rw [List.replicate_succ]
     show (0 : Int).toNat + 18446744073709551616 * val (List.replicate n 0) = 0
     rw [ih]; rfl
 | x :: r, n => by rw [List.cons_append, val, val, val_zeros r n]
theorem trim_split (l : List Int) : ∀ k, k ≤ l.length → l.take k = l.take (trimW l k) ++ List.replicate (k - trimW l k) 0
 | 0, _ => by simp [trimW]
 | k + 1, h => by
   have hk : k < l.length := h
   rw [trimW]
   split
   ·next h0 =>
    have h1 := trim_split l k (by omega)
    have h2 := trimW_le l k
    rw [List.getD_eq_getElem?_getD, List.getElem?_eq_getElem hk] at h0
    have h0' : l[k] = 0 := h0
    rw [List.take_add_one, List.getElem?_eq_getElem hk, h1, h0', show k + 1 - trimW l k = (k - trimW l k) + 1 from by omega, List.replicate_succ', List.append_assoc]
    rfl
   ·simp
theorem trimL_split (l : List Int) : ∃ n, l = trimL l ++ List.replicate n 0 := ⟨l.length - trimW l l.length, by
 have := trim_split l l.length (Nat.le_refl _)
 rw [List.take_length] at this
 exact this⟩
theorem valH_trim (l : List Int) : valH (trimL l) = valH l := by
 obtain ⟨n, h⟩ := trimL_split l
 have := valH_zeros (trimL l) n
 rw [← h] at this
 exact this.symm
theorem val_trim (l : List Int) : val (trimL l) = val l := by
 obtain ⟨n, h⟩ := trimL_split l
 have := val_zeros (trimL l) n
 rw [← h] at this
 exact this.symm
theorem trimW_last (l : List Int) : ∀ (k m : Nat), trimW l k = m + 1 → l.getD m 0 ≠ 0 ∧ m < k
 | 0, m, h => by rw [trimW] at h; omega
 | k + 1, m, h => by
   rw [trimW] at h
   split at h
   ·obtain ⟨h1, h2⟩ := trimW_last l k m h
    exact ⟨h1, by omega⟩
   ·next h0 =>
    have : m = k := by omega
    subst this
    exact ⟨h0, by omega⟩
theorem trimL_last (l : List Int) : trimL l = [] ∨ ∃ t z, trimL l = t ++ [z] ∧ z ≠ 0 := by
 cases hm : trimW l l.length with
 | zero => left; rw [trimL, hm]; rfl
 | succ m =>
   obtain ⟨h1, h2⟩ := trimW_last l l.length m hm
   right
   refine ⟨l.take m, l.getD m 0, ?_, h1⟩
   rw [trimL, hm, List.take_add_one, List.getElem?_eq_getElem h2, List.getD_eq_getElem?_getD, List.getElem?_eq_getElem h2]
   rfl
theorem noZ_end : ∀ (L : List Int) (z : Int), z ≠ 0 → noZ (L ++ [z])
 | [], z, h => h
 | [x], z, h => h
 | x :: y :: r, z, h => noZ_end (y :: r) z h
theorem noZ_trim (l : List Int) : noZ (trimL l) := by
 rcases trimL_last l with h | ⟨t, z, h, hz⟩
 ·rw [h]; trivial
 ·rw [h]; exact noZ_end t z hz
theorem trim_digs {l : List Int} (ol : okW l) : trimL l = digs (val l) := by
 have := digs_of (trimL_ok ol) (noZ_trim l)
 rw [val_trim] at this
 exact this
theorem snoc_of : ∀ {l : List Int}, l ≠ [] → ∃ t z, l = t ++ [z]
 | [], h => absurd rfl h
 | [x], _ => ⟨[], x, rfl⟩
 | x :: y :: r, _ => by
   obtain ⟨t, z, h⟩ := snoc_of (l := y :: r) (by simp)
   exact ⟨x :: t, z, by rw [h]; rfl⟩
def padH (h : List Int) (k : Nat) : List Int := h ++ List.replicate (2 * k + 2 - h.length) 0
def natOf (h : List Int) : List Int := rowOf ((padH (trimL h) (((trimL h).length + 1) / 2)).take (2 * (((trimL h).length + 1) / 2)))
theorem trimL_okH {l : List Int} (ol : okH l) : okH (trimL l) := fun n hn => ol n (List.mem_of_mem_take hn)
theorem natOf_eq {h : List Int} (oh : okH h) : natOf h = digs (valH h) := by
 have ot := trimL_okH oh
 rw [← valH_trim h]
 unfold natOf
 rcases trimL_last h with ht | ⟨t, z, ht, hz⟩
 ·rw [ht]; rfl
 ·rw [ht] at ot ⊢
  have oz := ot z (by simp)
  have otk : ∀ m ∈ t, 0 ≤ m ∧ m < 4294967296 := fun m hm => ot m (by simp [hm])
  have hlen : (t ++ [z]).length = t.length + 1 := by simp
  rcases Nat.mod_two_eq_zero_or_one t.length with he | he
  ·-- an odd number of halves
   have hk : ((t ++ [z]).length + 1) / 2 = t.length / 2 + 1 := by rw [hlen]; omega
   have e : (padH (t ++ [z]) (t.length / 2 + 1)).take (2 * (t.length / 2 + 1)) = t ++ [z, 0] := by
    have e1 : padH (t ++ [z]) (t.length / 2 + 1) = (t ++ [z, 0]) ++ List.replicate 2 0 := by
     unfold padH
     rw [hlen, show 2 * (t.length / 2 + 1) + 2 - (t.length + 1) = 2 + 1 from by omega]
     rw [List.append_assoc, List.append_assoc]
     rfl
    rw [e1, List.take_append_of_le_length (by simp; omega), List.take_of_length_le (by simp; omega)]
   rw [hk, e, rowOf_append t z 0 he]
   have ok : okW (rowOf t ++ [z + 0 * 4294967296]) := by
    intro m hm
    rcases List.mem_append.1 hm with hm | hm
    ·exact rowOf_ok (l := t) otk m hm
    ·rw [List.mem_singleton] at hm; omega
   have hv : val (rowOf t ++ [z + 0 * 4294967296]) = valH (t ++ [z]) := by
    rw [← rowOf_append t z 0 he, val_row (l := t ++ [z, 0]) (fun m hm => by
     rcases List.mem_append.1 hm with hm | hm
     ·exact otk m hm
     ·rcases List.mem_cons.1 hm with rfl | hm
      ·exact oz
      ·rw [List.mem_singleton] at hm; omega) (by simp; omega)]
    have := valH_zeros (t ++ [z]) 1
    rw [List.append_assoc] at this
    exact this
   rw [← hv]
   exact digs_of ok (noZ_end _ _ (by omega))
  ·-- an even number
   have htne : t ≠ [] := fun h => by rw [h] at he; simp at he
   obtain ⟨s, y, rfl⟩ := snoc_of htne
   have hsl : (s ++ [y]).length = s.length + 1 := by simp
   have oy := otk y (by simp)
   have osk : ∀ m ∈ s, 0 ≤ m ∧ m < 4294967296 := fun m hm => otk m (by simp [hm])
   have hk : ((s ++ [y] ++ [z]).length + 1) / 2 = s.length / 2 + 1 := by rw [hlen, hsl]; omega
   have e : (padH (s ++ [y] ++ [z]) (s.length / 2 + 1)).take (2 * (s.length / 2 + 1)) = s ++ [y, z] := by
    have e1 : padH (s ++ [y] ++ [z]) (s.length / 2 + 1) = (s ++ [y, z]) ++ List.replicate 2 0 := by
     unfold padH
     rw [hlen, hsl, show 2 * (s.length / 2 + 1) + 2 - (s.length + 1 + 1) = 2 from by omega, List.append_assoc s]
     rfl
    rw [e1, List.take_append_of_le_length (by simp; omega), List.take_of_length_le (by simp; omega)]
   have hse : s.length % 2 = 0 := by omega
   rw [hk, e, rowOf_append s y z hse]
   have ok : okW (rowOf s ++ [y + z * 4294967296]) := by
    intro m hm
    rcases List.mem_append.1 hm with hm | hm
    ·exact rowOf_ok (l := s) osk m hm
    ·rw [List.mem_singleton] at hm; omega
   have hv : val (rowOf s ++ [y + z * 4294967296]) = valH (s ++ [y] ++ [z]) := by
    rw [← rowOf_append s y z hse, val_row (l := s ++ [y, z]) (fun m hm => by
     rcases List.mem_append.1 hm with hm | hm
     ·exact osk m hm
     ·rcases List.mem_cons.1 hm with rfl | hm
      ·exact oy
      ·rw [List.mem_singleton] at hm; rw [hm]; exact oz) (by simp; omega), List.append_assoc]
    rfl
   rw [← hv]
   exact digs_of ok (noZ_end _ _ (by omega))
attribute [local go_sem] evalOps_nil evalOps_cons runW_t runW_f runE_s runP_s wantA evalOp effOp letters okDst coreA St.opv St.get St.at look constA St.put St.upd St.set decide_true List.all_nil List.all_cons Bool.and_true Bool.true_and and_self and_true true_and if_true if_false true_or Int.sub_zero List.nil_append List.cons_append List.append_nil Option.isSome_some List.getElem?_toArray List.getElem?_cons_succ List.getElem?_cons_zero Option.bind_some Option.map_some Option.map_none beq_self_eq_true Bool.false_beq Bool.true_beq Bool.not_true Bool.not_false Bool.false_eq_true cond_true cond_false binA binI List.map_cons List.map_nil boundA List.length_nil List.length_cons Nat.zero_mul Nat.one_mul Nat.mul_one Nat.zero_add Nat.add_zero Nat.zero_le Option.toList St.freshB AV.ment AV.ments Blk.ment V.sizes Nat.lt_add_one Bool.or_true Bool.true_or Bool.or_false Bool.false_or Bool.or_self if_pos if_neg decide_false decide_eq_true decide_eq_false wrap_i64 Int.toNat_natCast minA maxA Int.natCast_add Int.cast_ofNat_Int Option.isSome_none false_implies true_implies forall_const List.drop_zero Int.toNat_zero Int.add_sub_cancel lenA sliceA loadA indexAddrA partA fitsT V.atP V.offP V.size List.length_map List.getElem?_map Int.toNat_natCast_add_one Int.ofNat_eq_natCast TY calleeA capArg knotA capArgs toArgs toArg callA R.res R.mems R.blks R.av R.names R.nw invokeA storeA storeV fieldAddrA liveB V.off V.offs V.setP List.set_cons_zero List.set_cons_succ buildA buildP partsA appendA srcA copyA boxOk makeA AV.pure List.take_succ_cons List.take_zero nilA words unA entry List.zipIdx_cons List.zipIdx_nil Arg.av Arg.avs
theorem padH_ok {h : List Int} (oh : okH h) (k : Nat) : okH (padH h k) := fun n hn => by
 rcases List.mem_append.1 hn with hn | hn
 ·exact oh n hn
 ·rw [List.mem_replicate] at hn; omega
theorem okH_getD {l : List Int} (h : okH l) (i : Nat) : 0 ≤ l.getD i 0 ∧ l.getD i 0 < 4294967296 := by
 rw [List.getD_eq_getElem?_getD]
 cases hi : l[i]? with
 | none => exact ⟨by decide, by decide⟩
 | some x => exact h x (List.mem_of_getElem? hi)
theorem Cut_ok (h : List Int) (k : Nat) (hk : k < 400000) (hl : h.length ≤ 2 * k + 2) (oh : okH h) :
 FnOk Tryz.prog 221 [.v (words h), .v (.int .i64 k)] [.v true (words (rowOf ((padH h k).take (2 * k)))), .v true (.int .u64 ((padH h k).getD (2 * k) 0 + (padH h k).getD (2 * k + 1) 0 * 4294967296))] := by
 refine FnOk.of Tryz.func221 rfl rfl fun cx w0 => ?_
 rw [show Tryz.f221.ntmps = 37 from rfl]
 refine zs0 ?_
 refine zs0 ?_
 refine Holds.step (Px := px) (T := TT) (ρ := fun _ => []) TTe (by simp (maxSteps := 100000) (disch := omega) only [go_sem, V.isAgg, V.flat, ↓reduceIte, Nat.reduceAdd, Nat.reduceSub, Nat.reduceLT, Nat.reduceEqDiff, reduceCtorEq, Nat.reduceLeDiff, Nat.reduceBEq, Nat.reduceMul, Int.reduceToNat, flatW]; rfl) (by repeat' first | exact trivial | constructor) ?_
 obtain ⟨H, hH⟩ : ∃ H, H = padH h k := ⟨_, rfl⟩
 have hHl : H.length = 2 * k + 2 := by rw [hH, padH, List.length_append, List.length_replicate]; omega
 have oH : okH H := by rw [hH]; exact padH_ok oh k
 rw [← hH]
 refine Holds.next (fun σ => ∀ a w, Rel cx w0 σ a w → Rel cx w0 { nt := 37, env := [(6, .own 300 0 (2 * k + 2)), (1, .v true (.int .i64 k))], mem := [(300, .buf 91 1 true (H.map fun n => .int .u64 n))] } a w) ?_ ?_
 ·refine Holds.loopB (fun j : Nat => { nt := 37, env := [(6, .own 300 0 (h.length + j)), (1, .v true (.int .i64 k))], mem := [(300, .buf 91 1 true ((h ++ List.replicate j 0).map fun n => .int .u64 n))] }) (fun j => h.length + j ≤ 2 * k + 2) (fun j => 2 * k + 2 - h.length - j) 0 (by omega) (fun a w hr => by
   have := Rel.ren (s := 9) (s' := 300) (Rel.keep [6, 1] [9] hr) (by decide) rfl rfl
   rw [List.replicate_zero, List.append_nil]
   exact this) ?_
  intro j hj
  have hjl : (h ++ List.replicate j 0).length = h.length + j := by rw [List.length_append, List.length_replicate]
  by_cases hend : h.length + j = 2 * k + 2
  ·refine Holds.seq ?_
   refine zs0 ?_
   refine Holds.condF rfl (Holds.exit ⟨rfl, fun a w hr => ?_⟩)
   have e : h ++ List.replicate j 0 = H := by rw [hH, padH]; congr 2; omega
   have := Rel.keep [6, 1] [300] hr
   rw [e, hend] at this
   exact this
  ·refine Holds.seq ?_
   refine zs0 ?_
   refine Holds.condT rfl (Holds.skip ?_)
   refine Holds.block ?_
   refine zr1 hjl ?_
   refine ⟨j + 1, (by show h.length + (j + 1) ≤ 2 * k + 2; omega), (show 2 * k + 2 - h.length - (j + 1) < 2 * k + 2 - h.length - j by omega), fun a w hr => ?_⟩
   have := Rel.ren (s := 18) (s' := 300) (Rel.keep [6, 1] [18] hr) (by decide) rfl rfl
   have e : (h ++ List.replicate (j + 1) 0).map (fun n => V.int .u64 n) = (h ++ List.replicate j 0).map (fun n => V.int .u64 n) ++ [V.int .u64 0] := by
    rw [List.replicate_succ', ← List.append_assoc, List.map_append]; rfl
   simp only [e]
   exact this
 ·intro σ hσ
  refine Holds.from hσ ?_
  have e1 : (2 * (k : Int)).toNat = 2 * k := by omega
  have e2 : (2 * (k : Int) + 1).toNat = 2 * k + 1 := by omega
  have h1 := okH_getD oH (2 * k)
  have h2 := okH_getD oH (2 * k + 1)
  have hi1 : 2 * k < H.length := by omega
  have hi2 : 2 * k + 1 < H.length := by omega
  have g1 := get_map hi1
  have g2 := get_map hi2
  obtain ⟨p, hp⟩ : ∃ p, p = H.getD (2 * k) 0 := ⟨_, rfl⟩
  obtain ⟨q, hq⟩ : ∃ q, q = H.getD (2 * k + 1) 0 := ⟨_, rfl⟩
  rw [← hp] at g1 h1
  rw [← hq] at g2 h2
  rw [← hp, ← hq]
  have e3 : IntKind.u64.wrap (q * 4294967296) = q * 4294967296 := by rw [wrap_u64]; omega
  have e4 : IntKind.u64.wrap (p + q * 4294967296) = p + q * 4294967296 := by rw [wrap_u64]; omega
  have htk : List.take (2 * k) (List.map (fun n => V.int .u64 n) H) = List.map (fun n => V.int .u64 n) (H.take (2 * k)) := by rw [List.map_take]
  have hrow := Row_ok (H.take (2 * k)) (by rw [List.length_take]; omega) (fun n hn => oH n (List.mem_of_mem_take hn))
  refine zd3 [] (ρ := fun _ => [.v true (words (rowOf (H.take (2 * k))))]) (an e1 <| an e2 <| an e3 <| an e4 <| an g1 <| an g2 <| htk) (o := by repeat' first|exact hrow|trivial|constructor) (k := ?_)
  exact Holds.ret (RetOk.vs rfl (by exact ⟨⟨rfl, id⟩, ⟨rfl, id⟩, trivial⟩) rfl)
theorem nat_ok (h : List Int) (hl : h.length < 400000) (oh : okH h) : FnOk Tryz.prog 152 [.v (words h)] [.v true (words (digs (valH h)))] := by
 rw [← natOf_eq oh]
 have ht := trimL_len h
 have hsh := Short_ok h (by omega)
 have hc := Cut_ok (trimL h) (((trimL h).length + 1) / 2) (by omega) (by omega) (trimL_okH oh)
 obtain ⟨k, hk⟩ : ∃ k, k = ((trimL h).length + 1) / 2 := ⟨_, rfl⟩
 have e : natOf h = rowOf ((padH (trimL h) k).take (2 * k)) := by rw [hk]; rfl
 rw [← hk] at hc
 rw [e]
 have hq : (((trimL h).length : Int) + 1).tdiv 2 = k := by
  rw [Int.tdiv_eq_ediv_of_nonneg (by omega)]
  omega
 obtain ⟨t, ht2⟩ : ∃ t, t = trimL h := ⟨_, rfl⟩
 have htl : t.length < 400000 := by rw [ht2]; omega
 have hkl : k < 400000 := by omega
 rw [← ht2] at hsh hc hq ⊢
 refine FnOk.of Tryz.func152 rfl rfl fun cx w0 => ?_
 rw [show Tryz.f152.ntmps = 19 from rfl]
 refine zs0 ?_
 refine zs2 (ρ := fun _ => [.v false (words t)]) (o := by repeat' first|exact hsh|trivial|constructor) (k := ?_)
 refine zs1 hq ?_
 refine zs2 (ρ := fun _ => [.v true (words (rowOf ((padH t k).take (2 * k)))), .v true (.int .u64 ((padH t k).getD (2 * k) 0 + (padH t k).getD (2 * k + 1) 0 * 4294967296))]) (o := by repeat' first|exact hc|trivial|constructor) (k := ?_)
 refine zs0 ?_
 exact Holds.ret (RetOk.vs rfl (by exact ⟨⟨rfl, id⟩, trivial⟩) rfl)
theorem rTrim_ok (l : List Int) (hl : l.length < 100000) (ol : okW l) : FnOk Tryz.prog 150 [.v (words l)] [.v true (words (digs (val l)))] := by
 have h1 := Digits_ok l (by omega) ol
 have h2 := nat_ok (digL l) (by rw [digL_len]; omega) (digL_ok ol)
 rw [val_dig ol] at h2
 refine FnOk.of Tryz.func150 rfl rfl fun cx w0 => ?_
 rw [show Tryz.f150.ntmps = 6 from rfl]
 refine zs0 ?_
 refine zs2 (ρ := fun d => if d = 4 then [.v true (words (digL l))] else [.v true (words (digs (val l)))]) (o := by repeat' first|exact h1|exact h2|trivial|constructor) (k := ?_)
 exact Holds.ret (RetOk.vs rfl (by exact ⟨⟨rfl, id⟩, trivial⟩) rfl)
theorem valH_set : ∀ {l : List Int} {i : Nat} {n : Int}, i < l.length → valH (l.set i n) + 4294967296 ^ i * (l.getD i 0).toNat = valH l + 4294967296 ^ i * n.toNat
 | [], i, n, h => by simp at h
 | x :: r, 0, n, h => by simp [valH]; omega
 | x :: r, i + 1, n, h => by
   have ih := valH_set (l := r) (i := i) (n := n) (by simpa using h)
   rw [List.set_cons_succ, valH, valH, List.getD_cons_succ, Nat.pow_succ]
   have e1 : ∀ m : Nat, 4294967296 ^ i * 4294967296 * m = 4294967296 * (4294967296 ^ i * m) := fun m => by
    rw [Nat.mul_comm (4294967296 ^ i), Nat.mul_assoc]
   rw [e1, e1]
   omega
theorem valH_append : ∀ (l m : List Int), valH (l ++ m) = valH l + 4294967296 ^ l.length * valH m
 | [], m => by simp [valH]
 | x :: r, m => by
   rw [List.cons_append, valH, valH, valH_append r m, List.length_cons, Nat.pow_succ]
   rw [Nat.mul_add, Nat.mul_comm _ (4294967296 : Nat), ← Nat.mul_assoc]
   omega
theorem valH_take_succ {l : List Int} (k : Nat) : valH (l.take (k + 1)) = valH (l.take k) + 4294967296 ^ k * (l.getD k 0).toNat := by
 rcases Nat.lt_or_ge k l.length with h | h
 ·rw [take_succ h, valH_append, List.length_take, Nat.min_eq_left (by omega)]
  simp [valH]
 ·rw [List.take_of_length_le (by omega), List.take_of_length_le h, List.getD_eq_getElem?_getD, List.getElem?_eq_none h]
  simp
def tmI (ai : Int) (b : List Int) (i : Nat) (s : List Int × Int) : Nat → List Int × Int
 | 0 => s
 | k + 1 => ((tmI ai b i s k).1.set (i + k) (((tmI ai b i s k).2 + (tmI ai b i s k).1.getD (i + k) 0 + ai * b.getD k 0) % 4294967296), ((tmI ai b i s k).2 + (tmI ai b i s k).1.getD (i + k) 0 + ai * b.getD k 0) / 4294967296)
def tmO (a b : List Int) : Nat → List Int
 | 0 => List.replicate (a.length + b.length) 0
 | i + 1 => (tmI (a.getD i 0) b i (tmO a b i, 0) b.length).1.set (i + b.length) (tmI (a.getD i 0) b i (tmO a b i, 0) b.length).2
theorem okH_set {l : List Int} (h : okH l) {i : Nat} {n : Int} (hn : 0 ≤ n ∧ n < 4294967296) : okH (l.set i n) := fun m hm => by
 rcases List.mem_or_eq_of_mem_set hm with h1 | rfl
 ·exact h m h1
 ·exact hn
theorem tm_bound {ai u : Int} (ha : 0 ≤ ai ∧ ai < 4294967296) (hu : 0 ≤ u ∧ u < 4294967296) : 0 ≤ ai * u ∧ ai * u ≤ 18446744065119617025 := by
 refine ⟨Int.mul_nonneg ha.1 hu.1, ?_⟩
 have : ai * u ≤ 4294967295 * 4294967295 := Int.mul_le_mul (by omega) (by omega) hu.1 (by omega)
 omega
theorem tmI_ok {ai : Int} {b : List Int} {i : Nat} {s : List Int × Int} (ha : 0 ≤ ai ∧ ai < 4294967296) (ob : okH b) (hs : okH s.1) (hc : 0 ≤ s.2 ∧ s.2 < 4294967296) : ∀ k, okH (tmI ai b i s k).1 ∧ (0 ≤ (tmI ai b i s k).2 ∧ (tmI ai b i s k).2 < 4294967296) ∧ (tmI ai b i s k).1.length = s.1.length
 | 0 => ⟨hs, hc, rfl⟩
 | k + 1 => by
   obtain ⟨h1, h2, h3⟩ := tmI_ok (i := i) ha ob hs hc k
   have h4 := okH_getD h1 (i + k)
   have h5 := tm_bound ha (okH_getD ob k)
   rw [tmI]
   refine ⟨okH_set h1 (by omega), by simp only; omega, by simp only; rw [List.length_set, h3]⟩
theorem tmI_far {ai : Int} {b : List Int} {i : Nat} {s : List Int × Int} : ∀ k j, i + k ≤ j → (tmI ai b i s k).1.getD j 0 = s.1.getD j 0
 | 0, _, _ => rfl
 | k + 1, j, h => by
   rw [tmI]
   simp only
   rw [List.getD_eq_getElem?_getD, List.getElem?_set_ne (by omega), ← List.getD_eq_getElem?_getD]
   exact tmI_far k j (by omega)
theorem tmI_val {ai : Int} {b : List Int} {i : Nat} {s : List Int × Int} (ha : 0 ≤ ai ∧ ai < 4294967296) (ob : okH b) (hs : okH s.1) (hc : 0 ≤ s.2 ∧ s.2 < 4294967296) : ∀ k, i + k ≤ s.1.length →
 valH (tmI ai b i s k).1 + 4294967296 ^ (i + k) * (tmI ai b i s k).2.toNat = valH s.1 + 4294967296 ^ i * (ai.toNat * valH (b.take k) + s.2.toNat)
 | 0, _ => by rw [tmI, List.take_zero, valH]; simp
 | k + 1, hk => by
   have ih := tmI_val (i := i) ha ob hs hc k (by omega)
   obtain ⟨h1, h2, h3⟩ := tmI_ok (i := i) ha ob hs hc k
   have hi : i + k < (tmI ai b i s k).1.length := by omega
   have hz := okH_getD h1 (i + k)
   have hu := okH_getD ob k
   have hp := tm_bound ha hu
   rw [tmI, valH_take_succ]
   simp only
   have hset := valH_set (n := ((tmI ai b i s k).2 + (tmI ai b i s k).1.getD (i + k) 0 + ai * b.getD k 0) % 4294967296) hi
   generalize (tmI ai b i s k).1.getD (i + k) 0 = z at *
   generalize b.getD k 0 = u at *
   generalize (tmI ai b i s k).2 = c at *
   have em0 : (ai * u).toNat = ai.toNat * u.toNat := by
    obtain ⟨A, rfl⟩ : ∃ n : Nat, ai = n := ⟨ai.toNat, by omega⟩
    obtain ⟨U, rfl⟩ : ∃ n : Nat, u = n := ⟨u.toNat, by omega⟩
    rw [← Int.natCast_mul, Int.toNat_natCast, Int.toNat_natCast, Int.toNat_natCast]
   have eD : 4294967296 ^ (i + (k + 1)) = 4294967296 ^ (i + k) * 4294967296 := by rw [← Nat.add_assoc, Nat.pow_succ]
   have eA : 4294967296 ^ i * (ai.toNat * (valH (b.take k) + 4294967296 ^ k * u.toNat) + s.2.toNat) = 4294967296 ^ i * (ai.toNat * valH (b.take k) + s.2.toNat) + 4294967296 ^ (i + k) * (ai * u).toNat := by
    rw [em0, Nat.pow_add, Nat.mul_assoc, ← Nat.mul_add]
    congr 1
    rw [Nat.mul_add, Nat.mul_left_comm]
    omega
   generalize ai * u = m at *
   have er : ((c + z + m) % 4294967296).toNat + 4294967296 * ((c + z + m) / 4294967296).toNat = z.toNat + m.toNat + c.toNat := by omega
   have em : 4294967296 ^ (i + k) * ((c + z + m) % 4294967296).toNat + 4294967296 ^ (i + k) * (4294967296 * ((c + z + m) / 4294967296).toNat) = 4294967296 ^ (i + k) * z.toNat + 4294967296 ^ (i + k) * m.toNat + 4294967296 ^ (i + k) * c.toNat := by
    rw [← Nat.mul_add, er, Nat.mul_add, Nat.mul_add]
   rw [eD, eA, Nat.mul_assoc]
   generalize 4294967296 ^ (i + k) * ((c + z + m) % 4294967296).toNat = a1 at *
   generalize 4294967296 ^ (i + k) * (4294967296 * ((c + z + m) / 4294967296).toNat) = a2 at *
   generalize 4294967296 ^ (i + k) * z.toNat = a3 at *
   generalize 4294967296 ^ (i + k) * m.toNat = a4 at *
   generalize 4294967296 ^ (i + k) * c.toNat = a5 at *
   generalize 4294967296 ^ i * (ai.toNat * valH (b.take k) + s.2.toNat) = a6 at *
   omega
theorem tmO_ok {a b : List Int} (oa : okH a) (ob : okH b) : ∀ i, i ≤ a.length → okH (tmO a b i) ∧ (tmO a b i).length = a.length + b.length ∧ valH (tmO a b i) = valH (a.take i) * valH b ∧ ∀ j, i + b.length ≤ j → (tmO a b i).getD j 0 = 0
 | 0, _ => by
   refine ⟨fun n hn => by rw [tmO, List.mem_replicate] at hn; omega, by rw [tmO, List.length_replicate], ?_, fun j hj => ?_⟩
   ·rw [tmO, List.take_zero, valH, Nat.zero_mul]
    have := valH_zeros [] (a.length + b.length)
    rw [List.nil_append] at this
    exact this
   ·rw [tmO, List.getD_eq_getElem?_getD]
    cases h : (List.replicate (a.length + b.length) (0 : Int))[j]? with
    | none => rfl
    | some x => have := List.mem_of_getElem? h; rw [List.mem_replicate] at this; exact this.2
 | i + 1, hi => by
   obtain ⟨h1, h2, h3, h4⟩ := tmO_ok oa ob i (by omega)
   have ha := okH_getD oa i
   obtain ⟨k1, k2, k3⟩ := tmI_ok (i := i) (s := (tmO a b i, 0)) ha ob h1 (by simp) b.length
   have kv := tmI_val (i := i) (s := (tmO a b i, 0)) ha ob h1 (by simp) b.length (by simp only; omega)
   have kf := tmI_far (ai := a.getD i 0) (b := b) (i := i) (s := (tmO a b i, 0)) b.length
   have hlt : i + b.length < (tmI (a.getD i 0) b i (tmO a b i, 0) b.length).1.length := by rw [k3]; simp only; omega
   rw [tmO]
   refine ⟨okH_set k1 k2, by rw [List.length_set, k3]; exact h2, ?_, fun j hj => ?_⟩
   ·have hs := valH_set (n := (tmI (a.getD i 0) b i (tmO a b i, 0) b.length).2) hlt
    have h0 : (tmI (a.getD i 0) b i (tmO a b i, 0) b.length).1.getD (i + b.length) 0 = 0 := by
     rw [kf _ (Nat.le_refl _)]
     exact h4 _ (Nat.le_refl _)
    rw [h0, Int.toNat_zero, Nat.mul_zero, Nat.add_zero] at hs
    rw [List.take_length] at kv
    simp only [Int.toNat_zero, Nat.add_zero] at kv
    rw [hs, kv, h3, valH_take_succ, Nat.add_mul, Nat.mul_assoc]
   ·rw [List.getD_eq_getElem?_getD, List.getElem?_set_ne (by omega), ← List.getD_eq_getElem?_getD, kf _ (by omega)]
    exact h4 _ (by omega)
def timesL (a b : List Int) : List Int := tmO a b a.length
theorem timesL_ok {a b : List Int} (oa : okH a) (ob : okH b) : okH (timesL a b) ∧ (timesL a b).length = a.length + b.length ∧ valH (timesL a b) = valH a * valH b := by
 obtain ⟨h1, h2, h3, _⟩ := tmO_ok oa ob a.length (Nat.le_refl _)
 rw [List.take_length] at h3
 exact ⟨h1, h2, h3⟩
theorem Times_ok (a b : List Int) (hal : a.length < 100000) (hbl : b.length < 100000) (oa : okH a) (ob : okH b) : FnOk Tryz.prog 153 [.v (words a), .v (words b)] [.v true (words (timesL a b))] := by
 refine FnOk.of Tryz.func153 rfl rfl fun cx w0 => ?_
 rw [show Tryz.f153.ntmps = 62 from rfl]
 refine zs0 ?_
 refine zs0 ?_
 obtain ⟨N, hN⟩ : ∃ N, N = a.length + b.length := ⟨_, rfl⟩
 refine Holds.next (fun σ => ∀ x w, Rel cx w0 σ x w → Rel cx w0 { nt := 62, env := [(5, .own 300 0 N)], mem := [(300, .buf 91 1 true ((timesL a b).map fun n => .int .u64 n))] } x w) ?_ ?_
 ·refine zs0 ?_
  refine Holds.loopB (fun i : Nat => { nt := 62, env := [(6, .v true (.int .i64 i)), (5, .own 300 0 N), (0, .v false (words a)), (1, .v false (words b))], mem := [(300, .buf 91 1 true ((tmO a b i).map fun n => .int .u64 n))] }) (fun i => i ≤ a.length) (fun i => a.length - i) 0 (Nat.zero_le _) (fun x w h => by
   have := Rel.ren (s := 14) (s' := 300) (Rel.keep [6, 5, 0, 1] [14] h) (by decide) rfl rfl
   rw [tmO, List.map_replicate, hN]
   exact this) ?_
  intro i hi
  obtain ⟨h1, h2, h3, h4⟩ := tmO_ok oa ob i hi
  by_cases hend : i = a.length
  ·refine Holds.seq ?_
   refine zs0 ?_
   refine Holds.condF rfl (Holds.exit ⟨rfl, fun x w h => ?_⟩)
   rw [timesL, ← hend]
   exact Rel.keep [5] [300] h
  ·have hia : i < a.length := by omega
   have hA := okH_getD oa i
   obtain ⟨A, hAe⟩ : ∃ A, A = a.getD i 0 := ⟨_, rfl⟩
   obtain ⟨s, hs⟩ : ∃ s : List Int × Int, s = (tmO a b i, 0) := ⟨_, rfl⟩
   have gA := get_map hia
   rw [← hAe] at hA gA
   have hs1 : s.1 = tmO a b i := by rw [hs]
   have hs2 : s.2 = 0 := by rw [hs]
   have os : okH s.1 := by rw [hs1]; exact h1
   have hsl : s.1.length = N := by rw [hs1, h2, hN]
   have hI := tmI_ok (i := i) hA ob os (by rw [hs2]; omega)
   refine Holds.seq ?_
   refine zs0 ?_
   refine Holds.condT rfl (Holds.skip ?_)
   refine Holds.next (fun σ => ∀ x w, Rel cx w0 σ x w → Rel cx w0 { nt := 62, env := [(6, .v true (.int .i64 i)), (5, .own 300 0 N), (0, .v false (words a)), (1, .v false (words b))], mem := [(300, .buf 91 1 true ((tmO a b (i + 1)).map fun n => .int .u64 n))] } x w) ?_ ?_
   ·refine Holds.blockN ?_
    refine zs0 ?_
    refine Holds.next (fun σ => ∀ x w, Rel cx w0 σ x w → Rel cx w0 { nt := 62, env := [(7, .v true (.int .u64 (tmI A b i s b.length).2)), (6, .v true (.int .i64 i)), (5, .own 300 0 N), (0, .v false (words a)), (1, .v false (words b))], mem := [(300, .buf 91 1 true ((tmI A b i s b.length).1.map fun n => .int .u64 n))] } x w) ?_ ?_
    ·refine zs0 ?_
     refine Holds.loopB (fun k : Nat => { nt := 62, env := [(8, .v true (.int .i64 k)), (7, .v true (.int .u64 (tmI A b i s k).2)), (6, .v true (.int .i64 i)), (5, .own 300 0 N), (0, .v false (words a)), (1, .v false (words b))], mem := [(300, .buf 91 1 true ((tmI A b i s k).1.map fun n => .int .u64 n))] }) (fun k => k ≤ b.length) (fun k => b.length - k) 0 (Nat.zero_le _) (fun x w h => by
      have := Rel.keep [8, 7, 6, 5, 0, 1] [300] h
      rw [tmI, hs]
      exact this) ?_
     intro k hk
     obtain ⟨k1, k2, k3⟩ := hI k
     by_cases hend2 : k = b.length
     ·refine Holds.seq ?_
      refine zs0 ?_
      refine Holds.condF rfl (Holds.exit ⟨rfl, fun x w h => ?_⟩)
      rw [← hend2]
      have := Rel.keep [7, 6, 5, 0, 1] [300] h
      exact this
     ·have hkb : k < b.length := by omega
      have gB := get_map hkb
      have hU := okH_getD ob k
      have hik : i + k < (tmI A b i s k).1.length := by omega
      have gZ := get_map hik
      have hZ := okH_getD k1 (i + k)
      have esucc : tmI A b i s (k + 1) = ((tmI A b i s k).1.set (i + k) (((tmI A b i s k).2 + (tmI A b i s k).1.getD (i + k) 0 + A * b.getD k 0) % 4294967296), ((tmI A b i s k).2 + (tmI A b i s k).1.getD (i + k) 0 + A * b.getD k 0) / 4294967296) := rfl
      obtain ⟨U, hUe⟩ : ∃ U, U = b.getD k 0 := ⟨_, rfl⟩
      rw [← hUe] at gB hU esucc
      obtain ⟨T, hT⟩ : ∃ T, T = tmI A b i s k := ⟨_, rfl⟩
      rw [← hT] at k1 k2 k3 hik gZ hZ esucc ⊢
      obtain ⟨z, hz⟩ : ∃ z, z = T.1.getD (i + k) 0 := ⟨_, rfl⟩
      rw [← hz] at gZ hZ esucc
      have hp := tm_bound hA hU
      obtain ⟨p, hpe⟩ : ∃ p, p = A * U := ⟨_, rfl⟩
      have e2 : IntKind.u64.wrap (A * U) = p := by rw [wrap_u64, ← hpe]; rw [← hpe] at hp; omega
      rw [← hpe] at hp esucc
      have e1 : IntKind.u64.wrap (T.2 + z) = T.2 + z := by rw [wrap_u64]; omega
      obtain ⟨q, hq⟩ : ∃ q, q = T.2 + z + p := ⟨_, rfl⟩
      have e3 : IntKind.u64.wrap (T.2 + z + p) = q := by rw [wrap_u64, hq]; omega
      rw [← hq] at esucc
      have hq0 : 0 ≤ q ∧ q < 18446744073709551616 := by omega
      have e4 : q.tmod 4294967296 = q % 4294967296 := Int.tmod_eq_emod_of_nonneg hq0.1
      have e5 : q.tdiv 4294967296 = q / 4294967296 := Int.tdiv_eq_ediv_of_nonneg hq0.1
      have e6 : IntKind.u64.wrap (q / 4294967296) = q / 4294967296 := by rw [wrap_u64]; omega
      have hadd : ((i : Int) + k).toNat = i + k := by omega
      refine Holds.seq ?_
      refine zs0 ?_
      refine Holds.condT rfl (Holds.skip ?_)
      refine Holds.next (fun σ => ∀ x w, Rel cx w0 σ x w → Rel cx w0 { nt := 62, env := [(8, .v true (.int .i64 k)), (7, .v true (.int .u64 (q / 4294967296))), (6, .v true (.int .i64 i)), (5, .own 300 0 N), (0, .v false (words a)), (1, .v false (words b))], mem := [(300, .buf 91 1 true ((T.1.set (i + k) (q % 4294967296)).map fun n => .int .u64 n))] } x w) ?_ ?_
      ·refine Holds.blockN ?_
       refine zd1 [] (an gA <| an gB <| an gZ <| an hadd <| an e1 <| an e2 <| e3) ?_
       refine zs1 (an hadd <| an e4 <| gZ) ?_
       refine zr1 (an e5 <| e6) ?_
       intro x w h
       have := Rel.keep [8, 7, 6, 5, 0, 1] [300] h
       rw [List.map_set]
       exact this
      ·intro σ hσ
       refine Holds.from hσ ?_
       refine zr0 ?_
       refine ⟨k + 1, (by show k + 1 ≤ b.length; omega), (show b.length - (k + 1) < b.length - k by omega), fun x w h => ?_⟩
       simp only [esucc]
       exact Rel.keep [8, 7, 6, 5, 0, 1] [300] h
    ·intro σ hσ
     refine Holds.from hσ ?_
     obtain ⟨k1, k2, k3⟩ := hI b.length
     have hib : i + b.length < (tmI A b i s b.length).1.length := by omega
     have gZ := get_map hib
     have hadd : ((i : Int) + b.length).toNat = i + b.length := by omega
     have e : tmO a b (i + 1) = (tmI A b i s b.length).1.set (i + b.length) (tmI A b i s b.length).2 := by rw [tmO, hAe, hs]
     refine zr1 (an gZ <| hadd) ?_
     intro x w h
     rw [e, List.map_set]
     exact Rel.keep [6, 5, 0, 1] [300] h
   ·intro σ hσ
    refine Holds.from hσ ?_
    refine zr0 ?_
    exact ⟨i + 1, (by show i + 1 ≤ a.length; omega), (show a.length - (i + 1) < a.length - i by omega), fun x w h => Rel.keep [6, 5, 0, 1] [300] h⟩
 ·intro σ hσ
  refine Holds.from hσ ?_
  have hl := (timesL_ok oa ob).2.1
  refine zs0 ?_
  exact Holds.ret ⟨_, [], rfl, ⟨⟨rfl, by rw [List.drop_zero, List.take_of_length_le (by rw [List.length_map, hl, hN]; exact Nat.le_refl _)], id, rfl⟩, trivial⟩, by simp [R.names, R.mems, R.blks], by simp, rfl⟩
theorem rMul_ok (x y : List Int) (hx : x.length < 40000) (hy : y.length < 40000) (ox : okW x) (oy : okW y) : FnOk Tryz.prog 76 [.v (words x), .v (words y)] [.v true (words (digs (val x * val y)))] := by
 have h1 := Digits_ok x (by omega) ox
 have h2 := Digits_ok y (by omega) oy
 have lx := digL_len x
 have ly := digL_len y
 have h3 := Times_ok (digL x) (digL y) (by omega) (by omega) (digL_ok ox) (digL_ok oy)
 obtain ⟨t1, t2, t3⟩ := timesL_ok (digL_ok ox) (digL_ok oy)
 have h4 := nat_ok (timesL (digL x) (digL y)) (by omega) t1
 rw [t3, val_dig ox, val_dig oy] at h4
 refine FnOk.of Tryz.func76 rfl rfl fun cx w0 => ?_
 rw [show Tryz.f76.ntmps = 11 from rfl]
 refine zs0 ?_
 refine zs2 (ρ := fun d => if d = 6 then [.v true (words (digL x))] else if d = 8 then [.v true (words (digL y))] else if d = 9 then [.v true (words (timesL (digL x) (digL y)))] else [.v true (words (digs (val x * val y)))]) (o := by repeat' first|exact h1|exact h2|exact h3|exact h4|trivial|constructor) (k := ?_)
 exact Holds.ret (RetOk.vs rfl (by exact ⟨⟨rfl, id⟩, trivial⟩) rfl)
theorem digit_ok (a : List Int) (i : Nat) (hl : a.length < 1000000) : FnOk Tryz.prog 230 [.v (words a), .v (.int .i64 i)] [.v true (.int .u64 (a.getD i 0))] := by
 refine FnOk.of Tryz.func230 rfl rfl fun cx w0 => ?_
 rw [show Tryz.f230.ntmps = 13 from rfl]
 refine zs0 ?_
 refine Holds.next (fun σ => a.getD i 0 = 0 ∧ ∀ x w, Rel cx w0 σ x w → Rel cx w0 { nt := 13, env := [], mem := [] } x w) ?_ ?_
 ·by_cases h : i < a.length
  ·refine zs0 ?_
   refine Holds.condT rfl ?_
   refine zs1 ((get_map h)) ?_
   exact Holds.ret (RetOk.vs rfl (by exact ⟨⟨rfl, id⟩, trivial⟩) rfl)
  ·refine zs0 ?_
   refine Holds.condF rfl (Holds.skip ⟨?_, fun x w h => Rel.keep [] [] h⟩)
   rw [List.getD_eq_getElem?_getD, List.getElem?_eq_none (by omega)]; rfl
 ·rintro σ ⟨h0, hσ⟩
  rw [h0]
  refine Holds.from hσ ?_
  refine zs0 ?_
  exact Holds.ret (RetOk.vs rfl (by exact ⟨⟨rfl, id⟩, trivial⟩) rfl)
def psI (a b : List Int) : Nat → List Int × Int
 | 0 => ([], 0)
 | k + 1 => ((psI a b k).1 ++ [((psI a b k).2 + a.getD k 0 + b.getD k 0) % 4294967296], ((psI a b k).2 + a.getD k 0 + b.getD k 0) / 4294967296)
theorem psI_ok {a b : List Int} (oa : okH a) (ob : okH b) : ∀ k, okH (psI a b k).1 ∧ (0 ≤ (psI a b k).2 ∧ (psI a b k).2 ≤ 1) ∧ (psI a b k).1.length = k ∧ valH (psI a b k).1 + 4294967296 ^ k * (psI a b k).2.toNat = valH (a.take k) + valH (b.take k)
 | 0 => ⟨(fun n h => by cases h), by simp [psI], rfl, by simp [psI, valH]⟩
 | k + 1 => by
   obtain ⟨h1, h2, h3, h4⟩ := psI_ok oa ob k
   have ha := okH_getD oa k
   have hb := okH_getD ob k
   rw [psI, valH_take_succ, valH_take_succ]
   simp only
   refine ⟨fun n hn => ?_, by omega, by rw [List.length_append, h3]; rfl, ?_⟩
   ·rcases List.mem_append.1 hn with hn | hn
    ·exact h1 n hn
    ·rw [List.mem_singleton] at hn; omega
   ·rw [valH_append, h3, valH, valH, Nat.mul_zero, Nat.add_zero, Nat.pow_succ, Nat.mul_assoc]
    generalize a.getD k 0 = u at *
    generalize b.getD k 0 = v at *
    generalize (psI a b k).2 = c at *
    have er : ((c + u + v) % 4294967296).toNat + 4294967296 * ((c + u + v) / 4294967296).toNat = c.toNat + u.toNat + v.toNat := by omega
    have em : 4294967296 ^ k * ((c + u + v) % 4294967296).toNat + 4294967296 ^ k * (4294967296 * ((c + u + v) / 4294967296).toNat) = 4294967296 ^ k * c.toNat + 4294967296 ^ k * u.toNat + 4294967296 ^ k * v.toNat := by
     rw [← Nat.mul_add, er, Nat.mul_add, Nat.mul_add]
    omega
def plusH (a b : List Int) : List Int := (psI a b (max a.length b.length)).1 ++ [(psI a b (max a.length b.length)).2]
theorem plusH_ok {a b : List Int} (oa : okH a) (ob : okH b) : okH (plusH a b) ∧ (plusH a b).length = max a.length b.length + 1 ∧ valH (plusH a b) = valH a + valH b := by
 obtain ⟨h1, h2, h3, h4⟩ := psI_ok oa ob (max a.length b.length)
 refine ⟨fun n hn => ?_, by rw [plusH, List.length_append, h3]; rfl, ?_⟩
 ·rcases List.mem_append.1 hn with hn | hn
  ·exact h1 n hn
  ·rw [List.mem_singleton] at hn; omega
 ·rw [plusH, valH_append, h3, valH, valH, Nat.mul_zero, Nat.add_zero, h4, List.take_of_length_le (Nat.le_max_left _ _), List.take_of_length_le (Nat.le_max_right _ _)]
def psA (k : Nat) : AV := if k = 0 then .nil else .own 300 0 k
def psB (a b : List Int) (k : Nat) : List (Nat × Blk) := if k = 0 then [] else [(300, .buf 91 1 true ((psI a b k).1.map fun n => .int .u64 n))]
theorem Plus_ok (a b : List Int) (hal : a.length < 100000) (hbl : b.length < 100000) (oa : okH a) (ob : okH b) : FnOk Tryz.prog 174 [.v (words a), .v (words b)] [.v true (words (plusH a b))] := by
 obtain ⟨M, hM⟩ : ∃ M, M = max a.length b.length := ⟨_, rfl⟩
 rw [plusH, ← hM]
 refine FnOk.of Tryz.func174 rfl rfl fun cx w0 => ?_
 rw [show Tryz.f174.ntmps = 40 from rfl]
 refine zs0 ?_
 refine zs0 ?_
 refine zs0 ?_
 refine Holds.next (fun σ => ∀ x w, Rel cx w0 σ x w → Rel cx w0 { nt := 40, env := [(6, .v true (.int .u64 (psI a b M).2)), (5, psA M)], mem := psB a b M } x w) ?_ ?_
 ·refine zs0 ?_
  refine Holds.loopB (fun k : Nat => { nt := 40, env := [(7, .v true (.int .i64 k)), (6, .v true (.int .u64 (psI a b k).2)), (5, psA k), (0, .v false (words a)), (1, .v false (words b))], mem := psB a b k }) (fun k => k ≤ M) (fun k => M - k) 0 (Nat.zero_le _) (fun x w hr => Rel.keep [7, 6, 5, 0, 1] [] hr) ?_
  intro k hk
  obtain ⟨h1, h2, h3, _⟩ := psI_ok oa ob k
  by_cases hend : k = M
  ·have n1 : ¬ (k : Int) < a.length := by omega
   have n2 : ¬ (k : Int) < b.length := by omega
   refine Holds.seq ?_
   refine zs1 (an n1 <| n2) ?_
   refine Holds.condF rfl (Holds.exit ⟨rfl, fun x w hr => ?_⟩)
   rw [← hend]
   exact Rel.less [6, 5] (fun _ => rfl) hr
  ·have hlt : k < a.length ∨ k < b.length := by omega
   have hA := okH_getD oa k
   have hB := okH_getD ob k
   have dA := digit_ok a k (by omega)
   have dB := digit_ok b k (by omega)
   have esucc : psI a b (k + 1) = ((psI a b k).1 ++ [((psI a b k).2 + a.getD k 0 + b.getD k 0) % 4294967296], ((psI a b k).2 + a.getD k 0 + b.getD k 0) / 4294967296) := rfl
   have eB : psB a b (k + 1) = [(300, .buf 91 1 true ((psI a b (k + 1)).1.map fun n => .int .u64 n))] := if_neg (by omega)
   have eA : psA (k + 1) = .own 300 0 (k + 1) := if_neg (by omega)
   rw [esucc] at eB
   simp only at eB
   obtain ⟨u, hu⟩ : ∃ u, u = a.getD k 0 := ⟨_, rfl⟩
   obtain ⟨v, hv⟩ : ∃ v, v = b.getD k 0 := ⟨_, rfl⟩
   rw [← hu] at hA dA esucc eB
   rw [← hv] at hB dB esucc eB
   obtain ⟨T, hT⟩ : ∃ T, T = psI a b k := ⟨_, rfl⟩
   rw [← hT] at h1 h2 h3 esucc eB ⊢
   obtain ⟨q, hq⟩ : ∃ q, q = T.2 + u + v := ⟨_, rfl⟩
   rw [← hq] at esucc eB
   have e1 : IntKind.u64.wrap (T.2 + u) = T.2 + u := by rw [wrap_u64]; omega
   have e3 : IntKind.u64.wrap (T.2 + u + v) = q := by rw [wrap_u64, hq]; omega
   have hq0 : 0 ≤ q ∧ q < 18446744073709551616 := by omega
   have e4 : q.tmod 4294967296 = q % 4294967296 := Int.tmod_eq_emod_of_nonneg hq0.1
   have e5 : q.tdiv 4294967296 = q / 4294967296 := Int.tdiv_eq_ediv_of_nonneg hq0.1
   have e6 : IntKind.u64.wrap (q / 4294967296) = q / 4294967296 := by rw [wrap_u64]; omega
   refine Holds.seq ?_
   refine Holds.next (fun σ => ∀ x w, Rel cx w0 σ x w → Rel cx w0 { nt := 40, env := [(7, .v true (.int .i64 k)), (6, .v true (.int .u64 T.2)), (5, psA k), (0, .v false (words a)), (1, .v false (words b)), (17, .v true (.bool true))], mem := psB a b k } x w) ?_ ?_
   ·by_cases ha : (k : Int) < a.length
    ·refine zr1 ha ?_
     exact fun x w hr => Rel.less [7, 6, 5, 0, 1, 17] (fun _ => rfl) hr
    ·have hb : (k : Int) < b.length := by omega
     refine zr1 (an ha <| hb) ?_
     exact fun x w hr => Rel.less [7, 6, 5, 0, 1, 17] (fun _ => rfl) hr
   ·intro σ hσ
    refine Holds.from hσ ?_
    refine Holds.condT rfl (Holds.skip ?_)
    refine Holds.next (fun σ => ∀ x w, Rel cx w0 σ x w → Rel cx w0 { nt := 40, env := [(7, .v true (.int .i64 k)), (6, .v true (.int .u64 (psI a b (k + 1)).2)), (5, psA (k + 1)), (0, .v false (words a)), (1, .v false (words b))], mem := psB a b (k + 1) } x w) ?_ ?_
    ·rw [eA, eB, esucc]
     refine Holds.blockN ?_
     refine zs3 (ρ := fun d => if d = 23 then [.v true (.int .u64 u)] else [.v true (.int .u64 v)]) (an e1 <| e3) (o := by repeat' first|exact dA|exact dB|trivial|constructor) (k := ?_)
     rcases Nat.eq_zero_or_pos k with h0 | h0
     ·have ea : psA k = .nil := if_pos h0
      have eb : psB a b k = [] := if_pos h0
      have et : T.1 = [] := List.eq_nil_of_length_eq_zero (by omega)
      have hk1 : k + 1 = 1 := by omega
      rw [ea, eb]
      refine zs1 e4 ?_
      refine zr1 (an e5 <| e6) ?_
      intro x w h
      have := Rel.ren (s := 33) (s' := 300) (Rel.keep [7, 6, 5, 0, 1] [33] h) (by decide) rfl rfl
      rw [et, hk1]
      exact this
     ·have ea : psA k = .own 300 0 k := if_neg (by omega)
      have eb : psB a b k = [(300, .buf 91 1 true (T.1.map fun n => .int .u64 n))] := by rw [hT]; exact if_neg (by omega)
      rw [ea, eb]
      refine zs1 (an e4 <| h3) ?_
      refine zr1 (an e5 <| e6) ?_
      intro x w h
      have := Rel.ren (s := 33) (s' := 300) (Rel.keep [7, 6, 5, 0, 1] [33] h) (by decide) rfl rfl
      rw [List.map_append]
      exact this
    ·intro σ hσ
     refine Holds.from hσ ?_
     refine zr0 ?_
     exact ⟨k + 1, (by show k + 1 ≤ M; omega), (show M - (k + 1) < M - k by omega), fun x w hr => Rel.less [7, 6, 5, 0, 1] (fun _ => rfl) hr⟩
 ·intro σ hσ
  refine Holds.from hσ ?_
  obtain ⟨h1, h2, h3, _⟩ := psI_ok oa ob M
  rw [psA, psB]
  by_cases h0 : M = 0
  ·rw [if_pos h0, if_pos h0]
   have et : (psI a b M).1 = [] := List.eq_nil_of_length_eq_zero (by omega)
   rw [et]
   refine zs0 ?_
   exact Holds.ret ⟨_, [], rfl, ⟨⟨rfl, rfl, id, rfl⟩, trivial⟩, by simp [R.names, R.mems, R.blks], by simp, rfl⟩
  ·rw [if_neg h0, if_neg h0]
   refine zs1 h3 ?_
   exact Holds.ret ⟨_, [], rfl, ⟨⟨rfl, by rw [List.drop_zero, List.take_of_length_le (by simp [h3]), List.map_append]; rfl, id, rfl⟩, trivial⟩, by simp [R.names, R.mems, R.blks], by simp, rfl⟩
theorem rAdd_ok (x y : List Int) (hx : x.length < 40000) (hy : y.length < 40000) (ox : okW x) (oy : okW y) : FnOk Tryz.prog 91 [.v (words x), .v (words y)] [.v true (words (digs (val x + val y)))] := by
 have h1 := Digits_ok x (by omega) ox
 have h2 := Digits_ok y (by omega) oy
 have lx := digL_len x
 have ly := digL_len y
 have h3 := Plus_ok (digL x) (digL y) (by omega) (by omega) (digL_ok ox) (digL_ok oy)
 obtain ⟨t1, t2, t3⟩ := plusH_ok (digL_ok ox) (digL_ok oy)
 have h4 := nat_ok (plusH (digL x) (digL y)) (by omega) t1
 rw [t3, val_dig ox, val_dig oy] at h4
 refine FnOk.of Tryz.func91 rfl rfl fun cx w0 => ?_
 rw [show Tryz.f91.ntmps = 11 from rfl]
 refine zs0 ?_
 refine zs2 (ρ := fun d => if d = 6 then [.v true (words (digL x))] else if d = 8 then [.v true (words (digL y))] else if d = 9 then [.v true (words (plusH (digL x) (digL y)))] else [.v true (words (digs (val x + val y)))]) (o := by repeat' first|exact h1|exact h2|exact h3|exact h4|trivial|constructor) (k := ?_)
 exact Holds.ret (RetOk.vs rfl (by exact ⟨⟨rfl, id⟩, trivial⟩) rfl)
end Go.Proofs.YtlpolbeikangpaaGreatDoor.L
namespace Go.Proofs
open Go.Shelf
def Tryz.lays170_ren : Go.Shelf.Ren := ⟨fun | 170 => 62 | n => n, fun | 0 => 0 | 3 => 3 | 5 => 5 | 37 => 102 | 70 => 101 | 72 => 104 | n => n, fun | n => n⟩
theorem Tryz.lays170 : Go.Proofs.Lays.n170 Tryz.prog Tryz.lays170_ren := {
 mixed := by kernel_rfl
 f170 := Tryz.func62.trans (congrArg some (by kernel_rfl))
 t0 := Tryz.underlying0
 a0 := Tryz.isAgg0
 z0 := Tryz.sizeOf0
 v0 := Tryz.zeroValue0
 t3 := Tryz.underlying3
 a3 := Tryz.isAgg3
 z3 := Tryz.sizeOf3
 v3 := Tryz.zeroValue3
 t37 := Tryz.underlying102
 a37 := Tryz.isAgg102
 z37 := Tryz.sizeOf102
 v37 := Tryz.zeroValue102
 t70 := Tryz.underlying101
 a70 := Tryz.isAgg101
 z70 := Tryz.sizeOf101
 v70 := Tryz.zeroValue101
 t72 := Tryz.underlying104
 a72 := Tryz.isAgg104
 z72 := Tryz.sizeOf104
 v72 := Tryz.zeroValue104 }
def Tryz.lays167_ren : Go.Shelf.Ren := ⟨fun | 167 => 61 | 240 => 141 | 276 => 216 | n => n, fun | 0 => 0 | 4 => 4 | 5 => 5 | 9 => 9 | 20 => 20 | 37 => 102 | 70 => 101 | 72 => 104 | 75 => 107 | 80 => 110 | 164 => 237 | n => n, fun | n => n⟩
theorem Tryz.lays167 : Go.Proofs.Lays.n167 Tryz.prog Tryz.lays167_ren := {
 mixed := by kernel_rfl
 f167 := Tryz.func61.trans (congrArg some (by kernel_rfl))
 f240 := Tryz.func141.trans (congrArg some (by kernel_rfl))
 f276 := Tryz.func216.trans (congrArg some (by kernel_rfl))
 t0 := Tryz.underlying0
 a0 := Tryz.isAgg0
 z0 := Tryz.sizeOf0
 v0 := Tryz.zeroValue0
 t4 := Tryz.underlying4
 a4 := Tryz.isAgg4
 z4 := Tryz.sizeOf4
 v4 := Tryz.zeroValue4
 t5 := Tryz.underlying5
 a5 := Tryz.isAgg5
 z5 := Tryz.sizeOf5
 v5 := Tryz.zeroValue5
 t9 := Tryz.underlying9
 a9 := Tryz.isAgg9
 z9 := Tryz.sizeOf9
 v9 := Tryz.zeroValue9
 t20 := Tryz.underlying20
 a20 := Tryz.isAgg20
 z20 := Tryz.sizeOf20
 v20 := Tryz.zeroValue20
 t37 := Tryz.underlying102
 a37 := Tryz.isAgg102
 z37 := Tryz.sizeOf102
 v37 := Tryz.zeroValue102
 t70 := Tryz.underlying101
 a70 := Tryz.isAgg101
 z70 := Tryz.sizeOf101
 v70 := Tryz.zeroValue101
 t72 := Tryz.underlying104
 a72 := Tryz.isAgg104
 z72 := Tryz.sizeOf104
 v72 := Tryz.zeroValue104
 t75 := Tryz.underlying107
 a75 := Tryz.isAgg107
 z75 := Tryz.sizeOf107
 v75 := Tryz.zeroValue107
 t164 := Tryz.underlying237
 a164 := Tryz.isAgg237
 z164 := Tryz.sizeOf237
 v164 := Tryz.zeroValue237 }
theorem Tryz.Builder_Extra_167 : Builder.Extra Tryz.prog Tryz.lays167_ren := {
 sizeBuilder := by kernel_rfl
 liesBuilder := by kernel_rfl
 t5 := Tryz.underlying5
 a5 := Tryz.isAgg5
 z5 := Tryz.sizeOf5
 v5 := Tryz.zeroValue5
 infoByte := by kernel_rfl
 cellsByte := by kernel_rfl
 sizeByte := by kernel_rfl
 neB5 := by decide }
def Tryz.lays169_ren : Go.Shelf.Ren := ⟨fun | 169 => 63 | n => n, fun | 0 => 0 | 3 => 3 | 5 => 5 | 9 => 9 | 37 => 102 | 70 => 101 | 72 => 104 | 127 => 183 | n => n, fun | n => n⟩
theorem Tryz.lays169 : Go.Proofs.Lays.n169 Tryz.prog Tryz.lays169_ren := {
 mixed := by kernel_rfl
 f169 := Tryz.func63.trans (congrArg some (by kernel_rfl))
 t0 := Tryz.underlying0
 a0 := Tryz.isAgg0
 z0 := Tryz.sizeOf0
 v0 := Tryz.zeroValue0
 t3 := Tryz.underlying3
 a3 := Tryz.isAgg3
 z3 := Tryz.sizeOf3
 v3 := Tryz.zeroValue3
 t9 := Tryz.underlying9
 a9 := Tryz.isAgg9
 z9 := Tryz.sizeOf9
 v9 := Tryz.zeroValue9
 t37 := Tryz.underlying102
 a37 := Tryz.isAgg102
 z37 := Tryz.sizeOf102
 v37 := Tryz.zeroValue102
 t70 := Tryz.underlying101
 a70 := Tryz.isAgg101
 z70 := Tryz.sizeOf101
 v70 := Tryz.zeroValue101
 t72 := Tryz.underlying104
 a72 := Tryz.isAgg104
 z72 := Tryz.sizeOf104
 v72 := Tryz.zeroValue104
 t127 := Tryz.underlying183
 a127 := Tryz.isAgg183
 z127 := Tryz.sizeOf183
 v127 := Tryz.zeroValue183 }
theorem Tryz.Builder_Extra_169 : Builder.Extra Tryz.prog Tryz.lays169_ren := {
 sizeBuilder := by kernel_rfl
 liesBuilder := by kernel_rfl
 t5 := Tryz.underlying5
 a5 := Tryz.isAgg5
 z5 := Tryz.sizeOf5
 v5 := Tryz.zeroValue5
 infoByte := by kernel_rfl
 cellsByte := by kernel_rfl
 sizeByte := by kernel_rfl
 neB5 := by decide }
def Tryz.lays105_ren : Go.Shelf.Ren := ⟨fun | 99 => 163 | 105 => 82 | 165 => 164 | 166 => 165 | 169 => 63 | 170 => 62 | 206 => 225 | 212 => 162 | 240 => 141 | 241 => 226 | 263 => 224 | 264 => 138 | 276 => 216 | 277 => 261 | n => n, fun | 0 => 0 | 3 => 3 | 4 => 4 | 5 => 5 | 9 => 9 | 20 => 20 | 37 => 102 | 46 => 181 | 51 => 245 | 53 => 91 | 70 => 101 | 72 => 104 | 75 => 107 | 76 => 176 | 80 => 110 | 109 => 197 | 127 => 183 | 146 => 246 | 148 => 178 | 164 => 237 | n => n, fun | n => n⟩
theorem Tryz.lays105 : Go.Proofs.Lays.n105 Tryz.prog Tryz.lays105_ren := {
 mixed := by kernel_rfl
 f99 := Tryz.func163.trans (congrArg some (by kernel_rfl))
 f105 := Tryz.func82.trans (congrArg some (by kernel_rfl))
 f165 := Tryz.func164.trans (congrArg some (by kernel_rfl))
 f166 := Tryz.func165.trans (congrArg some (by kernel_rfl))
 f169 := Tryz.func63.trans (congrArg some (by kernel_rfl))
 f170 := Tryz.func62.trans (congrArg some (by kernel_rfl))
 f206 := Tryz.func225.trans (congrArg some (by kernel_rfl))
 f212 := Tryz.func162.trans (congrArg some (by kernel_rfl))
 f240 := Tryz.func141.trans (congrArg some (by kernel_rfl))
 f241 := Tryz.func226.trans (congrArg some (by kernel_rfl))
 f263 := Tryz.func224.trans (congrArg some (by kernel_rfl))
 f264 := Tryz.func138.trans (congrArg some (by kernel_rfl))
 f276 := Tryz.func216.trans (congrArg some (by kernel_rfl))
 f277 := Tryz.func261.trans (congrArg some (by kernel_rfl))
 t0 := Tryz.underlying0
 a0 := Tryz.isAgg0
 z0 := Tryz.sizeOf0
 v0 := Tryz.zeroValue0
 t3 := Tryz.underlying3
 a3 := Tryz.isAgg3
 z3 := Tryz.sizeOf3
 v3 := Tryz.zeroValue3
 t4 := Tryz.underlying4
 a4 := Tryz.isAgg4
 z4 := Tryz.sizeOf4
 v4 := Tryz.zeroValue4
 t5 := Tryz.underlying5
 a5 := Tryz.isAgg5
 z5 := Tryz.sizeOf5
 v5 := Tryz.zeroValue5
 t9 := Tryz.underlying9
 a9 := Tryz.isAgg9
 z9 := Tryz.sizeOf9
 v9 := Tryz.zeroValue9
 t20 := Tryz.underlying20
 a20 := Tryz.isAgg20
 z20 := Tryz.sizeOf20
 v20 := Tryz.zeroValue20
 t37 := Tryz.underlying102
 a37 := Tryz.isAgg102
 z37 := Tryz.sizeOf102
 v37 := Tryz.zeroValue102
 t46 := Tryz.underlying181
 a46 := Tryz.isAgg181
 z46 := Tryz.sizeOf181
 v46 := Tryz.zeroValue181
 t51 := Tryz.underlying245
 a51 := Tryz.isAgg245
 z51 := Tryz.sizeOf245
 v51 := Tryz.zeroValue245
 t53 := Tryz.underlying91
 a53 := Tryz.isAgg91
 z53 := Tryz.sizeOf91
 v53 := Tryz.zeroValue91
 t70 := Tryz.underlying101
 a70 := Tryz.isAgg101
 z70 := Tryz.sizeOf101
 v70 := Tryz.zeroValue101
 t72 := Tryz.underlying104
 a72 := Tryz.isAgg104
 z72 := Tryz.sizeOf104
 v72 := Tryz.zeroValue104
 t75 := Tryz.underlying107
 a75 := Tryz.isAgg107
 z75 := Tryz.sizeOf107
 v75 := Tryz.zeroValue107
 t76 := Tryz.underlying176
 a76 := Tryz.isAgg176
 z76 := Tryz.sizeOf176
 v76 := Tryz.zeroValue176
 t109 := Tryz.underlying197
 a109 := Tryz.isAgg197
 z109 := Tryz.sizeOf197
 v109 := Tryz.zeroValue197
 t127 := Tryz.underlying183
 a127 := Tryz.isAgg183
 z127 := Tryz.sizeOf183
 v127 := Tryz.zeroValue183
 t146 := Tryz.underlying246
 a146 := Tryz.isAgg246
 z146 := Tryz.sizeOf246
 v146 := Tryz.zeroValue246
 t148 := Tryz.underlying178
 a148 := Tryz.isAgg178
 z148 := Tryz.sizeOf178
 v148 := Tryz.zeroValue178
 t164 := Tryz.underlying237
 a164 := Tryz.isAgg237
 z164 := Tryz.sizeOf237
 v164 := Tryz.zeroValue237 }
theorem Tryz.Builder_Extra_105 : Builder.Extra Tryz.prog Tryz.lays105_ren := {
 sizeBuilder := by kernel_rfl
 liesBuilder := by kernel_rfl
 t5 := Tryz.underlying5
 a5 := Tryz.isAgg5
 z5 := Tryz.sizeOf5
 v5 := Tryz.zeroValue5
 infoByte := by kernel_rfl
 cellsByte := by kernel_rfl
 sizeByte := by kernel_rfl
 neB5 := by decide }
def Tryz.lays161_ren : Go.Shelf.Ren := ⟨fun | 119 => 280 | 137 => 279 | 151 => 255 | 152 => 272 | 161 => 136 | 197 => 256 | 217 => 289 | 224 => 281 | 225 => 282 | 227 => 209 | 228 => 253 | 231 => 213 | 233 => 214 | 235 => 215 | 260 => 273 | 266 => 291 | n => n, fun | 0 => 0 | 3 => 3 | 4 => 4 | 5 => 5 | 9 => 9 | 21 => 21 | 37 => 102 | 46 => 181 | 70 => 101 | 72 => 104 | 105 => 268 | 116 => 232 | 117 => 233 | 119 => 291 | 124 => 236 | 138 => 293 | 139 => 294 | n => n, fun | 3 => 5 | 4 => 6 | n => n⟩
theorem Tryz.lays161 : Go.Proofs.Lays.n161 Tryz.prog Tryz.lays161_ren := {
 mixed := by kernel_rfl
 f119 := Tryz.func280.trans (congrArg some (by kernel_rfl))
 f137 := Tryz.func279.trans (congrArg some (by kernel_rfl))
 f151 := Tryz.func255.trans (congrArg some (by kernel_rfl))
 f152 := Tryz.func272.trans (congrArg some (by kernel_rfl))
 f161 := Tryz.func136.trans (congrArg some (by kernel_rfl))
 f197 := Tryz.func256.trans (congrArg some (by kernel_rfl))
 f217 := Tryz.func289.trans (congrArg some (by kernel_rfl))
 f224 := Tryz.func281.trans (congrArg some (by kernel_rfl))
 f225 := Tryz.func282.trans (congrArg some (by kernel_rfl))
 f227 := Tryz.func209.trans (congrArg some (by kernel_rfl))
 f228 := Tryz.func253.trans (congrArg some (by kernel_rfl))
 f231 := Tryz.func213.trans (congrArg some (by kernel_rfl))
 f233 := Tryz.func214.trans (congrArg some (by kernel_rfl))
 f235 := Tryz.func215.trans (congrArg some (by kernel_rfl))
 f260 := Tryz.func273.trans (congrArg some (by kernel_rfl))
 f266 := Tryz.func291.trans (congrArg some (by kernel_rfl))
 t0 := Tryz.underlying0
 a0 := Tryz.isAgg0
 z0 := Tryz.sizeOf0
 v0 := Tryz.zeroValue0
 t3 := Tryz.underlying3
 a3 := Tryz.isAgg3
 z3 := Tryz.sizeOf3
 v3 := Tryz.zeroValue3
 t4 := Tryz.underlying4
 a4 := Tryz.isAgg4
 z4 := Tryz.sizeOf4
 v4 := Tryz.zeroValue4
 t5 := Tryz.underlying5
 a5 := Tryz.isAgg5
 z5 := Tryz.sizeOf5
 v5 := Tryz.zeroValue5
 t9 := Tryz.underlying9
 a9 := Tryz.isAgg9
 z9 := Tryz.sizeOf9
 v9 := Tryz.zeroValue9
 t21 := Tryz.underlying21
 a21 := Tryz.isAgg21
 z21 := Tryz.sizeOf21
 v21 := Tryz.zeroValue21
 t46 := Tryz.underlying181
 a46 := Tryz.isAgg181
 z46 := Tryz.sizeOf181
 v46 := Tryz.zeroValue181
 t105 := Tryz.underlying268
 a105 := Tryz.isAgg268
 z105 := Tryz.sizeOf268
 v105 := Tryz.zeroValue268
 t116 := Tryz.underlying232
 a116 := Tryz.isAgg232
 z116 := Tryz.sizeOf232
 t117 := Tryz.underlying233
 a117 := Tryz.isAgg233
 z117 := Tryz.sizeOf233
 v117 := Tryz.zeroValue233
 t119 := Tryz.underlying291
 a119 := Tryz.isAgg291
 z119 := Tryz.sizeOf291
 t124 := Tryz.underlying236
 a124 := Tryz.isAgg236
 z124 := Tryz.sizeOf236
 v124 := Tryz.zeroValue236
 t138 := Tryz.underlying293
 a138 := Tryz.isAgg293
 z138 := Tryz.sizeOf293
 v138 := Tryz.zeroValue293
 t139 := Tryz.underlying294
 a139 := Tryz.isAgg294
 z139 := Tryz.sizeOf294
 v139 := Tryz.zeroValue294
 g3 := by kernel_rfl
 g4 := by kernel_rfl }
def Tryz.lays162_ren : Go.Shelf.Ren := ⟨fun | 119 => 280 | 120 => 271 | 137 => 279 | 151 => 255 | 152 => 272 | 162 => 132 | 197 => 256 | 217 => 289 | 224 => 281 | 225 => 282 | 227 => 209 | 228 => 253 | 232 => 208 | 234 => 210 | 236 => 211 | 260 => 273 | 266 => 291 | 271 => 254 | n => n, fun | 0 => 0 | 3 => 3 | 4 => 4 | 5 => 5 | 9 => 9 | 21 => 21 | 37 => 102 | 46 => 181 | 70 => 101 | 72 => 104 | 105 => 268 | 116 => 232 | 117 => 233 | 119 => 291 | 124 => 236 | 138 => 293 | 139 => 294 | n => n, fun | 3 => 5 | 4 => 6 | n => n⟩
theorem Tryz.lays162 : Go.Proofs.Lays.n162 Tryz.prog Tryz.lays162_ren := {
 mixed := by kernel_rfl
 f119 := Tryz.func280.trans (congrArg some (by kernel_rfl))
 f120 := Tryz.func271.trans (congrArg some (by kernel_rfl))
 f137 := Tryz.func279.trans (congrArg some (by kernel_rfl))
 f151 := Tryz.func255.trans (congrArg some (by kernel_rfl))
 f152 := Tryz.func272.trans (congrArg some (by kernel_rfl))
 f162 := Tryz.func132.trans (congrArg some (by kernel_rfl))
 f197 := Tryz.func256.trans (congrArg some (by kernel_rfl))
 f217 := Tryz.func289.trans (congrArg some (by kernel_rfl))
 f224 := Tryz.func281.trans (congrArg some (by kernel_rfl))
 f225 := Tryz.func282.trans (congrArg some (by kernel_rfl))
 f227 := Tryz.func209.trans (congrArg some (by kernel_rfl))
 f228 := Tryz.func253.trans (congrArg some (by kernel_rfl))
 f232 := Tryz.func208.trans (congrArg some (by kernel_rfl))
 f234 := Tryz.func210.trans (congrArg some (by kernel_rfl))
 f236 := Tryz.func211.trans (congrArg some (by kernel_rfl))
 f260 := Tryz.func273.trans (congrArg some (by kernel_rfl))
 f266 := Tryz.func291.trans (congrArg some (by kernel_rfl))
 f271 := Tryz.func254.trans (congrArg some (by kernel_rfl))
 t0 := Tryz.underlying0
 a0 := Tryz.isAgg0
 z0 := Tryz.sizeOf0
 v0 := Tryz.zeroValue0
 t3 := Tryz.underlying3
 a3 := Tryz.isAgg3
 z3 := Tryz.sizeOf3
 v3 := Tryz.zeroValue3
 t4 := Tryz.underlying4
 a4 := Tryz.isAgg4
 z4 := Tryz.sizeOf4
 v4 := Tryz.zeroValue4
 t5 := Tryz.underlying5
 a5 := Tryz.isAgg5
 z5 := Tryz.sizeOf5
 v5 := Tryz.zeroValue5
 t9 := Tryz.underlying9
 a9 := Tryz.isAgg9
 z9 := Tryz.sizeOf9
 v9 := Tryz.zeroValue9
 t21 := Tryz.underlying21
 a21 := Tryz.isAgg21
 z21 := Tryz.sizeOf21
 v21 := Tryz.zeroValue21
 t46 := Tryz.underlying181
 a46 := Tryz.isAgg181
 z46 := Tryz.sizeOf181
 v46 := Tryz.zeroValue181
 t105 := Tryz.underlying268
 a105 := Tryz.isAgg268
 z105 := Tryz.sizeOf268
 v105 := Tryz.zeroValue268
 t116 := Tryz.underlying232
 a116 := Tryz.isAgg232
 z116 := Tryz.sizeOf232
 t117 := Tryz.underlying233
 a117 := Tryz.isAgg233
 z117 := Tryz.sizeOf233
 v117 := Tryz.zeroValue233
 t119 := Tryz.underlying291
 a119 := Tryz.isAgg291
 z119 := Tryz.sizeOf291
 t124 := Tryz.underlying236
 a124 := Tryz.isAgg236
 z124 := Tryz.sizeOf236
 v124 := Tryz.zeroValue236
 t138 := Tryz.underlying293
 a138 := Tryz.isAgg293
 z138 := Tryz.sizeOf293
 v138 := Tryz.zeroValue293
 t139 := Tryz.underlying294
 a139 := Tryz.isAgg294
 z139 := Tryz.sizeOf294
 v139 := Tryz.zeroValue294
 g3 := by kernel_rfl
 g4 := by kernel_rfl }
def Tryz.laysM171_ren : Go.Shelf.Ren := ⟨fun | 129 => 140 | 171 => 142 | 243 => 217 | 246 => 257 | 283 => 274 | 284 => 275 | 285 => 276 | 286 => 277 | 317 => 283 | 318 => 284 | 319 => 285 | 320 => 286 | 337 => 290 | 338 => 242 | n => n, fun | 0 => 0 | 2 => 2 | 3 => 3 | 4 => 4 | 5 => 5 | 9 => 9 | 20 => 20 | 37 => 102 | 46 => 181 | 51 => 245 | 53 => 91 | 70 => 101 | 72 => 104 | 171 => 282 | 173 => 284 | 212 => 296 | 213 => 297 | 232 => 313 | 233 => 280 | n => n, fun | 17 => 7 | 18 => 11 | 19 => 3 | n => n⟩
theorem Tryz.laysM171 : Go.Proofs.LaysM.n171 Tryz.prog Tryz.laysM171_ren := {
 mixed := by kernel_rfl
 f129 := Tryz.func140.trans (congrArg some (by kernel_rfl))
 f171 := Tryz.func142.trans (congrArg some (by kernel_rfl))
 f243 := Tryz.func217.trans (congrArg some (by kernel_rfl))
 f246 := Tryz.func257.trans (congrArg some (by kernel_rfl))
 f283 := Tryz.func274.trans (congrArg some (by kernel_rfl))
 f284 := Tryz.func275.trans (congrArg some (by kernel_rfl))
 f285 := Tryz.func276.trans (congrArg some (by kernel_rfl))
 f286 := Tryz.func277.trans (congrArg some (by kernel_rfl))
 f317 := Tryz.func283.trans (congrArg some (by kernel_rfl))
 f318 := Tryz.func284.trans (congrArg some (by kernel_rfl))
 f319 := Tryz.func285.trans (congrArg some (by kernel_rfl))
 f320 := Tryz.func286.trans (congrArg some (by kernel_rfl))
 f337 := Tryz.func290.trans (congrArg some (by kernel_rfl))
 f338 := Tryz.func242.trans (congrArg some (by kernel_rfl))
 t0 := Tryz.underlying0
 a0 := Tryz.isAgg0
 z0 := Tryz.sizeOf0
 v0 := Tryz.zeroValue0
 t2 := Tryz.underlying2
 a2 := Tryz.isAgg2
 z2 := Tryz.sizeOf2
 v2 := Tryz.zeroValue2
 t3 := Tryz.underlying3
 a3 := Tryz.isAgg3
 z3 := Tryz.sizeOf3
 v3 := Tryz.zeroValue3
 t4 := Tryz.underlying4
 a4 := Tryz.isAgg4
 z4 := Tryz.sizeOf4
 v4 := Tryz.zeroValue4
 t5 := Tryz.underlying5
 a5 := Tryz.isAgg5
 z5 := Tryz.sizeOf5
 v5 := Tryz.zeroValue5
 t9 := Tryz.underlying9
 a9 := Tryz.isAgg9
 z9 := Tryz.sizeOf9
 v9 := Tryz.zeroValue9
 t20 := Tryz.underlying20
 a20 := Tryz.isAgg20
 z20 := Tryz.sizeOf20
 v20 := Tryz.zeroValue20
 t37 := Tryz.underlying102
 a37 := Tryz.isAgg102
 z37 := Tryz.sizeOf102
 v37 := Tryz.zeroValue102
 t46 := Tryz.underlying181
 a46 := Tryz.isAgg181
 z46 := Tryz.sizeOf181
 v46 := Tryz.zeroValue181
 t51 := Tryz.underlying245
 a51 := Tryz.isAgg245
 z51 := Tryz.sizeOf245
 v51 := Tryz.zeroValue245
 t53 := Tryz.underlying91
 a53 := Tryz.isAgg91
 z53 := Tryz.sizeOf91
 v53 := Tryz.zeroValue91
 t171 := Tryz.underlying282
 a171 := Tryz.isAgg282
 z171 := Tryz.sizeOf282
 v171 := Tryz.zeroValue282
 t173 := Tryz.underlying284
 a173 := Tryz.isAgg284
 z173 := Tryz.sizeOf284
 v173 := Tryz.zeroValue284
 t212 := Tryz.underlying296
 a212 := Tryz.isAgg296
 z212 := Tryz.sizeOf296
 v212 := Tryz.zeroValue296
 t213 := Tryz.underlying297
 a213 := Tryz.isAgg297
 z213 := Tryz.sizeOf297
 t232 := Tryz.underlying313
 a232 := Tryz.isAgg313
 z232 := Tryz.sizeOf313
 v232 := Tryz.zeroValue313
 t233 := Tryz.underlying280
 a233 := Tryz.isAgg280
 z233 := Tryz.sizeOf280
 v233 := Tryz.zeroValue280
 g17 := by kernel_rfl
 g18 := by kernel_rfl
 g19 := by kernel_rfl
 i0 := by kernel_rfl
 i2 := by kernel_rfl
 i3 := by kernel_rfl
 i4 := by kernel_rfl
 i5 := by kernel_rfl
 i9 := by kernel_rfl
 i20 := by kernel_rfl
 i37 := by kernel_rfl
 i46 := by kernel_rfl
 i51 := by kernel_rfl
 i53 := by kernel_rfl
 i171 := by kernel_rfl
 i173 := by kernel_rfl
 i212 := by kernel_rfl
 i232 := by kernel_rfl
 i233 := by kernel_rfl
 m17 := by kernel_rfl
 m18 := by kernel_rfl
 m19 := by kernel_rfl }
open Go.RowKit in
theorem Tryz.Builder_Len (B b : Nat) (bs : List Value) (w : World) (h : Lib.IsBuilder 104 5 B b bs w) :
 Calls Tryz.prog 62 #[.pointer (some ⟨b, 0, none⟩)] w fun e w' => e = .returned (.int .i64 bs.length) ∧ w' = w := Any.Builder_Len Tryz.lays170 B b bs w h
open Go.RowKit in
theorem Tryz.Builder_WriteByte (B b : Nat) (bs : List Value) (c : Int) (w : World) (h : Lib.IsBuilder 104 5 B b bs w) (hlen : bs.length + 1 ≤ 140737488355328) (hBw : B ≤ w.heap.size) :
 Calls Tryz.prog 61 #[.pointer (some ⟨b, 0, none⟩), .int .u8 c] w fun e w' => e = .returned .nilIface ∧ (Lib.BuilderAt 104 5 B b (.pointer (some ⟨b, 0, none⟩)) (bs ++ [.int .u8 c]) w' ∧ Below B w w') := Any.Builder_WriteByte Tryz.lays167 Tryz.Builder_Extra_167 B b bs c w h hlen hBw
open Go.RowKit in
theorem Tryz.Builder_String (B b : Nat) (l : List UInt8) (w : World) (h : Lib.IsBuilder 104 5 B b (Lib.byteCells l) w) (hBw : B ≤ w.heap.size) :
 Calls Tryz.prog 63 #[.pointer (some ⟨b, 0, none⟩)] w fun e w' => e = .returned (.string ⟨l.toArray⟩) ∧ Below B w w' := Any.Builder_String_any Tryz.lays169 Tryz.Builder_Extra_169 B b l w h hBw
open Go.RowKit in
theorem Tryz.strings_Repeat (s : ByteArray) (c : Nat) (w : World) (hc : c ≤ 9223372036854775807) (hlen : s.size * c ≤ 140737488355328) :
 Calls Tryz.prog 82 #[.string s, .int .i64 c] w fun e w' => e = .returned (.string ⟨(Lib.repeatL s.data.toList c).toArray⟩) ∧ Below w.heap.size w w' := Any.strings_Repeat Tryz.lays105 Tryz.Builder_Extra_105 s c w hc hlen
open Go.RowKit in
theorem Tryz.strings_TrimLeft (s : ByteArray) (c : UInt8) (hc : c.toNat < 128) (w : World) :
 Calls Tryz.prog 136 #[.string s, .string ⟨#[c]⟩] w fun e w' => e = .returned (.string ⟨(Lib.trimLeftB s.data.toList c).toArray⟩) ∧ w' = w := Any.strings_TrimLeft_one Tryz.lays161 s c hc w
open Go.RowKit in
theorem Tryz.strings_TrimRight (s : ByteArray) (c : UInt8) (hc : c.toNat < 128) (w : World) (hs : s.size ≤ 9223372036854775807) :
 Calls Tryz.prog 132 #[.string s, .string ⟨#[c]⟩] w fun e w' => e = .returned (.string ⟨(Lib.trimRightB s.data.toList c).toArray⟩) ∧ w' = w := Any.strings_TrimRight_one Tryz.lays162 s c hc w hs
open Go.RowKit in
theorem Tryz.strconv_Itoa (n : Int) (h0 : -9223372036854775808 ≤ n) (h1 : n ≤ 9223372036854775807) (w : World) (htab : Lib.TabIs Tryz.prog w "internal/strconv.uint64pow10" .u64 Lib.pow10Tab) :
 Calls Tryz.prog 142 #[.int .i64 n] w fun e w' => e = .returned (.string ⟨(Lib.itoa n).toArray⟩) ∧ Below w.heap.size w w' := (Any.strconv_Itoa Tryz.laysM171 n h0 h1 w htab).mono fun e w' ⟨h, k, os, hw⟩ => ⟨h, hw ▸ ⟨rfl, rfl, rfl, by simp [Go.Sort.grow], fun k hk => by simp [Go.Sort.grow, Array.getElem?_append, hk]⟩⟩
end Go.Proofs
namespace Go.Proofs.YtlpolbeikangpaaGreatDoor.L
open Go Go.RowKit Go.Proofs
theorem builder_kept {T e : TypeId} {B b : Nat} {bs : List Value} {w w' : World} (h : Lib.IsBuilder T e B b bs w) (hk : ∀ k, k < w.heap.size → w'.heap[k]? = w.heap[k]?) : Lib.IsBuilder T e B b bs w' := by
 have one : ∀ p, Lib.BuilderAt T e B b p bs w → Lib.BuilderAt T e B b p bs w' := by
  rintro p ⟨hB, v, hb, hown, hne⟩
  have hlt : ∀ {k : Nat} {o : Obj}, w.heap[k]? = some o → w'.heap[k]? = some o := fun {k o} h => (hk k (Array.getElem?_eq_some_iff.1 h).1).trans h
  refine ⟨hB, v, hlt hb, ?_, hne⟩
  obtain ⟨h1, h2⟩ := hown
  refine ⟨h1, ?_⟩
  rcases h2 with h2 | ⟨g, cap, cur, k1, k2, k3, k4⟩
  ·exact .inl h2
  ·exact .inr ⟨g, cap, cur, k1, k2, hlt k3, k4⟩
 rcases h with h | h
 ·exact .inl (one _ h)
 ·exact .inr (one _ h)
attribute [local go_sem] evalOps_nil evalOps_cons runW_t runW_f runE_s runP_s wantA evalOp effOp letters okDst coreA St.opv St.get St.at look constA St.put St.upd St.set decide_true List.all_nil List.all_cons Bool.and_true Bool.true_and and_self and_true true_and if_true if_false true_or Int.sub_zero List.nil_append List.cons_append List.append_nil Option.isSome_some List.getElem?_toArray List.getElem?_cons_succ List.getElem?_cons_zero Option.bind_some Option.map_some Option.map_none beq_self_eq_true Bool.false_beq Bool.true_beq Bool.not_true Bool.not_false Bool.false_eq_true cond_true cond_false binA binI List.map_cons List.map_nil boundA List.length_nil List.length_cons Nat.zero_mul Nat.one_mul Nat.mul_one Nat.zero_add Nat.add_zero Nat.zero_le Option.toList St.freshB AV.ment AV.ments Blk.ment V.sizes Nat.lt_add_one Bool.or_true Bool.true_or Bool.or_false Bool.false_or Bool.or_self if_pos if_neg decide_false decide_eq_true decide_eq_false wrap_i64 Int.toNat_natCast minA maxA Int.natCast_add Int.cast_ofNat_Int Option.isSome_none false_implies true_implies forall_const List.drop_zero Int.toNat_zero Int.add_sub_cancel lenA sliceA loadA indexAddrA partA fitsT V.atP V.offP V.size List.length_map List.getElem?_map Int.toNat_natCast_add_one Int.ofNat_eq_natCast TY calleeA capArg knotA capArgs toArgs toArg callA R.res R.mems R.blks R.av R.names R.nw invokeA storeA storeV fieldAddrA liveB V.off V.offs V.setP List.set_cons_zero List.set_cons_succ buildA buildP partsA appendA srcA copyA boxOk makeA AV.pure List.take_succ_cons List.take_zero nilA words unA entry List.zipIdx_cons List.zipIdx_nil Arg.av Arg.avs
def okWord (t : ByteArray) : Prop := ∀ i, i < t.size → bAt t i < 128 ∧ ¬ (65 ≤ bAt t i ∧ bAt t i ≤ 90) ∧ bAt t i ≠ 107 ∧ bAt t i ≠ 115
instance (t : ByteArray) : Decidable (okWord t) := inferInstanceAs (Decidable (∀ i, i < t.size → _))
theorem digs_len {v m : Nat} (h : v < 18446744073709551616 ^ m) : (digs v).length ≤ m := by
 obtain ⟨o, _, hv⟩ := digs_ok v
 have e := trim_digs o
 rw [hv] at e
 rcases trimL_last (digs v) with h0 | ⟨t, z, ht, hz⟩
 ·rw [e] at h0; rw [h0]; exact Nat.zero_le _
 ·rw [e] at ht
  have oz := o z (by rw [ht]; simp)
  have hval : v = val t + 18446744073709551616 ^ t.length * (z.toNat + 18446744073709551616 * 0) := by
   have := val_append t [z]
   rw [← ht, hv] at this
   exact this
  have hz1 : 1 ≤ z.toNat := by omega
  have hge : 18446744073709551616 ^ t.length ≤ v := by
   have h1 : 18446744073709551616 ^ t.length * 1 ≤ 18446744073709551616 ^ t.length * z.toNat := Nat.mul_le_mul_left _ hz1
   rw [Nat.mul_zero, Nat.add_zero] at hval
   omega
  rw [ht, List.length_append]
  refine Nat.lt_of_not_le fun hle => ?_
  have : 18446744073709551616 ^ m ≤ 18446744073709551616 ^ t.length := Nat.pow_le_pow_right (by decide) hle
  omega
theorem Word_ok (u : Nat) (hu : u < 18446744073709551616) : FnOk Tryz.prog 155 [.v (.int .u64 u)] [.v true (words [(u : Int) % 4294967296, (u : Int) / 4294967296])] := by
 have e1 : (u : Int).tmod 4294967296 = (u : Int) % 4294967296 := Int.tmod_eq_emod_of_nonneg (by omega)
 have e2 : (u : Int).tdiv 4294967296 = (u : Int) / 4294967296 := Int.tdiv_eq_ediv_of_nonneg (by omega)
 have e3 : IntKind.u64.wrap ((u : Int) % 4294967296) = (u : Int) % 4294967296 := by rw [wrap_u64]; omega
 have e4 : IntKind.u64.wrap ((u : Int) / 4294967296) = (u : Int) / 4294967296 := by rw [wrap_u64]; omega
 refine FnOk.of Tryz.func155 rfl rfl fun cx w0 => ?_
 rw [show Tryz.f155.ntmps = 8 from rfl]
 refine zs0 ?_
 refine zs1 (an e1 <| an e2 <| an e3 <| e4) ?_
 exact Holds.ret ⟨_, [], rfl, ⟨⟨rfl, rfl, id, rfl⟩, trivial⟩, by simp [R.names, R.mems, R.blks], by simp, rfl⟩
theorem FromWord_ok (u : Nat) (hu : u < 18446744073709551616) : FnOk Tryz.prog 78 [.v (.int .u64 u)] [.v true (words (digs u))] := by
 have h1 := Word_ok u hu
 have o1 : okH [(u : Int) % 4294967296, (u : Int) / 4294967296] := by intro n hn; simp at hn; omega
 have h2 := nat_ok [(u : Int) % 4294967296, (u : Int) / 4294967296] (by simp) o1
 rw [show valH [(u : Int) % 4294967296, (u : Int) / 4294967296] = u from by simp only [valH]; omega] at h2
 refine FnOk.of Tryz.func78 rfl rfl fun cx w0 => ?_
 rw [show Tryz.f78.ntmps = 6 from rfl]
 refine zs0 ?_
 refine zs2 (ρ := fun d => if d = 4 then [.v true (words [(u : Int) % 4294967296, (u : Int) / 4294967296])] else [.v true (words (digs u))]) (o := by repeat' first|exact h1|exact h2|trivial|constructor) (k := ?_)
 exact Holds.ret (RetOk.vs rfl (by exact ⟨⟨rfl, id⟩, trivial⟩) rfl)
theorem FnOk.int3 {P : Program} {f : FuncId} {k : IntKind} {x y c a b : Int} (hr : ∀ w, (callFunc f #[.int k x, .int k y, .int k c]).run P w = .ok (.value (.tuple #[.int k a, .int k b])) w) :
 FnOk P f [.v (.int k x), .v (.int k y), .v (.int k c)] [.v true (.int k a), .v true (.int k b)] := by
 intro w O vs _ h
 have one : ∀ {n : Int} {v : Value}, ArgRep w O (.v (.int k n)) v → v = .int k n := fun h => by
  rw [ArgRep] at h
  obtain ⟨cs, h1, h2⟩ := h
  rw [Rep] at h1
  subst h1
  exact h2
 rw [ArgsRep] at h
 obtain ⟨v1, r1, rfl, h1, h⟩ := h
 rw [ArgsRep] at h
 obtain ⟨v2, r2, rfl, h2, h⟩ := h
 rw [ArgsRep] at h
 obtain ⟨v3, r3, rfl, h3, h⟩ := h
 rw [ArgsRep] at h
 subst h
 rw [one h1, one h2, one h3]
 refine .inr ⟨_, w, hr w, _, fun _ => none, rfl, Below.refl _ _, ⟨fun s b c hs => by simp at hs, fun s1 s2 b c c' h1 => by simp at h1⟩, fun s => rfl, ?_⟩
 show RepA _ w _ _ (.tup [.v true (.int k a), .v true (.int k b)]) _
 rw [RepA]
 refine ⟨[.int k a, .int k b], rfl, ?_⟩
 rw [RepAL]
 refine ⟨_, _, rfl, repA_int.2 rfl, ?_⟩
 rw [RepAL]
 exact ⟨_, _, rfl, repA_int.2 rfl, by rw [RepAL]⟩
theorem add64_ok (x y c : Int) (hx : 0 ≤ x) (hy : 0 ≤ y) (hc0 : 0 ≤ c) (hc : c ≤ 1) : FnOk Tryz.prog 139 [.v (.int .u64 x), .v (.int .u64 y), .v (.int .u64 c)] [.v true (.int .u64 ((x + y + c) % 18446744073709551616)), .v true (.int .u64 ((x + y + c) / 18446744073709551616))] :=
 FnOk.int3 fun w => by
  rw [run_callFunc_extern Tryz.func139 (by kernel_rfl) (by kernel_rfl) (by kernel_rfl) (e := add64Entry) (by kernel_rfl), run_add64 x y c hx hy hc0 hc]
  rfl
theorem sub64_ok (x y c : Int) (hx : 0 ≤ x) (hx' : x < 18446744073709551616) (hy : 0 ≤ y) (hy' : y < 18446744073709551616) (hc0 : 0 ≤ c) (hc : c ≤ 1) :
 FnOk Tryz.prog 252 [.v (.int .u64 x), .v (.int .u64 y), .v (.int .u64 c)] [.v true (.int .u64 ((x - y - c) % 18446744073709551616)), .v true (.int .u64 (if x < y + c then 1 else 0))] :=
 FnOk.int3 fun w => by
  obtain ⟨X, rfl⟩ := Int.eq_ofNat_of_zero_le hx
  obtain ⟨Y, rfl⟩ := Int.eq_ofNat_of_zero_le hy
  obtain ⟨C, rfl⟩ := Int.eq_ofNat_of_zero_le hc0
  rw [run_callFunc_extern Tryz.func252 (by kernel_rfl) (by kernel_rfl) (by kernel_rfl) (e := sub64Entry) (by kernel_rfl)]
  have := run_sub64 (P := Tryz.prog) X Y C (by omega) w
  rw [this]
  simp only [Result.andThen]
  have e1 : (((X + 18446744073709551616 - Y - C) % 18446744073709551616 : Nat) : Int) = ((X : Int) - Y - C) % 18446744073709551616 := by omega
  have e2 : ((if X < Y + C then 1 else 0 : Nat) : Int) = if (X : Int) < (Y : Int) + C then 1 else 0 := by
   split <;> split <;> omega
  rw [e1, e2]
theorem maskN (a : Nat) (ha : a < 18446744073709551616) : bitI .and .u64 (a : Int) 4294967295 = ((a % 4294967296 : Nat) : Int) := by
 have h := bits_and_u64_nat a 4294967295 ha (by omega)
 have e : a &&& 4294967295 = a % 4294967296 := Nat.and_two_pow_sub_one_eq_mod a 32
 rw [e] at h
 exact h
theorem shrN (a : Nat) : Int.fdiv (a : Int) (2 ^ min (32 : Nat) 64) = ((a / 4294967296 : Nat) : Int) := by
 show Int.fdiv (a : Int) 4294967296 = _
 rw [Int.fdiv_eq_ediv_of_nonneg _ (by omega)]
 omega
theorem mulN (a b : Nat) : (a : Int) * (b : Int) = ((a * b : Nat) : Int) := (Int.natCast_mul a b).symm
theorem addN (a b : Nat) : (a : Int) + (b : Int) = ((a + b : Nat) : Int) := (Int.natCast_add a b).symm
theorem wrapN (a : Nat) (ha : a < 18446744073709551616) : IntKind.u64.wrap (a : Int) = (a : Int) := by rw [wrap_u64]; omega
theorem wrapM (a : Nat) : IntKind.u64.wrap (a : Int) = ((a % 18446744073709551616 : Nat) : Int) := by rw [wrap_u64]; omega
theorem mul64_ok (x y : Nat) (hx : x < 18446744073709551616) (hy : y < 18446744073709551616) :
 FnOk Tryz.prog 138 [.v (.int .u64 x), .v (.int .u64 y)] [.v true (.int .u64 ((x * y / 18446744073709551616 : Nat) : Int)), .v true (.int .u64 ((x * y % 18446744073709551616 : Nat) : Int))] := by
 obtain ⟨bd, bt, bw, hhi⟩ := Lib.mul64_hi x y hx hy
 obtain ⟨x0, e1⟩ : ∃ a, a = x % 4294967296 := ⟨_, rfl⟩
 obtain ⟨x1, e2⟩ : ∃ a, a = x / 4294967296 := ⟨_, rfl⟩
 obtain ⟨y0, e3⟩ : ∃ a, a = y % 4294967296 := ⟨_, rfl⟩
 obtain ⟨y1, e4⟩ : ∃ a, a = y / 4294967296 := ⟨_, rfl⟩
 have ba := Lib.half_mul_le (a := x1) (b := y1) (by omega) (by omega)
 have bb := Lib.half_mul_le (a := x1) (b := y0) (by omega) (by omega)
 have bc := Lib.half_mul_le (a := x0) (b := y1) (by omega) (by omega)
 rw [← e1, ← e2, ← e3, ← e4] at hhi
 rw [← e1, ← e3] at bd
 rw [← e1, ← e2, ← e3] at bt
 rw [← e1, ← e2, ← e3, ← e4] at bw
 obtain ⟨w0', e5⟩ : ∃ a, a = x0 * y0 := ⟨_, rfl⟩
 obtain ⟨p, e6⟩ : ∃ a, a = x1 * y0 := ⟨_, rfl⟩
 obtain ⟨q, e7⟩ : ∃ a, a = x0 * y1 := ⟨_, rfl⟩
 obtain ⟨r, e8⟩ : ∃ a, a = x1 * y1 := ⟨_, rfl⟩
 rw [← e5] at bd
 rw [← e5, ← e6] at bt
 rw [← e5, ← e6, ← e7] at bw
 rw [← e5, ← e6, ← e7, ← e8] at hhi
 obtain ⟨v, e9⟩ : ∃ a, a = w0' / 4294967296 := ⟨_, rfl⟩
 rw [← e9] at bt bw hhi
 obtain ⟨t, e10⟩ : ∃ a, a = p + v := ⟨_, rfl⟩
 rw [← e10] at bt bw hhi
 obtain ⟨w1, e11⟩ : ∃ a, a = t % 4294967296 := ⟨_, rfl⟩
 obtain ⟨w2, e12⟩ : ∃ a, a = t / 4294967296 := ⟨_, rfl⟩
 rw [← e11] at bw hhi
 rw [← e12] at hhi
 obtain ⟨w3, e13⟩ : ∃ a, a = w1 + q := ⟨_, rfl⟩
 rw [← e13] at bw hhi
 obtain ⟨w4, e14⟩ : ∃ a, a = w3 / 4294967296 := ⟨_, rfl⟩
 rw [← e14] at hhi
 obtain ⟨u, e15⟩ : ∃ a, a = r + w2 := ⟨_, rfl⟩
 obtain ⟨h, e16⟩ : ∃ a, a = u + w4 := ⟨_, rfl⟩
 obtain ⟨lo, e17⟩ : ∃ a, a = x * y % 18446744073709551616 := ⟨_, rfl⟩
 have f1 : bitI .and .u64 (x : Int) 4294967295 = x0 := by rw [maskN x hx, e1]
 have f2 : Int.fdiv (x : Int) (2 ^ min (32 : Nat) 64) = x1 := by rw [shrN, e2]
 have f3 : bitI .and .u64 (y : Int) 4294967295 = y0 := by rw [maskN y hy, e3]
 have f4 : Int.fdiv (y : Int) (2 ^ min (32 : Nat) 64) = y1 := by rw [shrN, e4]
 have f5 : IntKind.u64.wrap ((x0 : Int) * y0) = w0' := by rw [mulN, ← e5, wrapN _ bd]
 have f6 : IntKind.u64.wrap ((x1 : Int) * y0) = p := by rw [mulN, ← e6, wrapN _ (by omega)]
 have f7 : IntKind.u64.wrap ((x0 : Int) * y1) = q := by rw [mulN, ← e7, wrapN _ (by omega)]
 have f8 : IntKind.u64.wrap ((x1 : Int) * y1) = r := by rw [mulN, ← e8, wrapN _ (by omega)]
 have f9 : Int.fdiv (w0' : Int) (2 ^ min (32 : Nat) 64) = v := by rw [shrN, e9]
 have f10 : IntKind.u64.wrap ((p : Int) + v) = t := by rw [addN, ← e10, wrapN _ bt]
 have f11 : bitI .and .u64 (t : Int) 4294967295 = w1 := by rw [maskN t bt, e11]
 have f12 : Int.fdiv (t : Int) (2 ^ min (32 : Nat) 64) = w2 := by rw [shrN, e12]
 have f13 : IntKind.u64.wrap ((w1 : Int) + q) = w3 := by rw [addN, ← e13, wrapN _ bw]
 have f14 : Int.fdiv (w3 : Int) (2 ^ min (32 : Nat) 64) = w4 := by rw [shrN, e14]
 have f15 : IntKind.u64.wrap ((r : Int) + w2) = u := by rw [addN, ← e15, wrapN _ (by omega)]
 have f16 : IntKind.u64.wrap ((u : Int) + w4) = h := by rw [addN, ← e16, wrapN _ (by omega)]
 have f17 : IntKind.u64.wrap ((x : Int) * y) = lo := by rw [mulN, wrapM, e17]
 have hh : x * y / 18446744073709551616 = h := by rw [← hhi, e16, e15]
 rw [hh, ← e17]
 refine FnOk.of Tryz.func138 rfl rfl fun cx w0 => ?_
 rw [show Tryz.f138.ntmps = 51 from rfl]
 refine zs0 ?_
 refine zs1 f1 ?_
 refine zs1 f2 ?_
 refine zs1 f3 ?_
 refine zs1 f4 ?_
 refine zs1 f5 ?_
 refine zs1 (an f6 <| an f9 <| f10) ?_
 refine zs1 f11 ?_
 refine zs1 f12 ?_
 refine zs1 (an f7 <| f13) ?_
 refine zs1 (an f8 <| an f14 <| an f15 <| f16) ?_
 refine zs1 f17 ?_
 exact Holds.ret ⟨_, [], rfl, ⟨⟨rfl, id⟩, ⟨rfl, id⟩, trivial⟩, by simp [R.names, R.mems, R.blks], by simp, rfl⟩
theorem add64N (a b c : Nat) (hc : c ≤ 1) {s t : Nat} (hs : s = (a + b + c) % 18446744073709551616) (ht : t = (a + b + c) / 18446744073709551616) : FnOk Tryz.prog 139 [.v (.int .u64 a), .v (.int .u64 b), .v (.int .u64 c)] [.v true (.int .u64 s), .v true (.int .u64 t)] := by
 have h := add64_ok a b c (by omega) (by omega) (by omega) (by omega)
 rw [show ((a : Int) + b + c) % 18446744073709551616 = (s : Int) from by omega, show ((a : Int) + b + c) / 18446744073709551616 = (t : Int) from by omega] at h
 exact h
noncomputable def lenTab : ByteArray := ((Tryz.f140.body.bind tabIn).getD ByteArray.empty)
theorem lenTab_ok : tabOk lenTab 256 8 = true := by kernel_rfl
def hv (b : Nat) (s : Nat × Nat) : Nat × Nat := if 2 ^ b ≤ s.1 then (s.1 / 2 ^ b, s.2 + b) else s
def len3 (x : Nat) : Nat × Nat := hv 8 (hv 16 (hv 32 (x, 0)))
noncomputable def len64 (x : Nat) : Nat := (len3 x).2 + bAt lenTab (len3 x).1
theorem shrB (a b : Nat) (hb : b < 64) : Int.fdiv (a : Int) (2 ^ min b 64) = ((a / 2 ^ b : Nat) : Int) := by
 have : min b 64 = b := Nat.min_eq_left (by omega)
 rw [this, Int.fdiv_eq_ediv_of_nonneg _ (Int.le_of_lt (Int.pow_pos (by omega))), Int.natCast_ediv, Int.natCast_pow]
 rfl
theorem len3_ok {x : Nat} (hx : x < 18446744073709551616) : (len3 x).1 < 256 ∧ (len3 x).2 ≤ 56 := by
 unfold len3
 have h1 : (hv 32 (x, 0)).1 < 4294967296 ∧ (hv 32 (x, 0)).2 ≤ 32 := by
  unfold hv; split <;> first | omega | (simp only; omega)
 generalize hv 32 (x, 0) = s at h1
 have h2 : (hv 16 s).1 < 65536 ∧ (hv 16 s).2 ≤ 48 := by
  unfold hv; split <;> first | omega | (simp only; omega)
 generalize hv 16 s = t at h2
 unfold hv; split <;> first | omega | (simp only; omega)
theorem len64_le {x : Nat} (hx : x < 18446744073709551616) : len64 x ≤ 64 := by
 obtain ⟨h1, h2⟩ := len3_ok hx
 have h3 := List.all_eq_true.1 lenTab_ok _ (List.mem_range.2 h1)
 unfold len64 bAt
 split
 ·next b hb => rw [hb] at h3; have : b.toNat ≤ 8 := by simpa using h3
               omega
 ·omega
theorem len64_ok (x : Nat) (hx : x < 18446744073709551616) : FnOk Tryz.prog 140 [.v (.int .u64 x)] [.v true (.int .i64 (len64 x))] := by
 refine FnOk.of Tryz.func140 rfl rfl fun cx w0 => ?_
 rw [show Tryz.f140.ntmps = 25 from rfl]
 refine zs0 ?_
 refine Holds.next (fun σ => ∀ a w, Rel cx w0 σ a w → Rel cx w0 { nt := 25, env := [(0, .v true (.int .u64 (hv 32 (x, 0)).1)), (2, .v true (.int .i64 (hv 32 (x, 0)).2))], mem := [] } a w) ?_ ?_
 ·by_cases h : 4294967296 ≤ x
  ·refine zs0 ?_
   refine Holds.condT rfl ?_
   refine zs1 ((shrB x 32 (by omega))) ?_
   refine zr0 ?_
   intro a w hr
   rw [show hv 32 (x, 0) = (x / 2 ^ 32, 0 + 32) from by rw [hv, if_pos h]]
   exact Rel.keep [0, 2] [] hr
  ·refine zs0 ?_
   refine Holds.condF rfl (Holds.skip fun a w hr => ?_)
   rw [show hv 32 (x, 0) = (x, 0) from by rw [hv, if_neg h]]
   exact Rel.keep [0, 2] [] hr
 ·have b1 : (hv 32 (x, 0)).1 < 4294967296 ∧ (hv 32 (x, 0)).2 ≤ 32 := by
   unfold hv; split <;> first | omega | (simp only; omega)
  have b2 : ∀ s : Nat × Nat, s.1 < 4294967296 → s.2 ≤ 32 → (hv 16 s).1 < 65536 ∧ (hv 16 s).2 ≤ 48 := by
   intro s h1 h2
   unfold hv; split <;> first | omega | (simp only; omega)
  have b3 := b2 _ b1.1 b1.2
  intro σ hσ
  refine Holds.from hσ ?_
  obtain ⟨s, hs⟩ : ∃ s, s = hv 32 (x, 0) := ⟨_, rfl⟩
  have hb : s.1 < 4294967296 ∧ s.2 ≤ 32 := by rw [hs]; exact b1
  rw [← hs]
  refine Holds.next (fun σ => ∀ a w, Rel cx w0 σ a w → Rel cx w0 { nt := 25, env := [(0, .v true (.int .u64 (hv 16 s).1)), (2, .v true (.int .i64 (hv 16 s).2))], mem := [] } a w) ?_ ?_
  ·by_cases h : 65536 ≤ s.1
   ·refine zs0 ?_
    refine Holds.condT rfl ?_
    refine zs1 ((shrB s.1 16 (by omega))) ?_
    refine zr0 ?_
    intro a w hr
    rw [show hv 16 s = (s.1 / 2 ^ 16, s.2 + 16) from by rw [hv, if_pos h]]
    exact Rel.keep [0, 2] [] hr
   ·refine zs0 ?_
    refine Holds.condF rfl (Holds.skip fun a w hr => ?_)
    rw [show hv 16 s = s from by rw [hv, if_neg h]]
    exact Rel.keep [0, 2] [] hr
  ·rw [hs]
   intro σ hσ
   refine Holds.from hσ ?_
   obtain ⟨s, hs⟩ : ∃ s, s = hv 16 (hv 32 (x, 0)) := ⟨_, rfl⟩
   have hb : s.1 < 65536 ∧ s.2 ≤ 48 := by rw [hs]; exact b3
   rw [← hs]
   refine Holds.next (fun σ => ∀ a w, Rel cx w0 σ a w → Rel cx w0 { nt := 25, env := [(0, .v true (.int .u64 (hv 8 s).1)), (2, .v true (.int .i64 (hv 8 s).2))], mem := [] } a w) ?_ ?_
   ·by_cases h : 256 ≤ s.1
    ·refine zs0 ?_
     refine Holds.condT rfl ?_
     refine zs1 ((shrB s.1 8 (by omega))) ?_
     refine zr0 ?_
     intro a w hr
     rw [show hv 8 s = (s.1 / 2 ^ 8, s.2 + 8) from by rw [hv, if_pos h]]
     exact Rel.keep [0, 2] [] hr
    ·refine zs0 ?_
     refine Holds.condF rfl (Holds.skip fun a w hr => ?_)
     rw [show hv 8 s = s from by rw [hv, if_neg h]]
     exact Rel.keep [0, 2] [] hr
   ·rw [hs]
    intro σ hσ
    refine Holds.from hσ ?_
    have h3 := len3_ok hx
    obtain ⟨n, hn⟩ : ∃ n, n = len3 x := ⟨_, rfl⟩
    have e : len64 x = n.2 + bAt lenTab n.1 := by rw [hn]; rfl
    rw [← hn] at h3
    rw [e]
    rw [show hv 8 (hv 16 (hv 32 (x, 0))) = n from hn.symm]
    have hw : IntKind.u8.wrap (n.1 : Int) = n.1 := by
     unfold IntKind.wrap
     simp only [IntKind.bits, IntKind.signed, Bool.false_and, Bool.false_eq_true, if_false]
     omega
    have ikd5 : ikd Tryz.prog 5 = some .u8 := by kernel_rfl
    have ikd3 : ikd Tryz.prog 3 = some .i64 := by kernel_rfl
    have und69 : (Tryz.prog.underlying 91).isSome = true := by kernel_rfl
    have und5 : (Tryz.prog.underlying 5).isSome = true := by kernel_rfl
    have hb8 := (evalOp_tab (P := Tryz.prog) (T := TT) (ρ := fun _ => []) (σ := { nt := 1, env := [(0, .v true (.int .u8 n.1))], mem := [] }) (o := { dst := some 0, op := .index 9 (.const (.string lenTab)) (.tmp 0), type := 0, pos := "", after := #[], guard := none }) (N := 256) (m := 8) (n := n.1) (by kernel_rfl) lenTab_ok rfl rfl (Nat.le_of_ble_eq_true rfl) rfl h3.1).1
    refine Holds.seq (Holds.regionS (σ2 := { nt := 25, env := [(22, .v true (.int .u8 (bAt lenTab n.1 : Nat))), (21, .v true (.int .u8 n.1)), (20, .v true (.int .u64 n.1)), (19, .v true (.int .i64 n.2)), (0, .v true (.int .u64 n.1)), (2, .v true (.int .i64 n.2))], mem := [] }) (p2 := True) (Px := px) (T := TT) (ρ := fun _ => []) (k := 3) TTe (by simp (maxSteps := 100000) (disch := omega) only [List.take_succ_cons, List.take_zero, go_sem, V.isAgg, V.flat, ↓reduceIte, Nat.reduceAdd, Nat.reduceSub, Nat.reduceLT, Nat.reduceEqDiff, reduceCtorEq, Nat.reduceLeDiff, Nat.reduceBEq, Nat.reduceMul, Int.reduceToNat, hw, ikd5, und69]; rfl) (by repeat' constructor) rfl rfl ?h2 trivial ?h3)
    case h2 => exact evalOp_tabE (tab := lenTab) (N := 256) (m := 8) (n := n.1) (by kernel_rfl) lenTab_ok (by rfl) (by rfl) (by exact Nat.le_of_ble_eq_true rfl) (by rfl) h3.1
    case h3 =>
     refine ⟨_, _, by simp (maxSteps := 100000) (disch := omega) only [List.drop_succ_cons, List.drop_zero, go_sem, V.isAgg, V.flat, ↓reduceIte, Nat.reduceAdd, Nat.reduceSub, Nat.reduceLT, Nat.reduceEqDiff, reduceCtorEq, Nat.reduceLeDiff, Nat.reduceBEq, Nat.reduceMul, Int.reduceToNat, ikd3, und5]; rfl, by repeat' constructor, ?_⟩
     show Holds _ _ _ _ _ _ _
     exact Holds.ret (RetOk.vs rfl (by exact ⟨⟨rfl, id⟩, trivial⟩) rfl)
theorem lz64_ok (x : Nat) (hx : x < 18446744073709551616) : FnOk Tryz.prog 205 [.v (.int .u64 x)] [.v true (.int .i64 (64 - (len64 x : Int)))] := by
 have h := len64_le hx
 refine FnOk.of Tryz.func205 rfl rfl fun cx w0 => ?_
 rw [show Tryz.f205.ntmps = 6 from rfl]
 refine zs0 ?_
 refine zs2 (ρ := fun _ => [.v true (.int .i64 (len64 x))]) (o := by repeat' first|exact len64_ok x hx|trivial|constructor) (k := ?_)
 exact Holds.ret (RetOk.vs rfl (by exact ⟨⟨rfl, id⟩, trivial⟩) rfl)
theorem hv_inv {x b : Nat} {s : Nat × Nat} (h : s.1 = x / 2 ^ s.2) (h0 : 0 < s.1) : (hv b s).1 = x / 2 ^ (hv b s).2 ∧ 0 < (hv b s).1 := by
 unfold hv
 split
 ·next hb =>
  refine ⟨?_, Nat.div_pos hb (Nat.pow_pos (by decide))⟩
  simp only
  rw [h, Nat.div_div_eq_div_mul, ← Nat.pow_add]
 ·exact ⟨h, h0⟩
noncomputable def lenTabOk : Bool := (List.range 256).all fun n => n == 0 || decide (2 ^ (bAt lenTab n - 1) ≤ n ∧ n < 2 ^ bAt lenTab n ∧ 0 < bAt lenTab n)
theorem lenTabOk_ok : lenTabOk = true := by kernel_rfl
theorem len64_spec {x : Nat} (hx : x < 18446744073709551616) (h0 : 0 < x) : 0 < len64 x ∧ 2 ^ (len64 x - 1) ≤ x ∧ x < 2 ^ len64 x := by
 obtain ⟨h1, h2⟩ := len3_ok hx
 obtain ⟨a1, a2⟩ := hv_inv (b := 32) (s := (x, 0)) (x := x) (by simp) h0
 obtain ⟨b1, b2⟩ := hv_inv (b := 16) a1 a2
 obtain ⟨c1, c2⟩ := hv_inv (b := 8) b1 b2
 have e : len64 x = (len3 x).2 + bAt lenTab (len3 x).1 := rfl
 rw [show hv 8 (hv 16 (hv 32 (x, 0))) = len3 x from rfl] at c1 c2
 rw [e]
 obtain ⟨n, hn⟩ : ∃ n, n = (len3 x).1 := ⟨_, rfl⟩
 obtain ⟨k, hk⟩ : ∃ k, k = (len3 x).2 := ⟨_, rfl⟩
 rw [← hn] at h1 c1 c2 ⊢
 rw [← hk] at c1 ⊢
 have h3 := List.all_eq_true.1 lenTabOk_ok _ (List.mem_range.2 h1)
 have hn0 : n ≠ 0 := by omega
 simp only [Bool.or_eq_true, beq_iff_eq, hn0, false_or, decide_eq_true_eq] at h3
 obtain ⟨h4, h5, h6⟩ := h3
 obtain ⟨b, hb⟩ : ∃ b, b = bAt lenTab n := ⟨_, rfl⟩
 rw [← hb] at h4 h5 h6 ⊢
 refine ⟨by omega, ?_, ?_⟩
 ·have : 2 ^ (b - 1) * 2 ^ k ≤ n * 2 ^ k := Nat.mul_le_mul_right _ h4
  rw [← Nat.pow_add, show b - 1 + k = k + b - 1 from by omega] at this
  have h7 : n * 2 ^ k ≤ x := by rw [c1]; exact Nat.div_mul_le_self _ _
  omega
 ·have h7 : x < 2 ^ k * (n + 1) := by rw [c1]; exact Nat.lt_mul_div_succ _ (Nat.pow_pos (by decide))
  have h8 : 2 ^ k * (n + 1) ≤ 2 ^ k * 2 ^ b := Nat.mul_le_mul_left _ h5
  rw [← Nat.pow_add] at h8
  omega
theorem norm64 {y : Nat} (hy : y < 18446744073709551616) (h0 : 0 < y) : ∃ s : Nat, s < 64 ∧ (64 - (len64 y : Int)) = (s : Int) ∧ 9223372036854775808 ≤ y * 2 ^ s ∧ y * 2 ^ s < 18446744073709551616 := by
 obtain ⟨h1, h2, h3⟩ := len64_spec hy h0
 have h4 := len64_le hy
 obtain ⟨n, hn⟩ : ∃ n, n = len64 y := ⟨_, rfl⟩
 rw [← hn] at h1 h2 h3 h4 ⊢
 refine ⟨64 - n, by omega, by omega, ?_, ?_⟩
 ·have : 2 ^ (n - 1) * 2 ^ (64 - n) ≤ y * 2 ^ (64 - n) := Nat.mul_le_mul_right _ h2
  rw [← Nat.pow_add, show n - 1 + (64 - n) = 63 from by omega] at this
  exact this
 ·have : y * 2 ^ (64 - n) < 2 ^ n * 2 ^ (64 - n) := Nat.mul_lt_mul_of_pos_right h3 (Nat.pow_pos (by decide))
  rw [← Nat.pow_add, show n + (64 - n) = 64 from by omega] at this
  exact this
theorem orN (a v s : Nat) (hv : v < 2 ^ s) (h : a * 2 ^ s + v < 18446744073709551616) : bitI .or .u64 ((a * 2 ^ s : Nat) : Int) (v : Int) = ((a * 2 ^ s + v : Nat) : Int) := by
 unfold bitI
 simp only
 have h1 : (BitVec.ofInt IntKind.u64.bits ((a * 2 ^ s : Nat) : Int) ||| BitVec.ofInt IntKind.u64.bits (v : Int)).toNat = a * 2 ^ s + v := by
  rw [BitVec.toNat_or, BitVec.toNat_ofInt, BitVec.toNat_ofInt]
  have e1 : (((a * 2 ^ s : Nat) : Int) % ((2 ^ IntKind.u64.bits : Nat) : Int)).toNat = a * 2 ^ s := by
   show (((a * 2 ^ s : Nat) : Int) % 18446744073709551616).toNat = _
   omega
  have e2 : ((v : Int) % ((2 ^ IntKind.u64.bits : Nat) : Int)).toNat = v := by
   show ((v : Int) % 18446744073709551616).toNat = _
   omega
  rw [e1, e2, Nat.mul_comm, Nat.two_pow_add_eq_or_of_lt hv]
 rw [h1]
 exact wrapN _ h
theorem shlN (a s : Nat) (hs : s < 64) : IntKind.u64.wrap ((a : Int) * 2 ^ min s 64) = ((a * 2 ^ s % 18446744073709551616 : Nat) : Int) := by
 have : min s 64 = s := Nat.min_eq_left (by omega)
 rw [this, show ((a : Int) * 2 ^ s) = ((a * 2 ^ s : Nat) : Int) from by rw [Int.natCast_mul, Int.natCast_pow]; rfl]
 exact wrapM _
theorem shrG (a s : Nat) (hs : s ≤ 64) : Int.fdiv (a : Int) (2 ^ min s 64) = ((a / 2 ^ s : Nat) : Int) := by
 have : min s 64 = s := Nat.min_eq_left (by omega)
 rw [this, Int.fdiv_eq_ediv_of_nonneg _ (Int.le_of_lt (Int.pow_pos (by omega))), Int.natCast_ediv, Int.natCast_pow]
 rfl
theorem quoN (a b : Nat) : (a : Int).tdiv (b : Int) = ((a / b : Nat) : Int) := by
 rw [Int.tdiv_eq_ediv_of_nonneg (Int.natCast_nonneg a), Int.natCast_ediv]
theorem remN (a b : Nat) : (a : Int).tmod (b : Int) = ((a % b : Nat) : Int) := by
 rw [Int.tmod_eq_emod_of_nonneg (Int.natCast_nonneg a), Int.natCast_emod]
theorem guess_iff {U u Y1 Y0 q r : Nat} (h : q * Y1 + r = U) : r * 4294967296 + u < q * Y0 ↔ U * 4294967296 + u < q * (Y1 * 4294967296 + Y0) := by
 have : q * (Y1 * 4294967296 + Y0) = q * Y1 * 4294967296 + q * Y0 := by rw [Nat.mul_add, Nat.mul_assoc]
 rw [this, ← h, Nat.add_mul]
 omega
theorem div_is {T Y q Q : Nat} (hY : 0 < Y) (hQ : Q = T / Y) (h1 : Q ≤ q) (h2 : q * Y ≤ T) : q = Q := by
 have : q ≤ T / Y := (Nat.le_div_iff_mul_le hY).2 h2
 omega
theorem guess_first {U u Y1 Y0 : Nat} (hY1 : 0 < Y1) : (U * 4294967296 + u) / (Y1 * 4294967296 + Y0) ≤ (U * 4294967296 + u) / (Y1 * 4294967296) :=
 Nat.div_le_div_left (by omega) (by omega)
theorem blockQ_other {id id' : Nat} {Q : Exit → St → Prop} {σ : St} (hn : id' ≠ id) (h : Q (.exit id') σ) : blockQ id Q (.exit id') σ := by
 unfold blockQ
 simp only [hn, if_false]
 exact h
theorem digit_less {U u Y1 Y0 q r Q : Nat} (hu : u < 4294967296) (hQ : Q = (U * 4294967296 + u) / (Y1 * 4294967296 + Y0)) (hQB : Q < 4294967296) (hY : 0 < Y1 * 4294967296 + Y0) (h : q * Y1 + r = U)
 (hc : 4294967296 ≤ q ∨ r * 4294967296 + u < q * Y0) : Q < q ∧ (q - 1) * Y1 + (r + Y1) = U := by
 have h1 : Q < q := by
  rcases hc with hc | hc
  ·omega
  ·rw [hQ]
   exact (Nat.div_lt_iff_lt_mul hY).2 ((guess_iff h).1 hc)
 refine ⟨h1, ?_⟩
 obtain ⟨p, rfl⟩ : ∃ p, q = p + 1 := ⟨q - 1, by omega⟩
 rw [Nat.add_mul, Nat.one_mul] at h
 rw [Nat.add_sub_cancel]
 omega
theorem digit_done {U u Y1 Y0 q r Q : Nat} (hQ : Q = (U * 4294967296 + u) / (Y1 * 4294967296 + Y0)) (hY : 0 < Y1 * 4294967296 + Y0) (h : q * Y1 + r = U) (h1 : Q ≤ q)
 (hc : q * Y0 ≤ r * 4294967296 + u) : q = Q :=
 div_is hY hQ h1 (by
  have := mt (guess_iff (u := u) (Y0 := Y0) h).2 (by omega)
  omega)
theorem digit_first {U u Y1 Y0 : Nat} (hu : u < 4294967296) (hY1 : 2147483648 ≤ Y1) (hY0 : Y0 < 4294967296) (hU : U < Y1 * 4294967296 + Y0) :
 (U * 4294967296 + u) / (Y1 * 4294967296 + Y0) ≤ U / Y1 ∧ U / Y1 ≤ 4294967297 ∧ (U * 4294967296 + u) / (Y1 * 4294967296 + Y0) < 4294967296 := by
 refine ⟨?_, ?_, ?_⟩
 ·refine Nat.le_trans (guess_first (by omega)) ?_
  have e1 := Nat.div_div_eq_div_mul (U * 4294967296 + u) 4294967296 Y1
  have e2 : (U * 4294967296 + u) / 4294967296 = U := by omega
  rw [e2, Nat.mul_comm 4294967296 Y1] at e1
  exact Nat.le_of_eq e1.symm
 ·have e : U < 4294967298 * Y1 := by
   rw [show 4294967298 = 4294967296 + 2 from rfl, Nat.add_mul, Nat.mul_comm 4294967296 Y1]
   omega
  exact Nat.le_of_lt_succ ((Nat.div_lt_iff_lt_mul (by omega)).2 e)
 ·refine (Nat.div_lt_iff_lt_mul (by omega)).2 ?_
  rw [Nat.mul_comm 4294967296]
  have : (U + 1) * 4294967296 ≤ (Y1 * 4294967296 + Y0) * 4294967296 := Nat.mul_le_mul_right _ hU
  rw [Nat.add_mul] at this
  omega
theorem mul_small {q Y0 : Nat} (hq : q ≤ 4294967296) (hY0 : Y0 < 4294967296) : q * Y0 ≤ 4294967296 * 4294967295 := Nat.mul_le_mul hq (by omega)
theorem div_lin {B G L1 Lo u1 u0 U P W P2 Rm : Nat} (hU : U = G + L1) (hu : Lo = u1 * B + u0) (e1 : U * B + u1 = P + W) (e2 : W * B + u0 = P2 + Rm) :
 G * (B * B) + (L1 * (B * B) + Lo) = P * B + P2 + Rm := by
 subst hU hu
 have h : ((G + L1) * B + u1) * B = (P + W) * B := by rw [e1]
 simp only [Nat.add_mul, Nat.mul_assoc] at h
 omega
theorem div_whole {hi lo y s Y Q Q2 W Rm U L1 Lo u1 u0 P P2 : Nat} (hy : 0 < y) (hY : Y = y * 2 ^ s) (hU : U = hi * 2 ^ s + L1) (elo : lo * 2 ^ s = L1 * 18446744073709551616 + Lo) (hu : Lo = u1 * 4294967296 + u0)
 (hP : P = Q * Y) (e1 : U * 4294967296 + u1 = P + W) (hP2 : P2 = Q2 * Y) (e2 : W * 4294967296 + u0 = P2 + Rm) (bR : Rm < Y) :
 (hi * 18446744073709551616 + lo) / y = Q * 4294967296 + Q2 ∧ Rm = (hi * 18446744073709551616 + lo) % y * 2 ^ s := by
 have pw : 0 < 2 ^ s := Nat.pow_pos (by decide)
 have key : (hi * 18446744073709551616 + lo) * 2 ^ s = (Q * 4294967296 + Q2) * Y + Rm := by
  have a0 : hi * 18446744073709551616 * 2 ^ s = (hi * 2 ^ s) * 18446744073709551616 := Nat.mul_right_comm _ _ _
  have a2 : Q * 4294967296 * Y = P * 4294967296 := by rw [hP]; exact Nat.mul_right_comm _ _ _
  rw [Nat.add_mul, Nat.add_mul, elo, a0, a2, ← hP2]
  exact div_lin hU hu e1 e2
 obtain ⟨Nn, hN⟩ : ∃ Nn, Nn = hi * 18446744073709551616 + lo := ⟨_, rfl⟩
 obtain ⟨K, hK⟩ : ∃ K, K = Q * 4294967296 + Q2 := ⟨_, rfl⟩
 rw [← hN, ← hK] at key ⊢
 clear hP e1 hP2 e2 hU elo hu
 rw [hY, ← Nat.mul_assoc] at key
 have l1 : K * y * 2 ^ s ≤ Nn * 2 ^ s := by omega
 have l2 := Nat.le_of_mul_le_mul_right l1 pw
 obtain ⟨t, ht⟩ : ∃ t, Nn = K * y + t := ⟨Nn - K * y, by omega⟩
 rw [ht, Nat.add_mul] at key
 have l3 : Rm = t * 2 ^ s := by omega
 have l4 : t < y := Nat.lt_of_mul_lt_mul_right (a := 2 ^ s) (by rw [← l3, ← hY]; exact bR)
 have l6 : Nn / y = K := by
  rw [ht, Nat.mul_comm K y, Nat.mul_add_div (by omega), Nat.div_eq_of_lt l4, Nat.add_zero]
 have l7 : Nn % y = t := by
  have h7 := Nat.div_add_mod Nn y
  rw [l6, Nat.mul_comm] at h7
  omega
 exact ⟨l6, by rw [l7]; exact l3⟩
set_option maxHeartbeats 2000000 in
theorem div64_ok (hi lo y : Nat) (hlo : lo < 18446744073709551616) (hy : y < 18446744073709551616) (hhi : hi < y) :
 FnOk Tryz.prog 212 [.v (.int .u64 hi), .v (.int .u64 lo), .v (.int .u64 y)] [.v true (.int .u64 (((hi * 18446744073709551616 + lo) / y : Nat) : Int)), .v true (.int .u64 (((hi * 18446744073709551616 + lo) % y : Nat) : Int))] := by
 have y0 : ¬ (y : Int) = 0 := by omega
 by_cases h0 : hi = 0
 ·subst h0
  have hq := quoN lo y
  have hr := remN lo y
  rw [Nat.zero_mul, Nat.zero_add]
  have hdl : lo / y ≤ lo := Nat.div_le_self _ _
  have hw := wrapN (lo / y) (by omega)
  refine FnOk.of Tryz.func212 rfl rfl fun cx w0 => ?_
  rw [show Tryz.f212.ntmps = 135 from rfl]
  refine zs0 ?_
  refine Holds.next (fun σ => ∀ a w, Rel cx w0 σ a w → Rel cx w0 { nt := 135, env := [(0, .v true (.int .u64 0)), (1, .v true (.int .u64 lo)), (2, .v true (.int .u64 y))], mem := [] } a w) ?_ ?_
  ·refine zs1 y0 ?_
   exact Holds.condF rfl (Holds.skip fun a w h => Rel.keep [0, 1, 2] [] h)
  ·intro σ hσ
   refine Holds.from hσ ?_
   refine Holds.next (fun σ => ∀ a w, Rel cx w0 σ a w → Rel cx w0 { nt := 135, env := [(0, .v true (.int .u64 0)), (1, .v true (.int .u64 lo)), (2, .v true (.int .u64 y))], mem := [] } a w) ?_ ?_
   ·refine zs0 ?_
    exact Holds.condF rfl (Holds.skip fun a w h => Rel.keep [0, 1, 2] [] h)
   ·intro σ hσ
    refine Holds.from hσ ?_
    refine Holds.seq ?_
    refine zs0 ?_
    refine Holds.condT rfl ?_
    refine zd1 [] (an y0 <| an hq <| an hr <| hw) ?_
    exact Holds.ret (RetOk.vs rfl (by exact ⟨⟨rfl, id⟩, ⟨rfl, id⟩, trivial⟩) rfl)
 ·have h0' : ¬ (hi : Int) = 0 := by omega
  obtain ⟨s, hs, es, hY63, hY64⟩ := norm64 hy (by omega)
  have hlz := lz64_ok y hy
  rw [es] at hlz
  obtain ⟨Y, hY⟩ : ∃ Y, Y = y * 2 ^ s := ⟨_, rfl⟩
  rw [← hY] at hY63 hY64
  obtain ⟨Y1, hY1⟩ : ∃ a, a = Y / 4294967296 := ⟨_, rfl⟩
  obtain ⟨Y0, hY0⟩ : ∃ a, a = Y % 4294967296 := ⟨_, rfl⟩
  have eY : Y = Y1 * 4294967296 + Y0 := by omega
  have pw : 0 < 2 ^ s := Nat.pow_pos (by decide)
  have pw2 : 2 ^ (64 - s) * 2 ^ s = 18446744073709551616 := by rw [← Nat.pow_add, show 64 - s + s = 64 from by omega]
  have b1 : hi * 2 ^ s + 2 ^ s ≤ Y := by
   rw [hY]
   have : (hi + 1) * 2 ^ s ≤ y * 2 ^ s := Nat.mul_le_mul_right _ hhi
   rw [Nat.add_mul, Nat.one_mul] at this
   exact this
  obtain ⟨L1, hL1⟩ : ∃ a, a = lo / 2 ^ (64 - s) := ⟨_, rfl⟩
  have bL1 : L1 < 2 ^ s := by
   rw [hL1]
   exact (Nat.div_lt_iff_lt_mul (Nat.pow_pos (by decide))).2 (by rw [Nat.mul_comm, pw2]; exact hlo)
  obtain ⟨U, hU⟩ : ∃ a, a = hi * 2 ^ s + L1 := ⟨_, rfl⟩
  obtain ⟨Lo, hLo⟩ : ∃ a, a = lo * 2 ^ s % 18446744073709551616 := ⟨_, rfl⟩
  obtain ⟨u1, hu1⟩ : ∃ a, a = Lo / 4294967296 := ⟨_, rfl⟩
  obtain ⟨u0, hu0⟩ : ∃ a, a = Lo % 4294967296 := ⟨_, rfl⟩
  have bU : U < Y := by omega
  have bLo : Lo < 18446744073709551616 := by rw [hLo]; exact Nat.mod_lt _ (by decide)
  have elo : lo * 2 ^ s = L1 * 18446744073709551616 + Lo := by
   rw [hLo, hL1, ← pw2, Nat.mul_comm (2 ^ (64 - s)) (2 ^ s)]
   have h1 := Nat.mod_add_div (lo * 2 ^ s) (2 ^ s * 2 ^ (64 - s))
   rw [show lo * 2 ^ s / (2 ^ s * 2 ^ (64 - s)) = lo / 2 ^ (64 - s) from by rw [Nat.mul_comm lo, Nat.mul_div_mul_left _ _ pw]] at h1
   rw [Nat.mul_comm (lo / 2 ^ (64 - s)), Nat.add_comm]
   exact h1.symm
  have bY1 : 2147483648 ≤ Y1 ∧ Y1 < 4294967296 := by omega
  have bY0 : Y0 < 4294967296 := by omega
  have bu1 : u1 < 4294967296 := by omega
  have bu0 : u0 < 4294967296 := by omega
  have eLo : Lo = u1 * 4294967296 + u0 := by omega
  have w1 := shlN y s hs
  rw [← hY, Nat.mod_eq_of_lt hY64] at w1
  have w2 := shrG Y 32 (by decide)
  rw [show Y / 2 ^ 32 = Y1 from by omega] at w2
  have w3 := maskN Y hY64
  rw [← hY0] at w3
  have w4 := shlN hi s hs
  rw [Nat.mod_eq_of_lt (show hi * 2 ^ s < 18446744073709551616 by omega)] at w4
  have w5 : IntKind.u64.wrap ((64 : Int) - (s : Int)) = ((64 - s : Nat) : Int) := by rw [wrap_u64]; omega
  have w6 := shrG lo (64 - s) (by omega)
  rw [← hL1] at w6
  have w7 := orN hi L1 s bL1 (by omega)
  rw [← hU] at w7
  have w8 := shlN lo s hs
  rw [← hLo] at w8
  have w9 := shrG Lo 32 (by decide)
  rw [show Lo / 2 ^ 32 = u1 from by omega] at w9
  have w10 := maskN Lo bLo
  rw [← hu0] at w10
  have Y1n : ¬ (Y1 : Int) = 0 := by omega
  have w11 := quoN U Y1
  have bq1 := digit_first (U := U) (u := u1) (Y1 := Y1) (Y0 := Y0) (by omega) (by omega) (by omega) (by omega)
  have eq1 : U / Y1 * Y1 + U % Y1 = U := by rw [Nat.mul_comm]; exact Nat.div_add_mod U Y1
  have br1 : U % Y1 < Y1 := Nat.mod_lt _ (by omega)
  obtain ⟨q, hq⟩ : ∃ a, a = U / Y1 := ⟨_, rfl⟩
  obtain ⟨r, hr⟩ : ∃ a, a = U % Y1 := ⟨_, rfl⟩
  rw [← hq] at w11 bq1 eq1
  rw [← hr] at eq1 br1
  obtain ⟨Q, hQ⟩ : ∃ a, a = (U * 4294967296 + u1) / (Y1 * 4294967296 + Y0) := ⟨_, rfl⟩
  rw [← hQ] at bq1
  have w12 := wrapN q (by omega)
  have w13 := mulN q Y1
  have w14 := wrapN (q * Y1) (by omega)
  have w15 : IntKind.u64.wrap ((U : Int) - ((q * Y1 : Nat) : Int)) = (r : Int) := by rw [wrap_u64]; omega
  refine FnOk.of Tryz.func212 rfl rfl fun cx w0 => ?_
  rw [show Tryz.f212.ntmps = 135 from rfl]
  refine zs0 ?_
  refine Holds.next (fun σ => ∀ a w, Rel cx w0 σ a w → Rel cx w0 { nt := 135, env := [(0, .v true (.int .u64 hi)), (1, .v true (.int .u64 lo)), (2, .v true (.int .u64 y))], mem := [] } a w) ?_ ?_
  ·refine zs1 y0 ?_
   exact Holds.condF rfl (Holds.skip fun a w h => Rel.keep [0, 1, 2] [] h)
  ·intro σ hσ
   refine Holds.from hσ ?_
   refine Holds.next (fun σ => ∀ a w, Rel cx w0 σ a w → Rel cx w0 { nt := 135, env := [(0, .v true (.int .u64 hi)), (1, .v true (.int .u64 lo)), (2, .v true (.int .u64 y))], mem := [] } a w) ?_ ?_
   ·refine zs0 ?_
    exact Holds.condF rfl (Holds.skip fun a w h => Rel.keep [0, 1, 2] [] h)
   ·intro σ hσ
    refine Holds.from hσ ?_
    refine Holds.next (fun σ => ∀ a w, Rel cx w0 σ a w → Rel cx w0 { nt := 135, env := [(0, .v true (.int .u64 hi)), (1, .v true (.int .u64 lo)), (2, .v true (.int .u64 y))], mem := [] } a w) ?_ ?_
    ·refine zs1 h0' ?_
     exact Holds.condF rfl (Holds.skip fun a w h => Rel.keep [0, 1, 2] [] h)
    ·intro σ hσ
     refine Holds.from hσ ?_
     have ikd31 : ikd Tryz.prog 181 = some .u64 := by kernel_rfl
     have ikd3 : ikd Tryz.prog 3 = some .i64 := by kernel_rfl
     have und3 : (Tryz.prog.underlying 3).isSome = true := by kernel_rfl
     have und31 : (Tryz.prog.underlying 181).isSome = true := by kernel_rfl
     have ws := wrapN s (by omega)
     refine zs3 (ρ := fun _ => [.v true (.int .i64 s)]) (an ikd31 <| an ikd3 <| an und3 <| an und31 <| ws) (o := by repeat' first|exact hlz|trivial|constructor) (k := ?_)
     refine zs1 w1 ?_
     refine zs1 w2 ?_
     refine zs1 w3 ?_
     refine zs1 (an w4 <| an w5 <| an w6 <| w7) ?_
     refine zs1 w8 ?_
     refine zs1 w9 ?_
     refine zs1 w10 ?_
     refine zs1 (an Y1n <| an w11 <| w12) ?_
     refine zs1 (an w13 <| an w14 <| w15) ?_
     refine Holds.next (fun σ => ∀ a w, Rel cx w0 σ a w → Rel cx w0 { nt := 135, env := [(15, .v true (.int .u64 Q)), (9, .v true (.int .u64 Y1)), (10, .v true (.int .u64 Y0)), (13, .v true (.int .u64 u1)), (14, .v true (.int .u64 u0)), (11, .v true (.int .u64 U)), (2, .v true (.int .u64 Y)), (8, .v true (.int .u64 s))], mem := [] } a w) ?_ ?_
     ·clear w1 w2 w3 w4 w5 w6 w7 w8 w9 w10 w11 w12 w13 w14 w15 ws hlz hlo es eLo elo hLo hL1 hu1 hu0 hU pw pw2 b1 bL1 bLo hY hY1 hY0 hY63 hY64 eY bU ikd3 ikd31 und3 und31 y0 h0 h0' hy hhi bu0 hs Y1n
      refine Holds.loopB (fun i : Nat × Nat => { nt := 135, env := [(15, .v true (.int .u64 i.1)), (16, .v true (.int .u64 i.2)), (9, .v true (.int .u64 Y1)), (10, .v true (.int .u64 Y0)), (13, .v true (.int .u64 u1)), (14, .v true (.int .u64 u0)), (11, .v true (.int .u64 U)), (2, .v true (.int .u64 Y)), (8, .v true (.int .u64 s))], mem := [] }) (fun i => i.1 * Y1 + i.2 = U ∧ Q ≤ i.1 ∧ i.1 ≤ 4294967297 ∧ i.2 < 4294967296) (fun i => i.1) (q, r) ⟨eq1, bq1.1, bq1.2.1, by show r < _; omega⟩ (fun a w h => Rel.keep [15, 16, 9, 10, 13, 14, 11, 2, 8] [] h) ?_
      rintro ⟨q, r⟩ ⟨i1, i2, i3, i4⟩
      simp only at i1 i2 i3 i4
      by_cases hc : 4294967296 ≤ q ∨ r * 4294967296 + u1 < q * Y0
      ·obtain ⟨c1, c2⟩ := digit_less (by omega) hQ bq1.2.2 (by omega) i1 hc
       refine Holds.next (fun σ => ∀ a w, Rel cx w0 σ a w → Rel cx w0 { nt := 135, env := [(15, .v true (.int .u64 q)), (16, .v true (.int .u64 r)), (9, .v true (.int .u64 Y1)), (10, .v true (.int .u64 Y0)), (13, .v true (.int .u64 u1)), (14, .v true (.int .u64 u0)), (11, .v true (.int .u64 U)), (2, .v true (.int .u64 Y)), (8, .v true (.int .u64 s))], mem := [] } a w) ?_ ?_
       ·have g0 : ∀ h : 4294967296 ≤ q, decide ((4294967296 : Int) ≤ (q : Int)) = true := fun h => decide_eq_true (by omega)
        by_cases hq1 : 4294967296 ≤ q
        ·refine zs1 hq1 ?_
         exact Holds.condT rfl (Holds.skip fun a w h => Rel.keep [15, 16, 9, 10, 13, 14, 11, 2, 8] [] h)
        ·have hc' : r * 4294967296 + u1 < q * Y0 := by omega
         have m1 := mul_small (q := q) (Y0 := Y0) (by omega) (by omega)
         have x1 := mulN q Y0
         obtain ⟨m, hm⟩ : ∃ m, m = q * Y0 := ⟨_, rfl⟩
         rw [← hm] at m1 hc' x1
         have x2 := wrapN m (by omega)
         have x3 : IntKind.u64.wrap ((4294967296 : Int) * (r : Int)) = ((4294967296 * r : Nat) : Int) := by rw [wrap_u64]; omega
         have x4 : IntKind.u64.wrap (((4294967296 * r : Nat) : Int) + (u1 : Int)) = ((4294967296 * r + u1 : Nat) : Int) := by rw [wrap_u64]; omega
         have x5 : ((4294967296 * r + u1 : Nat) : Int) < (m : Int) := by omega
         have x6 : ¬ (4294967296 : Int) ≤ (q : Int) := by omega
         refine zs1 (an x1 <| an x2 <| an x3 <| an x4 <| an x5 <| x6) ?_
         exact Holds.condT rfl (Holds.skip fun a w h => Rel.keep [15, 16, 9, 10, 13, 14, 11, 2, 8] [] h)
       ·intro σ hσ
        refine Holds.from hσ ?_
        refine Holds.block ?_
        have y1 : IntKind.u64.wrap ((q : Int) - 1) = ((q - 1 : Nat) : Int) := by rw [wrap_u64]; omega
        have y2 : IntKind.u64.wrap ((r : Int) + (Y1 : Int)) = ((r + Y1 : Nat) : Int) := by rw [wrap_u64]; omega
        refine zs1 y1 ?_
        refine zs1 y2 ?_
        by_cases hb : 4294967296 ≤ r + Y1
        ·have hb' : (4294967296 : Int) ≤ ((r + Y1 : Nat) : Int) := by omega
         have m1 := mul_small (q := q - 1) (Y0 := Y0) (by omega) (by omega)
         have hd := digit_done (q := q - 1) (r := r + Y1) hQ (by omega) c2 (by omega) (by omega)
         refine zs1 hb' ?_
         refine Holds.condT rfl (Holds.exit (blockQ_other (by decide) ⟨rfl, fun a w h => ?_⟩))
         rw [← hd]
         exact Rel.keep [15, 9, 10, 13, 14, 11, 2, 8] [] h
        ·have hb' : ¬ (4294967296 : Int) ≤ ((r + Y1 : Nat) : Int) := by omega
         refine zs1 hb' ?_
         refine Holds.condF rfl (Holds.skip ?_)
         exact ⟨(q - 1, r + Y1), ⟨c2, by show Q ≤ q - 1; omega, by show q - 1 ≤ _; omega, by show r + Y1 < _; omega⟩, (show q - 1 < q by omega), fun a w h => Rel.keep [15, 16, 9, 10, 13, 14, 11, 2, 8] [] h⟩
      ·have hq1 : q < 4294967296 := by omega
       have hc' : q * Y0 ≤ r * 4294967296 + u1 := by omega
       have hd := digit_done hQ (by omega) i1 i2 hc'
       have m1 := mul_small (q := q) (Y0 := Y0) (by omega) (by omega)
       have x1 := mulN q Y0
       obtain ⟨m, hm⟩ : ∃ m, m = q * Y0 := ⟨_, rfl⟩
       rw [← hm] at m1 hc' x1
       have x2 := wrapN m (by omega)
       have x3 : IntKind.u64.wrap ((4294967296 : Int) * (r : Int)) = ((4294967296 * r : Nat) : Int) := by rw [wrap_u64]; omega
       have x4 : IntKind.u64.wrap (((4294967296 * r : Nat) : Int) + (u1 : Int)) = ((4294967296 * r + u1 : Nat) : Int) := by rw [wrap_u64]; omega
       have x5 : ¬ ((4294967296 * r + u1 : Nat) : Int) < (m : Int) := by omega
       have x6 : ¬ (4294967296 : Int) ≤ (q : Int) := by omega
       refine Holds.seq ?_
       refine zs1 (an x1 <| an x2 <| an x3 <| an x4 <| an x5 <| x6) ?_
       refine Holds.condF rfl (Holds.exit ⟨rfl, fun a w h => ?_⟩)
       rw [← hd]
       exact Rel.keep [15, 9, 10, 13, 14, 11, 2, 8] [] h
     ·intro σ hσ
      refine Holds.from hσ ?_
      clear w1 w2 w3 w4 w5 w6 w7 w8 w9 w10 w11 w12 w13 w14 w15 ws hlz es ikd3 ikd31 und3 und31 y0 h0 h0' eq1 br1 hq hr
      have eT := Nat.div_add_mod (U * 4294967296 + u1) (Y1 * 4294967296 + Y0)
      rw [← hQ, ← eY] at eT
      have bT : (U * 4294967296 + u1) % Y < Y := Nat.mod_lt _ (by omega)
      obtain ⟨W, hW⟩ : ∃ W, W = (U * 4294967296 + u1) % Y := ⟨_, rfl⟩
      rw [← hW] at eT bT
      have z1 := mulN Q Y
      have eT' : U * 4294967296 + u1 = Q * Y + W := by rw [Nat.mul_comm Q Y]; exact eT.symm
      obtain ⟨P, hP⟩ : ∃ P, P = Q * Y := ⟨_, rfl⟩
      rw [← hP] at z1 eT'
      have z2 : IntKind.u64.wrap ((U : Int) * 4294967296) = ((U * 4294967296 % 18446744073709551616 : Nat) : Int) := by rw [wrap_u64]; omega
      have z3 : IntKind.u64.wrap (((U * 4294967296 % 18446744073709551616 : Nat) : Int) + (u1 : Int)) = (((P + W) % 18446744073709551616 : Nat) : Int) := by rw [wrap_u64]; omega
      have z4 := wrapM P
      have z5 : IntKind.u64.wrap ((((P + W) % 18446744073709551616 : Nat) : Int) - ((P % 18446744073709551616 : Nat) : Int)) = (W : Int) := by rw [wrap_u64]; omega
      have w16 := quoN W Y1
      have bq2 := digit_first (U := W) (u := u0) (Y1 := Y1) (Y0 := Y0) (by omega) (by omega) (by omega) (by omega)
      have eq2 : W / Y1 * Y1 + W % Y1 = W := by rw [Nat.mul_comm]; exact Nat.div_add_mod W Y1
      have br2 : W % Y1 < Y1 := Nat.mod_lt _ (by omega)
      obtain ⟨q, hq⟩ : ∃ a, a = W / Y1 := ⟨_, rfl⟩
      obtain ⟨r, hr⟩ : ∃ a, a = W % Y1 := ⟨_, rfl⟩
      rw [← hq] at w16 bq2 eq2
      rw [← hr] at eq2 br2
      obtain ⟨Q2, hQ2⟩ : ∃ a, a = (W * 4294967296 + u0) / (Y1 * 4294967296 + Y0) := ⟨_, rfl⟩
      rw [← hQ2] at bq2
      have w17 := wrapN q (by omega)
      have w18 := mulN q Y1
      have w19 := wrapN (q * Y1) (by omega)
      have w20 : IntKind.u64.wrap ((W : Int) - ((q * Y1 : Nat) : Int)) = (r : Int) := by rw [wrap_u64]; omega
      refine zs1 (an z1 <| an z2 <| an z3 <| an z4 <| z5) ?_
      refine zs1 (an Y1n <| an w16 <| w17) ?_
      refine zs1 (an w18 <| an w19 <| w20) ?_
      refine Holds.next (fun σ => ∀ a w, Rel cx w0 σ a w → Rel cx w0 { nt := 135, env := [(18, .v true (.int .u64 Q2)), (17, .v true (.int .u64 W)), (15, .v true (.int .u64 Q)), (14, .v true (.int .u64 u0)), (2, .v true (.int .u64 Y)), (8, .v true (.int .u64 s))], mem := [] } a w) ?_ ?_
      ·clear w16 w17 w18 w19 w20 z1 z2 z3 z4 z5 eT eT' hP hW bT hlo eLo elo hLo hL1 hu1 hu0 hU pw pw2 b1 bL1 bLo hY hY1 hY0 hY63 hY64 eY bU bu1 hs Y1n hy hhi hQ bq1
       refine Holds.loopB (fun i : Nat × Nat => { nt := 135, env := [(18, .v true (.int .u64 i.1)), (16, .v true (.int .u64 i.2)), (17, .v true (.int .u64 W)), (15, .v true (.int .u64 Q)), (9, .v true (.int .u64 Y1)), (10, .v true (.int .u64 Y0)), (14, .v true (.int .u64 u0)), (2, .v true (.int .u64 Y)), (8, .v true (.int .u64 s))], mem := [] }) (fun i => i.1 * Y1 + i.2 = W ∧ Q2 ≤ i.1 ∧ i.1 ≤ 4294967297 ∧ i.2 < 4294967296) (fun i => i.1) (q, r) ⟨eq2, bq2.1, bq2.2.1, by show r < _; omega⟩ (fun a w h => Rel.keep [18, 16, 17, 15, 9, 10, 14, 2, 8] [] h) ?_
       rintro ⟨q, r⟩ ⟨i1, i2, i3, i4⟩
       simp only at i1 i2 i3 i4
       by_cases hc : 4294967296 ≤ q ∨ r * 4294967296 + u0 < q * Y0
       ·obtain ⟨c1, c2⟩ := digit_less (by omega) hQ2 bq2.2.2 (by omega) i1 hc
        refine Holds.next (fun σ => ∀ a w, Rel cx w0 σ a w → Rel cx w0 { nt := 135, env := [(18, .v true (.int .u64 q)), (16, .v true (.int .u64 r)), (17, .v true (.int .u64 W)), (15, .v true (.int .u64 Q)), (9, .v true (.int .u64 Y1)), (10, .v true (.int .u64 Y0)), (14, .v true (.int .u64 u0)), (2, .v true (.int .u64 Y)), (8, .v true (.int .u64 s))], mem := [] } a w) ?_ ?_
        ·by_cases hq1 : 4294967296 ≤ q
         ·refine zs1 hq1 ?_
          exact Holds.condT rfl (Holds.skip fun a w h => Rel.keep [18, 16, 17, 15, 9, 10, 14, 2, 8] [] h)
         ·have hc' : r * 4294967296 + u0 < q * Y0 := by omega
          have m1 := mul_small (q := q) (Y0 := Y0) (by omega) (by omega)
          have x1 := mulN q Y0
          obtain ⟨m, hm⟩ : ∃ m, m = q * Y0 := ⟨_, rfl⟩
          rw [← hm] at m1 hc' x1
          have x2 := wrapN m (by omega)
          have x3 : IntKind.u64.wrap ((4294967296 : Int) * (r : Int)) = ((4294967296 * r : Nat) : Int) := by rw [wrap_u64]; omega
          have x4 : IntKind.u64.wrap (((4294967296 * r : Nat) : Int) + (u0 : Int)) = ((4294967296 * r + u0 : Nat) : Int) := by rw [wrap_u64]; omega
          have x5 : ((4294967296 * r + u0 : Nat) : Int) < (m : Int) := by omega
          have x6 : ¬ (4294967296 : Int) ≤ (q : Int) := by omega
          refine zs1 (an x1 <| an x2 <| an x3 <| an x4 <| an x5 <| x6) ?_
          exact Holds.condT rfl (Holds.skip fun a w h => Rel.keep [18, 16, 17, 15, 9, 10, 14, 2, 8] [] h)
        ·intro σ hσ
         refine Holds.from hσ ?_
         refine Holds.block ?_
         have y1 : IntKind.u64.wrap ((q : Int) - 1) = ((q - 1 : Nat) : Int) := by rw [wrap_u64]; omega
         have y2 : IntKind.u64.wrap ((r : Int) + (Y1 : Int)) = ((r + Y1 : Nat) : Int) := by rw [wrap_u64]; omega
         refine zs1 y1 ?_
         refine zs1 y2 ?_
         by_cases hb : 4294967296 ≤ r + Y1
         ·have hb' : (4294967296 : Int) ≤ ((r + Y1 : Nat) : Int) := by omega
          have m1 := mul_small (q := q - 1) (Y0 := Y0) (by omega) (by omega)
          have hd := digit_done (q := q - 1) (r := r + Y1) hQ2 (by omega) c2 (by omega) (by omega)
          refine zs1 hb' ?_
          refine Holds.condT rfl (Holds.exit (blockQ_other (by decide) ⟨rfl, fun a w h => ?_⟩))
          rw [← hd]
          exact Rel.keep [18, 17, 15, 14, 2, 8] [] h
         ·have hb' : ¬ (4294967296 : Int) ≤ ((r + Y1 : Nat) : Int) := by omega
          refine zs1 hb' ?_
          refine Holds.condF rfl (Holds.skip ?_)
          exact ⟨(q - 1, r + Y1), ⟨c2, by show Q2 ≤ q - 1; omega, by show q - 1 ≤ _; omega, by show r + Y1 < _; omega⟩, (show q - 1 < q by omega), fun a w h => Rel.keep [18, 16, 17, 15, 9, 10, 14, 2, 8] [] h⟩
       ·have hq1 : q < 4294967296 := by omega
        have hc' : q * Y0 ≤ r * 4294967296 + u0 := by omega
        have hd := digit_done hQ2 (by omega) i1 i2 hc'
        have m1 := mul_small (q := q) (Y0 := Y0) (by omega) (by omega)
        have x1 := mulN q Y0
        obtain ⟨m, hm⟩ : ∃ m, m = q * Y0 := ⟨_, rfl⟩
        rw [← hm] at m1 hc' x1
        have x2 := wrapN m (by omega)
        have x3 : IntKind.u64.wrap ((4294967296 : Int) * (r : Int)) = ((4294967296 * r : Nat) : Int) := by rw [wrap_u64]; omega
        have x4 : IntKind.u64.wrap (((4294967296 * r : Nat) : Int) + (u0 : Int)) = ((4294967296 * r + u0 : Nat) : Int) := by rw [wrap_u64]; omega
        have x5 : ¬ ((4294967296 * r + u0 : Nat) : Int) < (m : Int) := by omega
        have x6 : ¬ (4294967296 : Int) ≤ (q : Int) := by omega
        refine Holds.seq ?_
        refine zs1 (an x1 <| an x2 <| an x3 <| an x4 <| an x5 <| x6) ?_
        refine Holds.condF rfl (Holds.exit ⟨rfl, fun a w h => ?_⟩)
        rw [← hd]
        exact Rel.keep [18, 17, 15, 14, 2, 8] [] h
      ·intro σ hσ
       refine Holds.from hσ ?_
       clear w16 w17 w18 w19 w20 z1 z2 z3 z4 z5 eT hW Y1n
       have eR := Nat.div_add_mod (W * 4294967296 + u0) (Y1 * 4294967296 + Y0)
       rw [← hQ2, ← eY] at eR
       have bRm : (W * 4294967296 + u0) % Y < Y := Nat.mod_lt _ (by omega)
       obtain ⟨Rm, hR⟩ : ∃ Rm, Rm = (W * 4294967296 + u0) % Y := ⟨_, rfl⟩
       rw [← hR] at eR bRm
       have eR' : W * 4294967296 + u0 = Q2 * Y + Rm := by rw [Nat.mul_comm Q2 Y]; exact eR.symm
       have v1 := mulN Q2 Y
       obtain ⟨P2, hP2⟩ : ∃ P2, P2 = Q2 * Y := ⟨_, rfl⟩
       rw [← hP2] at v1 eR'
       have dq := div_whole (by omega) hY hU elo eLo hP eT' hP2 eR' bRm
       rw [dq.1]
       have dq2 := dq.2
       have bQ2 : Q2 < 4294967296 := bq2.2.2
       have bRm2 : Rm < 18446744073709551616 := by omega
       clear dq hU elo hLo hL1 hY1 hY0 eY bq2 eq2 br2 eR hQ2 hQ bU bLo bL1 b1 pw2 hu1 hu0 hY63 hY64
       have v2 : IntKind.u64.wrap ((Q : Int) * 4294967296) = ((Q * 4294967296 : Nat) : Int) := by rw [wrap_u64]; omega
       have v3 : IntKind.u64.wrap (((Q * 4294967296 : Nat) : Int) + (Q2 : Int)) = ((Q * 4294967296 + Q2 : Nat) : Int) := by rw [wrap_u64]; omega
       have v4 : IntKind.u64.wrap ((W : Int) * 4294967296) = ((W * 4294967296 % 18446744073709551616 : Nat) : Int) := by rw [wrap_u64]; omega
       have v5 : IntKind.u64.wrap (((W * 4294967296 % 18446744073709551616 : Nat) : Int) + (u0 : Int)) = (((P2 + Rm) % 18446744073709551616 : Nat) : Int) := by rw [wrap_u64]; omega
       have v6 := wrapM P2
       have v7 : IntKind.u64.wrap ((((P2 + Rm) % 18446744073709551616 : Nat) : Int) - ((P2 % 18446744073709551616 : Nat) : Int)) = (Rm : Int) := by rw [wrap_u64]; omega
       have v8 := shrG Rm s (by omega)
       rw [show Rm / 2 ^ s = (hi * 18446744073709551616 + lo) % y from by rw [dq2]; exact Nat.mul_div_cancel _ pw] at v8
       refine zs1 (an v1 <| an v2 <| an v3 <| an v4 <| an v5 <| an v6 <| an v7 <| v8) ?_
       exact Holds.ret (RetOk.vs rfl (by exact ⟨⟨rfl, id⟩, ⟨rfl, id⟩, trivial⟩) rfl)
theorem view_ok (l : List Int) (hl : l.length < 1000000000) : FnOk Tryz.prog 137 [.v (words l)] [.v false (words (trimL l))] := by
 refine FnOk.of Tryz.func137 rfl rfl fun cx w0 => ?_
 rw [show Tryz.f137.ntmps = 22 from rfl]
 refine zs0 ?_
 refine zs0 ?_
 refine Holds.next (fun σ => ∃ env, σ = { nt := 22, env, mem := [] } ∧ look env 3 = .v true (.int .i64 (trimW l l.length : Nat)) ∧ look env 0 = .v false (.sl 1 (l.map fun n => .int .u64 n)))
  (Holds.loopB (fun n : Nat => { nt := 22, env := [(3, .v true (.int .i64 (n : Int))), (0, .v false (.sl 1 (l.map fun n => .int .u64 n)))], mem := [] }) (fun n => n ≤ l.length ∧ trimW l n = trimW l l.length) id l.length ⟨Nat.le_refl _, rfl⟩ (fun a w h => Rel.keep [3, 0] [] h) ?_) ?_
 ·rintro n ⟨hn, ht⟩
  rcases n with _ | n
  ·refine Holds.seq ?_
   refine zs0 ?_
   refine Holds.condF rfl (Holds.exit ⟨rfl, _, rfl, ?_, rfl⟩)
   rw [← ht]; rfl
  ·have hlt : n < l.length := by omega
   have e1 : l[n]? = some (l.getD n 0) := by rw [List.getD_eq_getElem?_getD, List.getElem?_eq_getElem hlt]; rfl
   refine Holds.seq ?_
   refine zs1 e1 ?_
   by_cases h0 : l.getD n 0 = 0
   ·refine Holds.condT (nw := true) (by rw [h0]; rfl) (Holds.skip ?_)
    refine Holds.block ?_
    refine zr0 ?_
    refine ⟨n, ⟨by omega, ?_⟩, by simp, fun a w h => Rel.keep [3, 0] [] h⟩
    rw [← ht, trimW, if_pos h0]
   ·refine Holds.condF (nw := true) (by rw [decide_eq_false h0]; rfl) (Holds.exit ⟨rfl, _, rfl, ?_, rfl⟩)
    rw [← ht, trimW, if_neg h0]
    rfl
 ·rintro σ ⟨env, rfl, e3, e0⟩
  have hle := trimW_le l l.length
  refine zs1 (an e3 <| e0) ?_
  refine Holds.ret ⟨_, [], rfl, ⟨⟨?_, by simp⟩, trivial⟩, by simp [R.names, R.mems, R.blks], by simp, rfl⟩
  rw [words, trimL, List.map_take]
theorem wTrim_ok (l : List Int) (hl : l.length < 1000000) (ol : okW l) : FnOk Tryz.prog 133 [.v (words l)] [.v true (words (digs (val l)))] := by
 have h1 := view_ok l (by omega)
 have hlen := trimL_len l
 rw [← trim_digs ol]
 obtain ⟨m, hm⟩ : ∃ m, m = trimL l := ⟨_, rfl⟩
 rw [← hm] at h1 hlen ⊢
 refine FnOk.of Tryz.func133 rfl rfl fun cx w0 => ?_
 rw [show Tryz.f133.ntmps = 12 from rfl]
 refine zs0 ?_
 refine Holds.seq ?_
 refine zs2 (ρ := fun _ => [.v false (words m)]) (o := by repeat' first|exact h1|trivial|constructor) (k := ?_)
 by_cases h0 : m = []
 ·subst h0
  refine zs0 ?_
  refine Holds.condF rfl (Holds.skip ?_)
  refine zs0 ?_
  exact Holds.ret ⟨_, [], rfl, ⟨rfl, trivial⟩, by simp [R.names, R.mems, R.blks], by simp, rfl⟩
 ·have hpos : 0 < m.length := List.length_pos_iff.2 h0
  have g : (0 : Int) < m.length := by omega
  have hall := flatW m
  refine zs1 g ?_
  refine Holds.condT rfl ?_
  refine zs1 (an tby76 <| hall) ?_
  exact Holds.ret ⟨_, [], rfl, ⟨⟨rfl, by rw [List.drop_zero, List.take_of_length_le (by simp)], id, rfl⟩, trivial⟩, by simp [R.names, R.mems, R.blks], by simp, rfl⟩
theorem wWord_ok (u : Nat) (hu : u < 18446744073709551616) : FnOk Tryz.prog 204 [.v (.int .u64 u)] [.v true (words (digs u))] := by
 have h1 := wTrim_ok [(u : Int)] (by simp) (by intro n hn; simp at hn; omega)
 rw [show val [(u : Int)] = u from by simp [val]] at h1
 refine FnOk.of Tryz.func204 rfl rfl fun cx w0 => ?_
 rw [show Tryz.f204.ntmps = 6 from rfl]
 refine zs0 ?_
 refine zs2 (ρ := fun _ => [.v true (words (digs u))]) (o := by repeat' first|exact h1|trivial|constructor) (k := ?_)
 exact Holds.ret (RetOk.vs rfl (by exact ⟨⟨rfl, id⟩, trivial⟩) rfl)
theorem val_zero {l : List Int} (ol : okW l) : trimL l = [] ↔ val l = 0 := by
 rw [trim_digs ol]
 constructor
 ·intro h
  have := (digs_ok (val l)).2.2
  rw [h] at this
  simpa [val] using this.symm
 ·intro h
  rw [h]; rfl
theorem wZero_ok (l : List Int) (hl : l.length < 1000000) (ol : okW l) : FnOk Tryz.prog 108 [.v (words l)] [.v true (.bool (decide (val l = 0)))] := by
 have h1 := view_ok l (by omega)
 have hz := val_zero ol
 obtain ⟨m, hm⟩ : ∃ m, m = trimL l := ⟨_, rfl⟩
 rw [← hm] at h1 hz
 refine FnOk.of Tryz.func108 rfl rfl fun cx w0 => ?_
 rw [show Tryz.f108.ntmps = 7 from rfl]
 refine zs0 ?_
 by_cases h0 : m = []
 ·rw [decide_eq_true (hz.1 h0)]
  subst h0
  refine zs2 (ρ := fun _ => [.v false (words [])]) (o := by repeat' first|exact h1|trivial|constructor) (k := ?_)
  exact Holds.ret (RetOk.vs rfl (by exact ⟨⟨rfl, id⟩, trivial⟩) rfl)
 ·rw [decide_eq_false (fun h => h0 (hz.2 h))]
  have hpos : 0 < m.length := List.length_pos_iff.2 h0
  have g : ¬ (m.length : Int) = 0 := by omega
  refine zs3 (ρ := fun _ => [.v false (words m)]) g (o := by repeat' first|exact h1|trivial|constructor) (k := ?_)
  exact Holds.ret (RetOk.vs rfl (by exact ⟨⟨rfl, id⟩, trivial⟩) rfl)
def zeros (n : Nat) : List Int := List.replicate n 0
theorem okW_zeros (n : Nat) : okW (zeros n) := fun m hm => by rw [zeros, List.mem_replicate] at hm; omega
theorem val_zeros0 : ∀ n, val (zeros n) = 0
 | 0 => rfl
 | n + 1 => by rw [zeros, List.replicate_succ, val]; have := val_zeros0 n; rw [zeros] at this; rw [this]; rfl
theorem zeros_getD (n i : Nat) : (zeros n).getD i 0 = 0 := by
 rw [zeros, List.getD_eq_getElem?_getD, List.getElem?_replicate]
 split <;> rfl
theorem getD_far {l : List Int} {i : Nat} (h : l.length ≤ i) : l.getD i 0 = 0 := by
 rw [List.getD_eq_getElem?_getD, List.getElem?_eq_none h]; rfl
theorem val_take_all {l : List Int} {n : Nat} (h : l.length ≤ n) : l.take n = l := List.take_of_length_le h
def adI (x y : List Int) (n : Nat) : Nat → List Int × Int
 | 0 => (zeros n, 0)
 | k + 1 => ((adI x y n k).1.set k ((x.getD k 0 + y.getD k 0 + (adI x y n k).2) % 18446744073709551616), (x.getD k 0 + y.getD k 0 + (adI x y n k).2) / 18446744073709551616)
theorem adI_ok {x y : List Int} {n : Nat} (ox : okW x) (oy : okW y) : ∀ k, okW (adI x y n k).1 ∧ (0 ≤ (adI x y n k).2 ∧ (adI x y n k).2 ≤ 1) ∧ (adI x y n k).1.length = n ∧ ∀ j, k ≤ j → (adI x y n k).1.getD j 0 = 0
 | 0 => ⟨okW_zeros n, ⟨by show (0:Int) ≤ 0; omega, by show (0:Int) ≤ 1; omega⟩, by simp [adI, zeros], fun j _ => zeros_getD n j⟩
 | k + 1 => by
   obtain ⟨h1, h2, h3, h4⟩ := adI_ok (n := n) ox oy k
   have hx := okW_getD ox k
   have hy := okW_getD oy k
   rw [adI]
   refine ⟨okW_set h1 (by omega), by simp only; omega, by simp only; rw [List.length_set, h3], fun j hj => ?_⟩
   simp only
   rw [List.getD_eq_getElem?_getD, List.getElem?_set_ne (by omega), ← List.getD_eq_getElem?_getD]
   exact h4 j (by omega)
theorem adI_val {x y : List Int} {n : Nat} (ox : okW x) (oy : okW y) : ∀ k, k ≤ n → val (adI x y n k).1 + 18446744073709551616 ^ k * (adI x y n k).2.toNat = val (x.take k) + val (y.take k)
 | 0, _ => by simp [adI, val_zeros0, val]
 | k + 1, hk => by
   obtain ⟨h1, h2, h3, h4⟩ := adI_ok (n := n) ox oy k
   have ih := adI_val (n := n) ox oy k (by omega)
   have hx := okW_getD ox k
   have hy := okW_getD oy k
   rw [val_take_succ, val_take_succ, adI]
   have hs := val_set (l := (adI x y n k).1) (i := k) (n := (x.getD k 0 + y.getD k 0 + (adI x y n k).2) % 18446744073709551616) (by omega)
   rw [h4 k (Nat.le_refl _)] at hs
   simp only
   generalize (adI x y n k).1 = L at *
   generalize (adI x y n k).2 = c at *
   generalize x.getD k 0 = a at *
   generalize y.getD k 0 = b at *
   generalize val (L.set k ((a + b + c) % 18446744073709551616)) = W at *
   rw [Nat.pow_succ]
   generalize 18446744073709551616 ^ k = P at *
   have e0 : P * (0 : Int).toNat = 0 := by simp
   have e1 : P * 18446744073709551616 * ((a + b + c) / 18446744073709551616).toNat + P * ((a + b + c) % 18446744073709551616).toNat = P * a.toNat + P * b.toNat + P * c.toNat := by
    rw [Nat.mul_assoc, ← Nat.mul_add, ← Nat.mul_add, ← Nat.mul_add]
    congr 1
    omega
   omega
theorem add_shape {x y : List Int} (h : y.length ≤ x.length) (ox : okW x) (oy : okW y) : val ((adI x y (x.length + 1) x.length).1.set x.length (adI x y (x.length + 1) x.length).2) = val x + val y ∧ okW ((adI x y (x.length + 1) x.length).1.set x.length (adI x y (x.length + 1) x.length).2) := by
 obtain ⟨h1, h2, h3, h4⟩ := adI_ok (n := x.length + 1) ox oy x.length
 have hv := adI_val (n := x.length + 1) ox oy x.length (by omega)
 rw [val_take_all (Nat.le_refl _), val_take_all h] at hv
 have hs := val_set (l := (adI x y (x.length + 1) x.length).1) (i := x.length) (n := (adI x y (x.length + 1) x.length).2) (by omega)
 rw [h4 _ (Nat.le_refl _)] at hs
 refine ⟨?_, okW_set h1 (by omega)⟩
 have e0 : 18446744073709551616 ^ x.length * (0 : Int).toNat = 0 := by simp
 omega
set_option maxHeartbeats 1000000 in
theorem wAdd_ok (x y : List Int) (hx : x.length < 500000) (hy : y.length < 500000) (ox : okW x) (oy : okW y) : FnOk Tryz.prog 131 [.v (words x), .v (words y)] [.v true (words (digs (val x + val y)))] := by
 refine FnOk.of Tryz.func131 rfl rfl fun cx w0 => ?_
 rw [show Tryz.f131.ntmps = 54 from rfl]
 refine zs0 ?_
 obtain ⟨Z, hV⟩ : ∃ Z, Z = val x + val y := ⟨_, rfl⟩
 rw [← hV]
 refine Holds.next (fun σ => ∃ a b : List Int, a.length < 500000 ∧ b.length ≤ a.length ∧ okW a ∧ okW b ∧ Z = val a + val b ∧ ∀ v w, Rel cx w0 σ v w → Rel cx w0 { nt := 54, env := [(1, .v false (words b)), (0, .v false (words a))], mem := [] } v w) ?_ ?_
 ·by_cases h : x.length < y.length
  ·have g : (x.length : Int) < y.length := by omega
   refine zs1 g ?_
   refine Holds.condT rfl ?_
   refine zr0 ?_
   exact ⟨y, x, hy, by omega, oy, ox, by omega, fun a w h => Rel.keep [1, 0] [] h⟩
  ·have g : ¬ (x.length : Int) < y.length := by omega
   refine zs1 g ?_
   exact Holds.condF rfl (Holds.skip ⟨x, y, hx, by omega, ox, oy, hV, fun a w h => Rel.keep [1, 0] [] h⟩)
 clear hx hy ox oy hV
 rintro σ ⟨x, y, hx, hle, ox, oy, hV, hσ⟩
 refine Holds.from hσ ?_
 clear hσ
 obtain ⟨hfin, hfo⟩ := add_shape hle ox oy
 rw [← hV] at hfin
 obtain ⟨N, hN⟩ : ∃ N, N = x.length + 1 := ⟨_, rfl⟩
 have e1 : IntKind.i64.wrap ((x.length : Int) + 1) = (N : Int) := by rw [wrap_i64 (by omega) (by omega)]; omega
 rw [← hN] at hfin hfo
 refine zs1 (an e1 <| tby76) ?_
 refine zs0 ?_
 have hrep : List.replicate N (V.int IntKind.u64 0) = (zeros N).map fun n => V.int .u64 n := by rw [zeros, List.map_replicate]
 rw [hrep]
 have hI := adI_ok (n := N) ox oy
 refine Holds.next (fun σ => ∀ a w, Rel cx w0 σ a w → Rel cx w0 { nt := 54, env := [(6, .v true (.int .u64 (adI x y N x.length).2)), (5, .own 19 0 N), (0, .v false (words x))], mem := [(19, .buf 91 1 true ((adI x y N x.length).1.map fun n => .int .u64 n))] } a w) ?_ ?_
 ·refine zs0 ?_
  refine Holds.loopB (fun k : Nat => { nt := 54, env := [(22, .v true (.int .i64 (k : Nat))), (21, .v true (.int .i64 (x.length : Nat))), (6, .v true (.int .u64 (adI x y N k).2)), (5, .own 19 0 N), (1, .v false (words y)), (0, .v false (words x))], mem := [(19, .buf 91 1 true ((adI x y N k).1.map fun n => .int .u64 n))] })
   (fun k => k ≤ x.length) (fun k => x.length - k) 0 (Nat.zero_le _) (fun a w h => Rel.keep [22, 21, 6, 5, 1, 0] [19] h) ?_
  intro k hk
  obtain ⟨h1, h2, h3, h4⟩ := hI k
  by_cases hend : k = x.length
  ·subst hend
   refine zs0 ?_
   exact Holds.seq (Holds.condF rfl (Holds.exit ⟨rfl, fun a w h => Rel.keep [6, 5, 0] [19] h⟩))
  ·have hkl : k < x.length := by omega
   have g : (k : Int) < x.length := by omega
   have e2 : IntKind.i64.wrap ((k : Int) + 1) = ((k + 1 : Nat) : Int) := by rw [wrap_i64 (by omega) (by omega)]; omega
   have hx1 := okW_getD ox k
   have hy1 := okW_getD oy k
   refine zs1 g ?_
   refine Holds.seq (Holds.condT rfl (Holds.skip ?_))
   refine Holds.seq (Holds.block ?_)
   refine zs0 ?_
   refine zs0 ?_
   refine Holds.next (fun σ => ∀ a w, Rel cx w0 σ a w → Rel cx w0 { nt := 54, env := [(7, .v true (.int .i64 (k : Nat))), (8, .v true (.int .u64 (y.getD k 0))), (22, .v true (.int .i64 (k : Nat))), (21, .v true (.int .i64 (x.length : Nat))), (6, .v true (.int .u64 (adI x y N k).2)), (5, .own 19 0 N), (1, .v false (words y)), (0, .v false (words x))], mem := [(19, .buf 91 1 true ((adI x y N k).1.map fun n => .int .u64 n))] } a w) ?_ ?_
   ·by_cases hky : k < y.length
    ·have g1 : (k : Int) < y.length := by omega
     refine zs1 g1 ?_
     refine Holds.condT rfl ?_
     refine zr1 ((get_map hky)) ?_
     exact fun a w h => Rel.keep [7, 8, 22, 21, 6, 5, 1, 0] [19] h
    ·have g1 : ¬ (k : Int) < y.length := by omega
     refine zs1 g1 ?_
     refine Holds.condF rfl (Holds.skip fun a w h => ?_)
     rw [getD_far (l := y) (by omega)]
     exact Rel.keep [7, 8, 22, 21, 6, 5, 1, 0] [19] h
   ·intro σ hσ
    refine Holds.from hσ ?_
    have hik : k < (adI x y N k).1.length := by omega
    have e : adI x y N (k + 1) = ((adI x y N k).1.set k ((x.getD k 0 + y.getD k 0 + (adI x y N k).2) % 18446744073709551616), (x.getD k 0 + y.getD k 0 + (adI x y N k).2) / 18446744073709551616) := rfl
    have hA := add64_ok _ _ _ hx1.1 hy1.1 h2.1 h2.2
    obtain ⟨k1, hk1⟩ : ∃ k1, k1 = k + 1 := ⟨_, rfl⟩
    rw [← hk1] at e2 e
    refine zr3 (ρ := fun _ => [.v true (.int .u64 ((x.getD k 0 + y.getD k 0 + (adI x y N k).2) % 18446744073709551616)), .v true (.int .u64 ((x.getD k 0 + y.getD k 0 + (adI x y N k).2) / 18446744073709551616))]) (an (get_map hkl) <| an (get_map hik) <| hik) (o := by repeat' first|exact hA|trivial|constructor) (k := ?_)
    show Holds _ _ _ _ _ _ _
    refine zr1 e2 ?_
    refine ⟨k1, by omega, (show x.length - k1 < x.length - k by omega), fun a w h => ?_⟩
    simp only [e, List.map_set]
    exact Rel.keep [22, 21, 6, 5, 1, 0] [19] h
 ·intro σ hσ
  refine Holds.from hσ ?_
  obtain ⟨h1, h2, h3, h4⟩ := hI x.length
  have hT := wTrim_ok _ (by rw [List.length_set, h3]; omega) hfo
  rw [hfin] at hT
  have hik : x.length < (adI x y N x.length).1.length := by omega
  obtain ⟨L, hL⟩ : ∃ L, L = (adI x y N x.length).1 := ⟨_, rfl⟩
  rw [← hL] at hT hik h3 ⊢
  have g : (x.length : Int) < N := by omega
  have hxN : x.length < N := by omega
  refine zs1 (an (get_map hik) <| an g <| hxN) ?_
  have hms : (L.map fun n => V.int .u64 n).set x.length (V.int .u64 (adI x y N x.length).2) = (L.set x.length (adI x y N x.length).2).map fun n => V.int .u64 n := by rw [List.map_set]
  rw [hms]
  have htk : List.take N (List.map (fun n => V.int .u64 n) (L.set x.length (adI x y N x.length).2)) = List.map (fun n => V.int .u64 n) (L.set x.length (adI x y N x.length).2) := List.take_of_length_le (by rw [List.length_map, List.length_set]; omega)
  refine zs3 (ρ := fun _ => [.v true (words (digs Z))]) htk (o := by repeat' first|exact hT|trivial|constructor) (k := ?_)
  exact Holds.ret (RetOk.vs rfl (by exact ⟨⟨rfl, id⟩, trivial⟩) rfl)
def wmI (ai : Int) (b : List Int) (i : Nat) (s : List Int × Int) : Nat → List Int × Int
 | 0 => s
 | k + 1 => ((wmI ai b i s k).1.set (i + k) (((wmI ai b i s k).2 + (wmI ai b i s k).1.getD (i + k) 0 + ai * b.getD k 0) % 18446744073709551616), ((wmI ai b i s k).2 + (wmI ai b i s k).1.getD (i + k) 0 + ai * b.getD k 0) / 18446744073709551616)
def wmO (a b : List Int) : Nat → List Int
 | 0 => List.replicate (a.length + b.length) 0
 | i + 1 => (wmI (a.getD i 0) b i (wmO a b i, 0) b.length).1.set (i + b.length) (wmI (a.getD i 0) b i (wmO a b i, 0) b.length).2
theorem wm_bound {ai u : Int} (ha : 0 ≤ ai ∧ ai < 18446744073709551616) (hu : 0 ≤ u ∧ u < 18446744073709551616) : 0 ≤ ai * u ∧ ai * u ≤ 340282366920938463426481119284349108225 := by
 refine ⟨Int.mul_nonneg ha.1 hu.1, ?_⟩
 have : ai * u ≤ 18446744073709551615 * 18446744073709551615 := Int.mul_le_mul (by omega) (by omega) hu.1 (by omega)
 omega
theorem wmI_ok {ai : Int} {b : List Int} {i : Nat} {s : List Int × Int} (ha : 0 ≤ ai ∧ ai < 18446744073709551616) (ob : okW b) (hs : okW s.1) (hc : 0 ≤ s.2 ∧ s.2 < 18446744073709551616) : ∀ k, okW (wmI ai b i s k).1 ∧ (0 ≤ (wmI ai b i s k).2 ∧ (wmI ai b i s k).2 < 18446744073709551616) ∧ (wmI ai b i s k).1.length = s.1.length
 | 0 => ⟨hs, hc, rfl⟩
 | k + 1 => by
   obtain ⟨h1, h2, h3⟩ := wmI_ok (i := i) ha ob hs hc k
   have h4 := okW_getD h1 (i + k)
   have h5 := wm_bound ha (okW_getD ob k)
   rw [wmI]
   refine ⟨okW_set h1 (by omega), by simp only; omega, by simp only; rw [List.length_set, h3]⟩
theorem wmI_far {ai : Int} {b : List Int} {i : Nat} {s : List Int × Int} : ∀ k j, i + k ≤ j → (wmI ai b i s k).1.getD j 0 = s.1.getD j 0
 | 0, _, _ => rfl
 | k + 1, j, h => by
   rw [wmI]
   simp only
   rw [List.getD_eq_getElem?_getD, List.getElem?_set_ne (by omega), ← List.getD_eq_getElem?_getD]
   exact wmI_far k j (by omega)
theorem wmI_val {ai : Int} {b : List Int} {i : Nat} {s : List Int × Int} (ha : 0 ≤ ai ∧ ai < 18446744073709551616) (ob : okW b) (hs : okW s.1) (hc : 0 ≤ s.2 ∧ s.2 < 18446744073709551616) : ∀ k, i + k ≤ s.1.length →
 val (wmI ai b i s k).1 + 18446744073709551616 ^ (i + k) * (wmI ai b i s k).2.toNat = val s.1 + 18446744073709551616 ^ i * (ai.toNat * val (b.take k) + s.2.toNat)
 | 0, _ => by rw [wmI, List.take_zero, val]; simp
 | k + 1, hk => by
   have ih := wmI_val (i := i) ha ob hs hc k (by omega)
   obtain ⟨h1, h2, h3⟩ := wmI_ok (i := i) ha ob hs hc k
   have hi : i + k < (wmI ai b i s k).1.length := by omega
   have hz := okW_getD h1 (i + k)
   have hu := okW_getD ob k
   have hp := wm_bound ha hu
   rw [wmI, val_take_succ]
   simp only
   have hset := val_set (n := ((wmI ai b i s k).2 + (wmI ai b i s k).1.getD (i + k) 0 + ai * b.getD k 0) % 18446744073709551616) hi
   generalize (wmI ai b i s k).1.getD (i + k) 0 = z at *
   generalize b.getD k 0 = u at *
   generalize (wmI ai b i s k).2 = c at *
   have em0 : (ai * u).toNat = ai.toNat * u.toNat := by
    obtain ⟨A, rfl⟩ : ∃ n : Nat, ai = n := ⟨ai.toNat, by omega⟩
    obtain ⟨U, rfl⟩ : ∃ n : Nat, u = n := ⟨u.toNat, by omega⟩
    rw [← Int.natCast_mul, Int.toNat_natCast, Int.toNat_natCast, Int.toNat_natCast]
   have eD : 18446744073709551616 ^ (i + (k + 1)) = 18446744073709551616 ^ (i + k) * 18446744073709551616 := by rw [← Nat.add_assoc, Nat.pow_succ]
   have eA : 18446744073709551616 ^ i * (ai.toNat * (val (b.take k) + 18446744073709551616 ^ k * u.toNat) + s.2.toNat) = 18446744073709551616 ^ i * (ai.toNat * val (b.take k) + s.2.toNat) + 18446744073709551616 ^ (i + k) * (ai * u).toNat := by
    rw [em0, Nat.pow_add, Nat.mul_assoc, ← Nat.mul_add]
    congr 1
    rw [Nat.mul_add, Nat.mul_left_comm]
    omega
   generalize ai * u = m at *
   have er : ((c + z + m) % 18446744073709551616).toNat + 18446744073709551616 * ((c + z + m) / 18446744073709551616).toNat = z.toNat + m.toNat + c.toNat := by omega
   have em : 18446744073709551616 ^ (i + k) * ((c + z + m) % 18446744073709551616).toNat + 18446744073709551616 ^ (i + k) * (18446744073709551616 * ((c + z + m) / 18446744073709551616).toNat) = 18446744073709551616 ^ (i + k) * z.toNat + 18446744073709551616 ^ (i + k) * m.toNat + 18446744073709551616 ^ (i + k) * c.toNat := by
    rw [← Nat.mul_add, er, Nat.mul_add, Nat.mul_add]
   rw [eD, eA, Nat.mul_assoc]
   generalize 18446744073709551616 ^ (i + k) * ((c + z + m) % 18446744073709551616).toNat = a1 at *
   generalize 18446744073709551616 ^ (i + k) * (18446744073709551616 * ((c + z + m) / 18446744073709551616).toNat) = a2 at *
   generalize 18446744073709551616 ^ (i + k) * z.toNat = a3 at *
   generalize 18446744073709551616 ^ (i + k) * m.toNat = a4 at *
   generalize 18446744073709551616 ^ (i + k) * c.toNat = a5 at *
   generalize 18446744073709551616 ^ i * (ai.toNat * val (b.take k) + s.2.toNat) = a6 at *
   omega
theorem wmO_ok {a b : List Int} (oa : okW a) (ob : okW b) : ∀ i, i ≤ a.length → okW (wmO a b i) ∧ (wmO a b i).length = a.length + b.length ∧ val (wmO a b i) = val (a.take i) * val b ∧ ∀ j, i + b.length ≤ j → (wmO a b i).getD j 0 = 0
 | 0, _ => by
   refine ⟨fun n hn => by rw [wmO, List.mem_replicate] at hn; omega, by rw [wmO, List.length_replicate], ?_, fun j hj => ?_⟩
   ·rw [wmO, List.take_zero, val, Nat.zero_mul]
    have := val_zeros [] (a.length + b.length)
    rw [List.nil_append] at this
    exact this
   ·rw [wmO, List.getD_eq_getElem?_getD]
    cases h : (List.replicate (a.length + b.length) (0 : Int))[j]? with
    | none => rfl
    | some x => have := List.mem_of_getElem? h; rw [List.mem_replicate] at this; exact this.2
 | i + 1, hi => by
   obtain ⟨h1, h2, h3, h4⟩ := wmO_ok oa ob i (by omega)
   have ha := okW_getD oa i
   obtain ⟨k1, k2, k3⟩ := wmI_ok (i := i) (s := (wmO a b i, 0)) ha ob h1 (by simp) b.length
   have kv := wmI_val (i := i) (s := (wmO a b i, 0)) ha ob h1 (by simp) b.length (by simp only; omega)
   have kf := wmI_far (ai := a.getD i 0) (b := b) (i := i) (s := (wmO a b i, 0)) b.length
   have hlt : i + b.length < (wmI (a.getD i 0) b i (wmO a b i, 0) b.length).1.length := by rw [k3]; simp only; omega
   rw [wmO]
   refine ⟨okW_set k1 k2, by rw [List.length_set, k3]; exact h2, ?_, fun j hj => ?_⟩
   ·have hs := val_set (n := (wmI (a.getD i 0) b i (wmO a b i, 0) b.length).2) hlt
    have h0 : (wmI (a.getD i 0) b i (wmO a b i, 0) b.length).1.getD (i + b.length) 0 = 0 := by
     rw [kf _ (Nat.le_refl _)]
     exact h4 _ (Nat.le_refl _)
    rw [h0, Int.toNat_zero, Nat.mul_zero, Nat.add_zero] at hs
    rw [List.take_length] at kv
    simp only [Int.toNat_zero, Nat.add_zero] at kv
    rw [hs, kv, h3, val_take_succ, Nat.add_mul, Nat.mul_assoc]
   ·rw [List.getD_eq_getElem?_getD, List.getElem?_set_ne (by omega), ← List.getD_eq_getElem?_getD, kf _ (by omega)]
    exact h4 _ (by omega)
theorem mul_step {A U z c : Nat} (hA : A < 18446744073709551616) (hU : U < 18446744073709551616) (hz : z < 18446744073709551616) (hc : c < 18446744073709551616) :
 ((A * U % 18446744073709551616 + z) % 18446744073709551616 + c) % 18446744073709551616 = (c + z + A * U) % 18446744073709551616 ∧
 A * U / 18446744073709551616 + (A * U % 18446744073709551616 + z) / 18446744073709551616 + ((A * U % 18446744073709551616 + z) % 18446744073709551616 + c) / 18446744073709551616 = (c + z + A * U) / 18446744073709551616 ∧
 (c + z + A * U) / 18446744073709551616 < 18446744073709551616 := by
 have hp : A * U ≤ 18446744073709551615 * 18446744073709551615 := Nat.mul_le_mul (by omega) (by omega)
 generalize A * U = p at *
 omega
set_option maxHeartbeats 2000000 in
theorem wMul_ok (x y : List Int) (hx : x.length < 400000) (hy : y.length < 400000) (ox : okW x) (oy : okW y) : FnOk Tryz.prog 57 [.v (words x), .v (words y)] [.v true (words (digs (val x * val y)))] := by
 have v1 := view_ok x (by omega)
 have v2 := view_ok y (by omega)
 have t1 := trimL_len x
 have t2 := trimL_len y
 have o1 := trimL_ok ox
 have o2 := trimL_ok oy
 rw [← val_trim x, ← val_trim y]
 generalize trimL x = a at *
 generalize trimL y = b at *
 refine FnOk.of Tryz.func57 rfl rfl fun cx w0 => ?_
 rw [show Tryz.f57.ntmps = 93 from rfl]
 refine zs0 ?_
 refine zs2 (ρ := fun d => if d = 15 then [.v false (words a)] else [.v false (words b)]) (o := by repeat' first|exact v1|exact v2|trivial|constructor) (k := ?_)
 refine Holds.from (σ' := { nt := 93, env := [(1, .v false (words b)), (0, .v false (words a))], mem := [] }) (fun a w h => Rel.keep [1, 0] [] h) ?_
 by_cases ha0 : a = []
 ·subst ha0
  rw [show val ([] : List Int) * val b = 0 from by simp [val]]
  refine Holds.seq ?_
  refine zs0 ?_
  refine Holds.condT rfl ?_
  refine zs0 ?_
  rw [show words (digs 0) = .sl 1 [] from rfl]
  exact Holds.ret ⟨_, [], rfl, ⟨rfl, trivial⟩, by simp [R.names, R.mems, R.blks], by simp, rfl⟩
 by_cases hb0 : b = []
 ·subst hb0
  rw [show val a * val ([] : List Int) = 0 from by simp [val]]
  have hpos : 0 < a.length := List.length_pos_iff.2 ha0
  have g : ¬ (a.length : Int) = 0 := by omega
  refine Holds.seq ?_
  refine zs1 g ?_
  refine Holds.condT rfl ?_
  refine zs0 ?_
  rw [show words (digs 0) = .sl 1 [] from rfl]
  exact Holds.ret ⟨_, [], rfl, ⟨rfl, trivial⟩, by simp [R.names, R.mems, R.blks], by simp, rfl⟩
 have hap : 0 < a.length := List.length_pos_iff.2 ha0
 have hbp : 0 < b.length := List.length_pos_iff.2 hb0
 have ga : ¬ (a.length : Int) = 0 := by omega
 have gb : ¬ (b.length : Int) = 0 := by omega
 refine Holds.next (fun σ => ∀ x w, Rel cx w0 σ x w → Rel cx w0 { nt := 93, env := [(1, .v false (words b)), (0, .v false (words a))], mem := [] } x w) ?_ ?_
 ·refine zs1 (an ga <| gb) ?_
  exact Holds.condF rfl (Holds.skip fun x w h => Rel.keep [1, 0] [] h)
 intro σ hσ
 refine Holds.from hσ ?_
 clear hσ ga gb
 obtain ⟨N, hN⟩ : ∃ N, N = a.length + b.length := ⟨_, rfl⟩
 have eN : IntKind.i64.wrap ((a.length : Int) + (b.length : Int)) = (N : Int) := by rw [wrap_i64 (by omega) (by omega)]; omega
 refine zs1 (an eN <| tby76) ?_
 obtain ⟨f1, f2, f3, f4⟩ := wmO_ok o1 o2 a.length (Nat.le_refl _)
 rw [val_take_all (Nat.le_refl _)] at f3
 refine Holds.next (fun σ => ∀ x w, Rel cx w0 σ x w → Rel cx w0 { nt := 93, env := [(5, .own 31 0 N)], mem := [(31, .buf 91 1 true ((wmO a b a.length).map fun n => .int .u64 n))] } x w) ?_ ?_
 ·refine zs0 ?_
  refine Holds.loopB (fun i : Nat => { nt := 93, env := [(34, .v true (.int .i64 (i : Nat))), (33, .v true (.int .i64 (a.length : Nat))), (32, .v false (words a)), (5, .own 31 0 N), (1, .v false (words b))], mem := [(31, .buf 91 1 true ((wmO a b i).map fun n => .int .u64 n))] }) (fun i => i ≤ a.length) (fun i => a.length - i) 0 (Nat.zero_le _) (fun x w h => by
   have := Rel.keep [34, 33, 32, 5, 1] [31] h
   rw [wmO, List.map_replicate, ← hN]
   exact this) ?_
  intro i hi
  obtain ⟨h1, h2, h3, h4⟩ := wmO_ok o1 o2 i hi
  by_cases hend : i = a.length
  ·have g : ¬ (i : Int) < a.length := by omega
   refine zs1 g ?_
   refine Holds.seq (Holds.condF rfl (Holds.exit ⟨rfl, fun x w h => ?_⟩))
   rw [← hend]
   exact Rel.keep [5] [31] h
  have hia : i < a.length := by omega
  have g : (i : Int) < a.length := by omega
  have hA := okW_getD o1 i
  have gA := get_map hia
  obtain ⟨A, hAe⟩ : ∃ A : Nat, a.getD i 0 = A := ⟨(a.getD i 0).toNat, by omega⟩
  rw [hAe] at hA gA
  obtain ⟨s, hs⟩ : ∃ s : List Int × Int, s = (wmO a b i, 0) := ⟨_, rfl⟩
  have hs1 : s.1 = wmO a b i := by rw [hs]
  have hs2 : s.2 = 0 := by rw [hs]
  have os : okW s.1 := by rw [hs1]; exact h1
  have hsl : s.1.length = N := by rw [hs1, h2, hN]
  have hI := wmI_ok (i := i) hA o2 os (by rw [hs2]; omega)
  have ei1 : IntKind.i64.wrap ((i : Int) + 1) = ((i + 1 : Nat) : Int) := by rw [wrap_i64 (by omega) (by omega)]; omega
  refine zs1 g ?_
  refine Holds.seq (Holds.condT rfl (Holds.skip ?_))
  show Holds _ _ _ _ _ _ _
  refine Holds.next (fun σ => ∀ x w, Rel cx w0 σ x w → Rel cx w0 { nt := 93, env := [(34, .v true (.int .i64 (i : Nat))), (33, .v true (.int .i64 (a.length : Nat))), (32, .v false (words a)), (5, .own 31 0 N), (1, .v false (words b))], mem := [(31, .buf 91 1 true ((wmO a b (i + 1)).map fun n => .int .u64 n))] } x w) ?_ ?_
  ·refine Holds.blockN ?_
   refine zs1 gA ?_
   refine zs0 ?_
   refine Holds.next (fun σ => ∀ x w, Rel cx w0 σ x w → Rel cx w0 { nt := 93, env := [(6, .v true (.int .i64 (i : Nat))), (8, .v true (.int .u64 (wmI A b i s b.length).2)), (34, .v true (.int .i64 (i : Nat))), (33, .v true (.int .i64 (a.length : Nat))), (32, .v false (words a)), (5, .own 31 0 N), (1, .v false (words b))], mem := [(31, .buf 91 1 true ((wmI A b i s b.length).1.map fun n => .int .u64 n))] } x w) ?_ ?_
   ·refine zs0 ?_
    refine Holds.loopB (fun k : Nat => { nt := 93, env := [(41, .v true (.int .i64 (k : Nat))), (40, .v true (.int .i64 (b.length : Nat))), (39, .v false (words b)), (6, .v true (.int .i64 (i : Nat))), (7, .v true (.int .u64 (A : Nat))), (8, .v true (.int .u64 (wmI A b i s k).2)), (34, .v true (.int .i64 (i : Nat))), (33, .v true (.int .i64 (a.length : Nat))), (32, .v false (words a)), (5, .own 31 0 N), (1, .v false (words b))], mem := [(31, .buf 91 1 true ((wmI A b i s k).1.map fun n => .int .u64 n))] }) (fun k => k ≤ b.length) (fun k => b.length - k) 0 (Nat.zero_le _) (fun x w h => by
     have := Rel.keep [41, 40, 39, 6, 7, 8, 34, 33, 32, 5, 1] [31] h
     rw [wmI, hs]
     exact this) ?_
    intro k hk
    obtain ⟨k1, k2, k3⟩ := hI k
    by_cases hend2 : k = b.length
    ·have g2 : ¬ (k : Int) < b.length := by omega
     refine zs1 g2 ?_
     refine Holds.seq (Holds.condF rfl (Holds.exit ⟨rfl, fun x w h => ?_⟩))
     rw [← hend2]
     exact Rel.keep [6, 8, 34, 33, 32, 5, 1] [31] h
    have hkb : k < b.length := by omega
    have g2 : (k : Int) < b.length := by omega
    have gB := get_map hkb
    have hU := okW_getD o2 k
    have hik : i + k < (wmI A b i s k).1.length := by omega
    have gZ := get_map hik
    have hZ := okW_getD k1 (i + k)
    have esucc : wmI A b i s (k + 1) = ((wmI A b i s k).1.set (i + k) (((wmI A b i s k).2 + (wmI A b i s k).1.getD (i + k) 0 + A * b.getD k 0) % 18446744073709551616), ((wmI A b i s k).2 + (wmI A b i s k).1.getD (i + k) 0 + A * b.getD k 0) / 18446744073709551616) := rfl
    obtain ⟨U, hUe⟩ : ∃ U : Nat, b.getD k 0 = U := ⟨(b.getD k 0).toNat, by omega⟩
    rw [hUe] at gB hU esucc
    obtain ⟨T, hT⟩ : ∃ T, T = wmI A b i s k := ⟨_, rfl⟩
    rw [← hT] at k1 k2 k3 hik gZ hZ esucc ⊢
    obtain ⟨z, hz⟩ : ∃ z : Nat, T.1.getD (i + k) 0 = z := ⟨(T.1.getD (i + k) 0).toNat, by omega⟩
    rw [hz] at gZ hZ esucc
    obtain ⟨c, hc⟩ : ∃ c : Nat, T.2 = c := ⟨T.2.toNat, by omega⟩
    rw [hc] at k2 esucc ⊢
    have hst := mul_step (A := A) (U := U) (z := z) (c := c) (by omega) (by omega) (by omega) (by omega)
    have hM := mul64_ok A U (by omega) (by omega)
    obtain ⟨hi_, hhi⟩ : ∃ h, h = A * U / 18446744073709551616 := ⟨_, rfl⟩
    obtain ⟨lo, hlo⟩ : ∃ l, l = A * U % 18446744073709551616 := ⟨_, rfl⟩
    have hlo8 : lo < 18446744073709551616 := by rw [hlo]; exact Nat.mod_lt _ (by decide)
    rw [← hhi, ← hlo] at hM hst
    have ecast : ((c : Int) + (z : Int) + (A : Int) * (U : Int)) = ((c + z + A * U : Nat) : Int) := by rw [Int.natCast_add, Int.natCast_add, Int.natCast_mul]
    rw [ecast] at esucc
    obtain ⟨q, hq⟩ : ∃ q, q = c + z + A * U := ⟨_, rfl⟩
    rw [← hq] at esucc hst
    obtain ⟨s1, hs1'⟩ : ∃ s1, s1 = (lo + z + 0) % 18446744073709551616 := ⟨_, rfl⟩
    obtain ⟨c1, hc1'⟩ : ∃ c1, c1 = (lo + z + 0) / 18446744073709551616 := ⟨_, rfl⟩
    have hA1 := add64N lo z 0 (by omega) hs1' hc1'
    obtain ⟨s2, hs2'⟩ : ∃ s2, s2 = (s1 + c + 0) % 18446744073709551616 := ⟨_, rfl⟩
    obtain ⟨c2, hc2'⟩ : ∃ c2, c2 = (s1 + c + 0) / 18446744073709551616 := ⟨_, rfl⟩
    have hA2 := add64N s1 c 0 (by omega) hs2' hc2'
    rw [Nat.add_zero] at hs1' hc1' hs2' hc2'
    rw [← hs1', ← hc1', ← hs2', ← hc2'] at hst
    obtain ⟨st1, st2, st3⟩ := hst
    obtain ⟨h1', hh1'⟩ : ∃ h, h = hi_ + c1 := ⟨_, rfl⟩
    have w1 : IntKind.u64.wrap ((hi_ : Int) + (c1 : Int)) = (h1' : Int) := by rw [wrap_u64]; omega
    obtain ⟨h2', hh2'⟩ : ∃ h, h = h1' + c2 := ⟨_, rfl⟩
    have w2 : IntKind.u64.wrap ((h1' : Int) + (c2 : Int)) = (h2' : Int) := by rw [wrap_u64]; omega
    have eik : IntKind.i64.wrap ((i : Int) + (k : Int)) = ((i + k : Nat) : Int) := by rw [wrap_i64 (by omega) (by omega)]; omega
    obtain ⟨ik, hike⟩ : ∃ ik, ik = i + k := ⟨_, rfl⟩
    rw [← hike] at eik hik gZ esucc
    have gik : (ik : Int) < N := by omega
    have ek1 : IntKind.i64.wrap ((k : Int) + 1) = ((k + 1 : Nat) : Int) := by rw [wrap_i64 (by omega) (by omega)]; omega
    obtain ⟨k', hk'⟩ : ∃ k', k' = k + 1 := ⟨_, rfl⟩
    rw [← hk'] at ek1 esucc
    have es2 : (q : Int) % 18446744073709551616 = (s2 : Int) := by omega
    have eh2 : (q : Int) / 18446744073709551616 = (h2' : Int) := by omega
    rw [es2, eh2] at esucc
    clear hhi hlo hq hs1' hc1' hs2' hc2' st1 st2 st3 es2 eh2 ecast hT hs hs1 hs2 os hsl hI h1 h2 h3 h4 f1 f2 f3 f4 v1 v2
    refine zs1 g2 ?_
    refine Holds.seq (Holds.condT rfl (Holds.skip ?_))
    show Holds _ _ _ _ _ _ _
    refine Holds.next (fun σ => ∀ x w, Rel cx w0 σ x w → Rel cx w0 { nt := 93, env := [(41, .v true (.int .i64 (k : Nat))), (40, .v true (.int .i64 (b.length : Nat))), (39, .v false (words b)), (6, .v true (.int .i64 (i : Nat))), (7, .v true (.int .u64 (A : Nat))), (8, .v true (.int .u64 (h2' : Nat))), (34, .v true (.int .i64 (i : Nat))), (33, .v true (.int .i64 (a.length : Nat))), (32, .v false (words a)), (5, .own 31 0 N), (1, .v false (words b))], mem := [(31, .buf 91 1 true ((T.1.set ik s2).map fun n => .int .u64 n))] } x w) ?_ ?_
    ·refine Holds.blockN ?_
     refine zs1 gB ?_
     refine zs2 (ρ := fun _ => [.v true (.int .u64 (hi_ : Nat)), .v true (.int .u64 (lo : Nat))]) (o := by repeat' first|exact hM|trivial|constructor) (k := ?_)
     refine zs0 ?_
     refine zs3 (ρ := fun _ => [.v true (.int .u64 (s1 : Nat)), .v true (.int .u64 (c1 : Nat))]) (an eik <| an gZ <| an gik <| hik) (o := by repeat' first|exact hA1|trivial|constructor) (k := ?_)
     refine Holds.from (σ' := { nt := 93, env := [(9, .v true (.int .i64 (k : Nat))), (11, .v true (.int .u64 (hi_ : Nat))), (12, .v true (.int .u64 (s1 : Nat))), (13, .v true (.int .u64 (c1 : Nat))), (41, .v true (.int .i64 (k : Nat))), (40, .v true (.int .i64 (b.length : Nat))), (39, .v false (words b)), (6, .v true (.int .i64 (i : Nat))), (7, .v true (.int .u64 (A : Nat))), (8, .v true (.int .u64 (c : Nat))), (34, .v true (.int .i64 (i : Nat))), (33, .v true (.int .i64 (a.length : Nat))), (32, .v false (words a)), (5, .own 31 0 N), (1, .v false (words b))], mem := [(31, .buf 91 1 true (T.1.map fun n => .int .u64 n))] }) (fun x w h => Rel.keep [9, 11, 12, 13, 41, 40, 39, 6, 7, 8, 34, 33, 32, 5, 1] [31] h) ?_
     refine zs1 w1 ?_
     refine zs2 (ρ := fun _ => [.v true (.int .u64 (s2 : Nat)), .v true (.int .u64 (c2 : Nat))]) (o := by repeat' first|exact hA2|trivial|constructor) (k := ?_)
     refine zs1 w2 ?_
     refine zr1 (an eik <| an gZ <| an gik <| hik) ?_
     intro x w h
     rw [List.map_set]
     exact Rel.keep [41, 40, 39, 6, 7, 8, 34, 33, 32, 5, 1] [31] h
    ·intro σ hσ
     refine Holds.from hσ ?_
     refine zr1 ek1 ?_
     refine ⟨k', (by show k' ≤ b.length; omega), (show b.length - k' < b.length - k by omega), fun x w h => ?_⟩
     simp only [esucc]
     exact Rel.keep [41, 40, 39, 6, 7, 8, 34, 33, 32, 5, 1] [31] h
   ·intro σ hσ
    refine Holds.from hσ ?_
    obtain ⟨k1, k2, k3⟩ := hI b.length
    have hib : i + b.length < (wmI A b i s b.length).1.length := by omega
    have e : wmO a b (i + 1) = (wmI A b i s b.length).1.set (i + b.length) (wmI A b i s b.length).2 := by rw [wmO, hAe, hs]
    have eib : IntKind.i64.wrap ((i : Int) + (b.length : Int)) = ((i + b.length : Nat) : Int) := by rw [wrap_i64 (by omega) (by omega)]; omega
    obtain ⟨ib, hibe⟩ : ∃ ib, ib = i + b.length := ⟨_, rfl⟩
    rw [← hibe] at eib hib e
    have gZ := get_map hib
    have gib : (ib : Int) < N := by omega
    refine zr1 (an eib <| an gZ <| an gib <| hib) ?_
    intro x w h
    rw [e, List.map_set]
    exact Rel.keep [34, 33, 32, 5, 1] [31] h
  ·intro σ hσ
   refine Holds.from hσ ?_
   obtain ⟨i1, hi1⟩ : ∃ i1, i1 = i + 1 := ⟨_, rfl⟩
   rw [← hi1] at ei1 ⊢
   refine zr1 ei1 ?_
   exact ⟨i1, (by show i1 ≤ a.length; omega), (show a.length - i1 < a.length - i by omega), fun x w h => Rel.keep [34, 33, 32, 5, 1] [31] h⟩
 ·intro σ hσ
  refine Holds.from hσ ?_
  have hTr := wTrim_ok _ (by rw [f2]; omega) f1
  rw [f3] at hTr
  have htk : List.take N (List.map (fun n => V.int .u64 n) (wmO a b a.length)) = List.map (fun n => V.int .u64 n) (wmO a b a.length) := List.take_of_length_le (by rw [List.length_map, f2]; omega)
  refine zs3 (ρ := fun _ => [.v true (words (digs (val a * val b)))]) htk (o := by repeat' first|exact hTr|trivial|constructor) (k := ?_)
  exact Holds.ret (RetOk.vs rfl (by exact ⟨⟨rfl, id⟩, trivial⟩) rfl)
end Go.Proofs.YtlpolbeikangpaaGreatDoor.L
