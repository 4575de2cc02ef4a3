/-
  Na Pa Nb Pb Pc Qa Qb Ra Bld Ba Bb Bc Bd Be Bf Bg Bh Mc Mj Mn Ua
-/
import Derived.Test.YtobacemgcjnahaaGreatDoorU4
import Derived.Shelf.Strings.Builder1
import Derived.Shelf.Strings.BuilderF
import Derived.Test.YtobacemgcjnahaaGreatDoorProg
import Derived.Test.YtobacemgcjnahaaGreatDoorU3
import Derived.WalkKit
import Derived.WalkSpells
import Derived.WalkLawsBesides
import Derived.Deep.LoopGhost
import Derived.Shelf.Spec.BitsCarry
import Derived.Lib.Mul64
import Derived.Laws.Bits64b
set_option linter.unusedSimpArgs false
set_option linter.unusedVariables false
set_option maxRecDepth 100000
namespace Go.Proofs.YtobacemgcjnahaaGreatDoor.L
def okW (l : List Int) : Prop := ∀ n ∈ l, 0 ≤ n ∧ n < 18446744073709551616
theorem okW_getD {l : List Int} (h : okW l) (i : Nat) : 0 ≤ l.getD i 0 ∧ l.getD i 0 < 18446744073709551616 := by
 rw [List.getD_eq_getElem?_getD]
 cases hi : l[i]? with
 | none => simp
 | some n => exact h n (List.mem_of_getElem? hi)
theorem okW_set {l : List Int} (h : okW l) {i : Nat} {n : Int} (hn : 0 ≤ n ∧ n < 18446744073709551616) : okW (l.set i n) := fun m hm => by
 rcases List.mem_or_eq_of_mem_set hm with h1 | rfl
 ·exact h m h1
 ·exact hn
theorem get_map {l : List Int} {i : Nat} (h : i < l.length) : l[i]? = some (l.getD i 0) := by
 rw [List.getD_eq_getElem?_getD, List.getElem?_eq_getElem h]; rfl
def trimW (l : List Int) : Nat → Nat
 | 0 => 0
 | n + 1 => if l.getD n 0 = 0 then trimW l n else n + 1
theorem trimW_le (l : List Int) : ∀ n, trimW l n ≤ n
 | 0 => Nat.le_refl _
 | n + 1 => by
   rw [trimW]
   split
   ·exact Nat.le_succ_of_le (trimW_le l n)
   ·exact Nat.le_refl _
def trimL (l : List Int) : List Int := l.take (trimW l l.length)
theorem trimL_len (l : List Int) : (trimL l).length ≤ l.length := by
 unfold trimL
 rw [List.length_take]
 exact Nat.min_le_right _ _
def val : List Int → Nat
 | [] => 0
 | x :: r => x.toNat + 18446744073709551616 * val r
def digsF : Nat → Nat → List Int
 | 0, _ => []
 | f + 1, n => if n = 0 then [] else ((n % 18446744073709551616 : Nat) : Int) :: digsF f (n / 18446744073709551616)
def digs (n : Nat) : List Int := digsF (n.log2 / 64 + 1) n
def noZ : List Int → Prop
 | [] => True
 | [x] => x ≠ 0
 | _ :: y :: r => noZ (y :: r)
theorem okW_cons {x : Int} {r : List Int} (h : okW (x :: r)) : (0 ≤ x ∧ x < 18446744073709551616) ∧ okW r := ⟨h x (by simp), fun n hn => h n (by simp [hn])⟩
theorem noZ_cons {x : Int} {r : List Int} (h : noZ (x :: r)) : noZ r := by
 cases r with
 | nil => trivial
 | cons y q => exact h
theorem val_pos : ∀ {l : List Int}, okW l → noZ l → l ≠ [] → 0 < val l
 | [], _, _, h => absurd rfl h
 | [x], ok, h, _ => by
   have h1 := (okW_cons ok).1
   have h2 : x ≠ 0 := h
   rw [val, val]
   omega
 | x :: y :: r, ok, h, _ => by
   have := val_pos (okW_cons ok).2 h (by simp)
   rw [val]
   omega
theorem val_inj : ∀ {l m : List Int}, okW l → okW m → noZ l → noZ m → val l = val m → l = m
 | [], [], _, _, _, _, _ => rfl
 | [], y :: q, _, om, _, zm, h => by have := val_pos om zm (by simp); rw [← h] at this; simp [val] at this
 | x :: r, [], ol, _, zl, _, h => by have := val_pos ol zl (by simp); rw [h] at this; simp [val] at this
 | x :: r, y :: q, ol, om, zl, zm, h => by
   have h1 := okW_cons ol
   have h2 := okW_cons om
   rw [val, val] at h
   have e1 : x = y := by omega
   have e2 : val r = val q := by omega
   rw [e1, val_inj h1.2 h2.2 (noZ_cons zl) (noZ_cons zm) e2]
theorem digsF_ok : ∀ (f n : Nat), n < 18446744073709551616 ^ f → okW (digsF f n) ∧ noZ (digsF f n) ∧ val (digsF f n) = n
 | 0, n, h => by
   rw [digsF]
   refine ⟨(fun n hn => by cases hn), trivial, ?_⟩
   rw [val]
   simp at h
   omega
 | f + 1, n, h => by
   rw [digsF]
   split
   ·next h0 => exact ⟨(fun n hn => by cases hn), trivial, by rw [val, h0]⟩
   ·next h0 =>
    obtain ⟨h1, h2, h3⟩ := digsF_ok f (n / 18446744073709551616) (by rw [Nat.pow_succ] at h; exact (Nat.div_lt_iff_lt_mul (by decide)).2 h)
    refine ⟨fun m hm => ?_, ?_, by rw [val, h3]; omega⟩
    ·rcases List.mem_cons.1 hm with rfl | hm
     ·omega
     ·exact h1 m hm
    ·cases hd : digsF f (n / 18446744073709551616) with
     | nil =>
       rw [hd] at h3
       rw [val] at h3
       show ((n % 18446744073709551616 : Nat) : Int) ≠ 0
       omega
     | cons y q => rw [hd] at h2; exact h2
theorem digs_ok (n : Nat) : okW (digs n) ∧ noZ (digs n) ∧ val (digs n) = n := by
 refine digsF_ok _ n ?_
 have h1 : n < 2 ^ (n.log2 + 1) := Nat.lt_log2_self
 refine Nat.lt_of_lt_of_le h1 ?_
 rw [show (18446744073709551616 : Nat) = 2 ^ 64 from rfl, ← Nat.pow_mul]
 exact Nat.pow_le_pow_right (by decide) (by omega)
theorem digs_of {l : List Int} (ol : okW l) (zl : noZ l) : l = digs (val l) := by
 obtain ⟨h1, h2, h3⟩ := digs_ok (val l)
 exact val_inj ol h1 zl h2 h3.symm
theorem val_append : ∀ (l m : List Int), val (l ++ m) = val l + 18446744073709551616 ^ l.length * val m
 | [], m => by simp [val]
 | x :: r, m => by
   rw [List.cons_append, val, val, val_append r m, List.length_cons, Nat.pow_succ]
   rw [Nat.mul_add, Nat.mul_comm _ (18446744073709551616 : Nat), ← Nat.mul_assoc]
   omega
end Go.Proofs.YtobacemgcjnahaaGreatDoor.L
namespace Go.Proofs.YtobacemgcjnahaaGreatDoor.L
open Go Go.RowKit Go.Proofs
attribute [local go_sem] evalOps_nil evalOps_cons runW_t runW_f runE_s runP_s wantA evalOp effOp letters okDst coreA St.opv St.get St.at look constA St.put St.upd St.set decide_true List.all_nil List.all_cons Bool.and_true Bool.true_and and_self and_true true_and if_true if_false true_or Int.sub_zero List.nil_append List.cons_append List.append_nil Option.isSome_some List.getElem?_toArray List.getElem?_cons_succ List.getElem?_cons_zero Option.bind_some Option.map_some Option.map_none beq_self_eq_true Bool.false_beq Bool.true_beq Bool.not_true Bool.not_false Bool.false_eq_true cond_true cond_false binA binI List.map_cons List.map_nil boundA List.length_nil List.length_cons Nat.zero_mul Nat.one_mul Nat.mul_one Nat.zero_add Nat.add_zero Nat.zero_le Option.toList St.freshB AV.ment AV.ments Blk.ment V.sizes Nat.lt_add_one Bool.or_true Bool.true_or Bool.or_false Bool.false_or Bool.or_self if_pos if_neg decide_false decide_eq_true decide_eq_false wrap_i64 Int.toNat_natCast minA maxA Int.natCast_add Int.cast_ofNat_Int Option.isSome_none false_implies true_implies forall_const List.drop_zero Int.toNat_zero Int.add_sub_cancel lenA sliceA loadA indexAddrA partA fitsT V.atP V.offP V.size List.length_map List.getElem?_map Int.toNat_natCast_add_one Int.ofNat_eq_natCast TY calleeA capArg knotA capArgs toArgs toArg callA R.res R.mems R.blks R.av R.names R.nw invokeA storeA storeV fieldAddrA liveB V.off V.offs V.setP List.set_cons_zero List.set_cons_succ buildA buildP partsA appendA srcA copyA boxOk makeA AV.pure List.take_succ_cons List.take_zero nilA words unA entry List.zipIdx_cons List.zipIdx_nil Arg.av Arg.avs
def digL : List Int → List Int
 | [] => []
 | n :: r => n % 4294967296 :: n / 4294967296 :: digL r
def okH (l : List Int) : Prop := ∀ n ∈ l, 0 ≤ n ∧ n < 4294967296
theorem digL_len : ∀ l : List Int, (digL l).length = 2 * l.length
 | [] => rfl
 | _ :: r => by rw [digL, List.length_cons, List.length_cons, digL_len r, List.length_cons]; omega
theorem digL_append : ∀ l m : List Int, digL (l ++ m) = digL l ++ digL m
 | [], _ => rfl
 | n :: r, m => by rw [List.cons_append, digL, digL, digL_append r m]; rfl
theorem digL_ok : ∀ {l : List Int}, okW l → okH (digL l)
 | [], _ => fun n h => by cases h
 | x :: r, h => fun n hn => by
   obtain ⟨h1, h2⟩ := okW_cons h
   rw [digL] at hn
   rcases List.mem_cons.1 hn with rfl | hn
   ·omega
   ·rcases List.mem_cons.1 hn with rfl | hn
    ·omega
    ·exact digL_ok h2 n hn
theorem okH_okW {l : List Int} (h : okH l) : okW l := fun n hn => by have := h n hn; omega
def dgA (k : Nat) : AV := if k = 0 then .nil else .own 300 0 (2 * k)
def dgB (x : List Int) (k : Nat) : List (Nat × Blk) := if k = 0 then [] else [(300, .buf 76 1 true ((digL (x.take k)).map fun n => .int .u64 n))]
theorem dgA_s (k : Nat) : dgA (k + 1) = .own 300 0 (2 * (k + 1)) := if_neg (by omega)
theorem dgB_s (x : List Int) (k : Nat) : dgB x (k + 1) = [(300, .buf 76 1 true ((digL (x.take (k + 1))).map fun n => .int .u64 n))] := if_neg (by omega)
def dgS (x : List Int) (k : Nat) : St := { nt := 25, env := [(4, .v true (.int .i64 k)), (3, dgA k), (0, .v false (words x))], mem := dgB x k }
theorem Digits_ok (x : List Int) (hx : x.length < 1000000) (ox : okW x) : FnOk Tryz.prog 122 [.v (words x)] [.v true (words (digL x))] := by
 refine FnOk.of Tryz.func122 rfl rfl fun cx w0 => ?_
 rw [show Tryz.f122.ntmps = 25 from rfl]
 refine zs0 ?_
 refine zs0 ?_
 refine Holds.next (fun σ => ∀ a w, Rel cx w0 σ a w → Rel cx w0 { nt := 25, env := [(3, dgA x.length)], mem := dgB x x.length } a w) ?_ ?_
 ·refine zs0 ?_
  refine Holds.loopB (fun k => dgS x k) (fun k => k ≤ x.length) (fun k => x.length - k) 0 (Nat.zero_le _) (fun a w h => Rel.keep [4, 3, 0] [] h) ?_
  intro k hk
  by_cases hend : k = x.length
  ·refine Holds.seq ?_
   rw [hend, dgS]
   refine zs0 ?_
   refine Holds.condF rfl (Holds.exit ⟨rfl, fun a w h => Rel.less [3] (fun _ => rfl) h⟩)
  ·have hkl : k < x.length := by omega
   have hw := okW_getD ox k
   have hlt : (digL (x.take k)).length = 2 * k := by rw [digL_len, List.length_take]; omega
   have htk : x.take (k + 1) = x.take k ++ [x.getD k 0] := by
    rw [List.take_add_one, List.getElem?_eq_getElem hkl, List.getD_eq_getElem?_getD, List.getElem?_eq_getElem hkl]; rfl
   have hm : (x.getD k 0).tmod 4294967296 = x.getD k 0 % 4294967296 := Int.tmod_eq_emod_of_nonneg hw.1
   have hd : (x.getD k 0).tdiv 4294967296 = x.getD k 0 / 4294967296 := Int.tdiv_eq_ediv_of_nonneg hw.1
   have hdw : IntKind.u64.wrap (x.getD k 0 / 4294967296) = x.getD k 0 / 4294967296 := by rw [wrap_u64]; omega
   refine Holds.seq ?_
   rw [dgS]
   refine zs0 ?_
   refine Holds.condT rfl (Holds.skip ?_)
   refine Holds.next (fun σ => ∀ a w, Rel cx w0 σ a w → Rel cx w0 { nt := 25, env := [(4, .v true (.int .i64 k)), (3, dgA (k + 1)), (0, .v false (words x))], mem := dgB x (k + 1) } a w) ?_ ?_
   ·refine Holds.blockN ?_
    rcases k with _ | k
    ·refine Holds.dregionT (Px := px) (T := TT) (ρ := fun _ => []) [(3, 12), (4, 12), (8, 12), (9, 12)] mixed (by kernel_rfl) TTe (by simp (maxSteps := 100000) (disch := omega) only [go_sem, V.isAgg, V.flat, ↓reduceIte, Nat.reduceAdd, Nat.reduceSub, Nat.reduceLT, Nat.reduceEqDiff, reduceCtorEq, Nat.reduceLeDiff, Nat.reduceBEq, Nat.reduceMul, Int.reduceToNat, dgA, dgB, get_map hkl, hm, hd, hdw]; rfl) (by repeat' first | exact trivial | constructor) (by rfl) (by rfl) (by simp (maxSteps := 100000) (disch := omega) only [trc_nil, trc_cons, effW_t, effW_f, trcE_s, opSites_eq, sitesOf, AV.sites, AV.sitesL, Op.operands, Call.operands, List.append_toArray, List.toList_toArray, List.filter_nil, List.filter_cons, List.contains_cons, List.contains_nil, go_sem, V.isAgg, V.flat, ↓reduceIte, Nat.reduceAdd, Nat.reduceSub, Nat.reduceLT, Nat.reduceEqDiff, reduceCtorEq, Nat.reduceLeDiff, Nat.reduceBEq, Nat.reduceMul, Int.reduceToNat, dgA, dgB, get_map hkl, hm, hd, hdw]; rfl) (by rfl) ?_
     intro a w h
     have := Rel.ren (s := 23) (s' := 300) (Rel.keep [4, 3, 0] [23] h) (by decide) rfl rfl
     rw [dgB, if_neg (by omega), htk, dgA, if_neg (by omega)]
     exact this
    ·rw [dgA_s, dgB_s]
     refine Holds.dregionT (Px := px) (T := TT) (ρ := fun _ => []) [(3, 12), (4, 12), (8, 12), (9, 12)] mixed (by kernel_rfl) TTe (by simp (maxSteps := 100000) (disch := omega) only [go_sem, V.isAgg, V.flat, ↓reduceIte, Nat.reduceAdd, Nat.reduceSub, Nat.reduceLT, Nat.reduceEqDiff, reduceCtorEq, Nat.reduceLeDiff, Nat.reduceBEq, Nat.reduceMul, Int.reduceToNat, get_map hkl, hm, hd, hdw, hlt]; rfl) (by repeat' first | exact trivial | constructor) (by rfl) (by rfl) (by simp (maxSteps := 100000) (disch := omega) only [trc_nil, trc_cons, effW_t, effW_f, trcE_s, opSites_eq, sitesOf, AV.sites, AV.sitesL, Op.operands, Call.operands, List.append_toArray, List.toList_toArray, List.filter_nil, List.filter_cons, List.contains_cons, List.contains_nil, go_sem, V.isAgg, V.flat, ↓reduceIte, Nat.reduceAdd, Nat.reduceSub, Nat.reduceLT, Nat.reduceEqDiff, reduceCtorEq, Nat.reduceLeDiff, Nat.reduceBEq, Nat.reduceMul, Int.reduceToNat, get_map hkl, hm, hd, hdw, hlt]; rfl) (by rfl) ?_
     intro a w h
     have := Rel.ren (s := 23) (s' := 300) (Rel.keep [4, 3, 0] [23] h) (by decide) rfl rfl
     rw [dgB, if_neg (by omega), htk, dgA, if_neg (by omega), digL_append, List.map_append]
     exact this
   ·intro σ hσ
    refine Holds.from hσ ?_
    refine zr0 ?_
    exact ⟨k + 1, (by show k + 1 ≤ x.length; omega), (show x.length - (k + 1) < x.length - k by omega), fun a w h => Rel.less [4, 3, 0] (fun _ => rfl) h⟩
 ·intro σ hσ
  refine Holds.from hσ ?_
  have hl := digL_len x
  rw [dgA, dgB, List.take_length]
  by_cases h0 : x.length = 0
  ·rw [if_pos h0, if_pos h0]
   have : x = [] := List.eq_nil_of_length_eq_zero h0
   subst this
   refine zs0 ?_
   exact Holds.ret ⟨_, [], rfl, ⟨rfl, trivial⟩, by simp [R.names, R.mems, R.blks], by simp, rfl⟩
  ·rw [if_neg h0, if_neg h0]
   refine zs0 ?_
   exact Holds.ret ⟨_, [], rfl, ⟨⟨rfl, by rw [List.drop_zero, List.take_of_length_le (by rw [List.length_map, hl]; exact Nat.le_refl _)], id, rfl⟩, trivial⟩, by simp [R.names, R.mems, R.blks], by simp, rfl⟩
theorem Short_ok (l : List Int) (hl : l.length < 1000000000) : FnOk Tryz.prog 126 [.v (words l)] [.v false (words (trimL l))] := by
 refine FnOk.of Tryz.func126 rfl rfl fun cx w0 => ?_
 rw [show Tryz.f126.ntmps = 21 from rfl]
 refine zs0 ?_
 refine zs0 ?_
 refine Holds.next (fun σ => ∃ env, σ = { nt := 21, env, mem := [] } ∧ look env 3 = .v true (.int .i64 (trimW l l.length : Nat)) ∧ look env 0 = .v false (.sl 1 (l.map fun n => .int .u64 n)))
  (Holds.loopB (fun n : Nat => { nt := 21, env := [(3, .v true (.int .i64 (n : Int))), (0, .v false (.sl 1 (l.map fun n => .int .u64 n)))], mem := [] }) (fun n => n ≤ l.length ∧ trimW l n = trimW l l.length) id l.length ⟨Nat.le_refl _, rfl⟩ (fun a w h => Rel.keep [3, 0] [] h) ?_) ?_
 ·rintro n ⟨hn, ht⟩
  rcases n with _ | n
  ·refine Holds.seq ?_
   refine zs0 ?_
   refine Holds.condF rfl (Holds.exit ⟨rfl, _, rfl, ?_, rfl⟩)
   rw [← ht]; rfl
  ·have hlt : n < l.length := by omega
   have e1 : l[n]? = some (l.getD n 0) := by rw [List.getD_eq_getElem?_getD, List.getElem?_eq_getElem hlt]; rfl
   refine Holds.seq ?_
   refine zs1 e1 ?_
   by_cases h0 : l.getD n 0 = 0
   ·refine Holds.condT (nw := true) (by rw [h0]; rfl) (Holds.skip ?_)
    refine Holds.block ?_
    refine zr0 ?_
    refine ⟨n, ⟨by omega, ?_⟩, by simp, fun a w h => Rel.keep [3, 0] [] h⟩
    rw [← ht, trimW, if_pos h0]
   ·refine Holds.condF (nw := true) (by rw [decide_eq_false h0]; rfl) (Holds.exit ⟨rfl, _, rfl, ?_, rfl⟩)
    rw [← ht, trimW, if_neg h0]
    rfl
 ·rintro σ ⟨env, rfl, e3, e0⟩
  have hle := trimW_le l l.length
  refine zs1 (an e3 <| e0) ?_
  refine Holds.ret ⟨_, [], rfl, ⟨⟨?_, by simp⟩, trivial⟩, by simp [R.names, R.mems, R.blks], by simp, rfl⟩
  rw [words, trimL, List.map_take]
theorem take_succ {x : List Int} {k : Nat} (h : k < x.length) : x.take (k + 1) = x.take k ++ [x.getD k 0] := by
 rw [List.take_add_one, List.getElem?_eq_getElem h, List.getD_eq_getElem?_getD, List.getElem?_eq_getElem h]; rfl
def rowOf : List Int → List Int
 | a :: b :: r => (a + b * 4294967296) :: rowOf r
 | _ => []
theorem rowOf_len : ∀ l : List Int, (rowOf l).length = l.length / 2
 | [] => by simp [rowOf]
 | [_] => by simp [rowOf]
 | a :: b :: r => by rw [rowOf, List.length_cons, rowOf_len r, List.length_cons, List.length_cons]; omega
theorem rowOf_append : ∀ (l : List Int) (a b : Int), l.length % 2 = 0 → rowOf (l ++ [a, b]) = rowOf l ++ [a + b * 4294967296]
 | [], a, b, _ => rfl
 | [_], _, _, h => by simp at h
 | x :: y :: r, a, b, h => by
   rw [List.cons_append, List.cons_append, rowOf, rowOf, rowOf_append r a b (by simp at h; omega)]; rfl
theorem rowOf_odd : ∀ (l : List Int) (a : Int), l.length % 2 = 0 → rowOf (l ++ [a]) = rowOf l
 | [], _, _ => rfl
 | [_], _, h => by simp at h
 | x :: y :: r, a, h => by
   rw [List.cons_append, List.cons_append, rowOf, rowOf, rowOf_odd r a (by simp at h; omega)]
theorem rowOf_ok : ∀ {l : List Int}, okH l → okW (rowOf l)
 | [], _ => fun n h => by cases h
 | [_], _ => fun n h => by cases h
 | x :: y :: r, h => fun n hn => by
   rw [rowOf] at hn
   have h1 := h x (by simp)
   have h2 := h y (by simp)
   rcases List.mem_cons.1 hn with rfl | hn
   ·omega
   ·exact rowOf_ok (fun m hm => h m (by simp [hm])) n hn
def rwA (k : Nat) : AV := if k = 0 then .nil else .own 300 0 k
def rwB (x : List Int) (k : Nat) : List (Nat × Blk) := if k = 0 then [] else [(300, .buf 76 1 true ((rowOf (x.take (2 * k))).map fun n => .int .u64 n))]
def rwS (x : List Int) (k : Nat) : St := { nt := 27, env := [(4, .v true (.int .i64 (2 * (k : Int)))), (3, rwA k), (0, .v false (words x))], mem := rwB x k }
theorem Row_ok (x : List Int) (hx : x.length < 1000000) (ox : okH x) : FnOk Tryz.prog 173 [.v (words x)] [.v true (words (rowOf x))] := by
 refine FnOk.of Tryz.func173 rfl rfl fun cx w0 => ?_
 rw [show Tryz.f173.ntmps = 27 from rfl]
 refine zs0 ?_
 refine zs0 ?_
 have hend2 : rowOf (x.take (2 * (x.length / 2))) = rowOf x := by
  by_cases hp : x.length % 2 = 0
  ·rw [List.take_of_length_le (by omega)]
  ·have hl : 2 * (x.length / 2) < x.length := by omega
   have e : x = x.take (2 * (x.length / 2)) ++ [x.getD (2 * (x.length / 2)) 0] := by
    have h1 : x.take (2 * (x.length / 2) + 1) = x := List.take_of_length_le (by omega)
    rw [List.take_add_one, List.getElem?_eq_getElem hl] at h1
    rw [List.getD_eq_getElem?_getD, List.getElem?_eq_getElem hl]
    exact h1.symm
   have h2 := rowOf_odd (x.take (2 * (x.length / 2))) (x.getD (2 * (x.length / 2)) 0) (by rw [List.length_take]; omega)
   rw [← e] at h2
   exact h2.symm
 refine Holds.next (fun σ => ∀ a w, Rel cx w0 σ a w → Rel cx w0 { nt := 27, env := [(3, rwA (x.length / 2))], mem := rwB x (x.length / 2) } a w) ?_ ?_
 ·refine zs0 ?_
  refine Holds.loopB (fun k => rwS x k) (fun k => k ≤ x.length / 2) (fun k => x.length / 2 - k) 0 (Nat.zero_le _) (fun a w h => Rel.keep [4, 3, 0] [] h) ?_
  intro k hk
  by_cases hend : k = x.length / 2
  ·refine Holds.seq ?_
   rw [rwS]
   refine zs0 ?_
   refine Holds.condF rfl (Holds.exit ⟨rfl, fun a w h => ?_⟩)
   rw [← hend]
   exact Rel.less [3] (fun _ => rfl) h
  ·have hkl : 2 * k < x.length := by omega
   have hkl2 : 2 * k + 1 < x.length := by omega
   have hw := okW_getD (okH_okW ox) (2 * k)
   have h1 : 0 ≤ x.getD (2 * k) 0 ∧ x.getD (2 * k) 0 < 4294967296 := by
    rw [List.getD_eq_getElem?_getD, List.getElem?_eq_getElem hkl]; exact ox _ (List.getElem_mem hkl)
   have h2 : 0 ≤ x.getD (2 * k + 1) 0 ∧ x.getD (2 * k + 1) 0 < 4294967296 := by
    rw [List.getD_eq_getElem?_getD, List.getElem?_eq_getElem hkl2]; exact ox _ (List.getElem_mem hkl2)
   have hlt : (rowOf (x.take (2 * k))).length = k := by rw [rowOf_len, List.length_take]; omega
   have htk : x.take (2 * (k + 1)) = x.take (2 * k) ++ [x.getD (2 * k) 0, x.getD (2 * k + 1) 0] := by
    rw [show 2 * (k + 1) = 2 * k + 1 + 1 from by omega, take_succ hkl2, take_succ hkl, List.append_assoc]
    rfl
   have hro : rowOf (x.take (2 * (k + 1))) = rowOf (x.take (2 * k)) ++ [x.getD (2 * k) 0 + x.getD (2 * k + 1) 0 * 4294967296] := by
    rw [htk, rowOf_append _ _ _ (by rw [List.length_take]; omega)]
   have e1 : (2 * (k : Int)).toNat = 2 * k := by omega
   have e2 : (2 * (k : Int) + 1).toNat = 2 * k + 1 := by omega
   have e3 : IntKind.u64.wrap (x.getD (2 * k + 1) 0 * 4294967296) = x.getD (2 * k + 1) 0 * 4294967296 := by rw [wrap_u64]; omega
   have e4 : IntKind.u64.wrap (x.getD (2 * k) 0 + x.getD (2 * k + 1) 0 * 4294967296) = x.getD (2 * k) 0 + x.getD (2 * k + 1) 0 * 4294967296 := by rw [wrap_u64]; omega
   refine Holds.seq ?_
   rw [rwS]
   refine zs0 ?_
   refine Holds.condT rfl (Holds.skip ?_)
   refine Holds.next (fun σ => ∀ a w, Rel cx w0 σ a w → Rel cx w0 { nt := 27, env := [(4, .v true (.int .i64 (2 * (k : Int)))), (3, rwA (k + 1)), (0, .v false (words x))], mem := rwB x (k + 1) } a w) ?_ ?_
   ·refine Holds.blockN ?_
    rcases Nat.eq_zero_or_pos k with h0 | h0
    ·have ea : rwA k = .nil := if_pos h0
     have eb : rwB x k = [] := if_pos h0
     have er : rowOf (x.take (2 * k)) = [] := by rw [h0]; rfl
     have hk1 : k + 1 = 1 := by omega
     rw [ea, eb]
     refine Holds.dregionT (Px := px) (T := TT) (ρ := fun _ => []) [(3, 13), (4, 13), (8, 13), (9, 13)] mixed (by kernel_rfl) TTe (by simp (maxSteps := 100000) (disch := omega) only [go_sem, V.isAgg, V.flat, ↓reduceIte, Nat.reduceAdd, Nat.reduceSub, Nat.reduceLT, Nat.reduceEqDiff, reduceCtorEq, Nat.reduceLeDiff, Nat.reduceBEq, Nat.reduceMul, Int.reduceToNat, get_map hkl, get_map hkl2, e1, e2, e3, e4]; rfl) (by repeat' first | exact trivial | constructor) (by rfl) (by rfl) (by simp (maxSteps := 100000) (disch := omega) only [trc_nil, trc_cons, effW_t, effW_f, trcE_s, opSites_eq, sitesOf, AV.sites, AV.sitesL, Op.operands, Call.operands, List.append_toArray, List.toList_toArray, List.filter_nil, List.filter_cons, List.contains_cons, List.contains_nil, go_sem, V.isAgg, V.flat, ↓reduceIte, Nat.reduceAdd, Nat.reduceSub, Nat.reduceLT, Nat.reduceEqDiff, reduceCtorEq, Nat.reduceLeDiff, Nat.reduceBEq, Nat.reduceMul, Int.reduceToNat, get_map hkl, get_map hkl2, e1, e2, e3, e4]; rfl) (by rfl) ?_
     intro a w h
     have := Rel.ren (s := 25) (s' := 300) (Rel.keep [4, 3, 0] [25] h) (by decide) rfl rfl
     rw [rwB, if_neg (by omega), hro, er, rwA, if_neg (by omega), hk1]
     exact this
    ·have ea : rwA k = .own 300 0 k := if_neg (by omega)
     have eb : rwB x k = [(300, .buf 76 1 true ((rowOf (x.take (2 * k))).map fun n => .int .u64 n))] := if_neg (by omega)
     rw [ea, eb]
     refine Holds.dregionT (Px := px) (T := TT) (ρ := fun _ => []) [(3, 13), (4, 13), (8, 13), (9, 13)] mixed (by kernel_rfl) TTe (by simp (maxSteps := 100000) (disch := omega) only [go_sem, V.isAgg, V.flat, ↓reduceIte, Nat.reduceAdd, Nat.reduceSub, Nat.reduceLT, Nat.reduceEqDiff, reduceCtorEq, Nat.reduceLeDiff, Nat.reduceBEq, Nat.reduceMul, Int.reduceToNat, get_map hkl, get_map hkl2, e1, e2, e3, e4, hlt]; rfl) (by repeat' first | exact trivial | constructor) (by rfl) (by rfl) (by simp (maxSteps := 100000) (disch := omega) only [trc_nil, trc_cons, effW_t, effW_f, trcE_s, opSites_eq, sitesOf, AV.sites, AV.sitesL, Op.operands, Call.operands, List.append_toArray, List.toList_toArray, List.filter_nil, List.filter_cons, List.contains_cons, List.contains_nil, go_sem, V.isAgg, V.flat, ↓reduceIte, Nat.reduceAdd, Nat.reduceSub, Nat.reduceLT, Nat.reduceEqDiff, reduceCtorEq, Nat.reduceLeDiff, Nat.reduceBEq, Nat.reduceMul, Int.reduceToNat, get_map hkl, get_map hkl2, e1, e2, e3, e4, hlt]; rfl) (by rfl) ?_
     intro a w h
     have := Rel.ren (s := 25) (s' := 300) (Rel.keep [4, 3, 0] [25] h) (by decide) rfl rfl
     rw [rwB, if_neg (by omega), hro, rwA, if_neg (by omega), List.map_append]
     exact this
   ·intro σ hσ
    refine Holds.from hσ ?_
    refine zr0 ?_
    refine ⟨k + 1, (by show k + 1 ≤ x.length / 2; omega), (show x.length / 2 - (k + 1) < x.length / 2 - k by omega), fun a w h => ?_⟩
    have := Rel.less [4, 3, 0] (fun _ => rfl) h
    show Rel cx w0 (rwS x (k + 1)) a w
    rw [rwS, show (2 * ((k + 1 : Nat) : Int)) = 2 * (k : Int) + 2 from by omega]
    exact this
 ·intro σ hσ
  refine Holds.from hσ ?_
  have hl := rowOf_len x
  rw [rwA, rwB, hend2]
  by_cases h0 : x.length / 2 = 0
  ·rw [if_pos h0, if_pos h0]
   have : rowOf x = [] := List.eq_nil_of_length_eq_zero (by omega)
   rw [this]
   refine zs0 ?_
   exact Holds.ret ⟨_, [], rfl, ⟨rfl, trivial⟩, by simp [R.names, R.mems, R.blks], by simp, rfl⟩
  ·rw [if_neg h0, if_neg h0]
   refine zs0 ?_
   exact Holds.ret ⟨_, [], rfl, ⟨⟨rfl, by rw [List.drop_zero, List.take_of_length_le (by rw [List.length_map, hl]; exact Nat.le_refl _)], id, rfl⟩, trivial⟩, by simp [R.names, R.mems, R.blks], by simp, rfl⟩
end Go.Proofs.YtobacemgcjnahaaGreatDoor.L
namespace Go.Proofs.YtobacemgcjnahaaGreatDoor.L
theorem okW_take {l : List Int} (h : okW l) (n : Nat) : okW (l.take n) := fun m hm => h m (List.mem_of_mem_take hm)
theorem val_set : ∀ {l : List Int} {i : Nat} {n : Int}, i < l.length → val (l.set i n) + 18446744073709551616 ^ i * (l.getD i 0).toNat = val l + 18446744073709551616 ^ i * n.toNat
 | [], i, n, h => by simp at h
 | x :: r, 0, n, h => by simp [val]; omega
 | x :: r, i + 1, n, h => by
   have ih := val_set (l := r) (i := i) (n := n) (by simpa using h)
   rw [List.set_cons_succ, val, val, List.getD_cons_succ, Nat.pow_succ]
   have e1 : ∀ m : Nat, 18446744073709551616 ^ i * 18446744073709551616 * m = 18446744073709551616 * (18446744073709551616 ^ i * m) := fun m => by
    rw [Nat.mul_comm (18446744073709551616 ^ i), Nat.mul_assoc]
   rw [e1, e1]
   omega
theorem val_take_succ {l : List Int} (k : Nat) : val (l.take (k + 1)) = val (l.take k) + 18446744073709551616 ^ k * (l.getD k 0).toNat := by
 rcases Nat.lt_or_ge k l.length with h | h
 ·rw [List.take_add_one, get_map h, val_append, List.length_take, Nat.min_eq_left (by omega)]
  simp [val]
 ·rw [List.take_of_length_le (by omega), List.take_of_length_le h, List.getD_eq_getElem?_getD, List.getElem?_eq_none h]
  simp
theorem val_lt : ∀ {l : List Int}, okW l → val l < 18446744073709551616 ^ l.length
 | [], _ => by simp [val]
 | x :: r, ok => by
   have h1 := okW_cons ok
   have h2 := val_lt h1.2
   rw [val, List.length_cons, Nat.pow_succ]
   omega
theorem trimL_ok {l : List Int} (ol : okW l) : okW (trimL l) := fun n hn => ol n (List.mem_of_mem_take hn)
end Go.Proofs.YtobacemgcjnahaaGreatDoor.L
namespace Go.Proofs.YtobacemgcjnahaaGreatDoor.L
open Go Go.RowKit Go.Proofs
def valH : List Int → Nat
 | [] => 0
 | x :: r => x.toNat + 4294967296 * valH r
theorem val_dig : ∀ {l : List Int}, okW l → valH (digL l) = val l
 | [], _ => rfl
 | x :: r, h => by
   obtain ⟨h1, h2⟩ := okW_cons h
   rw [digL, valH, valH, val, val_dig h2]
   have : (x % 4294967296).toNat + 4294967296 * (x / 4294967296).toNat = x.toNat := by omega
   omega
theorem val_row : ∀ {l : List Int}, okH l → l.length % 2 = 0 → val (rowOf l) = valH l
 | [], _, _ => rfl
 | [_], _, h => by simp at h
 | a :: b :: r, h, hl => by
   have h1 := h a (by simp)
   have h2 := h b (by simp)
   rw [rowOf, val, valH, valH, val_row (fun m hm => h m (by simp [hm])) (by simp at hl; omega)]
   have : (a + b * 4294967296).toNat = a.toNat + 4294967296 * b.toNat := by omega
   omega
theorem valH_zeros : ∀ (l : List Int) (n : Nat), valH (l ++ List.replicate n 0) = valH l
 | [], n => by
   rw [List.nil_append]
   induction n with
   | zero => rfl
   | succ n ih =>
     rw [List.replicate_succ]
     show (0 : Int).toNat + 4294967296 * valH (List.replicate n 0) = 0
     rw [ih]; rfl
 | x :: r, n => by rw [List.cons_append, valH, valH, valH_zeros r n]
theorem val_zeros : ∀ (l : List Int) (n : Nat), val (l ++ List.replicate n 0) = val l
 | [], n => by
   rw [List.nil_append]
   induction n with
   | zero => rfl
   | succ n ih =>
     rw [List.replicate_succ]
     show (0 : Int).toNat + 18446744073709551616 * val (List.replicate n 0) = 0
     rw [ih]; rfl
 | x :: r, n => by rw [List.cons_append, val, val, val_zeros r n]
theorem trim_split (l : List Int) : ∀ k, k ≤ l.length → l.take k = l.take (trimW l k) ++ List.replicate (k - trimW l k) 0
 | 0, _ => by simp [trimW]
 | k + 1, h => by
   have hk : k < l.length := h
   rw [trimW]
   split
   ·next h0 =>
    have h1 := trim_split l k (by omega)
    have h2 := trimW_le l k
    rw [List.getD_eq_getElem?_getD, List.getElem?_eq_getElem hk] at h0
    have h0' : l[k] = 0 := h0
    rw [List.take_add_one, List.getElem?_eq_getElem hk, h1, h0', show k + 1 - trimW l k = (k - trimW l k) + 1 from by omega, List.replicate_succ', List.append_assoc]
    rfl
   ·simp
theorem trimL_split (l : List Int) : ∃ n, l = trimL l ++ List.replicate n 0 := ⟨l.length - trimW l l.length, by
 have := trim_split l l.length (Nat.le_refl _)
 rw [List.take_length] at this
 exact this⟩
theorem valH_trim (l : List Int) : valH (trimL l) = valH l := by
 obtain ⟨n, h⟩ := trimL_split l
 have := valH_zeros (trimL l) n
 rw [← h] at this
 exact this.symm
theorem val_trim (l : List Int) : val (trimL l) = val l := by
 obtain ⟨n, h⟩ := trimL_split l
 have := val_zeros (trimL l) n
 rw [← h] at this
 exact this.symm
theorem trimW_last (l : List Int) : ∀ (k m : Nat), trimW l k = m + 1 → l.getD m 0 ≠ 0 ∧ m < k
 | 0, m, h => by rw [trimW] at h; omega
 | k + 1, m, h => by
   rw [trimW] at h
   split at h
   ·obtain ⟨h1, h2⟩ := trimW_last l k m h
    exact ⟨h1, by omega⟩
   ·next h0 =>
    have : m = k := by omega
    subst this
    exact ⟨h0, by omega⟩
theorem trimL_last (l : List Int) : trimL l = [] ∨ ∃ t z, trimL l = t ++ [z] ∧ z ≠ 0 := by
 cases hm : trimW l l.length with
 | zero => left; rw [trimL, hm]; rfl
 | succ m =>
   obtain ⟨h1, h2⟩ := trimW_last l l.length m hm
   right
   refine ⟨l.take m, l.getD m 0, ?_, h1⟩
   rw [trimL, hm, List.take_add_one, List.getElem?_eq_getElem h2, List.getD_eq_getElem?_getD, List.getElem?_eq_getElem h2]
   rfl
theorem noZ_end : ∀ (L : List Int) (z : Int), z ≠ 0 → noZ (L ++ [z])
 | [], z, h => h
 | [x], z, h => h
 | x :: y :: r, z, h => noZ_end (y :: r) z h
theorem noZ_trim (l : List Int) : noZ (trimL l) := by
 rcases trimL_last l with h | ⟨t, z, h, hz⟩
 ·rw [h]; trivial
 ·rw [h]; exact noZ_end t z hz
theorem trim_digs {l : List Int} (ol : okW l) : trimL l = digs (val l) := by
 have := digs_of (trimL_ok ol) (noZ_trim l)
 rw [val_trim] at this
 exact this
theorem snoc_of : ∀ {l : List Int}, l ≠ [] → ∃ t z, l = t ++ [z]
 | [], h => absurd rfl h
 | [x], _ => ⟨[], x, rfl⟩
 | x :: y :: r, _ => by
   obtain ⟨t, z, h⟩ := snoc_of (l := y :: r) (by simp)
   exact ⟨x :: t, z, by rw [h]; rfl⟩
def padH (h : List Int) (k : Nat) : List Int := h ++ List.replicate (2 * k + 2 - h.length) 0
def natOf (h : List Int) : List Int := rowOf ((padH (trimL h) (((trimL h).length + 1) / 2)).take (2 * (((trimL h).length + 1) / 2)))
theorem trimL_okH {l : List Int} (ol : okH l) : okH (trimL l) := fun n hn => ol n (List.mem_of_mem_take hn)
theorem natOf_eq {h : List Int} (oh : okH h) : natOf h = digs (valH h) := by
 have ot := trimL_okH oh
 rw [← valH_trim h]
 unfold natOf
 rcases trimL_last h with ht | ⟨t, z, ht, hz⟩
 ·rw [ht]; rfl
 ·rw [ht] at ot ⊢
  have oz := ot z (by simp)
  have otk : ∀ m ∈ t, 0 ≤ m ∧ m < 4294967296 := fun m hm => ot m (by simp [hm])
  have hlen : (t ++ [z]).length = t.length + 1 := by simp
  rcases Nat.mod_two_eq_zero_or_one t.length with he | he
  ·-- an odd number of halves
   have hk : ((t ++ [z]).length + 1) / 2 = t.length / 2 + 1 := by rw [hlen]; omega
   have e : (padH (t ++ [z]) (t.length / 2 + 1)).take (2 * (t.length / 2 + 1)) = t ++ [z, 0] := by
    have e1 : padH (t ++ [z]) (t.length / 2 + 1) = (t ++ [z, 0]) ++ List.replicate 2 0 := by
     unfold padH
     rw [hlen, show 2 * (t.length / 2 + 1) + 2 - (t.length + 1) = 2 + 1 from by omega]
     rw [List.append_assoc, List.append_assoc]
     rfl
    rw [e1, List.take_append_of_le_length (by simp; omega), List.take_of_length_le (by simp; omega)]
   rw [hk, e, rowOf_append t z 0 he]
   have ok : okW (rowOf t ++ [z + 0 * 4294967296]) := by
    intro m hm
    rcases List.mem_append.1 hm with hm | hm
    ·exact rowOf_ok (l := t) otk m hm
    ·rw [List.mem_singleton] at hm; omega
   have hv : val (rowOf t ++ [z + 0 * 4294967296]) = valH (t ++ [z]) := by
    rw [← rowOf_append t z 0 he, val_row (l := t ++ [z, 0]) (fun m hm => by
     rcases List.mem_append.1 hm with hm | hm
     ·exact otk m hm
     ·rcases List.mem_cons.1 hm with rfl | hm
      ·exact oz
      ·rw [List.mem_singleton] at hm; omega) (by simp; omega)]
    have := valH_zeros (t ++ [z]) 1
    rw [List.append_assoc] at this
    exact this
   rw [← hv]
   exact digs_of ok (noZ_end _ _ (by omega))
  ·-- an even number
   have htne : t ≠ [] := fun h => by rw [h] at he; simp at he
   obtain ⟨s, y, rfl⟩ := snoc_of htne
   have hsl : (s ++ [y]).length = s.length + 1 := by simp
   have oy := otk y (by simp)
   have osk : ∀ m ∈ s, 0 ≤ m ∧ m < 4294967296 := fun m hm => otk m (by simp [hm])
   have hk : ((s ++ [y] ++ [z]).length + 1) / 2 = s.length / 2 + 1 := by rw [hlen, hsl]; omega
   have e : (padH (s ++ [y] ++ [z]) (s.length / 2 + 1)).take (2 * (s.length / 2 + 1)) = s ++ [y, z] := by
    have e1 : padH (s ++ [y] ++ [z]) (s.length / 2 + 1) = (s ++ [y, z]) ++ List.replicate 2 0 := by
     unfold padH
     rw [hlen, hsl, show 2 * (s.length / 2 + 1) + 2 - (s.length + 1 + 1) = 2 from by omega, List.append_assoc s]
     rfl
    rw [e1, List.take_append_of_le_length (by simp; omega), List.take_of_length_le (by simp; omega)]
   have hse : s.length % 2 = 0 := by omega
   rw [hk, e, rowOf_append s y z hse]
   have ok : okW (rowOf s ++ [y + z * 4294967296]) := by
    intro m hm
    rcases List.mem_append.1 hm with hm | hm
    ·exact rowOf_ok (l := s) osk m hm
    ·rw [List.mem_singleton] at hm; omega
   have hv : val (rowOf s ++ [y + z * 4294967296]) = valH (s ++ [y] ++ [z]) := by
    rw [← rowOf_append s y z hse, val_row (l := s ++ [y, z]) (fun m hm => by
     rcases List.mem_append.1 hm with hm | hm
     ·exact osk m hm
     ·rcases List.mem_cons.1 hm with rfl | hm
      ·exact oy
      ·rw [List.mem_singleton] at hm; rw [hm]; exact oz) (by simp; omega), List.append_assoc]
    rfl
   rw [← hv]
   exact digs_of ok (noZ_end _ _ (by omega))
attribute [local go_sem] evalOps_nil evalOps_cons runW_t runW_f runE_s runP_s wantA evalOp effOp letters okDst coreA St.opv St.get St.at look constA St.put St.upd St.set decide_true List.all_nil List.all_cons Bool.and_true Bool.true_and and_self and_true true_and if_true if_false true_or Int.sub_zero List.nil_append List.cons_append List.append_nil Option.isSome_some List.getElem?_toArray List.getElem?_cons_succ List.getElem?_cons_zero Option.bind_some Option.map_some Option.map_none beq_self_eq_true Bool.false_beq Bool.true_beq Bool.not_true Bool.not_false Bool.false_eq_true cond_true cond_false binA binI List.map_cons List.map_nil boundA List.length_nil List.length_cons Nat.zero_mul Nat.one_mul Nat.mul_one Nat.zero_add Nat.add_zero Nat.zero_le Option.toList St.freshB AV.ment AV.ments Blk.ment V.sizes Nat.lt_add_one Bool.or_true Bool.true_or Bool.or_false Bool.false_or Bool.or_self if_pos if_neg decide_false decide_eq_true decide_eq_false wrap_i64 Int.toNat_natCast minA maxA Int.natCast_add Int.cast_ofNat_Int Option.isSome_none false_implies true_implies forall_const List.drop_zero Int.toNat_zero Int.add_sub_cancel lenA sliceA loadA indexAddrA partA fitsT V.atP V.offP V.size List.length_map List.getElem?_map Int.toNat_natCast_add_one Int.ofNat_eq_natCast TY calleeA capArg knotA capArgs toArgs toArg callA R.res R.mems R.blks R.av R.names R.nw invokeA storeA storeV fieldAddrA liveB V.off V.offs V.setP List.set_cons_zero List.set_cons_succ buildA buildP partsA appendA srcA copyA boxOk makeA AV.pure List.take_succ_cons List.take_zero nilA words unA entry List.zipIdx_cons List.zipIdx_nil Arg.av Arg.avs
theorem padH_ok {h : List Int} (oh : okH h) (k : Nat) : okH (padH h k) := fun n hn => by
 rcases List.mem_append.1 hn with hn | hn
 ·exact oh n hn
 ·rw [List.mem_replicate] at hn; omega
theorem okH_getD {l : List Int} (h : okH l) (i : Nat) : 0 ≤ l.getD i 0 ∧ l.getD i 0 < 4294967296 := by
 rw [List.getD_eq_getElem?_getD]
 cases hi : l[i]? with
 | none => exact ⟨by decide, by decide⟩
 | some x => exact h x (List.mem_of_getElem? hi)
theorem Cut_ok (h : List Int) (k : Nat) (hk : k < 400000) (hl : h.length ≤ 2 * k + 2) (oh : okH h) :
 FnOk Tryz.prog 127 [.v (words h), .v (.int .i64 k)] [.v true (words (rowOf ((padH h k).take (2 * k)))), .v true (.int .u64 ((padH h k).getD (2 * k) 0 + (padH h k).getD (2 * k + 1) 0 * 4294967296))] := by
 refine FnOk.of Tryz.func127 rfl rfl fun cx w0 => ?_
 rw [show Tryz.f127.ntmps = 37 from rfl]
 refine zs0 ?_
 refine zs0 ?_
 refine Holds.step (Px := px) (T := TT) (ρ := fun _ => []) TTe (by simp (maxSteps := 100000) (disch := omega) only [go_sem, V.isAgg, V.flat, ↓reduceIte, Nat.reduceAdd, Nat.reduceSub, Nat.reduceLT, Nat.reduceEqDiff, reduceCtorEq, Nat.reduceLeDiff, Nat.reduceBEq, Nat.reduceMul, Int.reduceToNat, flatW]; rfl) (by repeat' first | exact trivial | constructor) ?_
 obtain ⟨H, hH⟩ : ∃ H, H = padH h k := ⟨_, rfl⟩
 have hHl : H.length = 2 * k + 2 := by rw [hH, padH, List.length_append, List.length_replicate]; omega
 have oH : okH H := by rw [hH]; exact padH_ok oh k
 rw [← hH]
 refine Holds.next (fun σ => ∀ a w, Rel cx w0 σ a w → Rel cx w0 { nt := 37, env := [(6, .own 300 0 (2 * k + 2)), (1, .v true (.int .i64 k))], mem := [(300, .buf 76 1 true (H.map fun n => .int .u64 n))] } a w) ?_ ?_
 ·refine Holds.loopB (fun j : Nat => { nt := 37, env := [(6, .own 300 0 (h.length + j)), (1, .v true (.int .i64 k))], mem := [(300, .buf 76 1 true ((h ++ List.replicate j 0).map fun n => .int .u64 n))] }) (fun j => h.length + j ≤ 2 * k + 2) (fun j => 2 * k + 2 - h.length - j) 0 (by omega) (fun a w hr => by
   have := Rel.ren (s := 9) (s' := 300) (Rel.keep [6, 1] [9] hr) (by decide) rfl rfl
   rw [List.replicate_zero, List.append_nil]
   exact this) ?_
  intro j hj
  have hjl : (h ++ List.replicate j 0).length = h.length + j := by rw [List.length_append, List.length_replicate]
  by_cases hend : h.length + j = 2 * k + 2
  ·refine Holds.seq ?_
   refine zs0 ?_
   refine Holds.condF rfl (Holds.exit ⟨rfl, fun a w hr => ?_⟩)
   have e : h ++ List.replicate j 0 = H := by rw [hH, padH]; congr 2; omega
   have := Rel.keep [6, 1] [300] hr
   rw [e, hend] at this
   exact this
  ·refine Holds.seq ?_
   refine zs0 ?_
   refine Holds.condT rfl (Holds.skip ?_)
   refine Holds.block ?_
   refine zr1 hjl ?_
   refine ⟨j + 1, (by show h.length + (j + 1) ≤ 2 * k + 2; omega), (show 2 * k + 2 - h.length - (j + 1) < 2 * k + 2 - h.length - j by omega), fun a w hr => ?_⟩
   have := Rel.ren (s := 18) (s' := 300) (Rel.keep [6, 1] [18] hr) (by decide) rfl rfl
   have e : (h ++ List.replicate (j + 1) 0).map (fun n => V.int .u64 n) = (h ++ List.replicate j 0).map (fun n => V.int .u64 n) ++ [V.int .u64 0] := by
    rw [List.replicate_succ', ← List.append_assoc, List.map_append]; rfl
   simp only [e]
   exact this
 ·intro σ hσ
  refine Holds.from hσ ?_
  have e1 : (2 * (k : Int)).toNat = 2 * k := by omega
  have e2 : (2 * (k : Int) + 1).toNat = 2 * k + 1 := by omega
  have h1 := okH_getD oH (2 * k)
  have h2 := okH_getD oH (2 * k + 1)
  have hi1 : 2 * k < H.length := by omega
  have hi2 : 2 * k + 1 < H.length := by omega
  have g1 := get_map hi1
  have g2 := get_map hi2
  obtain ⟨p, hp⟩ : ∃ p, p = H.getD (2 * k) 0 := ⟨_, rfl⟩
  obtain ⟨q, hq⟩ : ∃ q, q = H.getD (2 * k + 1) 0 := ⟨_, rfl⟩
  rw [← hp] at g1 h1
  rw [← hq] at g2 h2
  rw [← hp, ← hq]
  have e3 : IntKind.u64.wrap (q * 4294967296) = q * 4294967296 := by rw [wrap_u64]; omega
  have e4 : IntKind.u64.wrap (p + q * 4294967296) = p + q * 4294967296 := by rw [wrap_u64]; omega
  have htk : List.take (2 * k) (List.map (fun n => V.int .u64 n) H) = List.map (fun n => V.int .u64 n) (H.take (2 * k)) := by rw [List.map_take]
  have hrow := Row_ok (H.take (2 * k)) (by rw [List.length_take]; omega) (fun n hn => oH n (List.mem_of_mem_take hn))
  refine zd3 [] (ρ := fun _ => [.v true (words (rowOf (H.take (2 * k))))]) (an e1 <| an e2 <| an e3 <| an e4 <| an g1 <| an g2 <| htk) (o := by repeat' first|exact hrow|trivial|constructor) (k := ?_)
  exact Holds.ret (RetOk.vs rfl (by exact ⟨⟨rfl, id⟩, ⟨rfl, id⟩, trivial⟩) rfl)
theorem nat_ok (h : List Int) (hl : h.length < 400000) (oh : okH h) : FnOk Tryz.prog 71 [.v (words h)] [.v true (words (digs (valH h)))] := by
 rw [← natOf_eq oh]
 have ht := trimL_len h
 have hsh := Short_ok h (by omega)
 have hc := Cut_ok (trimL h) (((trimL h).length + 1) / 2) (by omega) (by omega) (trimL_okH oh)
 obtain ⟨k, hk⟩ : ∃ k, k = ((trimL h).length + 1) / 2 := ⟨_, rfl⟩
 have e : natOf h = rowOf ((padH (trimL h) k).take (2 * k)) := by rw [hk]; rfl
 rw [← hk] at hc
 rw [e]
 have hq : (((trimL h).length : Int) + 1).tdiv 2 = k := by
  rw [Int.tdiv_eq_ediv_of_nonneg (by omega)]
  omega
 obtain ⟨t, ht2⟩ : ∃ t, t = trimL h := ⟨_, rfl⟩
 have htl : t.length < 400000 := by rw [ht2]; omega
 have hkl : k < 400000 := by omega
 rw [← ht2] at hsh hc hq ⊢
 refine FnOk.of Tryz.func71 rfl rfl fun cx w0 => ?_
 rw [show Tryz.f71.ntmps = 19 from rfl]
 refine zs0 ?_
 refine zs2 (ρ := fun _ => [.v false (words t)]) (o := by repeat' first|exact hsh|trivial|constructor) (k := ?_)
 refine zs1 hq ?_
 refine zs2 (ρ := fun _ => [.v true (words (rowOf ((padH t k).take (2 * k)))), .v true (.int .u64 ((padH t k).getD (2 * k) 0 + (padH t k).getD (2 * k + 1) 0 * 4294967296))]) (o := by repeat' first|exact hc|trivial|constructor) (k := ?_)
 refine zs0 ?_
 exact Holds.ret (RetOk.vs rfl (by exact ⟨⟨rfl, id⟩, trivial⟩) rfl)
theorem rTrim_ok (l : List Int) (hl : l.length < 100000) (ol : okW l) : FnOk Tryz.prog 166 [.v (words l)] [.v true (words (digs (val l)))] := by
 have h1 := Digits_ok l (by omega) ol
 have h2 := nat_ok (digL l) (by rw [digL_len]; omega) (digL_ok ol)
 rw [val_dig ol] at h2
 refine FnOk.of Tryz.func166 rfl rfl fun cx w0 => ?_
 rw [show Tryz.f166.ntmps = 6 from rfl]
 refine zs0 ?_
 refine zs2 (ρ := fun d => if d = 4 then [.v true (words (digL l))] else [.v true (words (digs (val l)))]) (o := by repeat' first|exact h1|exact h2|trivial|constructor) (k := ?_)
 exact Holds.ret (RetOk.vs rfl (by exact ⟨⟨rfl, id⟩, trivial⟩) rfl)
theorem valH_set : ∀ {l : List Int} {i : Nat} {n : Int}, i < l.length → valH (l.set i n) + 4294967296 ^ i * (l.getD i 0).toNat = valH l + 4294967296 ^ i * n.toNat
 | [], i, n, h => by simp at h
 | x :: r, 0, n, h => by simp [valH]; omega
 | x :: r, i + 1, n, h => by
   have ih := valH_set (l := r) (i := i) (n := n) (by simpa using h)
   rw [List.set_cons_succ, valH, valH, List.getD_cons_succ, Nat.pow_succ]
   have e1 : ∀ m : Nat, 4294967296 ^ i * 4294967296 * m = 4294967296 * (4294967296 ^ i * m) := fun m => by
    rw [Nat.mul_comm (4294967296 ^ i), Nat.mul_assoc]
   rw [e1, e1]
   omega
theorem valH_append : ∀ (l m : List Int), valH (l ++ m) = valH l + 4294967296 ^ l.length * valH m
 | [], m => by simp [valH]
 | x :: r, m => by
   rw [List.cons_append, valH, valH, valH_append r m, List.length_cons, Nat.pow_succ]
   rw [Nat.mul_add, Nat.mul_comm _ (4294967296 : Nat), ← Nat.mul_assoc]
   omega
theorem valH_take_succ {l : List Int} (k : Nat) : valH (l.take (k + 1)) = valH (l.take k) + 4294967296 ^ k * (l.getD k 0).toNat := by
 rcases Nat.lt_or_ge k l.length with h | h
 ·rw [take_succ h, valH_append, List.length_take, Nat.min_eq_left (by omega)]
  simp [valH]
 ·rw [List.take_of_length_le (by omega), List.take_of_length_le h, List.getD_eq_getElem?_getD, List.getElem?_eq_none h]
  simp
def tmI (ai : Int) (b : List Int) (i : Nat) (s : List Int × Int) : Nat → List Int × Int
 | 0 => s
 | k + 1 => ((tmI ai b i s k).1.set (i + k) (((tmI ai b i s k).2 + (tmI ai b i s k).1.getD (i + k) 0 + ai * b.getD k 0) % 4294967296), ((tmI ai b i s k).2 + (tmI ai b i s k).1.getD (i + k) 0 + ai * b.getD k 0) / 4294967296)
def tmO (a b : List Int) : Nat → List Int
 | 0 => List.replicate (a.length + b.length) 0
 | i + 1 => (tmI (a.getD i 0) b i (tmO a b i, 0) b.length).1.set (i + b.length) (tmI (a.getD i 0) b i (tmO a b i, 0) b.length).2
theorem okH_set {l : List Int} (h : okH l) {i : Nat} {n : Int} (hn : 0 ≤ n ∧ n < 4294967296) : okH (l.set i n) := fun m hm => by
 rcases List.mem_or_eq_of_mem_set hm with h1 | rfl
 ·exact h m h1
 ·exact hn
theorem tm_bound {ai u : Int} (ha : 0 ≤ ai ∧ ai < 4294967296) (hu : 0 ≤ u ∧ u < 4294967296) : 0 ≤ ai * u ∧ ai * u ≤ 18446744065119617025 := by
 refine ⟨Int.mul_nonneg ha.1 hu.1, ?_⟩
 have : ai * u ≤ 4294967295 * 4294967295 := Int.mul_le_mul (by omega) (by omega) hu.1 (by omega)
 omega
theorem tmI_ok {ai : Int} {b : List Int} {i : Nat} {s : List Int × Int} (ha : 0 ≤ ai ∧ ai < 4294967296) (ob : okH b) (hs : okH s.1) (hc : 0 ≤ s.2 ∧ s.2 < 4294967296) : ∀ k, okH (tmI ai b i s k).1 ∧ (0 ≤ (tmI ai b i s k).2 ∧ (tmI ai b i s k).2 < 4294967296) ∧ (tmI ai b i s k).1.length = s.1.length
 | 0 => ⟨hs, hc, rfl⟩
 | k + 1 => by
   obtain ⟨h1, h2, h3⟩ := tmI_ok (i := i) ha ob hs hc k
   have h4 := okH_getD h1 (i + k)
   have h5 := tm_bound ha (okH_getD ob k)
   rw [tmI]
   refine ⟨okH_set h1 (by omega), by simp only; omega, by simp only; rw [List.length_set, h3]⟩
theorem tmI_far {ai : Int} {b : List Int} {i : Nat} {s : List Int × Int} : ∀ k j, i + k ≤ j → (tmI ai b i s k).1.getD j 0 = s.1.getD j 0
 | 0, _, _ => rfl
 | k + 1, j, h => by
   rw [tmI]
   simp only
   rw [List.getD_eq_getElem?_getD, List.getElem?_set_ne (by omega), ← List.getD_eq_getElem?_getD]
   exact tmI_far k j (by omega)
theorem tmI_val {ai : Int} {b : List Int} {i : Nat} {s : List Int × Int} (ha : 0 ≤ ai ∧ ai < 4294967296) (ob : okH b) (hs : okH s.1) (hc : 0 ≤ s.2 ∧ s.2 < 4294967296) : ∀ k, i + k ≤ s.1.length →
 valH (tmI ai b i s k).1 + 4294967296 ^ (i + k) * (tmI ai b i s k).2.toNat = valH s.1 + 4294967296 ^ i * (ai.toNat * valH (b.take k) + s.2.toNat)
 | 0, _ => by rw [tmI, List.take_zero, valH]; simp
 | k + 1, hk => by
   have ih := tmI_val (i := i) ha ob hs hc k (by omega)
   obtain ⟨h1, h2, h3⟩ := tmI_ok (i := i) ha ob hs hc k
   have hi : i + k < (tmI ai b i s k).1.length := by omega
   have hz := okH_getD h1 (i + k)
   have hu := okH_getD ob k
   have hp := tm_bound ha hu
   rw [tmI, valH_take_succ]
   simp only
   have hset := valH_set (n := ((tmI ai b i s k).2 + (tmI ai b i s k).1.getD (i + k) 0 + ai * b.getD k 0) % 4294967296) hi
   generalize (tmI ai b i s k).1.getD (i + k) 0 = z at *
   generalize b.getD k 0 = u at *
   generalize (tmI ai b i s k).2 = c at *
   have em0 : (ai * u).toNat = ai.toNat * u.toNat := by
    obtain ⟨A, rfl⟩ : ∃ n : Nat, ai = n := ⟨ai.toNat, by omega⟩
    obtain ⟨U, rfl⟩ : ∃ n : Nat, u = n := ⟨u.toNat, by omega⟩
    rw [← Int.natCast_mul, Int.toNat_natCast, Int.toNat_natCast, Int.toNat_natCast]
   have eD : 4294967296 ^ (i + (k + 1)) = 4294967296 ^ (i + k) * 4294967296 := by rw [← Nat.add_assoc, Nat.pow_succ]
   have eA : 4294967296 ^ i * (ai.toNat * (valH (b.take k) + 4294967296 ^ k * u.toNat) + s.2.toNat) = 4294967296 ^ i * (ai.toNat * valH (b.take k) + s.2.toNat) + 4294967296 ^ (i + k) * (ai * u).toNat := by
    rw [em0, Nat.pow_add, Nat.mul_assoc, ← Nat.mul_add]
    congr 1
    rw [Nat.mul_add, Nat.mul_left_comm]
    omega
   generalize ai * u = m at *
   have er : ((c + z + m) % 4294967296).toNat + 4294967296 * ((c + z + m) / 4294967296).toNat = z.toNat + m.toNat + c.toNat := by omega
   have em : 4294967296 ^ (i + k) * ((c + z + m) % 4294967296).toNat + 4294967296 ^ (i + k) * (4294967296 * ((c + z + m) / 4294967296).toNat) = 4294967296 ^ (i + k) * z.toNat + 4294967296 ^ (i + k) * m.toNat + 4294967296 ^ (i + k) * c.toNat := by
    rw [← Nat.mul_add, er, Nat.mul_add, Nat.mul_add]
   rw [eD, eA, Nat.mul_assoc]
   generalize 4294967296 ^ (i + k) * ((c + z + m) % 4294967296).toNat = a1 at *
   generalize 4294967296 ^ (i + k) * (4294967296 * ((c + z + m) / 4294967296).toNat) = a2 at *
   generalize 4294967296 ^ (i + k) * z.toNat = a3 at *
   generalize 4294967296 ^ (i + k) * m.toNat = a4 at *
   generalize 4294967296 ^ (i + k) * c.toNat = a5 at *
   generalize 4294967296 ^ i * (ai.toNat * valH (b.take k) + s.2.toNat) = a6 at *
   omega
theorem tmO_ok {a b : List Int} (oa : okH a) (ob : okH b) : ∀ i, i ≤ a.length → okH (tmO a b i) ∧ (tmO a b i).length = a.length + b.length ∧ valH (tmO a b i) = valH (a.take i) * valH b ∧ ∀ j, i + b.length ≤ j → (tmO a b i).getD j 0 = 0
 | 0, _ => by
   refine ⟨fun n hn => by rw [tmO, List.mem_replicate] at hn; omega, by rw [tmO, List.length_replicate], ?_, fun j hj => ?_⟩
   ·rw [tmO, List.take_zero, valH, Nat.zero_mul]
    have := valH_zeros [] (a.length + b.length)
    rw [List.nil_append] at this
    exact this
   ·rw [tmO, List.getD_eq_getElem?_getD]
    cases h : (List.replicate (a.length + b.length) (0 : Int))[j]? with
    | none => rfl
    | some x => have := List.mem_of_getElem? h; rw [List.mem_replicate] at this; exact this.2
 | i + 1, hi => by
   obtain ⟨h1, h2, h3, h4⟩ := tmO_ok oa ob i (by omega)
   have ha := okH_getD oa i
   obtain ⟨k1, k2, k3⟩ := tmI_ok (i := i) (s := (tmO a b i, 0)) ha ob h1 (by simp) b.length
   have kv := tmI_val (i := i) (s := (tmO a b i, 0)) ha ob h1 (by simp) b.length (by simp only; omega)
   have kf := tmI_far (ai := a.getD i 0) (b := b) (i := i) (s := (tmO a b i, 0)) b.length
   have hlt : i + b.length < (tmI (a.getD i 0) b i (tmO a b i, 0) b.length).1.length := by rw [k3]; simp only; omega
   rw [tmO]
   refine ⟨okH_set k1 k2, by rw [List.length_set, k3]; exact h2, ?_, fun j hj => ?_⟩
   ·have hs := valH_set (n := (tmI (a.getD i 0) b i (tmO a b i, 0) b.length).2) hlt
    have h0 : (tmI (a.getD i 0) b i (tmO a b i, 0) b.length).1.getD (i + b.length) 0 = 0 := by
     rw [kf _ (Nat.le_refl _)]
     exact h4 _ (Nat.le_refl _)
    rw [h0, Int.toNat_zero, Nat.mul_zero, Nat.add_zero] at hs
    rw [List.take_length] at kv
    simp only [Int.toNat_zero, Nat.add_zero] at kv
    rw [hs, kv, h3, valH_take_succ, Nat.add_mul, Nat.mul_assoc]
   ·rw [List.getD_eq_getElem?_getD, List.getElem?_set_ne (by omega), ← List.getD_eq_getElem?_getD, kf _ (by omega)]
    exact h4 _ (by omega)
def timesL (a b : List Int) : List Int := tmO a b a.length
theorem timesL_ok {a b : List Int} (oa : okH a) (ob : okH b) : okH (timesL a b) ∧ (timesL a b).length = a.length + b.length ∧ valH (timesL a b) = valH a * valH b := by
 obtain ⟨h1, h2, h3, _⟩ := tmO_ok oa ob a.length (Nat.le_refl _)
 rw [List.take_length] at h3
 exact ⟨h1, h2, h3⟩
theorem Times_ok (a b : List Int) (hal : a.length < 100000) (hbl : b.length < 100000) (oa : okH a) (ob : okH b) : FnOk Tryz.prog 123 [.v (words a), .v (words b)] [.v true (words (timesL a b))] := by
 refine FnOk.of Tryz.func123 rfl rfl fun cx w0 => ?_
 rw [show Tryz.f123.ntmps = 62 from rfl]
 refine zs0 ?_
 refine zs0 ?_
 obtain ⟨N, hN⟩ : ∃ N, N = a.length + b.length := ⟨_, rfl⟩
 refine Holds.next (fun σ => ∀ x w, Rel cx w0 σ x w → Rel cx w0 { nt := 62, env := [(5, .own 300 0 N)], mem := [(300, .buf 76 1 true ((timesL a b).map fun n => .int .u64 n))] } x w) ?_ ?_
 ·refine zs0 ?_
  refine Holds.loopB (fun i : Nat => { nt := 62, env := [(6, .v true (.int .i64 i)), (5, .own 300 0 N), (0, .v false (words a)), (1, .v false (words b))], mem := [(300, .buf 76 1 true ((tmO a b i).map fun n => .int .u64 n))] }) (fun i => i ≤ a.length) (fun i => a.length - i) 0 (Nat.zero_le _) (fun x w h => by
   have := Rel.ren (s := 14) (s' := 300) (Rel.keep [6, 5, 0, 1] [14] h) (by decide) rfl rfl
   rw [tmO, List.map_replicate, hN]
   exact this) ?_
  intro i hi
  obtain ⟨h1, h2, h3, h4⟩ := tmO_ok oa ob i hi
  by_cases hend : i = a.length
  ·refine Holds.seq ?_
   refine zs0 ?_
   refine Holds.condF rfl (Holds.exit ⟨rfl, fun x w h => ?_⟩)
   rw [timesL, ← hend]
   exact Rel.keep [5] [300] h
  ·have hia : i < a.length := by omega
   have hA := okH_getD oa i
   obtain ⟨A, hAe⟩ : ∃ A, A = a.getD i 0 := ⟨_, rfl⟩
   obtain ⟨s, hs⟩ : ∃ s : List Int × Int, s = (tmO a b i, 0) := ⟨_, rfl⟩
   have gA := get_map hia
   rw [← hAe] at hA gA
   have hs1 : s.1 = tmO a b i := by rw [hs]
   have hs2 : s.2 = 0 := by rw [hs]
   have os : okH s.1 := by rw [hs1]; exact h1
   have hsl : s.1.length = N := by rw [hs1, h2, hN]
   have hI := tmI_ok (i := i) hA ob os (by rw [hs2]; omega)
   refine Holds.seq ?_
   refine zs0 ?_
   refine Holds.condT rfl (Holds.skip ?_)
   refine Holds.next (fun σ => ∀ x w, Rel cx w0 σ x w → Rel cx w0 { nt := 62, env := [(6, .v true (.int .i64 i)), (5, .own 300 0 N), (0, .v false (words a)), (1, .v false (words b))], mem := [(300, .buf 76 1 true ((tmO a b (i + 1)).map fun n => .int .u64 n))] } x w) ?_ ?_
   ·refine Holds.blockN ?_
    refine zs0 ?_
    refine Holds.next (fun σ => ∀ x w, Rel cx w0 σ x w → Rel cx w0 { nt := 62, env := [(7, .v true (.int .u64 (tmI A b i s b.length).2)), (6, .v true (.int .i64 i)), (5, .own 300 0 N), (0, .v false (words a)), (1, .v false (words b))], mem := [(300, .buf 76 1 true ((tmI A b i s b.length).1.map fun n => .int .u64 n))] } x w) ?_ ?_
    ·refine zs0 ?_
     refine Holds.loopB (fun k : Nat => { nt := 62, env := [(8, .v true (.int .i64 k)), (7, .v true (.int .u64 (tmI A b i s k).2)), (6, .v true (.int .i64 i)), (5, .own 300 0 N), (0, .v false (words a)), (1, .v false (words b))], mem := [(300, .buf 76 1 true ((tmI A b i s k).1.map fun n => .int .u64 n))] }) (fun k => k ≤ b.length) (fun k => b.length - k) 0 (Nat.zero_le _) (fun x w h => by
      have := Rel.keep [8, 7, 6, 5, 0, 1] [300] h
      rw [tmI, hs]
      exact this) ?_
     intro k hk
     obtain ⟨k1, k2, k3⟩ := hI k
     by_cases hend2 : k = b.length
     ·refine Holds.seq ?_
      refine zs0 ?_
      refine Holds.condF rfl (Holds.exit ⟨rfl, fun x w h => ?_⟩)
      rw [← hend2]
      have := Rel.keep [7, 6, 5, 0, 1] [300] h
      exact this
     ·have hkb : k < b.length := by omega
      have gB := get_map hkb
      have hU := okH_getD ob k
      have hik : i + k < (tmI A b i s k).1.length := by omega
      have gZ := get_map hik
      have hZ := okH_getD k1 (i + k)
      have esucc : tmI A b i s (k + 1) = ((tmI A b i s k).1.set (i + k) (((tmI A b i s k).2 + (tmI A b i s k).1.getD (i + k) 0 + A * b.getD k 0) % 4294967296), ((tmI A b i s k).2 + (tmI A b i s k).1.getD (i + k) 0 + A * b.getD k 0) / 4294967296) := rfl
      obtain ⟨U, hUe⟩ : ∃ U, U = b.getD k 0 := ⟨_, rfl⟩
      rw [← hUe] at gB hU esucc
      obtain ⟨T, hT⟩ : ∃ T, T = tmI A b i s k := ⟨_, rfl⟩
      rw [← hT] at k1 k2 k3 hik gZ hZ esucc ⊢
      obtain ⟨z, hz⟩ : ∃ z, z = T.1.getD (i + k) 0 := ⟨_, rfl⟩
      rw [← hz] at gZ hZ esucc
      have hp := tm_bound hA hU
      obtain ⟨p, hpe⟩ : ∃ p, p = A * U := ⟨_, rfl⟩
      have e2 : IntKind.u64.wrap (A * U) = p := by rw [wrap_u64, ← hpe]; rw [← hpe] at hp; omega
      rw [← hpe] at hp esucc
      have e1 : IntKind.u64.wrap (T.2 + z) = T.2 + z := by rw [wrap_u64]; omega
      obtain ⟨q, hq⟩ : ∃ q, q = T.2 + z + p := ⟨_, rfl⟩
      have e3 : IntKind.u64.wrap (T.2 + z + p) = q := by rw [wrap_u64, hq]; omega
      rw [← hq] at esucc
      have hq0 : 0 ≤ q ∧ q < 18446744073709551616 := by omega
      have e4 : q.tmod 4294967296 = q % 4294967296 := Int.tmod_eq_emod_of_nonneg hq0.1
      have e5 : q.tdiv 4294967296 = q / 4294967296 := Int.tdiv_eq_ediv_of_nonneg hq0.1
      have e6 : IntKind.u64.wrap (q / 4294967296) = q / 4294967296 := by rw [wrap_u64]; omega
      have hadd : ((i : Int) + k).toNat = i + k := by omega
      refine Holds.seq ?_
      refine zs0 ?_
      refine Holds.condT rfl (Holds.skip ?_)
      refine Holds.next (fun σ => ∀ x w, Rel cx w0 σ x w → Rel cx w0 { nt := 62, env := [(8, .v true (.int .i64 k)), (7, .v true (.int .u64 (q / 4294967296))), (6, .v true (.int .i64 i)), (5, .own 300 0 N), (0, .v false (words a)), (1, .v false (words b))], mem := [(300, .buf 76 1 true ((T.1.set (i + k) (q % 4294967296)).map fun n => .int .u64 n))] } x w) ?_ ?_
      ·refine Holds.blockN ?_
       refine zd1 [] (an gA <| an gB <| an gZ <| an hadd <| an e1 <| an e2 <| e3) ?_
       refine zs1 (an hadd <| an e4 <| gZ) ?_
       refine zr1 (an e5 <| e6) ?_
       intro x w h
       have := Rel.keep [8, 7, 6, 5, 0, 1] [300] h
       rw [List.map_set]
       exact this
      ·intro σ hσ
       refine Holds.from hσ ?_
       refine zr0 ?_
       refine ⟨k + 1, (by show k + 1 ≤ b.length; omega), (show b.length - (k + 1) < b.length - k by omega), fun x w h => ?_⟩
       simp only [esucc]
       exact Rel.keep [8, 7, 6, 5, 0, 1] [300] h
    ·intro σ hσ
     refine Holds.from hσ ?_
     obtain ⟨k1, k2, k3⟩ := hI b.length
     have hib : i + b.length < (tmI A b i s b.length).1.length := by omega
     have gZ := get_map hib
     have hadd : ((i : Int) + b.length).toNat = i + b.length := by omega
     have e : tmO a b (i + 1) = (tmI A b i s b.length).1.set (i + b.length) (tmI A b i s b.length).2 := by rw [tmO, hAe, hs]
     refine zr1 (an gZ <| hadd) ?_
     intro x w h
     rw [e, List.map_set]
     exact Rel.keep [6, 5, 0, 1] [300] h
   ·intro σ hσ
    refine Holds.from hσ ?_
    refine zr0 ?_
    exact ⟨i + 1, (by show i + 1 ≤ a.length; omega), (show a.length - (i + 1) < a.length - i by omega), fun x w h => Rel.keep [6, 5, 0, 1] [300] h⟩
 ·intro σ hσ
  refine Holds.from hσ ?_
  have hl := (timesL_ok oa ob).2.1
  refine zs0 ?_
  exact Holds.ret ⟨_, [], rfl, ⟨⟨rfl, by rw [List.drop_zero, List.take_of_length_le (by rw [List.length_map, hl, hN]; exact Nat.le_refl _)], id, rfl⟩, trivial⟩, by simp [R.names, R.mems, R.blks], by simp, rfl⟩
theorem rMul_ok (x y : List Int) (hx : x.length < 40000) (hy : y.length < 40000) (ox : okW x) (oy : okW y) : FnOk Tryz.prog 65 [.v (words x), .v (words y)] [.v true (words (digs (val x * val y)))] := by
 have h1 := Digits_ok x (by omega) ox
 have h2 := Digits_ok y (by omega) oy
 have lx := digL_len x
 have ly := digL_len y
 have h3 := Times_ok (digL x) (digL y) (by omega) (by omega) (digL_ok ox) (digL_ok oy)
 obtain ⟨t1, t2, t3⟩ := timesL_ok (digL_ok ox) (digL_ok oy)
 have h4 := nat_ok (timesL (digL x) (digL y)) (by omega) t1
 rw [t3, val_dig ox, val_dig oy] at h4
 refine FnOk.of Tryz.func65 rfl rfl fun cx w0 => ?_
 rw [show Tryz.f65.ntmps = 11 from rfl]
 refine zs0 ?_
 refine zs2 (ρ := fun d => if d = 6 then [.v true (words (digL x))] else if d = 8 then [.v true (words (digL y))] else if d = 9 then [.v true (words (timesL (digL x) (digL y)))] else [.v true (words (digs (val x * val y)))]) (o := by repeat' first|exact h1|exact h2|exact h3|exact h4|trivial|constructor) (k := ?_)
 exact Holds.ret (RetOk.vs rfl (by exact ⟨⟨rfl, id⟩, trivial⟩) rfl)
theorem digit_ok (a : List Int) (i : Nat) (hl : a.length < 1000000) : FnOk Tryz.prog 169 [.v (words a), .v (.int .i64 i)] [.v true (.int .u64 (a.getD i 0))] := by
 refine FnOk.of Tryz.func169 rfl rfl fun cx w0 => ?_
 rw [show Tryz.f169.ntmps = 13 from rfl]
 refine zs0 ?_
 refine Holds.next (fun σ => a.getD i 0 = 0 ∧ ∀ x w, Rel cx w0 σ x w → Rel cx w0 { nt := 13, env := [], mem := [] } x w) ?_ ?_
 ·by_cases h : i < a.length
  ·refine zs0 ?_
   refine Holds.condT rfl ?_
   refine zs1 ((get_map h)) ?_
   exact Holds.ret (RetOk.vs rfl (by exact ⟨⟨rfl, id⟩, trivial⟩) rfl)
  ·refine zs0 ?_
   refine Holds.condF rfl (Holds.skip ⟨?_, fun x w h => Rel.keep [] [] h⟩)
   rw [List.getD_eq_getElem?_getD, List.getElem?_eq_none (by omega)]; rfl
 ·rintro σ ⟨h0, hσ⟩
  rw [h0]
  refine Holds.from hσ ?_
  refine zs0 ?_
  exact Holds.ret (RetOk.vs rfl (by exact ⟨⟨rfl, id⟩, trivial⟩) rfl)
def psI (a b : List Int) : Nat → List Int × Int
 | 0 => ([], 0)
 | k + 1 => ((psI a b k).1 ++ [((psI a b k).2 + a.getD k 0 + b.getD k 0) % 4294967296], ((psI a b k).2 + a.getD k 0 + b.getD k 0) / 4294967296)
theorem psI_ok {a b : List Int} (oa : okH a) (ob : okH b) : ∀ k, okH (psI a b k).1 ∧ (0 ≤ (psI a b k).2 ∧ (psI a b k).2 ≤ 1) ∧ (psI a b k).1.length = k ∧ valH (psI a b k).1 + 4294967296 ^ k * (psI a b k).2.toNat = valH (a.take k) + valH (b.take k)
 | 0 => ⟨(fun n h => by cases h), by simp [psI], rfl, by simp [psI, valH]⟩
 | k + 1 => by
   obtain ⟨h1, h2, h3, h4⟩ := psI_ok oa ob k
   have ha := okH_getD oa k
   have hb := okH_getD ob k
   rw [psI, valH_take_succ, valH_take_succ]
   simp only
   refine ⟨fun n hn => ?_, by omega, by rw [List.length_append, h3]; rfl, ?_⟩
   ·rcases List.mem_append.1 hn with hn | hn
    ·exact h1 n hn
    ·rw [List.mem_singleton] at hn; omega
   ·rw [valH_append, h3, valH, valH, Nat.mul_zero, Nat.add_zero, Nat.pow_succ, Nat.mul_assoc]
    generalize a.getD k 0 = u at *
    generalize b.getD k 0 = v at *
    generalize (psI a b k).2 = c at *
    have er : ((c + u + v) % 4294967296).toNat + 4294967296 * ((c + u + v) / 4294967296).toNat = c.toNat + u.toNat + v.toNat := by omega
    have em : 4294967296 ^ k * ((c + u + v) % 4294967296).toNat + 4294967296 ^ k * (4294967296 * ((c + u + v) / 4294967296).toNat) = 4294967296 ^ k * c.toNat + 4294967296 ^ k * u.toNat + 4294967296 ^ k * v.toNat := by
     rw [← Nat.mul_add, er, Nat.mul_add, Nat.mul_add]
    omega
def plusH (a b : List Int) : List Int := (psI a b (max a.length b.length)).1 ++ [(psI a b (max a.length b.length)).2]
theorem plusH_ok {a b : List Int} (oa : okH a) (ob : okH b) : okH (plusH a b) ∧ (plusH a b).length = max a.length b.length + 1 ∧ valH (plusH a b) = valH a + valH b := by
 obtain ⟨h1, h2, h3, h4⟩ := psI_ok oa ob (max a.length b.length)
 refine ⟨fun n hn => ?_, by rw [plusH, List.length_append, h3]; rfl, ?_⟩
 ·rcases List.mem_append.1 hn with hn | hn
  ·exact h1 n hn
  ·rw [List.mem_singleton] at hn; omega
 ·rw [plusH, valH_append, h3, valH, valH, Nat.mul_zero, Nat.add_zero, h4, List.take_of_length_le (Nat.le_max_left _ _), List.take_of_length_le (Nat.le_max_right _ _)]
def psA (k : Nat) : AV := if k = 0 then .nil else .own 300 0 k
def psB (a b : List Int) (k : Nat) : List (Nat × Blk) := if k = 0 then [] else [(300, .buf 76 1 true ((psI a b k).1.map fun n => .int .u64 n))]
theorem Plus_ok (a b : List Int) (hal : a.length < 100000) (hbl : b.length < 100000) (oa : okH a) (ob : okH b) : FnOk Tryz.prog 121 [.v (words a), .v (words b)] [.v true (words (plusH a b))] := by
 obtain ⟨M, hM⟩ : ∃ M, M = max a.length b.length := ⟨_, rfl⟩
 rw [plusH, ← hM]
 refine FnOk.of Tryz.func121 rfl rfl fun cx w0 => ?_
 rw [show Tryz.f121.ntmps = 40 from rfl]
 refine zs0 ?_
 refine zs0 ?_
 refine zs0 ?_
 refine Holds.next (fun σ => ∀ x w, Rel cx w0 σ x w → Rel cx w0 { nt := 40, env := [(6, .v true (.int .u64 (psI a b M).2)), (5, psA M)], mem := psB a b M } x w) ?_ ?_
 ·refine zs0 ?_
  refine Holds.loopB (fun k : Nat => { nt := 40, env := [(7, .v true (.int .i64 k)), (6, .v true (.int .u64 (psI a b k).2)), (5, psA k), (0, .v false (words a)), (1, .v false (words b))], mem := psB a b k }) (fun k => k ≤ M) (fun k => M - k) 0 (Nat.zero_le _) (fun x w hr => Rel.keep [7, 6, 5, 0, 1] [] hr) ?_
  intro k hk
  obtain ⟨h1, h2, h3, _⟩ := psI_ok oa ob k
  by_cases hend : k = M
  ·have n1 : ¬ (k : Int) < a.length := by omega
   have n2 : ¬ (k : Int) < b.length := by omega
   refine Holds.seq ?_
   refine zs1 (an n1 <| n2) ?_
   refine Holds.condF rfl (Holds.exit ⟨rfl, fun x w hr => ?_⟩)
   rw [← hend]
   exact Rel.less [6, 5] (fun _ => rfl) hr
  ·have hlt : k < a.length ∨ k < b.length := by omega
   have hA := okH_getD oa k
   have hB := okH_getD ob k
   have dA := digit_ok a k (by omega)
   have dB := digit_ok b k (by omega)
   have esucc : psI a b (k + 1) = ((psI a b k).1 ++ [((psI a b k).2 + a.getD k 0 + b.getD k 0) % 4294967296], ((psI a b k).2 + a.getD k 0 + b.getD k 0) / 4294967296) := rfl
   have eB : psB a b (k + 1) = [(300, .buf 76 1 true ((psI a b (k + 1)).1.map fun n => .int .u64 n))] := if_neg (by omega)
   have eA : psA (k + 1) = .own 300 0 (k + 1) := if_neg (by omega)
   rw [esucc] at eB
   simp only at eB
   obtain ⟨u, hu⟩ : ∃ u, u = a.getD k 0 := ⟨_, rfl⟩
   obtain ⟨v, hv⟩ : ∃ v, v = b.getD k 0 := ⟨_, rfl⟩
   rw [← hu] at hA dA esucc eB
   rw [← hv] at hB dB esucc eB
   obtain ⟨T, hT⟩ : ∃ T, T = psI a b k := ⟨_, rfl⟩
   rw [← hT] at h1 h2 h3 esucc eB ⊢
   obtain ⟨q, hq⟩ : ∃ q, q = T.2 + u + v := ⟨_, rfl⟩
   rw [← hq] at esucc eB
   have e1 : IntKind.u64.wrap (T.2 + u) = T.2 + u := by rw [wrap_u64]; omega
   have e3 : IntKind.u64.wrap (T.2 + u + v) = q := by rw [wrap_u64, hq]; omega
   have hq0 : 0 ≤ q ∧ q < 18446744073709551616 := by omega
   have e4 : q.tmod 4294967296 = q % 4294967296 := Int.tmod_eq_emod_of_nonneg hq0.1
   have e5 : q.tdiv 4294967296 = q / 4294967296 := Int.tdiv_eq_ediv_of_nonneg hq0.1
   have e6 : IntKind.u64.wrap (q / 4294967296) = q / 4294967296 := by rw [wrap_u64]; omega
   refine Holds.seq ?_
   refine Holds.next (fun σ => ∀ x w, Rel cx w0 σ x w → Rel cx w0 { nt := 40, env := [(7, .v true (.int .i64 k)), (6, .v true (.int .u64 T.2)), (5, psA k), (0, .v false (words a)), (1, .v false (words b)), (17, .v true (.bool true))], mem := psB a b k } x w) ?_ ?_
   ·by_cases ha : (k : Int) < a.length
    ·refine zr1 ha ?_
     exact fun x w hr => Rel.less [7, 6, 5, 0, 1, 17] (fun _ => rfl) hr
    ·have hb : (k : Int) < b.length := by omega
     refine zr1 (an ha <| hb) ?_
     exact fun x w hr => Rel.less [7, 6, 5, 0, 1, 17] (fun _ => rfl) hr
   ·intro σ hσ
    refine Holds.from hσ ?_
    refine Holds.condT rfl (Holds.skip ?_)
    refine Holds.next (fun σ => ∀ x w, Rel cx w0 σ x w → Rel cx w0 { nt := 40, env := [(7, .v true (.int .i64 k)), (6, .v true (.int .u64 (psI a b (k + 1)).2)), (5, psA (k + 1)), (0, .v false (words a)), (1, .v false (words b))], mem := psB a b (k + 1) } x w) ?_ ?_
    ·rw [eA, eB, esucc]
     refine Holds.blockN ?_
     refine zs3 (ρ := fun d => if d = 23 then [.v true (.int .u64 u)] else [.v true (.int .u64 v)]) (an e1 <| e3) (o := by repeat' first|exact dA|exact dB|trivial|constructor) (k := ?_)
     rcases Nat.eq_zero_or_pos k with h0 | h0
     ·have ea : psA k = .nil := if_pos h0
      have eb : psB a b k = [] := if_pos h0
      have et : T.1 = [] := List.eq_nil_of_length_eq_zero (by omega)
      have hk1 : k + 1 = 1 := by omega
      rw [ea, eb]
      refine zs1 e4 ?_
      refine zr1 (an e5 <| e6) ?_
      intro x w h
      have := Rel.ren (s := 33) (s' := 300) (Rel.keep [7, 6, 5, 0, 1] [33] h) (by decide) rfl rfl
      rw [et, hk1]
      exact this
     ·have ea : psA k = .own 300 0 k := if_neg (by omega)
      have eb : psB a b k = [(300, .buf 76 1 true (T.1.map fun n => .int .u64 n))] := by rw [hT]; exact if_neg (by omega)
      rw [ea, eb]
      refine zs1 (an e4 <| h3) ?_
      refine zr1 (an e5 <| e6) ?_
      intro x w h
      have := Rel.ren (s := 33) (s' := 300) (Rel.keep [7, 6, 5, 0, 1] [33] h) (by decide) rfl rfl
      rw [List.map_append]
      exact this
    ·intro σ hσ
     refine Holds.from hσ ?_
     refine zr0 ?_
     exact ⟨k + 1, (by show k + 1 ≤ M; omega), (show M - (k + 1) < M - k by omega), fun x w hr => Rel.less [7, 6, 5, 0, 1] (fun _ => rfl) hr⟩
 ·intro σ hσ
  refine Holds.from hσ ?_
  obtain ⟨h1, h2, h3, _⟩ := psI_ok oa ob M
  rw [psA, psB]
  by_cases h0 : M = 0
  ·rw [if_pos h0, if_pos h0]
   have et : (psI a b M).1 = [] := List.eq_nil_of_length_eq_zero (by omega)
   rw [et]
   refine zs0 ?_
   exact Holds.ret ⟨_, [], rfl, ⟨⟨rfl, rfl, id, rfl⟩, trivial⟩, by simp [R.names, R.mems, R.blks], by simp, rfl⟩
  ·rw [if_neg h0, if_neg h0]
   refine zs1 h3 ?_
   exact Holds.ret ⟨_, [], rfl, ⟨⟨rfl, by rw [List.drop_zero, List.take_of_length_le (by simp [h3]), List.map_append]; rfl, id, rfl⟩, trivial⟩, by simp [R.names, R.mems, R.blks], by simp, rfl⟩
theorem rAdd_ok (x y : List Int) (hx : x.length < 40000) (hy : y.length < 40000) (ox : okW x) (oy : okW y) : FnOk Tryz.prog 64 [.v (words x), .v (words y)] [.v true (words (digs (val x + val y)))] := by
 have h1 := Digits_ok x (by omega) ox
 have h2 := Digits_ok y (by omega) oy
 have lx := digL_len x
 have ly := digL_len y
 have h3 := Plus_ok (digL x) (digL y) (by omega) (by omega) (digL_ok ox) (digL_ok oy)
 obtain ⟨t1, t2, t3⟩ := plusH_ok (digL_ok ox) (digL_ok oy)
 have h4 := nat_ok (plusH (digL x) (digL y)) (by omega) t1
 rw [t3, val_dig ox, val_dig oy] at h4
 refine FnOk.of Tryz.func64 rfl rfl fun cx w0 => ?_
 rw [show Tryz.f64.ntmps = 11 from rfl]
 refine zs0 ?_
 refine zs2 (ρ := fun d => if d = 6 then [.v true (words (digL x))] else if d = 8 then [.v true (words (digL y))] else if d = 9 then [.v true (words (plusH (digL x) (digL y)))] else [.v true (words (digs (val x + val y)))]) (o := by repeat' first|exact h1|exact h2|exact h3|exact h4|trivial|constructor) (k := ?_)
 exact Holds.ret (RetOk.vs rfl (by exact ⟨⟨rfl, id⟩, trivial⟩) rfl)
end Go.Proofs.YtobacemgcjnahaaGreatDoor.L
namespace Go.Proofs
open Go.Shelf
def Tryz.lays170_ren : Go.Shelf.Ren := ⟨fun | 170 => 135 | n => n, fun | 0 => 0 | 3 => 3 | 5 => 5 | 37 => 126 | 70 => 195 | 72 => 197 | n => n, fun | n => n⟩
theorem Tryz.lays170 : Go.Proofs.Lays.n170 Tryz.prog Tryz.lays170_ren := {
 mixed := by kernel_rfl
 f170 := Tryz.func135.trans (congrArg some (by kernel_rfl))
 t0 := Tryz.underlying0
 a0 := Tryz.isAgg0
 z0 := Tryz.sizeOf0
 v0 := Tryz.zeroValue0
 t3 := Tryz.underlying3
 a3 := Tryz.isAgg3
 z3 := Tryz.sizeOf3
 v3 := Tryz.zeroValue3
 t37 := Tryz.underlying126
 a37 := Tryz.isAgg126
 z37 := Tryz.sizeOf126
 v37 := Tryz.zeroValue126
 t70 := Tryz.underlying195
 a70 := Tryz.isAgg195
 z70 := Tryz.sizeOf195
 v70 := Tryz.zeroValue195
 t72 := Tryz.underlying197
 a72 := Tryz.isAgg197
 z72 := Tryz.sizeOf197
 v72 := Tryz.zeroValue197 }
def Tryz.lays167_ren : Go.Shelf.Ren := ⟨fun | 167 => 133 | 240 => 176 | 276 => 189 | n => n, fun | 0 => 0 | 4 => 4 | 5 => 5 | 9 => 9 | 20 => 20 | 37 => 126 | 70 => 195 | 72 => 197 | 75 => 201 | 80 => 203 | 164 => 247 | n => n, fun | n => n⟩
theorem Tryz.lays167 : Go.Proofs.Lays.n167 Tryz.prog Tryz.lays167_ren := {
 mixed := by kernel_rfl
 f167 := Tryz.func133.trans (congrArg some (by kernel_rfl))
 f240 := Tryz.func176.trans (congrArg some (by kernel_rfl))
 f276 := Tryz.func189.trans (congrArg some (by kernel_rfl))
 t0 := Tryz.underlying0
 a0 := Tryz.isAgg0
 z0 := Tryz.sizeOf0
 v0 := Tryz.zeroValue0
 t4 := Tryz.underlying4
 a4 := Tryz.isAgg4
 z4 := Tryz.sizeOf4
 v4 := Tryz.zeroValue4
 t5 := Tryz.underlying5
 a5 := Tryz.isAgg5
 z5 := Tryz.sizeOf5
 v5 := Tryz.zeroValue5
 t9 := Tryz.underlying9
 a9 := Tryz.isAgg9
 z9 := Tryz.sizeOf9
 v9 := Tryz.zeroValue9
 t20 := Tryz.underlying20
 a20 := Tryz.isAgg20
 z20 := Tryz.sizeOf20
 v20 := Tryz.zeroValue20
 t37 := Tryz.underlying126
 a37 := Tryz.isAgg126
 z37 := Tryz.sizeOf126
 v37 := Tryz.zeroValue126
 t70 := Tryz.underlying195
 a70 := Tryz.isAgg195
 z70 := Tryz.sizeOf195
 v70 := Tryz.zeroValue195
 t72 := Tryz.underlying197
 a72 := Tryz.isAgg197
 z72 := Tryz.sizeOf197
 v72 := Tryz.zeroValue197
 t75 := Tryz.underlying201
 a75 := Tryz.isAgg201
 z75 := Tryz.sizeOf201
 v75 := Tryz.zeroValue201
 t164 := Tryz.underlying247
 a164 := Tryz.isAgg247
 z164 := Tryz.sizeOf247
 v164 := Tryz.zeroValue247 }
theorem Tryz.Builder_Extra_167 : Builder.Extra Tryz.prog Tryz.lays167_ren := {
 sizeBuilder := by kernel_rfl
 liesBuilder := by kernel_rfl
 t5 := Tryz.underlying5
 a5 := Tryz.isAgg5
 z5 := Tryz.sizeOf5
 v5 := Tryz.zeroValue5
 infoByte := by kernel_rfl
 cellsByte := by kernel_rfl
 sizeByte := by kernel_rfl
 neB5 := by decide }
def Tryz.lays169_ren : Go.Shelf.Ren := ⟨fun | 169 => 134 | n => n, fun | 0 => 0 | 3 => 3 | 5 => 5 | 9 => 9 | 37 => 126 | 70 => 195 | 72 => 197 | 127 => 232 | n => n, fun | n => n⟩
theorem Tryz.lays169 : Go.Proofs.Lays.n169 Tryz.prog Tryz.lays169_ren := {
 mixed := by kernel_rfl
 f169 := Tryz.func134.trans (congrArg some (by kernel_rfl))
 t0 := Tryz.underlying0
 a0 := Tryz.isAgg0
 z0 := Tryz.sizeOf0
 v0 := Tryz.zeroValue0
 t3 := Tryz.underlying3
 a3 := Tryz.isAgg3
 z3 := Tryz.sizeOf3
 v3 := Tryz.zeroValue3
 t9 := Tryz.underlying9
 a9 := Tryz.isAgg9
 z9 := Tryz.sizeOf9
 v9 := Tryz.zeroValue9
 t37 := Tryz.underlying126
 a37 := Tryz.isAgg126
 z37 := Tryz.sizeOf126
 v37 := Tryz.zeroValue126
 t70 := Tryz.underlying195
 a70 := Tryz.isAgg195
 z70 := Tryz.sizeOf195
 v70 := Tryz.zeroValue195
 t72 := Tryz.underlying197
 a72 := Tryz.isAgg197
 z72 := Tryz.sizeOf197
 v72 := Tryz.zeroValue197
 t127 := Tryz.underlying232
 a127 := Tryz.isAgg232
 z127 := Tryz.sizeOf232
 v127 := Tryz.zeroValue232 }
theorem Tryz.Builder_Extra_169 : Builder.Extra Tryz.prog Tryz.lays169_ren := {
 sizeBuilder := by kernel_rfl
 liesBuilder := by kernel_rfl
 t5 := Tryz.underlying5
 a5 := Tryz.isAgg5
 z5 := Tryz.sizeOf5
 v5 := Tryz.zeroValue5
 infoByte := by kernel_rfl
 cellsByte := by kernel_rfl
 sizeByte := by kernel_rfl
 neB5 := by decide }
open Go.RowKit in
theorem Tryz.Builder_WriteByte (B b : Nat) (bs : List Value) (c : Int) (w : World) (h : Lib.IsBuilder 197 5 B b bs w) (hlen : bs.length + 1 ≤ 140737488355328) (hBw : B ≤ w.heap.size) :
 Calls Tryz.prog 133 #[.pointer (some ⟨b, 0, none⟩), .int .u8 c] w fun e w' => e = .returned .nilIface ∧ (Lib.BuilderAt 197 5 B b (.pointer (some ⟨b, 0, none⟩)) (bs ++ [.int .u8 c]) w' ∧ Below B w w') := Any.Builder_WriteByte Tryz.lays167 Tryz.Builder_Extra_167 B b bs c w h hlen hBw
open Go.RowKit in
theorem Tryz.Builder_String_f (B b : Nat) (l : List UInt8) (w : World) (h : Lib.IsBuilderF 197 5 B b (Lib.byteCells l) w) (hBw : B ≤ w.heap.size) :
 Calls Tryz.prog 134 #[.pointer (some ⟨b, 0, none⟩)] w fun e w' => e = .returned (.string ⟨l.toArray⟩) ∧ (Lib.IsBuilderF 197 5 B b (Lib.byteCells l) w' ∧ Below B w w') := Any.Builder_String_any_f Tryz.lays169 Tryz.Builder_Extra_169 B b l w h hBw
open Go.RowKit in
theorem Tryz.Builder_Len_f (B b : Nat) (bs : List Value) (w : World) (h : Lib.IsBuilderF 197 5 B b bs w) :
 Calls Tryz.prog 135 #[.pointer (some ⟨b, 0, none⟩)] w fun e w' => e = .returned (.int .i64 bs.length) ∧ w' = w := Any.Builder_Len_f Tryz.lays170 B b bs w h
end Go.Proofs
namespace Go.Proofs.YtobacemgcjnahaaGreatDoor.L
open Go Go.RowKit Go.Proofs
theorem builder_kept {T e : TypeId} {B b : Nat} {bs : List Value} {w w' : World} (h : Lib.IsBuilder T e B b bs w) (hk : ∀ k, k < w.heap.size → w'.heap[k]? = w.heap[k]?) : Lib.IsBuilder T e B b bs w' := by
 have one : ∀ p, Lib.BuilderAt T e B b p bs w → Lib.BuilderAt T e B b p bs w' := by
  rintro p ⟨hB, v, hb, hown, hne⟩
  have hlt : ∀ {k : Nat} {o : Obj}, w.heap[k]? = some o → w'.heap[k]? = some o := fun {k o} h => (hk k (Array.getElem?_eq_some_iff.1 h).1).trans h
  refine ⟨hB, v, hlt hb, ?_, hne⟩
  obtain ⟨h1, h2⟩ := hown
  refine ⟨h1, ?_⟩
  rcases h2 with h2 | ⟨g, cap, cur, k1, k2, k3, k4⟩
  ·exact .inl h2
  ·exact .inr ⟨g, cap, cur, k1, k2, hlt k3, k4⟩
 rcases h with h | h
 ·exact .inl (one _ h)
 ·exact .inr (one _ h)
def dotN (c : Nat) (pt : Bool) : Bool := decide (c = 46) && !pt
def dgL (s : ByteArray) (hex : Bool) : Nat → Nat → Bool → List UInt8 → Nat → Nat × List UInt8 × Nat
 | 0, i, _, l, k => (i, l, k)
 | f + 1, i, pt, l, k => if dgN (nxB s i) hex = true then dgL s hex f (i + 1) pt (l ++ [UInt8.ofNat (nxB s i)]) (k + b2n pt) else
   if dotN (nxB s i) pt = true then dgL s hex f (i + 1) true l k else (i, l, k)
def dgR (s : ByteArray) (i : Nat) (hex : Bool) : Nat × List UInt8 × Nat := dgL s hex (s.size + 1 - i) i false [] 0
theorem next_calls (s : ByteArray) (i b : Nat) (hs : s.size < 1000000000) (hi : i < 1000000000) (w : World) (hG : GL w) (hb : w.heap[b]? = some (.cells #[.string s, .int .i64 i] 136 (0, 0))) :
 Calls Tryz.prog 132 #[.pointer (some ⟨b, 0, none⟩)] w fun e w' => e = .returned (.int .u8 (nxB s i : Nat)) ∧ Below w.heap.size w w' := by
 refine FnOk.calls1 (next_ok s i hs hi) (enters_of Tryz.func132 (by kernel_rfl) rfl) (fun w ok cs h => ?_) (O := fun _ => True) hG (vs := [.pointer (some ⟨b, 0, none⟩)]) ?_
 ·rw [Rep] at h; rw [h]; rfl
 ·rw [ArgsRep]
  refine ⟨_, [], rfl, ?_, by rw [ArgsRep]⟩
  rw [ArgRep]
  refine ⟨b, 0, [.string s, .int .i64 i], ⟨(Array.getElem?_eq_some_iff.1 hb).1, trivial⟩, rfl, ?_, fun j hj => ?_⟩
  ·unfold rdV
   rw [Rep, RepL]
   refine ⟨[.string s], [.int .i64 i], rfl, by rw [Rep], ?_⟩
   rw [RepL]
   exact ⟨[.int .i64 i], [], rfl, by rw [Rep], by rw [RepL]⟩
  ·simp only [World.cell?, hb, Option.isSome_none, Bool.false_eq_true, if_false, Nat.zero_add]
   rw [← Array.getElem?_toList]
theorem pdigit_calls (c : Nat) (hex : Bool) (hc : c < 256) (w : World) (hG : GL w) :
 Calls Tryz.prog 131 #[.int .u8 c, .bool hex] w fun e w' => e = .returned (.bool (dgN c hex)) ∧ Below w.heap.size w w' := by
 refine FnOk.calls1 (pdigit_ok c hex hc) (enters_of Tryz.func131 (by kernel_rfl) rfl) (fun w ok cs h => ?_) (O := fun _ => True) hG (vs := [.int .u8 c, .bool hex]) ?_
 ·rw [Rep] at h; rw [h]; rfl
 ·rw [ArgsRep]
  refine ⟨_, _, rfl, ?_, ?_⟩
  ·rw [ArgRep]; exact ⟨[.int .u8 c], by rw [Rep], rfl⟩
  ·rw [ArgsRep]
   refine ⟨_, [], rfl, ?_, by rw [ArgsRep]⟩
   rw [ArgRep]; exact ⟨[.bool hex], by rw [Rep], rfl⟩
structure DRel (s : ByteArray) (b : Nat) (w : World) (i : Nat) (l : List UInt8) (wx : World) : Prop where
 it : Turned b (.cells #[.string s, .int .i64 i] 136 (0, 0)) w wx
 bld : Lib.IsBuilder 197 5 w.heap.size w.heap.size (Lib.byteCells l) wx
 gl : GL wx
 lt : b < w.heap.size
theorem DRel.step {s : ByteArray} {b : Nat} {w wx w' : World} {i : Nat} {l : List UInt8} (h : DRel s b w i l wx) (hb : Below wx.heap.size wx w') : DRel s b w i l w' where
 it := ⟨hb.os.trans h.it.os, hb.tape.trans h.it.tape, hb.output.trans h.it.output, Nat.le_trans h.it.size hb.size, fun k hk hn => (hb.block k (Nat.lt_of_lt_of_le hk h.it.size)).trans (h.it.block k hk hn), (hb.block b (Nat.lt_of_lt_of_le h.lt h.it.size)).trans h.it.it⟩
 bld := builder_kept h.bld fun k hk => hb.block k hk
 gl := h.gl.below hb (Nat.le_refl _)
 lt := h.lt
theorem DRel.write {s : ByteArray} {b : Nat} {w wx w' : World} {i : Nat} {l : List UInt8} {c : UInt8} (hG : ∀ g, isG g → g < w.heap.size) (h : DRel s b w i l wx) (h1 : Lib.BuilderAt 197 5 w.heap.size w.heap.size (.pointer (some ⟨w.heap.size, 0, none⟩)) (Lib.byteCells l ++ [.int .u8 (c.toNat : Nat)]) w') (hb : Below w.heap.size wx w') : DRel s b w i (l ++ [c]) w' where
 it := ⟨hb.os.trans h.it.os, hb.tape.trans h.it.tape, hb.output.trans h.it.output, Nat.le_trans h.it.size hb.size, fun k hk hn => (hb.block k hk).trans (h.it.block k hk hn), (hb.block b h.lt).trans h.it.it⟩
 bld := .inr (by rw [Lib.byteCells_append]; exact h1)
 gl := fun p hp => by
  obtain ⟨h2, cs, h3, h4⟩ := h.gl p hp
  have hc : ∀ k o v, isG k → wx.cell? ⟨k, o, none⟩ = some v → w'.cell? ⟨k, o, none⟩ = some v := fun k o v hg hv => by
   rw [← hv]
   exact World.cell?_of_block (w := wx) (a := ⟨k, o, none⟩) (hb.block k (hG k hg))
  refine ⟨Nat.lt_of_lt_of_le h2 hb.size, cs, Rep.mono (fun b o v hb' hv => hc b o v hb'.2 hv) (fun b hb' => ⟨Nat.lt_of_lt_of_le hb'.1 hb.size, hb'.2⟩) h3, fun j hj => ?_⟩
  have h5 := h4 j hj
  rw [List.getElem?_eq_getElem hj] at h5 ⊢
  exact hc _ _ _ ⟨_, hp⟩ h5
 lt := h.lt
theorem DRel.next {s : ByteArray} {b : Nat} {w wx : World} {i i' : Nat} {l : List UInt8} (hG : ∀ g, isG g → g ≠ b) (h : DRel s b w i l wx) (hi : i' = i + 1) : DRel s b w i' l (wx.setCell ⟨b, 1, none⟩ (.int .i64 (i' : Nat))) := by
 have hlt : b < wx.heap.size := Nat.lt_of_lt_of_le h.lt h.it.size
 have hnew : (wx.setCell ⟨b, 1, none⟩ (.int .i64 (i' : Nat))).heap[b]? = some (.cells #[.string s, .int .i64 (i' : Nat)] 136 (0, 0)) := by
  simp [World.setCell, Array.getElem?_modify, h.it.it]
 have hold : ∀ k, k ≠ b → (wx.setCell ⟨b, 1, none⟩ (.int .i64 (i' : Nat))).heap[k]? = wx.heap[k]? := fun k hk => Below.heap_setCell _ _ _ _ (fun e => hk e)
 have hsz : (wx.setCell ⟨b, 1, none⟩ (.int .i64 (i' : Nat))).heap.size = wx.heap.size := by simp [World.setCell]
 have ht : Turned b (.cells #[.string s, .int .i64 (i' : Nat)] 136 (0, 0)) wx (wx.setCell ⟨b, 1, none⟩ (.int .i64 (i' : Nat))) := ⟨rfl, rfl, rfl, by omega, fun k hk hn => hold k hn, hnew⟩
 refine ⟨⟨h.it.os, h.it.tape, h.it.output, by have := h.it.size; omega, fun k hk hn => (hold k hn).trans (h.it.block k hk hn), hnew⟩, ?_, GL.turned h.gl hG ht, h.lt⟩
 have one : ∀ p, Lib.BuilderAt 197 5 w.heap.size w.heap.size p (Lib.byteCells l) wx → Lib.BuilderAt 197 5 w.heap.size w.heap.size p (Lib.byteCells l) (wx.setCell ⟨b, 1, none⟩ (.int .i64 (i' : Nat))) := by
  rintro p ⟨hB, v, hb, hown, hne⟩
  have hbl := h.lt
  refine ⟨hB, v, (hold _ (by omega)).trans hb, ?_, hne⟩
  obtain ⟨h1, h2⟩ := hown
  refine ⟨h1, ?_⟩
  rcases h2 with h2 | ⟨g, cap, cur, k1, k2, k3, k4⟩
  ·exact .inl h2
  ·exact .inr ⟨g, cap, cur, k1, k2, (hold _ (by omega)).trans k3, k4⟩
 rcases h.bld with h1 | h1
 ·exact .inl (one _ h1)
 ·exact .inr (one _ h1)
theorem dgL_bd (s : ByteArray) (hex : Bool) : ∀ (f i : Nat) (pt : Bool) (l : List UInt8) (k : Nat), i ≤ s.size → (dgL s hex f i pt l k).1 ≤ s.size ∧ (dgL s hex f i pt l k).2.1.length ≤ l.length + f ∧ (dgL s hex f i pt l k).2.2 ≤ k + f
 | 0, i, _, l, k, h => ⟨h, by simp [dgL], by simp [dgL]⟩
 | f + 1, i, pt, l, k, h => by
   rw [dgL]
   split
   ·next hd =>
    have := dgL_bd s hex f (i + 1) pt (l ++ [UInt8.ofNat (nxB s i)]) (k + b2n pt) (dg_in hd)
    have h1 : b2n pt ≤ 1 := by cases pt <;> decide
    refine ⟨this.1, ?_, ?_⟩
    ·have := this.2.1; simp at this; omega
    ·have := this.2.2; omega
   ·split
    ·next hd =>
     have hi : i < s.size := by
      rcases Nat.lt_or_ge i s.size with h1 | h1
      ·exact h1
      ·rw [nxB, bAt_end h1] at hd; simp [dotN, lowN] at hd
     have := dgL_bd s hex f (i + 1) true l k hi
     refine ⟨this.1, ?_, ?_⟩
     ·have := this.2.1; omega
     ·have := this.2.2; omega
    ·exact ⟨h, Nat.le_add_right _ _, Nat.le_add_right _ _⟩
set_option maxHeartbeats 1000000 in
theorem digits_calls (s : ByteArray) (i b : Nat) (hex : Bool) (hs : s.size < 100000000) (hi : i ≤ s.size) (w : World) (hG : GL w) (hGb : ∀ g, isG g → g ≠ b) (hlt : b < w.heap.size) (hb : w.heap[b]? = some (.cells #[.string s, .int .i64 i] 136 (0, 0))) :
 Calls Tryz.prog 75 #[.pointer (some ⟨b, 0, none⟩), .bool hex] w fun e w' => e = .returned (.tuple #[.string ⟨(dgR s i hex).2.1.toArray⟩, .int .i64 ((dgR s i hex).2.2 : Nat), .bool (decide (0 < (dgR s i hex).2.1.length))]) ∧
  Turned b (.cells #[.string s, .int .i64 ((dgR s i hex).1 : Nat)] 136 (0, 0)) w w' := by
 have hD0 : Hid (DRel s b w i [] (w.alloc (.cells #[.pointer none, .slice none 0 0] 197))) := by
  have hb1 : Below w.heap.size w (w.alloc (.cells #[.pointer none, .slice none 0 0] 197)) := (Below.refl _ w).alloc (Nat.le_refl _) _
  exact ⟨⟨rfl, rfl, rfl, hb1.size, fun k hk _ => hb1.block k hk, (hb1.block b hlt).trans hb⟩, Lib.fresh_isBuilder 197 5 w, hG.below hb1 (Nat.le_refl _), hlt⟩
 have HG : Hid (∀ g, isG g → g < w.heap.size ∧ g ≠ b) := fun g hg => ⟨isG_lt hG hg, hGb g hg⟩
 obtain ⟨R, hR⟩ : ∃ R, R = dgR s i hex := ⟨_, rfl⟩
 have HR : Hid (dgL s hex (s.size + 1 - i) i false [] 0 = R) := hR.symm
 rw [← hR]
 clear hR hb hG hGb
 go_enter Tryz.func75, Tryz.ntmps75
 go_wp2
 go_loopg [5, 8] (s.size + 1 - i) (fun g v5 v8 wx => ∃ (j : Nat) (pt : Bool) (l : List UInt8) (k : Nat), g + j = s.size + 1 ∧ j ≤ s.size ∧ v5 = .int .i64 k ∧ v8 = .bool pt ∧ Hid (DRel s b w j l wx) ∧ Hid (dgL s hex g j pt l k = R) ∧ l.length + g ≤ s.size + 1 ∧ k + g ≤ s.size + 1)
 case atStart => exact ⟨i, false, [], 0, by omega, hi, rfl, rfl, hD0, HR, by simp, by omega⟩
 case round =>
  obtain ⟨j, pt, l, k, hgj, hjs, rfl, rfl, HD, HL, hl, hk⟩ := hrel
  cases gk with
  | zero => omega
  | succ g =>
  have hHL := HL.out
  rw [dgL] at hHL
  clear HL
  have cN : ∀ wx l', Hid (DRel s b w j l' wx) → Calls Tryz.prog 132 #[.pointer (some ⟨b, 0, none⟩)] wx fun e w' => e = .returned (.int .u8 (nxB s j : Nat)) ∧ Hid (DRel s b w j l' w') := fun wx l' h => by
   refine (next_calls s j b (by omega) (by omega) wx h.out.gl h.out.it.it).mono ?_
   rintro e w' ⟨rfl, hb⟩
   exact ⟨rfl, h.out.step hb⟩
  have cD : ∀ wx l' v, dgN (nxB s j) hex = v → Hid (DRel s b w j l' wx) → Calls Tryz.prog 131 #[.int .u8 (nxB s j : Nat), .bool hex] wx fun e w' => e = .returned (.bool v) ∧ Hid (DRel s b w j l' w') := fun wx l' v hv h => by
   refine (pdigit_calls (nxB s j) hex (nxB_lt s j) wx h.out.gl).mono ?_
   rintro e w' ⟨rfl, hb⟩
   exact ⟨by rw [hv], h.out.step hb⟩
  have hc8 := nxB_lt s j
  by_cases hd : dgN (nxB s j) hex = true
  ·have hjlt := dg_in hd
   rw [if_pos hd] at hHL
   have HL : Hid (dgL s hex g (j + 1) pt (l ++ [UInt8.ofNat (nxB s j)]) (k + b2n pt) = R) := hHL
   have hne : ¬ nxB s j = 46 := fun e => by rw [e] at hd; cases hex <;> simp [dgN] at hd
   have cD' := fun wx l' h => cD wx l' true hd h
   clear cD hHL
   have Hd : Hid (dgN (nxB s j) hex = true) := hd
   clear hd
   obtain ⟨c, hc⟩ : ∃ c, c = nxB s j := ⟨_, rfl⟩
   rw [← hc] at cN cD' HL hne hc8
   clear hc Hd
   have hne' : ¬ (c : Int) = 46 := by omega
   go_wp2_with fail
   refine (cN _ _ HD).mono ?_
   rintro e w1 ⟨rfl, H1⟩
   go_wp2_with fail
   refine (cD' _ _ H1).mono ?_
   rintro e w2 ⟨rfl, H2⟩
   go_wp2_with fail
   refine (cN _ _ H2).mono ?_
   rintro e w3 ⟨rfl, H3⟩
   go_wp2_with fail
   refine (cN _ _ H3).mono ?_
   rintro e w4 ⟨rfl, H4⟩
   go_wp2_with fail
   refine (Tryz.Builder_WriteByte w.heap.size w.heap.size (Lib.byteCells l) (c : Nat) w4 H4.out.bld (by rw [Lib.byteCells_length]; omega) H4.out.it.size).mono ?_
   rintro e w5 ⟨rfl, h5, hb5⟩
   have H5 : Hid (DRel s b w j (l ++ [UInt8.ofNat c]) w5) := H4.out.write (c := UInt8.ofNat c) (fun g hg => (HG.out g hg).1) (by rw [show ((UInt8.ofNat c).toNat : Int) = c from by simp [UInt8.toNat_ofNat']; omega]; exact h5) hb5
   clear h5 hb5
   have c1 : w5.cell? ⟨b, 1, none⟩ = some (.int .i64 j) := by rw [Lib.cell_of_heap H5.out.it.it]; rfl
   have f1 : w5.frozen? ⟨b, 1, none⟩ = false := Lib.frozen_of_heap H5.out.it.it 1
   have Hnx : Hid (DRel s b w (j + 1) (l ++ [UInt8.ofNat c]) (w5.setCell ⟨b, 1, none⟩ (.int .i64 ((j + 1 : Nat) : Int)))) := H5.out.next (fun g hg => (HG.out g hg).2) rfl
   cases pt with
   | false =>
     go_wp2
     go_roundg g
     case measure => omega
     case rel => exact ⟨j + 1, false, l ++ [UInt8.ofNat c], k, by omega, by omega, by first | rfl | simp, by first | rfl | simp, Hnx, HL, by simp; omega, by omega⟩
   | true =>
     go_wp2
     go_roundg g
     case measure => omega
     case rel => exact ⟨j + 1, true, l ++ [UInt8.ofNat c], k + 1, by omega, by omega, by first | rfl | simp, by first | rfl | simp, Hnx, HL, by simp; omega, by omega⟩
  ·rw [if_neg hd] at hHL
   have cD' := fun wx l' h => cD wx l' false (Bool.eq_false_iff.2 hd) h
   clear cD
   by_cases hdot : dotN (nxB s j) pt = true
   ·rw [if_pos hdot] at hHL
    have HL : Hid (dgL s hex g (j + 1) true l k = R) := hHL
    have hjlt : j < s.size := by
     rcases Nat.lt_or_ge j s.size with h1 | h1
     ·exact h1
     ·rw [nxB, bAt_end h1] at hdot; simp [dotN, lowN] at hdot
    obtain ⟨h46, hpt⟩ : nxB s j = 46 ∧ pt = false := by simpa [dotN] using hdot
    subst hpt
    rw [h46] at cN cD'
    clear hHL hdot h46 hc8 hd
    go_wp2_with fail
    refine (cN _ _ HD).mono ?_
    rintro e w1 ⟨rfl, H1⟩
    go_wp2_with fail
    refine (cD' _ _ H1).mono ?_
    rintro e w2 ⟨rfl, H2⟩
    go_wp2_with fail
    refine (cN _ _ H2).mono ?_
    rintro e w3 ⟨rfl, H3⟩
    go_wp2_with fail
    refine (cN _ _ H3).mono ?_
    rintro e w4 ⟨rfl, H4⟩
    have c1 : w4.cell? ⟨b, 1, none⟩ = some (.int .i64 j) := by rw [Lib.cell_of_heap H4.out.it.it]; rfl
    have f1 : w4.frozen? ⟨b, 1, none⟩ = false := Lib.frozen_of_heap H4.out.it.it 1
    have Hnx : Hid (DRel s b w (j + 1) l (w4.setCell ⟨b, 1, none⟩ (.int .i64 ((j + 1 : Nat) : Int)))) := H4.out.next (fun g hg => (HG.out g hg).2) rfl
    go_wp2
    go_roundg g
    case measure => omega
    case rel => exact ⟨j + 1, true, l, k, by omega, by omega, by first | rfl | simp, by first | rfl | simp, Hnx, HL, by omega, by omega⟩
   ·rw [if_neg hdot] at hHL
    subst hHL
    obtain ⟨c, hc⟩ : ∃ c, c = nxB s j := ⟨_, rfl⟩
    rw [← hc] at cN cD' hdot hc8
    clear hc hd
    have cF : ∀ wx, Hid (DRel s b w j l wx) → Calls Tryz.prog 134 #[.pointer (some ⟨w.heap.size, 0, none⟩)] wx fun e w' => e = .returned (.string ⟨l.toArray⟩) ∧ Hid (Lib.IsBuilderF 197 5 w.heap.size w.heap.size (Lib.byteCells l) w') ∧ Hid (Turned b (.cells #[.string s, .int .i64 j] 136 (0, 0)) w w') := fun wx h => by
     refine (Tryz.Builder_String_f w.heap.size w.heap.size l wx (by rcases h.out.bld with h1 | h1; exact .inl (Lib.BuilderAtF.of h1); exact .inr (Lib.BuilderAtF.of h1)) h.out.it.size).mono ?_
     rintro e w' ⟨rfl, h1, hb⟩
     have h2 := h.out.it
     exact ⟨rfl, h1, ⟨hb.os.trans h2.os, hb.tape.trans h2.tape, hb.output.trans h2.output, Nat.le_trans h2.size hb.size, fun k hk hn => (hb.block k hk).trans (h2.block k hk hn), (hb.block b h.out.lt).trans h2.it⟩⟩
    have cL : ∀ wx, Hid (Lib.IsBuilderF 197 5 w.heap.size w.heap.size (Lib.byteCells l) wx) → Calls Tryz.prog 135 #[.pointer (some ⟨w.heap.size, 0, none⟩)] wx fun e w' => e = .returned (.int .i64 (l.length : Nat)) ∧ w' = wx := fun wx h => by
     have := Tryz.Builder_Len_f w.heap.size w.heap.size (Lib.byteCells l) wx h
     rw [Lib.byteCells_length] at this
     exact this
    have fin : ∀ wx : World, Hid (Turned b (.cells #[.string s, .int .i64 j] 136 (0, 0)) w wx) → Turned b (.cells #[.string s, .int .i64 (((j, l, k) : Nat × List UInt8 × Nat).1 : Nat)] 136 (0, 0)) w wx := fun _ h => h
    cases pt with
    | false =>
      have hne : ¬ (c : Int) = 46 := fun e => hdot (by simp [dotN]; omega)
      clear hdot
      go_wp2_with fail
      refine (cN _ _ HD).mono ?_
      rintro e w1 ⟨rfl, H1⟩
      go_wp2_with fail
      refine (cD' _ _ H1).mono ?_
      rintro e w2 ⟨rfl, H2⟩
      go_wp2_with fail
      refine (cN _ _ H2).mono ?_
      rintro e w3 ⟨rfl, H3⟩
      go_wp2_with fail
      refine (cF _ H3).mono ?_
      rintro e w4 ⟨rfl, H4, H5⟩
      go_wp2_with fail
      refine (cL _ H4).mono ?_
      rintro e w5 ⟨rfl, rfl⟩
      go_wp2
      go_ret3
      exact ⟨rfl, fin _ H5⟩
    | true =>
      clear hdot
      go_wp2_with fail
      refine (cN _ _ HD).mono ?_
      rintro e w1 ⟨rfl, H1⟩
      go_wp2_with fail
      refine (cD' _ _ H1).mono ?_
      rintro e w2 ⟨rfl, H2⟩
      go_wp2_with fail
      refine (cN _ _ H2).mono ?_
      rintro e w3 ⟨rfl, H3⟩
      go_wp2_with fail
      all_goals (
       refine (cF _ H3).mono ?_
       rintro e w4 ⟨rfl, H4, H5⟩
       go_wp2_with fail
       refine (cL _ H4).mono ?_
       rintro e w5 ⟨rfl, rfl⟩
       go_wp2
       go_ret3
       exact ⟨rfl, fin _ H5⟩)
theorem digits_ok (s : ByteArray) (i : Nat) (hex : Bool) (hs : s.size < 100000000) (hi : i ≤ s.size) :
 MutOk Tryz.prog 75 136 (rdV s i) [.bool hex] (rdV s (dgR s i hex).1) [.str ⟨(dgR s i hex).2.1.toArray⟩, .int .i64 ((dgR s i hex).2.2 : Nat), .bool (decide (0 < (dgR s i hex).2.1.length))] := by
 refine MutOk.plain (c0 := [.string s, .int .i64 i]) (c1 := [.string s, .int .i64 ((dgR s i hex).1 : Nat)]) (vals := [.bool hex]) (fun w ok cs h => ?_) (fun w ok => ?_) (fun cx w μ mem vs h => ?_) (fun cx w μ mem => ?_) (enters_of Tryz.func75 (by kernel_rfl) rfl) fun w b hG hg hlt hb => digits_calls s i b hex hs hi w hG hg hlt hb
 ·unfold rdV at h
  rw [Rep, RepL] at h
  obtain ⟨a, d, rfl, h1, h2⟩ := h
  rw [Rep] at h1
  rw [RepL] at h2
  obtain ⟨a2, d2, rfl, h3, h4⟩ := h2
  rw [Rep] at h3
  rw [RepL] at h4
  rw [h1, h3, h4]
  rfl
 ·unfold rdV
  rw [Rep, RepL]
  refine ⟨[.string s], [.int .i64 _], rfl, by rw [Rep], ?_⟩
  rw [RepL]
  exact ⟨[.int .i64 _], [], rfl, by rw [Rep], by rw [RepL]⟩
 ·rw [List.map_cons, List.map_nil, RepAL] at h
  obtain ⟨v, vr, rfl, h1, h2⟩ := h
  rw [RepAL] at h2
  rw [repA_bool.1 h1, h2]
 ·show RepA cx w μ mem (.tup [.v true (.str _), .v true (.int .i64 _), .v true (.bool _)]) _
  rw [RepA]
  refine ⟨_, rfl, ?_⟩
  rw [RepAL]; refine ⟨_, _, rfl, repA_str.2 rfl, ?_⟩
  rw [RepAL]; refine ⟨_, _, rfl, repA_int.2 rfl, ?_⟩
  rw [RepAL]; refine ⟨_, _, rfl, repA_bool.2 rfl, ?_⟩
  rw [RepAL]
attribute [local go_sem] evalOps_nil evalOps_cons runW_t runW_f runE_s runP_s wantA evalOp effOp letters okDst coreA St.opv St.get St.at look constA St.put St.upd St.set decide_true List.all_nil List.all_cons Bool.and_true Bool.true_and and_self and_true true_and if_true if_false true_or Int.sub_zero List.nil_append List.cons_append List.append_nil Option.isSome_some List.getElem?_toArray List.getElem?_cons_succ List.getElem?_cons_zero Option.bind_some Option.map_some Option.map_none beq_self_eq_true Bool.false_beq Bool.true_beq Bool.not_true Bool.not_false Bool.false_eq_true cond_true cond_false binA binI List.map_cons List.map_nil boundA List.length_nil List.length_cons Nat.zero_mul Nat.one_mul Nat.mul_one Nat.zero_add Nat.add_zero Nat.zero_le Option.toList St.freshB AV.ment AV.ments Blk.ment V.sizes Nat.lt_add_one Bool.or_true Bool.true_or Bool.or_false Bool.false_or Bool.or_self if_pos if_neg decide_false decide_eq_true decide_eq_false wrap_i64 Int.toNat_natCast minA maxA Int.natCast_add Int.cast_ofNat_Int Option.isSome_none false_implies true_implies forall_const List.drop_zero Int.toNat_zero Int.add_sub_cancel lenA sliceA loadA indexAddrA partA fitsT V.atP V.offP V.size List.length_map List.getElem?_map Int.toNat_natCast_add_one Int.ofNat_eq_natCast TY calleeA capArg knotA capArgs toArgs toArg callA R.res R.mems R.blks R.av R.names R.nw invokeA storeA storeV fieldAddrA liveB V.off V.offs V.setP List.set_cons_zero List.set_cons_succ buildA buildP partsA appendA srcA copyA boxOk makeA AV.pure List.take_succ_cons List.take_zero nilA words unA entry List.zipIdx_cons List.zipIdx_nil Arg.av Arg.avs
def fdN (c : Nat) : Nat := if 97 ≤ c ∧ c ≤ 122 then c - 32 else if 65 ≤ c ∧ c ≤ 90 then c + 32 else c
def isI (n : Int) : Option (List R) → Bool
 | some [.v true (.int .i32 m)] => m == n
 | _ => false
theorem isI_ok {n : Int} {r : Option (List R)} (h : isI n r = true) : r = some [.v true (.int .i32 n)] := by
 unfold isI at h
 split at h
 ·rw [beq_iff_eq] at h; rw [h]
 ·cases h
theorem fold_all : ((List.range 128).all fun c => Nat.beq c 107 || Nat.beq c 115 || isI (fdN c : Nat) (runF Tryz.prog TT (fun _ _ => none) 5 2 175 [.v (.int .i32 (c : Nat))])) = true := by kernel_rfl
theorem simpleFold_ok (c : Nat) (hc : c < 128) (h1 : c ≠ 107) (h2 : c ≠ 115) : FnOk Tryz.prog 175 [.v (.int .i32 c)] [.v true (.int .i32 (fdN c : Nat))] := by
 have h := List.all_eq_true.1 fold_all c (List.mem_range.2 hc)
 have e : ∀ a b : Nat, Nat.beq a b = true → a = b := fun a b h => Nat.eq_of_beq_eq_true h
 rw [Bool.or_eq_true, Bool.or_eq_true] at h
 rcases h with (h | h) | h
 ·exact absurd (e _ _ h) h1
 ·exact absurd (e _ _ h) h2
 ·exact runF_ok (Px := px) TTe mixed (fun _ _ _ h => by cases h) 2 175 _ _ (isI_ok h)
theorem bitI_or (a b : Nat) (ha : a < 256) (hb : b < 256) : bitI .or .u8 a b = ((a ||| b : Nat) : Int) := by
 have h : a ||| b < 256 := Nat.or_lt_two_pow (n := 8) ha hb
 unfold bitI
 show IntKind.u8.wrap ((BitVec.ofInt 8 (a : Int) ||| BitVec.ofInt 8 (b : Int)).toNat : Int) = _
 rw [BitVec.ofInt_natCast, BitVec.ofInt_natCast, BitVec.toNat_or, BitVec.toNat_ofNat, BitVec.toNat_ofNat, Nat.mod_eq_of_lt ha, Nat.mod_eq_of_lt hb, wrap_u8]
 omega
theorem or_128 (a b : Nat) (ha : a < 256) (hb : b < 128) : 128 ≤ (a ||| b) ↔ 128 ≤ a := by
 constructor
 ·intro h
  rcases Nat.lt_or_ge a 128 with h1 | h1
  ·have := Nat.or_lt_two_pow (n := 7) h1 hb
   omega
  ·exact h1
 ·intro h
  exact Nat.le_trans h Nat.left_le_or
theorem decode_big {s : ByteArray} (h : 128 ≤ bAt s 0) (hp : 0 < s.size) : 128 ≤ (Utf8.decode s 0).1 := by
 have e : (s.get! 0).toNat = bAt s 0 := by
  obtain ⟨b, h1, h2⟩ := bAt_some (s := s) (i := 0) hp
  rw [h2]
  rw [getElem?_pos s 0 hp] at h1
  have : s.get! 0 = s[0] := by
   show s.get! 0 = _
   simp [ByteArray.get!, getElem!_pos, hp]
   rfl
  rw [this]
  cases h1
  rfl
 unfold Utf8.decode
 simp only [Nat.add_zero, e, Nat.zero_add]
 rw [if_neg (by omega)]
 have hr : 128 ≤ Utf8.runeError := by decide
 repeat' split
 all_goals first | exact hr | (simp only; omega) | (rename_i h; simp only [Bool.and_eq_true, decide_eq_true_eq] at h; have := h.1; simp only; omega)
def okWord (t : ByteArray) : Prop := ∀ i, i < t.size → bAt t i < 128 ∧ ¬ (65 ≤ bAt t i ∧ bAt t i ≤ 90) ∧ bAt t i ≠ 107 ∧ bAt t i ≠ 115
instance (t : ByteArray) : Decidable (okWord t) := inferInstanceAs (Decidable (∀ i, i < t.size → _))
def eqfB (s t : ByteArray) : Bool := decide (∀ i, i < s.size → lowN (bAt s i) = bAt t i)
theorem wrap_i32 {n : Int} (h1 : -2147483648 ≤ n) (h2 : n < 2147483648) : IntKind.i32.wrap n = n := by
 have key : ∀ (m : Int) (i : Decidable (m ≥ 2147483648)), m = n % 4294967296 → (if (true && @decide (m ≥ 2147483648) i) = true then m - 4294967296 else m) = n := by
  intro m i hm
  by_cases h : m ≥ 2147483648
  ·rw [decide_eq_true h, Bool.and_self, if_pos rfl]; omega
  ·rw [decide_eq_false h, Bool.and_false, if_neg (by simp)]; omega
 exact key _ _ rfl
theorem bAt_ext {s : ByteArray} {i j : Nat} (hi : i ≤ s.size) (hj : j < s.size - i) : bAt (s.extract i s.size) j = bAt s (i + j) := by
 unfold bAt
 have h1 : j < (s.extract i s.size).size := by simp; omega
 rw [getElem?_pos (s.extract i s.size) j h1, getElem?_pos s (i + j) (by omega), ByteArray.getElem_extract]
theorem decodeRune_ok (s : ByteArray) (h0 : 0 < s.size) (h8 : bAt s 0 < 128) : FnOk Tryz.prog 174 [.v (.str s)] [.v true (.int .i32 (bAt s 0 : Nat)), .v true (.int .i64 1)] := by
 refine FnOk.of Tryz.func174 rfl rfl fun cx w0 => ?_
 rw [show Tryz.f174.ntmps = 19 from rfl]
 refine zs0 ?_
 obtain ⟨x, hx, ex⟩ := bAt_some h0
 rw [ex] at h8 ⊢
 have hne : (s.toList == (ByteArray.mk #[]).toList) = false := by
  rw [beq_eq_false_iff_ne]
  intro h
  have e1 : s.toList = s.data.toList := ByteArray.toList_eq s
  have e2 : (ByteArray.mk #[]).toList = [] := by rw [ByteArray.toList_eq]
  rw [e1, e2] at h
  have : s.size = 0 := by show s.data.size = 0; rw [← Array.length_toList, h]; rfl
  omega
 have g : (x.toNat : Int) < 128 := by omega
 have hs : (0 : Int) < s.size := by omega
 have hw : IntKind.i32.wrap (x.toNat : Int) = x.toNat := wrap_i32 (by omega) (by omega)
 refine Holds.seq ?_
 refine Holds.step (Px := px) (T := TT) (ρ := fun _ => []) TTe (by simp (maxSteps := 100000) (disch := omega) only [go_sem, V.isAgg, V.flat, ↓reduceIte, Nat.reduceAdd, Nat.reduceSub, Nat.reduceLT, Nat.reduceEqDiff, reduceCtorEq, Nat.reduceLeDiff, Nat.reduceBEq, Nat.reduceMul, Int.reduceToNat, indexA, hx, hne, g, hs]; rfl) (by repeat' first | exact trivial | constructor) ?_
 refine Holds.condT rfl ?_
 refine Holds.step (Px := px) (T := TT) (ρ := fun _ => []) TTe (by simp (maxSteps := 100000) (disch := omega) only [go_sem, V.isAgg, V.flat, ↓reduceIte, Nat.reduceAdd, Nat.reduceSub, Nat.reduceLT, Nat.reduceEqDiff, reduceCtorEq, Nat.reduceLeDiff, Nat.reduceBEq, Nat.reduceMul, Int.reduceToNat, indexA, hx, hs, hw]; rfl) (by repeat' first | exact trivial | constructor) ?_
 exact Holds.ret (RetOk.vs rfl (by exact ⟨⟨rfl, id⟩, ⟨rfl, id⟩, trivial⟩) rfl)
set_option maxHeartbeats 2000000 in
theorem equalFold_ok (s t : ByteArray) (hst : s.size = t.size) (hs : s.size < 1000000) (ht : okWord t) : FnOk Tryz.prog 129 [.v (.str s), .v (.str t)] [.v true (.bool (eqfB s t))] := by
 refine FnOk.of Tryz.func129 rfl rfl fun cx w0 => ?_
 rw [show Tryz.f129.ntmps = 123 from rfl]
 refine zs0 ?_
 refine Holds.from (σ' := { nt := 123, env := [(1, .v true (.str t)), (0, .v true (.str s))], mem := [] }) (fun a w h => Rel.keep [1, 0] [] h) ?_
 obtain ⟨E, hE⟩ : ∃ E, E = eqfB s t := ⟨_, rfl⟩
 rw [← hE]
 have hEf : ∀ i, i < s.size → ¬ lowN (bAt s i) = bAt t i → E = false := fun i hi hn => by rw [hE]; exact decide_eq_false fun h => hn (h i hi)
 have st : (s.size : Int) = t.size := by omega
 refine Holds.scope 0 (fun σ => ∃ i, i < s.size ∧ 128 ≤ bAt s i ∧ E = false ∧ ∀ a w, Rel cx w0 σ a w → Rel cx w0 { nt := 123, env := [(5, .v true (.int .i64 (i : Nat))), (1, .v true (.str t)), (0, .v true (.str s))], mem := [] } a w) rfl ?_ ?_
 ·refine zs0 ?_
  refine Holds.nextG (fun σ => E = true ∧ ∀ a w, Rel cx w0 σ a w → Rel cx w0 { nt := 123, env := [(1, .v true (.str t)), (0, .v true (.str s))], mem := [] } a w) ?_ ?_
  ·have e0 : (if (s.size : Int) < (t.size : Int) then (s.size : Int) else (t.size : Int)) = (s.size : Int) := by split <;> omega
   refine zs1 e0 ?_
   refine Holds.loopG (fun i : Nat => { nt := 123, env := [(5, .v true (.int .i64 (i : Nat))), (6, .v true (.int .i64 (s.size : Nat))), (1, .v true (.str t)), (0, .v true (.str s))], mem := [] }) (fun i => i ≤ s.size ∧ ∀ j, j < i → lowN (bAt s j) = bAt t j) (fun i => s.size - i) 0 ⟨Nat.zero_le _, fun j h => absurd h (Nat.not_lt_zero _)⟩ (fun a w h => Rel.keep [5, 6, 1, 0] [] h) ?_
   rintro i ⟨hi, hI⟩
   by_cases hend : i = s.size
   ·refine Holds.seq ?_
    have g : ¬ (i : Int) < s.size := by omega
    refine zs1 g ?_
    refine Holds.condF rfl (Holds.exit ⟨rfl, ?_, fun a w h => Rel.keep [1, 0] [] h⟩)
    rw [hE]
    exact decide_eq_true fun j hj => hI j (by omega)
   ·have hil : i < s.size := by omega
    have g : (i : Int) < s.size := by omega
    obtain ⟨x, hx, ex⟩ := bAt_some hil
    obtain ⟨y, hy, ey⟩ := bAt_some (s := t) (i := i) (by omega)
    have hx8 := x.toNat_lt
    obtain ⟨hy8, hyU, hyk, hys⟩ := ht i (by omega)
    have hEi := hEf i hil
    rw [ey] at hy8 hyU hyk hys
    rw [ex, ey] at hEi
    have hor := bitI_or x.toNat y.toNat hx8 (by omega)
    have hor8 := or_128 x.toNat y.toNat hx8 hy8
    obtain ⟨o, ho⟩ : ∃ o, o = x.toNat ||| y.toNat := ⟨_, rfl⟩
    rw [← ho] at hor hor8
    have hgo : lowN x.toNat = y.toNat → ∀ j, j < i + 1 → lowN (bAt s j) = bAt t j := fun h j hj => by
     rcases Nat.lt_or_ge j i with h1 | h1
     ·exact hI j h1
     ·rw [show j = i by omega, ex, ey, h]
    obtain ⟨c, hc⟩ : ∃ c, c = x.toNat := ⟨_, rfl⟩
    obtain ⟨d, hd⟩ : ∃ d, d = y.toNat := ⟨_, rfl⟩
    rw [← hc] at hx8 hEi hor hor8 hgo ex
    rw [← hd] at hy8 hyU hyk hys hEi hor hgo
    refine Holds.seq ?_
    refine zs1 g ?_
    refine Holds.condT rfl (Holds.skip ?_)
    refine Holds.nextG (fun σ => lowN c = d ∧ ∀ a w, Rel cx w0 σ a w → Rel cx w0 { nt := 123, env := [(5, .v true (.int .i64 (i : Nat))), (6, .v true (.int .i64 (s.size : Nat))), (1, .v true (.str t)), (0, .v true (.str s))], mem := [] } a w) ?_ ?_
    ·refine Holds.blockG ?_
     refine Holds.step (Px := px) (T := TT) (ρ := fun _ => []) TTe (by simp (maxSteps := 100000) (disch := omega) only [go_sem, V.isAgg, V.flat, ↓reduceIte, Nat.reduceAdd, Nat.reduceSub, Nat.reduceLT, Nat.reduceEqDiff, reduceCtorEq, Nat.reduceLeDiff, Nat.reduceBEq, Nat.reduceMul, Int.reduceToNat, indexA, hx]; rfl) (by repeat' first | exact trivial | constructor) ?_
     refine Holds.step (Px := px) (T := TT) (ρ := fun _ => []) TTe (by simp (maxSteps := 100000) (disch := omega) only [go_sem, V.isAgg, V.flat, ↓reduceIte, Nat.reduceAdd, Nat.reduceSub, Nat.reduceLT, Nat.reduceEqDiff, reduceCtorEq, Nat.reduceLeDiff, Nat.reduceBEq, Nat.reduceMul, Int.reduceToNat, indexA, hy]; rfl) (by repeat' first | exact trivial | constructor) ?_
     rw [← hc, ← hd]
     refine Holds.seq ?_
     by_cases h128 : 128 ≤ c
     ·have g1 : (128 : Int) ≤ o := by have := hor8.2 h128; omega
      refine zs1 (an hor <| g1) ?_
      refine Holds.condT rfl (Holds.goto ?_)
      refine ⟨rfl, i, hil, by rw [ex]; exact h128, hEi (fun e => by unfold lowN at e; split at e <;> omega), fun a w h => Rel.keep [5, 1, 0] [] h⟩
     ·have g1 : ¬ (128 : Int) ≤ o := fun h => h128 (hor8.1 (by omega))
      refine zs1 (an hor <| g1) ?_
      refine Holds.condF rfl (Holds.skip ?_)
      refine Holds.from (σ' := { nt := 123, env := [(8, .v true (.int .u8 (d : Nat))), (7, .v true (.int .u8 (c : Nat))), (5, .v true (.int .i64 (i : Nat))), (6, .v true (.int .i64 (s.size : Nat))), (1, .v true (.str t)), (0, .v true (.str s))], mem := [] }) (fun a w h => Rel.keep [8, 7, 5, 6, 1, 0] [] h) ?_
      refine Holds.seq ?_
      by_cases hcd : d = c
      ·have g2 : (d : Int) = c := by omega
       refine zs1 g2 ?_
       refine Holds.condT rfl (Holds.exit ⟨rfl, ?_, fun a w h => Rel.keep [5, 6, 1, 0] [] h⟩)
       unfold lowN
       rw [if_neg (by rw [← hcd]; exact hyU), hcd]
      ·have g2 : ¬ (d : Int) = c := by omega
       refine zs1 g2 ?_
       refine Holds.condF rfl (Holds.skip ?_)
       refine Holds.seq ?_
       by_cases hlt : d < c
       ·have g3 : (d : Int) < c := by omega
        have hE0 : E = false := hEi (fun e => by unfold lowN at e; split at e <;> omega)
        refine zs1 g3 ?_
        refine Holds.condT rfl ?_
        refine zr0 ?_
        refine Holds.seq ?_
        by_cases h65 : 65 ≤ d
        ·have g4 : (65 : Int) ≤ d := by omega
         have g5 : ¬ (d : Int) ≤ 90 := by omega
         refine zs1 (an g4 <| g5) ?_
         refine Holds.condF rfl (Holds.skip ?_)
         refine zs0 ?_
         rw [hE0]
         exact Holds.ret (RetOk.vs rfl (by exact ⟨⟨rfl, id⟩, trivial⟩) rfl)
        ·have g4 : ¬ (65 : Int) ≤ d := by omega
         refine zs1 g4 ?_
         refine Holds.condF rfl (Holds.skip ?_)
         refine zs0 ?_
         rw [hE0]
         exact Holds.ret (RetOk.vs rfl (by exact ⟨⟨rfl, id⟩, trivial⟩) rfl)
       ·have g3 : ¬ (d : Int) < c := by omega
        refine zs1 g3 ?_
        refine Holds.condF rfl (Holds.skip ?_)
        refine Holds.seq ?_
        by_cases h65 : 65 ≤ c
        ·have g4 : (65 : Int) ≤ c := by omega
         by_cases h90 : c ≤ 90
         ·have g5 : (c : Int) ≤ 90 := by omega
          have w1 : IntKind.u8.wrap ((c : Int) + 97) = ((c + 97 : Nat) : Int) := by rw [wrap_u8]; omega
          have w2 : IntKind.u8.wrap (((c + 97 : Nat) : Int) - 65) = ((c + 32 : Nat) : Int) := by rw [wrap_u8]; omega
          obtain ⟨c1, hc1⟩ : ∃ c1, c1 = c + 97 := ⟨_, rfl⟩
          rw [← hc1] at w1 w2
          have hlow : lowN c = c + 32 := by unfold lowN; rw [if_pos ⟨h65, h90⟩]
          obtain ⟨c2, hc2⟩ : ∃ c2, c2 = c + 32 := ⟨_, rfl⟩
          rw [← hc2] at w2 hlow
          by_cases h2 : d = c2
          ·have g6 : (d : Int) = c2 := by omega
           refine zs1 (an g4 <| an g5 <| an w1 <| an w2 <| g6) ?_
           exact Holds.condT rfl (Holds.exit ⟨rfl, by rw [hlow, h2], fun a w h => Rel.keep [5, 6, 1, 0] [] h⟩)
          ·have g6 : ¬ (d : Int) = c2 := by omega
           have hE0 : E = false := hEi (by rw [hlow]; omega)
           refine zs1 (an g4 <| an g5 <| an w1 <| an w2 <| g6) ?_
           refine Holds.condF rfl (Holds.skip ?_)
           refine zs0 ?_
           rw [hE0]
           exact Holds.ret (RetOk.vs rfl (by exact ⟨⟨rfl, id⟩, trivial⟩) rfl)
         ·have g5 : ¬ (c : Int) ≤ 90 := by omega
          have hE0 : E = false := hEi (fun e => by unfold lowN at e; split at e <;> omega)
          refine zs1 (an g4 <| g5) ?_
          refine Holds.condF rfl (Holds.skip ?_)
          refine zs0 ?_
          rw [hE0]
          exact Holds.ret (RetOk.vs rfl (by exact ⟨⟨rfl, id⟩, trivial⟩) rfl)
        ·have g4 : ¬ (65 : Int) ≤ c := by omega
         have hE0 : E = false := hEi (fun e => by unfold lowN at e; split at e <;> omega)
         refine zs1 g4 ?_
         refine Holds.condF rfl (Holds.skip ?_)
         refine zs0 ?_
         rw [hE0]
         exact Holds.ret (RetOk.vs rfl (by exact ⟨⟨rfl, id⟩, trivial⟩) rfl)
    ·rintro σ ⟨h1, h2⟩
     refine Holds.from h2 ?_
     have e1 : IntKind.i64.wrap ((i : Int) + 1) = ((i + 1 : Nat) : Int) := by rw [wrap_i64 (by omega) (by omega)]; omega
     obtain ⟨i1, hi1⟩ : ∃ i1, i1 = i + 1 := ⟨_, rfl⟩
     rw [← hi1] at e1
     refine zr1 e1 ?_
     exact ⟨i1, ⟨by omega, by rw [hi1]; exact hgo h1⟩, (show s.size - i1 < s.size - i by omega), fun a w h => Rel.keep [5, 6, 1, 0] [] h⟩
  ·rintro σ ⟨rfl, hσ⟩
   refine Holds.from hσ ?_
   refine Holds.seq ?_
   refine zs1 st ?_
   exact Holds.ret (RetOk.vs rfl (by exact ⟨⟨rfl, id⟩, trivial⟩) rfl)
 ·rintro σ ⟨i, hi, hi8, rfl, hσ⟩
  refine Holds.from hσ ?_
  refine Holds.seq (Holds.skip ?_)
  show Holds _ _ _ _ _ _ _
  have g1 : (i : Int) ≤ s.size := by omega
  have g2 : (i : Int) ≤ t.size := by omega
  have hz1 : (s.extract i s.size).size = s.size - i := by simp
  have hz2 : (t.extract i t.size).size = t.size - i := by simp
  have b1 : 128 ≤ bAt (s.extract i s.size) 0 := by rw [bAt_ext (by omega) (by omega)]; exact hi8
  have b2 : bAt (t.extract i t.size) 0 = bAt t i := by rw [bAt_ext (by omega) (by omega)]; rfl
  obtain ⟨c8, cU, ck, cs⟩ := ht i (by omega)
  rw [← b2] at c8 cU ck cs
  refine zs1 (an g1 <| g2) ?_
  refine zs1 (an g1 <| g2) ?_
  obtain ⟨s', hs'⟩ : ∃ s', s' = s.extract i s.size := ⟨_, rfl⟩
  obtain ⟨t', ht'⟩ : ∃ t', t' = t.extract i t.size := ⟨_, rfl⟩
  rw [← hs'] at hz1 b1 ⊢
  rw [← ht'] at hz2 c8 cU ck cs ⊢
  have hp1 : 0 < s'.size := by omega
  have hp2 : 0 < t'.size := by omega
  have hr8 := decode_big b1 hp1
  have hD := decodeRune_ok t' hp2 c8
  obtain ⟨c, hc⟩ : ∃ c, c = bAt t' 0 := ⟨_, rfl⟩
  rw [← hc] at hD c8 cU ck cs
  clear ht hi8 b1 b2 hc hst hs st g1 g2 hi hσ hs' ht' hE hEf
  refine Holds.from (σ' := { nt := 123, env := [(0, .v true (.str s')), (1, .v true (.str t'))], mem := [] }) (fun a w h => Rel.keep [0, 1] [] h) ?_
  refine Holds.nextG (fun _ => False) ?_ (fun σ h => h.elim)
  refine Holds.rangeStr (s := s') (nw := true) rfl (by rfl) hp1 (by show _ < 123; decide) (by show _ < 123; decide) (by show _ < 123; decide) (by show _ < 123; decide) (by decide) (by decide) rfl rfl ?_
  obtain ⟨r, hr⟩ : ∃ r, r = (Utf8.decode s' 0).1 := ⟨_, rfl⟩
  rw [← hr] at hr8 ⊢
  refine Holds.nextG (fun σ => ∀ a w, Rel cx w0 σ a w → Rel cx w0 { nt := 123, env := [(68, .tup [.v true (.bool true), .v true (.int .i64 0), .v true (.int .i32 (r : Nat))]), (1, .v true (.str t'))], mem := [] } a w) ?_ ?_
  ·exact Holds.condT rfl (Holds.skip fun a w h => Rel.keep [68, 1] [] h)
  intro σ hσ
  refine Holds.from hσ ?_
  refine Holds.block ?_
  refine zs0 ?_
  refine Holds.seq ?_
  have n0 : ¬ (t'.size : Int) = 0 := by omega
  refine zs1 n0 ?_
  refine Holds.condF rfl (Holds.skip ?_)
  refine Holds.from (σ' := { nt := 123, env := [(10, .v true (.int .i32 (r : Nat))), (1, .v true (.str t'))], mem := [] }) (fun a w h => Rel.keep [10, 1] [] h) ?_
  refine zs2 (ρ := fun _ => [.v true (.int .i32 (c : Nat)), .v true (.int .i64 1)]) (o := by repeat' first|exact hD|trivial|constructor) (k := ?_)
  have g1 : (1 : Int) ≤ t'.size := by omega
  refine zs1 g1 ?_
  refine Holds.from (σ' := { nt := 123, env := [(11, .v true (.int .i32 (c : Nat))), (10, .v true (.int .i32 (r : Nat)))], mem := [] }) (fun a w h => Rel.keep [11, 10] [] h) ?_
  refine Holds.seq ?_
  have g2 : ¬ (c : Int) = r := by omega
  refine zs1 g2 ?_
  refine Holds.condF rfl (Holds.skip ?_)
  refine Holds.seq ?_
  have g3 : (c : Int) < r := by omega
  refine zs1 g3 ?_
  refine Holds.condT rfl ?_
  refine zr0 ?_
  refine Holds.seq ?_
  have g4 : ¬ (r : Int) < 128 := by omega
  refine zs1 g4 ?_
  refine Holds.condF rfl (Holds.skip ?_)
  refine Holds.from (σ' := { nt := 123, env := [(11, .v true (.int .i32 (r : Nat))), (10, .v true (.int .i32 (c : Nat)))], mem := [] }) (fun a w h => Rel.keep [11, 10] [] h) ?_
  have hS1 := simpleFold_ok c c8 ck cs
  have f8 : fdN c < 128 := by unfold fdN; split <;> (try split) <;> omega
  have fk : fdN c ≠ 107 ∧ fdN c ≠ 115 := by unfold fdN; split <;> (try split) <;> omega
  have hS2 := simpleFold_ok (fdN c) f8 fk.1 fk.2
  have ff : fdN (fdN c) = c := by unfold fdN; (repeat' split) <;> omega
  rw [ff] at hS2
  obtain ⟨d, hd⟩ : ∃ d, d = fdN c := ⟨_, rfl⟩
  rw [← hd] at hS1 hS2 f8
  have g5 : (d : Int) < r := by omega
  have g6 : (c : Int) < r := by omega
  refine zs2 (ρ := fun _ => [.v true (.int .i32 (d : Nat))]) (o := by repeat' first|exact hS1|trivial|constructor) (k := ?_)
  refine Holds.nextG (fun σ => ∀ a w, Rel cx w0 σ a w → Rel cx w0 { nt := 123, env := [(13, .v true (.int .i32 (c : Nat))), (11, .v true (.int .i32 (r : Nat))), (10, .v true (.int .i32 (c : Nat)))], mem := [] } a w) ?_ ?_
  ·refine Holds.loopG (fun b : Bool => { nt := 123, env := [(13, .v true (.int .i32 ((if b = true then c else d : Nat) : Nat))), (11, .v true (.int .i32 (r : Nat))), (10, .v true (.int .i32 (c : Nat)))], mem := [] }) (fun _ => True) (fun b => if b = true then 0 else 1) false trivial (fun a w h => Rel.keep [13, 11, 10] [] h) ?_
   rintro b -
   cases b
   ·simp only [Bool.false_eq_true, if_false]
    by_cases hdc : d = c
    ·subst hdc
     refine Holds.seq ?_
     refine zs0 ?_
     exact Holds.condF rfl (Holds.exit ⟨rfl, fun a w h => Rel.keep [13, 11, 10] [] h⟩)
    ·have g7 : ¬ (d : Int) = c := by omega
     refine Holds.seq ?_
     refine zs1 (an g7 <| g5) ?_
     refine Holds.condT rfl (Holds.skip ?_)
     show Holds _ _ _ _ _ _ _
     refine Holds.mono (Holds.blockG (id := 5) (M := fun σ => ∀ a w, Rel cx w0 σ a w → Rel cx w0 { nt := 123, env := [(13, .v true (.int .i32 (c : Nat))), (11, .v true (.int .i32 (r : Nat))), (10, .v true (.int .i32 (c : Nat)))], mem := [] } a w) (S := fun _ _ => False) ?_) ?_
     ·refine zr2 (ρ := fun _ => [.v true (.int .i32 (c : Nat))]) (o := by repeat' first|exact hS2|trivial|constructor) (k := ?_)
      exact fun a w h => Rel.keep [13, 11, 10] [] h
     ·intro e σ hq
      cases e <;> first | exact False.elim hq | exact ⟨true, trivial, (show (if true = true then 0 else 1) < (if false = true then 0 else 1) by decide), hq⟩
   ·simp only [if_true]
    refine Holds.seq ?_
    refine zs0 ?_
    exact Holds.condF rfl (Holds.exit ⟨rfl, fun a w h => Rel.keep [13, 11, 10] [] h⟩)
  ·intro σ hσ
   refine Holds.from hσ ?_
   refine Holds.seq ?_
   refine zs1 g2 ?_
   refine Holds.condF rfl (Holds.skip ?_)
   refine zs0 ?_
   exact Holds.ret (RetOk.vs rfl (by exact ⟨⟨rfl, id⟩, trivial⟩) rfl)
def wdB (s : ByteArray) (i : Nat) (w : ByteArray) : Bool := decide (i + w.size ≤ s.size) && eqfB (s.extract i (i + w.size)) w
def wdJ (s : ByteArray) (i : Nat) (w : ByteArray) : Nat := if wdB s i w = true then i + w.size else i
theorem ascB_of {s t : ByteArray} (hst : s.size = t.size) (ht : okWord t) (h : eqfB s t = true) : ascB s = true := by
 unfold ascB
 rw [List.all_eq_true]
 intro i hi
 rw [List.mem_range] at hi
 have h1 := of_decide_eq_true h i hi
 have h2 := (ht i (by omega)).1
 rw [decide_eq_true_eq]
 unfold lowN at h1
 split at h1 <;> omega
set_option maxHeartbeats 1000000 in
theorem word_ok (s : ByteArray) (i : Nat) (w : ByteArray) (hs : s.size < 1000000) (hi : i ≤ s.size) (hw : w.size < 1000) (hok : okWord w) : MutOk Tryz.prog 74 136 (rdV s i) [.str w] (rdV s (wdJ s i w)) [.bool (wdB s i w)] := by
 unfold wdJ wdB
 refine MutOk.of Tryz.func74 rfl rfl fun cx w0 s' M Rt F => ?_
 show Holds Tryz.prog none cx w0 _ { nt := 68, env := [(0, .ptr s' 0 [] 0), (1, .v true (.str w))], mem := (s', .box 136 (.v true (.agg [.str s, .int .i64 i]))) :: M, root := Rt, fix := F } _
 refine zs0 ?_
 have e1 : IntKind.i64.wrap ((s.size : Int) - (i : Int)) = (s.size : Int) - i := wrap_i64 (by omega) (by omega)
 by_cases h : i + w.size ≤ s.size
 ·rw [decide_eq_true h, Bool.true_and]
  have g1 : ¬ ((s.size : Int) - (i : Int) < w.size) := by omega
  have e2 : IntKind.i64.wrap ((i : Int) + (w.size : Int)) = ((i + w.size : Nat) : Int) := by rw [wrap_i64 (by omega) (by omega)]; omega
  obtain ⟨j, hj⟩ : ∃ j, j = i + w.size := ⟨_, rfl⟩
  rw [← hj] at e2 h ⊢
  have g2 : (i : Int) ≤ j := by omega
  have g3 : (j : Int) ≤ s.size := by omega
  have hxs : (s.extract i j).size = w.size := by simp; omega
  have hE := equalFold_ok (s.extract i j) w hxs (by omega) hok
  have hA := ascii_ok (s.extract i j) (by omega)
  have hAE := ascB_of hxs hok
  obtain ⟨E, hEe⟩ : ∃ E, E = eqfB (s.extract i j) w := ⟨_, rfl⟩
  rw [← hEe] at hE hAE ⊢
  cases E
  ·rw [if_neg (by simp)]
   refine Holds.seq ?_
   refine zd3 [] (ρ := fun _ => [.v true (.bool false)]) (an e1 <| an e2 <| an g1 <| an g2 <| g3) (o := by repeat' first|exact hE|trivial|constructor) (k := ?_)
   refine Holds.condT rfl ?_
   refine zs0 ?_
   exact Holds.ret ⟨.inl rfl, rfl, rfl, rfl, fun q => rfl, rfl⟩
  ·rw [if_pos rfl]
   rw [hAE rfl] at hA
   refine Holds.next (fun σ => ∀ a w', Rel cx w0 σ a w' → Rel cx w0 { nt := 68, env := [(0, .ptr s' 0 [] 0), (1, .v true (.str w))], mem := (s', .box 136 (.v true (.agg [.str s, .int .i64 i]))) :: M, root := Rt, fix := F } a w') ?_ ?_
   ·refine zd3 [] (ρ := fun _ => [.v true (.bool true)]) (an e1 <| an e2 <| an g1 <| an g2 <| g3) (o := by repeat' first|exact hE|exact hA|trivial|constructor) (k := ?_)
    exact Holds.condF rfl (Holds.skip fun a w h => Rel.keepE [0, 1] h)
   intro σ hσ
   refine Holds.from hσ ?_
   refine zs1 e2 ?_
   refine zs0 ?_
   exact Holds.ret ⟨.inl rfl, rfl, rfl, rfl, fun q => by simp only [look]; split <;> rfl, rfl⟩
 ·rw [decide_eq_false h, Bool.false_and, if_neg (by simp)]
  have g1 : (s.size : Int) - (i : Int) < w.size := by omega
  refine Holds.seq ?_
  refine zd1 [] (an e1 <| g1) ?_
  refine Holds.condT rfl ?_
  refine zs0 ?_
  exact Holds.ret ⟨.inl rfl, rfl, rfl, rfl, fun q => rfl, rfl⟩
structure Nm where
 kind : Nat
 neg : Bool
 digits : List UInt8
 behind : Nat
 exp : Int
 len : Nat
 sgl : Bool
def numV (k : Nat) (neg : Bool) (d : ByteArray) (bh e len : Int) (sgl : Bool) : V := .agg [.int .i64 (k : Nat), .bool neg, .str d, .int .i64 bh, .int .i64 e, .int .i64 len, .bool sgl]
def Nm.v (n : Nm) : V := numV n.kind n.neg ⟨n.digits.toArray⟩ (n.behind : Nat) n.exp (n.len : Nat) n.sgl
def wInfinity : ByteArray := ⟨#[105, 110, 102, 105, 110, 105, 116, 121]⟩
def wInf : ByteArray := ⟨#[105, 110, 102]⟩
def wNan : ByteArray := ⟨#[110, 97, 110]⟩
def w0x : ByteArray := ⟨#[48, 120]⟩
def decM (s : ByteArray) (i : Nat) (neg sgl : Bool) : Option Nm :=
 if (dgR s i false).2.1.length = 0 then none else
  some (if (expR s (dgR s i false).1 101).2.2 = true then ⟨0, neg, (dgR s i false).2.1, (dgR s i false).2.2, (expR s (dgR s i false).1 101).2.1, (expR s (dgR s i false).1 101).1, sgl⟩
   else ⟨0, neg, (dgR s i false).2.1, (dgR s i false).2.2, 0, (dgR s i false).1, sgl⟩)
def hexM (s : ByteArray) (i : Nat) (neg sgl : Bool) : Option Nm :=
 if wdB s i w0x = true ∧ 0 < (dgR s (i + 2) true).2.1.length ∧ (expR s (dgR s (i + 2) true).1 112).2.2 = true then
  some ⟨1, neg, (dgR s (i + 2) true).2.1, (dgR s (i + 2) true).2.2, (expR s (dgR s (i + 2) true).1 112).2.1, (expR s (dgR s (i + 2) true).1 112).1, sgl⟩ else none
def spcM (s : ByteArray) (i : Nat) (neg sgl : Bool) : Option Nm :=
 if wdB s i wInfinity = true then some ⟨2, neg, [], 0, 0, i + 8, sgl⟩ else
 if wdB s i wInf = true then some ⟨2, neg, [], 0, 0, i + 3, sgl⟩ else
 if sgl = true ∧ wdB s i wNan = true then some ⟨3, neg, [], 0, 0, i + 3, sgl⟩ else none
def restM (s : ByteArray) (i : Nat) (neg sgl : Bool) : Option Nm := match spcM s i neg sgl with
 | some n => some n
 | none => match hexM s i neg sgl with
   | some n => some n
   | none => decM s i neg sgl
def longM (s : ByteArray) (signs : Bool) : Option Nm :=
 if signs = true then restM s (b2n (sgnB s 0)) (mayB s 0 45) (!sgnB s 0) else restM s 0 false true
def longR (o : Option Nm) : List R := match o with
 | some n => [.v true n.v, .v true (.bool true)]
 | none => [.v true (numV 0 false ⟨#[]⟩ 0 0 0 false), .v true (.bool false)]
theorem wdB_le {s : ByteArray} {i : Nat} {w : ByteArray} (h : wdB s i w = true) : i + w.size ≤ s.size := by
 unfold wdB at h
 rw [Bool.and_eq_true] at h
 exact of_decide_eq_true h.1
theorem dgR_le (s : ByteArray) (i : Nat) (hex : Bool) (h : i ≤ s.size) : (dgR s i hex).1 ≤ s.size := (dgL_bd s hex _ _ _ _ _ h).1
set_option maxHeartbeats 4000000 in
theorem longest_ok (s : ByteArray) (signs : Bool) (hs : s.size < 1000000) : FnOk Tryz.prog 31 [.v (.str s), .v (.bool signs)] (longR (longM s signs)) := by
 have e8 : wInfinity.size = 8 := rfl
 have e3 : wInf.size = 3 := rfl
 have e3' : wNan.size = 3 := rfl
 have e2 : w0x.size = 2 := rfl
 have zb : b2n (sgnB s 0) ≤ s.size := by
  cases h : sgnB s 0
  ·exact Nat.zero_le _
  ·rcases Nat.lt_or_ge 0 s.size with h1 | h1
   ·exact h1
   ·exfalso
    unfold sgnB mayB at h
    rw [nxB, bAt_end h1] at h
    simp [lowN] at h
 refine FnOk.of Tryz.func31 rfl rfl fun cx w0 => ?_
 rw [show Tryz.f31.ntmps = 128 from rfl]
 refine zs0 ?_
 refine zs0 ?_
 refine zs0 ?_
 obtain ⟨T, hT⟩ : ∃ T, T = longM s signs := ⟨_, rfl⟩
 rw [← hT]
 refine Holds.next (fun σ => ∃ i neg sgl, i ≤ s.size ∧ T = restM s i neg sgl ∧ ∀ a w, Rel cx w0 σ a w → Rel cx w0 { nt := 128, env := [(4, .ptr 4 0 [] 0), (6, .ptr 22 0 [] 0), (7, .ptr 7 0 [] 0)], mem := [(22, .box 136 (.v true (rdV s i))), (7, .box 80 (.v true (numV 0 neg ⟨#[]⟩ 0 0 0 sgl))), (4, .box 80 (.v true (numV 0 false ⟨#[]⟩ 0 0 0 false)))] } a w) ?_ ?_
 ·refine zs0 ?_
  cases signs
  ·refine Holds.condF rfl ?_
   refine zr0 ?_
   exact ⟨0, false, true, Nat.zero_le _, hT, fun a w h => Rel.keep [4, 6, 7] [22, 7, 4] h⟩
  ·refine Holds.condT rfl ?_
   have h1 := sign_ok s 0 (by omega) (by omega)
   rw [Nat.zero_add] at h1
   unfold longM at hT
   rw [if_pos rfl] at hT
   obtain ⟨i, hi⟩ : ∃ i, i = b2n (sgnB s 0) := ⟨_, rfl⟩
   obtain ⟨neg, hneg⟩ : ∃ neg, neg = mayB s 0 45 := ⟨_, rfl⟩
   obtain ⟨is, his⟩ : ∃ is, is = sgnB s 0 := ⟨_, rfl⟩
   rw [← hi, ← hneg, ← his] at hT
   rw [← hi] at zb
   rw [← hi, ← hneg, ← his] at h1
   refine zs0 ?_
   refine Holds.from (σ' := { nt := 128, env := [(4, .ptr 4 0 [] 0), (6, .ptr 22 0 [] 0), (7, .ptr 7 0 [] 0)], mem := [(22, .box 136 (.v true (rdV s 0))), (7, .box 80 (.v true (numV 0 false ⟨#[]⟩ 0 0 0 false))), (4, .box 80 (.v true (numV 0 false ⟨#[]⟩ 0 0 0 false)))] }) (fun a w h => Rel.keep [4, 6, 7] [22, 7, 4] h) ?_
   unfold numV
   refine Holds.seq (Holds.regionM (Px := px) (T := TT) (ρ := fun _ => []) (k := 1) TTe (by simp (maxSteps := 100000) (disch := omega) only [List.take_succ_cons, List.take_zero, go_sem, V.isAgg, V.flat, ↓reduceIte, Nat.reduceAdd, Nat.reduceSub, Nat.reduceLT, Nat.reduceEqDiff, reduceCtorEq, Nat.reduceLeDiff, Nat.reduceBEq, Nat.reduceMul, Int.reduceToNat]; rfl) (by repeat' first | exact trivial | constructor) rfl (by rfl) rfl rfl (Nat.le_of_ble_eq_true rfl) (by rfl) (by exact if_pos rfl) (by rfl) (h1) ⟨_, _, by simp (maxSteps := 100000) (disch := omega) only [List.drop_succ_cons, List.drop_zero, mres, go_sem, V.isAgg, V.flat, ↓reduceIte, Nat.reduceAdd, Nat.reduceSub, Nat.reduceLT, Nat.reduceEqDiff, reduceCtorEq, Nat.reduceLeDiff, Nat.reduceBEq, Nat.reduceMul, Int.reduceToNat]; rfl, by repeat' first | exact trivial | constructor, ?_⟩); show Holds _ _ _ _ _ _ _
   refine zr0 ?_
   exact ⟨i, neg, !is, zb, hT, fun a w h => Rel.keep [4, 6, 7] [22, 7, 4] h⟩
 rintro σ ⟨i, neg, sgl, hi, hT', hσ⟩
 refine Holds.from hσ ?_
 clear hT zb hσ
 rw [hT']
 clear hT'
 have hW1 := word_ok s i wInfinity hs hi (by decide) (by decide)
 have hW2 := word_ok s i wInf hs hi (by decide) (by decide)
 have hW3 := word_ok s i wNan hs hi (by decide) (by decide)
 unfold wInfinity at hW1
 unfold wInf at hW2
 unfold wNan at hW3
 unfold wdJ at hW1 hW2 hW3
 rw [show (⟨#[105, 110, 102, 105, 110, 105, 116, 121]⟩ : ByteArray) = wInfinity from rfl] at hW1
 rw [show (⟨#[105, 110, 102]⟩ : ByteArray) = wInf from rfl] at hW2
 rw [show (⟨#[110, 97, 110]⟩ : ByteArray) = wNan from rfl] at hW3
 rw [e8] at hW1
 rw [e3] at hW2
 rw [e3'] at hW3
 refine Holds.next (fun σ => spcM s i neg sgl = none ∧ ∀ a w, Rel cx w0 σ a w → Rel cx w0 { nt := 128, env := [(4, .ptr 4 0 [] 0), (6, .ptr 22 0 [] 0), (7, .ptr 7 0 [] 0)], mem := [(22, .box 136 (.v true (rdV s i))), (7, .box 80 (.v true (numV 0 neg ⟨#[]⟩ 0 0 0 sgl))), (4, .box 80 (.v true (numV 0 false ⟨#[]⟩ 0 0 0 false)))] } a w) ?_ ?_
 ·refine Holds.blockN ?_
  refine Holds.next (fun σ => (∃ j, (∀ h, restM s i neg sgl = some h → True) ∧ restM s i neg sgl = some ⟨2, neg, [], 0, 0, j, sgl⟩ ∧ ∀ a w, Rel cx w0 σ a w → Rel cx w0 { nt := 128, env := [(34, .v true (.bool true)), (4, .ptr 4 0 [] 0), (6, .ptr 22 0 [] 0), (7, .ptr 7 0 [] 0)], mem := [(22, .box 136 (.v true (rdV s j))), (7, .box 80 (.v true (numV 0 neg ⟨#[]⟩ 0 0 0 sgl))), (4, .box 80 (.v true (numV 0 false ⟨#[]⟩ 0 0 0 false)))] } a w) ∨ (wdB s i wInfinity = false ∧ wdB s i wInf = false ∧ ∀ a w, Rel cx w0 σ a w → Rel cx w0 { nt := 128, env := [(34, .v true (.bool false)), (4, .ptr 4 0 [] 0), (6, .ptr 22 0 [] 0), (7, .ptr 7 0 [] 0)], mem := [(22, .box 136 (.v true (rdV s i))), (7, .box 80 (.v true (numV 0 neg ⟨#[]⟩ 0 0 0 sgl))), (4, .box 80 (.v true (numV 0 false ⟨#[]⟩ 0 0 0 false)))] } a w)) ?_ ?_
  ·obtain ⟨b1, hb1⟩ : ∃ b, b = wdB s i wInfinity := ⟨_, rfl⟩
   obtain ⟨b2, hb2⟩ : ∃ b, b = wdB s i wInf := ⟨_, rfl⟩
   rw [← hb1] at hW1
   rw [← hb2] at hW2
   unfold numV
   cases b1
   ·rw [if_neg (by simp)] at hW1
    refine Holds.seq (Holds.regionM (Px := px) (T := TT) (ρ := fun _ => []) (k := 1) TTe (by simp (maxSteps := 100000) (disch := omega) only [List.take_succ_cons, List.take_zero, go_sem, V.isAgg, V.flat, ↓reduceIte, Nat.reduceAdd, Nat.reduceSub, Nat.reduceLT, Nat.reduceEqDiff, reduceCtorEq, Nat.reduceLeDiff, Nat.reduceBEq, Nat.reduceMul, Int.reduceToNat]; rfl) (by repeat' first | exact trivial | constructor) rfl (by rfl) rfl rfl (Nat.le_of_ble_eq_true rfl) (by rfl) (by exact if_pos rfl) (by rfl) (hW1) ⟨_, _, by simp (maxSteps := 100000) (disch := omega) only [List.drop_succ_cons, List.drop_zero, mres, go_sem, V.isAgg, V.flat, ↓reduceIte, Nat.reduceAdd, Nat.reduceSub, Nat.reduceLT, Nat.reduceEqDiff, reduceCtorEq, Nat.reduceLeDiff, Nat.reduceBEq, Nat.reduceMul, Int.reduceToNat]; rfl, by repeat' first | exact trivial | constructor, ?_⟩); show Holds _ _ _ _ _ _ _
    refine Holds.condF rfl ?_
    refine Holds.from (σ' := { nt := 128, env := [(4, .ptr 4 0 [] 0), (6, .ptr 22 0 [] 0), (7, .ptr 7 0 [] 0)], mem := [(22, .box 136 (.v true (rdV s i))), (7, .box 80 (.v true (numV 0 neg ⟨#[]⟩ 0 0 0 sgl))), (4, .box 80 (.v true (numV 0 false ⟨#[]⟩ 0 0 0 false)))] }) (fun a w h => Rel.keep [4, 6, 7] [22, 7, 4] h) ?_
    unfold numV
    cases b2
    ·rw [if_neg (by simp)] at hW2
     refine Holds.regionM (Px := px) (T := TT) (ρ := fun _ => []) (k := 1) TTe (by simp (maxSteps := 100000) (disch := omega) only [List.take_succ_cons, List.take_zero, go_sem, V.isAgg, V.flat, ↓reduceIte, Nat.reduceAdd, Nat.reduceSub, Nat.reduceLT, Nat.reduceEqDiff, reduceCtorEq, Nat.reduceLeDiff, Nat.reduceBEq, Nat.reduceMul, Int.reduceToNat]; rfl) (by repeat' first | exact trivial | constructor) rfl (by rfl) rfl rfl (Nat.le_of_ble_eq_true rfl) (by rfl) (by exact if_pos rfl) (by rfl) (hW2) ⟨_, _, by simp (maxSteps := 100000) (disch := omega) only [List.drop_succ_cons, List.drop_zero, mres, go_sem, V.isAgg, V.flat, ↓reduceIte, Nat.reduceAdd, Nat.reduceSub, Nat.reduceLT, Nat.reduceEqDiff, reduceCtorEq, Nat.reduceLeDiff, Nat.reduceBEq, Nat.reduceMul, Int.reduceToNat]; rfl, by repeat' first | exact trivial | constructor, ?_⟩
     exact .inr ⟨hb1.symm, hb2.symm, fun a w h => Rel.keep [34, 4, 6, 7] [22, 7, 4] h⟩
    ·rw [if_pos rfl] at hW2
     refine Holds.regionM (Px := px) (T := TT) (ρ := fun _ => []) (k := 1) TTe (by simp (maxSteps := 100000) (disch := omega) only [List.take_succ_cons, List.take_zero, go_sem, V.isAgg, V.flat, ↓reduceIte, Nat.reduceAdd, Nat.reduceSub, Nat.reduceLT, Nat.reduceEqDiff, reduceCtorEq, Nat.reduceLeDiff, Nat.reduceBEq, Nat.reduceMul, Int.reduceToNat]; rfl) (by repeat' first | exact trivial | constructor) rfl (by rfl) rfl rfl (Nat.le_of_ble_eq_true rfl) (by rfl) (by exact if_pos rfl) (by rfl) (hW2) ⟨_, _, by simp (maxSteps := 100000) (disch := omega) only [List.drop_succ_cons, List.drop_zero, mres, go_sem, V.isAgg, V.flat, ↓reduceIte, Nat.reduceAdd, Nat.reduceSub, Nat.reduceLT, Nat.reduceEqDiff, reduceCtorEq, Nat.reduceLeDiff, Nat.reduceBEq, Nat.reduceMul, Int.reduceToNat]; rfl, by repeat' first | exact trivial | constructor, ?_⟩
     exact .inl ⟨i + 3, fun _ _ => trivial, by unfold restM spcM; rw [← hb1, ← hb2]; rfl, fun a w h => Rel.keep [34, 4, 6, 7] [22, 7, 4] h⟩
   ·rw [if_pos rfl] at hW1
    refine Holds.seq (Holds.regionM (Px := px) (T := TT) (ρ := fun _ => []) (k := 1) TTe (by simp (maxSteps := 100000) (disch := omega) only [List.take_succ_cons, List.take_zero, go_sem, V.isAgg, V.flat, ↓reduceIte, Nat.reduceAdd, Nat.reduceSub, Nat.reduceLT, Nat.reduceEqDiff, reduceCtorEq, Nat.reduceLeDiff, Nat.reduceBEq, Nat.reduceMul, Int.reduceToNat]; rfl) (by repeat' first | exact trivial | constructor) rfl (by rfl) rfl rfl (Nat.le_of_ble_eq_true rfl) (by rfl) (by exact if_pos rfl) (by rfl) (hW1) ⟨_, _, by simp (maxSteps := 100000) (disch := omega) only [List.drop_succ_cons, List.drop_zero, mres, go_sem, V.isAgg, V.flat, ↓reduceIte, Nat.reduceAdd, Nat.reduceSub, Nat.reduceLT, Nat.reduceEqDiff, reduceCtorEq, Nat.reduceLeDiff, Nat.reduceBEq, Nat.reduceMul, Int.reduceToNat]; rfl, by repeat' first | exact trivial | constructor, ?_⟩); show Holds _ _ _ _ _ _ _
    refine Holds.condT rfl (Holds.skip ?_)
    exact .inl ⟨i + 8, fun _ _ => trivial, by unfold restM spcM; rw [← hb1]; rfl, fun a w h => Rel.keep [34, 4, 6, 7] [22, 7, 4] h⟩
  ·rintro σ (⟨j, -, hj, hσ⟩ | ⟨hb1, hb2, hσ⟩)
   ·refine Holds.from hσ ?_
    rw [hj]
    unfold numV
    refine Holds.condT rfl ?_
    refine Holds.dstep (Px := px) (T := TT) (ρ := fun _ => []) [(1, 5), (2, 5), (3, 5)] mixed (by kernel_rfl) TTe (by simp (maxSteps := 100000) (disch := omega) only [go_sem, V.isAgg, V.flat, ↓reduceIte, Nat.reduceAdd, Nat.reduceSub, Nat.reduceLT, Nat.reduceEqDiff, reduceCtorEq, Nat.reduceLeDiff, Nat.reduceBEq, Nat.reduceMul, Int.reduceToNat, rdV]; rfl) (by repeat' first | exact trivial | constructor) (by rfl) (by rfl) (by rfl) ?_
    refine zs0 ?_
    exact Holds.ret (RetOk.vs rfl (by exact ⟨⟨rfl, id⟩, ⟨rfl, id⟩, trivial⟩) rfl)
   ·refine Holds.from hσ ?_
    refine Holds.condF rfl ?_
    unfold numV
    obtain ⟨b3, hb3⟩ : ∃ b, b = wdB s i wNan := ⟨_, rfl⟩
    rw [← hb3] at hW3
    have hsp : spcM s i neg sgl = if sgl = true ∧ b3 = true then some ⟨3, neg, [], 0, 0, i + 3, sgl⟩ else none := by
     unfold spcM
     rw [hb1, hb2, ← hb3, if_neg (by simp), if_neg (by simp)]
    cases sgl
    ·refine zs0 ?_
     refine Holds.condF rfl (Holds.skip ?_)
     exact ⟨hsp, fun a w h => Rel.keep [4, 6, 7] [22, 7, 4] h⟩
    ·cases b3
     ·rw [if_neg (by simp)] at hW3
      refine Holds.seq (Holds.regionM (Px := px) (T := TT) (ρ := fun _ => []) (k := 4) TTe (by simp (maxSteps := 100000) (disch := omega) only [List.take_succ_cons, List.take_zero, go_sem, V.isAgg, V.flat, ↓reduceIte, Nat.reduceAdd, Nat.reduceSub, Nat.reduceLT, Nat.reduceEqDiff, reduceCtorEq, Nat.reduceLeDiff, Nat.reduceBEq, Nat.reduceMul, Int.reduceToNat]; rfl) (by repeat' first | exact trivial | constructor) rfl (by rfl) rfl rfl (Nat.le_of_ble_eq_true rfl) (by rfl) (by exact if_pos rfl) (by rfl) (hW3) ⟨_, _, by simp (maxSteps := 100000) (disch := omega) only [List.drop_succ_cons, List.drop_zero, mres, go_sem, V.isAgg, V.flat, ↓reduceIte, Nat.reduceAdd, Nat.reduceSub, Nat.reduceLT, Nat.reduceEqDiff, reduceCtorEq, Nat.reduceLeDiff, Nat.reduceBEq, Nat.reduceMul, Int.reduceToNat]; rfl, by repeat' first | exact trivial | constructor, ?_⟩); show Holds _ _ _ _ _ _ _
      refine Holds.condF rfl (Holds.skip ?_)
      exact ⟨hsp, fun a w h => Rel.keep [4, 6, 7] [22, 7, 4] h⟩
     ·rw [if_pos rfl] at hW3
      rw [if_pos ⟨rfl, rfl⟩] at hsp
      have hr : restM s i neg true = some ⟨3, neg, [], 0, 0, i + 3, true⟩ := by unfold restM; rw [hsp]
      rw [hr]
      refine Holds.seq (Holds.regionM (Px := px) (T := TT) (ρ := fun _ => []) (k := 4) TTe (by simp (maxSteps := 100000) (disch := omega) only [List.take_succ_cons, List.take_zero, go_sem, V.isAgg, V.flat, ↓reduceIte, Nat.reduceAdd, Nat.reduceSub, Nat.reduceLT, Nat.reduceEqDiff, reduceCtorEq, Nat.reduceLeDiff, Nat.reduceBEq, Nat.reduceMul, Int.reduceToNat]; rfl) (by repeat' first | exact trivial | constructor) rfl (by rfl) rfl rfl (Nat.le_of_ble_eq_true rfl) (by rfl) (by exact if_pos rfl) (by rfl) (hW3) ⟨_, _, by simp (maxSteps := 100000) (disch := omega) only [List.drop_succ_cons, List.drop_zero, mres, go_sem, V.isAgg, V.flat, ↓reduceIte, Nat.reduceAdd, Nat.reduceSub, Nat.reduceLT, Nat.reduceEqDiff, reduceCtorEq, Nat.reduceLeDiff, Nat.reduceBEq, Nat.reduceMul, Int.reduceToNat]; rfl, by repeat' first | exact trivial | constructor, ?_⟩); show Holds _ _ _ _ _ _ _
      refine Holds.condT rfl ?_
      refine Holds.from (σ' := { nt := 128, env := [(4, .ptr 4 0 [] 0), (6, .ptr 22 0 [] 0), (7, .ptr 7 0 [] 0)], mem := [(22, .box 136 (.v true (rdV s (i + 3)))), (7, .box 80 (.v true (numV 0 neg ⟨#[]⟩ 0 0 0 true))), (4, .box 80 (.v true (numV 0 false ⟨#[]⟩ 0 0 0 false)))] }) (fun a w h => Rel.keep [4, 6, 7] [22, 7, 4] h) ?_
      unfold numV
      refine Holds.dstep (Px := px) (T := TT) (ρ := fun _ => []) [(1, 5), (2, 5), (3, 5)] mixed (by kernel_rfl) TTe (by simp (maxSteps := 100000) (disch := omega) only [go_sem, V.isAgg, V.flat, ↓reduceIte, Nat.reduceAdd, Nat.reduceSub, Nat.reduceLT, Nat.reduceEqDiff, reduceCtorEq, Nat.reduceLeDiff, Nat.reduceBEq, Nat.reduceMul, Int.reduceToNat, rdV]; rfl) (by repeat' first | exact trivial | constructor) (by rfl) (by rfl) (by rfl) ?_
      refine zs0 ?_
      exact Holds.ret (RetOk.vs rfl (by exact ⟨⟨rfl, id⟩, ⟨rfl, id⟩, trivial⟩) rfl)
 rintro σ ⟨hsp, hσ⟩
 refine Holds.from hσ ?_
 have hrest : restM s i neg sgl = match hexM s i neg sgl with
  | some n => some n
  | none => decM s i neg sgl := by unfold restM; rw [hsp]
 rw [hrest]
 clear hrest hsp hW1 hW2 hW3 hσ
 have hW := word_ok s i w0x hs hi (by decide) (by decide)
 unfold w0x at hW
 unfold wdJ at hW
 rw [show (⟨#[48, 120]⟩ : ByteArray) = w0x from rfl] at hW
 rw [e2] at hW
 unfold numV
 refine Holds.step (Px := px) (T := TT) (ρ := fun _ => []) TTe (by simp (maxSteps := 100000) (disch := omega) only [go_sem, V.isAgg, V.flat, ↓reduceIte, Nat.reduceAdd, Nat.reduceSub, Nat.reduceLT, Nat.reduceEqDiff, reduceCtorEq, Nat.reduceLeDiff, Nat.reduceBEq, Nat.reduceMul, Int.reduceToNat, rdV]; rfl) (by repeat' first | exact trivial | constructor) ?_
 refine Holds.next (fun σ => hexM s i neg sgl = none ∧ ∃ j : Nat, ∀ a w, Rel cx w0 σ a w → Rel cx w0 { nt := 128, env := [(9, .v true (.int .i64 (i : Nat))), (4, .ptr 4 0 [] 0), (6, .ptr 22 0 [] 0), (7, .ptr 7 0 [] 0)], mem := [(22, .box 136 (.v true (rdV s j))), (7, .box 80 (.v true (numV 0 neg ⟨#[]⟩ 0 0 0 sgl))), (4, .box 80 (.v true (numV 0 false ⟨#[]⟩ 0 0 0 false)))] } a w) ?_ ?_
 ·refine Holds.from (σ' := { nt := 128, env := [(9, .v true (.int .i64 (i : Nat))), (4, .ptr 4 0 [] 0), (6, .ptr 22 0 [] 0), (7, .ptr 7 0 [] 0)], mem := [(22, .box 136 (.v true (rdV s i))), (7, .box 80 (.v true (numV 0 neg ⟨#[]⟩ 0 0 0 sgl))), (4, .box 80 (.v true (numV 0 false ⟨#[]⟩ 0 0 0 false)))] }) (fun a w h => Rel.keep [9, 4, 6, 7] [22, 7, 4] h) ?_
  unfold numV
  unfold hexM
  obtain ⟨b, hb⟩ : ∃ b, b = wdB s i w0x := ⟨_, rfl⟩
  have hle := wdB_le (s := s) (i := i) (w := w0x)
  rw [← hb, e2] at hle
  rw [← hb] at hW ⊢
  cases b
  ·rw [if_neg (by simp)] at hW
   rw [if_neg (by simp)]
   refine Holds.seq (Holds.regionM (Px := px) (T := TT) (ρ := fun _ => []) (k := 1) TTe (by simp (maxSteps := 100000) (disch := omega) only [List.take_succ_cons, List.take_zero, go_sem, V.isAgg, V.flat, ↓reduceIte, Nat.reduceAdd, Nat.reduceSub, Nat.reduceLT, Nat.reduceEqDiff, reduceCtorEq, Nat.reduceLeDiff, Nat.reduceBEq, Nat.reduceMul, Int.reduceToNat]; rfl) (by repeat' first | exact trivial | constructor) rfl (by rfl) rfl rfl (Nat.le_of_ble_eq_true rfl) (by rfl) (by exact if_pos rfl) (by rfl) (hW) ⟨_, _, by simp (maxSteps := 100000) (disch := omega) only [List.drop_succ_cons, List.drop_zero, mres, go_sem, V.isAgg, V.flat, ↓reduceIte, Nat.reduceAdd, Nat.reduceSub, Nat.reduceLT, Nat.reduceEqDiff, reduceCtorEq, Nat.reduceLeDiff, Nat.reduceBEq, Nat.reduceMul, Int.reduceToNat]; rfl, by repeat' first | exact trivial | constructor, ?_⟩); show Holds _ _ _ _ _ _ _
   exact Holds.condF rfl (Holds.skip ⟨rfl, i, fun a w h => Rel.keep [9, 4, 6, 7] [22, 7, 4] h⟩)
  ·rw [if_pos rfl] at hW
   have hi2 := hle rfl
   have hD := digits_ok s (i + 2) true (by omega) hi2
   have hDl := dgR_le s (i + 2) true hi2
   obtain ⟨D, hDe⟩ : ∃ D, D = dgR s (i + 2) true := ⟨_, rfl⟩
   rw [← hDe] at hD hDl ⊢
   obtain ⟨d1, d2, d3⟩ := D
   simp only at hD hDl ⊢
   refine Holds.seq (Holds.regionM (Px := px) (T := TT) (ρ := fun _ => []) (k := 1) TTe (by simp (maxSteps := 100000) (disch := omega) only [List.take_succ_cons, List.take_zero, go_sem, V.isAgg, V.flat, ↓reduceIte, Nat.reduceAdd, Nat.reduceSub, Nat.reduceLT, Nat.reduceEqDiff, reduceCtorEq, Nat.reduceLeDiff, Nat.reduceBEq, Nat.reduceMul, Int.reduceToNat]; rfl) (by repeat' first | exact trivial | constructor) rfl (by rfl) rfl rfl (Nat.le_of_ble_eq_true rfl) (by rfl) (by exact if_pos rfl) (by rfl) (hW) ⟨_, _, by simp (maxSteps := 100000) (disch := omega) only [List.drop_succ_cons, List.drop_zero, mres, go_sem, V.isAgg, V.flat, ↓reduceIte, Nat.reduceAdd, Nat.reduceSub, Nat.reduceLT, Nat.reduceEqDiff, reduceCtorEq, Nat.reduceLeDiff, Nat.reduceBEq, Nat.reduceMul, Int.reduceToNat]; rfl, by repeat' first | exact trivial | constructor, ?_⟩); show Holds _ _ _ _ _ _ _
   refine Holds.condT rfl ?_
   refine Holds.from (σ' := { nt := 128, env := [(9, .v true (.int .i64 (i : Nat))), (4, .ptr 4 0 [] 0), (6, .ptr 22 0 [] 0), (7, .ptr 7 0 [] 0)], mem := [(22, .box 136 (.v true (rdV s (i + 2)))), (7, .box 80 (.v true (numV 0 neg ⟨#[]⟩ 0 0 0 sgl))), (4, .box 80 (.v true (numV 0 false ⟨#[]⟩ 0 0 0 false)))] }) (fun a w h => Rel.keep [9, 4, 6, 7] [22, 7, 4] h) ?_
   unfold numV
   by_cases h0 : 0 < d2.length
   ·rw [decide_eq_true h0] at hD
    have hX := exponent_ok s d1 112 (by omega) (by omega) (by decide)
    obtain ⟨X, hXe⟩ : ∃ X, X = expR s d1 112 := ⟨_, rfl⟩
    rw [← hXe] at hX ⊢
    obtain ⟨x1, x2, x3⟩ := X
    simp only at hX ⊢
    refine Holds.seq (Holds.regionM (Px := px) (T := TT) (ρ := fun _ => []) (k := 1) TTe (by simp (maxSteps := 100000) (disch := omega) only [List.take_succ_cons, List.take_zero, go_sem, V.isAgg, V.flat, ↓reduceIte, Nat.reduceAdd, Nat.reduceSub, Nat.reduceLT, Nat.reduceEqDiff, reduceCtorEq, Nat.reduceLeDiff, Nat.reduceBEq, Nat.reduceMul, Int.reduceToNat]; rfl) (by repeat' first | exact trivial | constructor) rfl (by rfl) rfl rfl (Nat.le_of_ble_eq_true rfl) (by rfl) (by exact if_pos rfl) (by rfl) (hD) ⟨_, _, by simp (maxSteps := 100000) (disch := omega) only [List.drop_succ_cons, List.drop_zero, mres, go_sem, V.isAgg, V.flat, ↓reduceIte, Nat.reduceAdd, Nat.reduceSub, Nat.reduceLT, Nat.reduceEqDiff, reduceCtorEq, Nat.reduceLeDiff, Nat.reduceBEq, Nat.reduceMul, Int.reduceToNat]; rfl, by repeat' first | exact trivial | constructor, ?_⟩); show Holds _ _ _ _ _ _ _
    refine zs0 ?_
    refine Holds.condT rfl ?_
    refine Holds.from (σ' := { nt := 128, env := [(10, .v true (.str ⟨d2.toArray⟩)), (11, .v true (.int .i64 (d3 : Nat))), (9, .v true (.int .i64 (i : Nat))), (4, .ptr 4 0 [] 0), (6, .ptr 22 0 [] 0), (7, .ptr 7 0 [] 0)], mem := [(22, .box 136 (.v true (rdV s d1))), (7, .box 80 (.v true (numV 0 neg ⟨#[]⟩ 0 0 0 sgl))), (4, .box 80 (.v true (numV 0 false ⟨#[]⟩ 0 0 0 false)))] }) (fun a w h => Rel.keep [10, 11, 9, 4, 6, 7] [22, 7, 4] h) ?_
    unfold numV
    cases x3
    ·rw [if_neg (by simp)]
     refine Holds.seq (Holds.regionM (Px := px) (T := TT) (ρ := fun _ => []) (k := 1) TTe (by simp (maxSteps := 100000) (disch := omega) only [List.take_succ_cons, List.take_zero, go_sem, V.isAgg, V.flat, ↓reduceIte, Nat.reduceAdd, Nat.reduceSub, Nat.reduceLT, Nat.reduceEqDiff, reduceCtorEq, Nat.reduceLeDiff, Nat.reduceBEq, Nat.reduceMul, Int.reduceToNat]; rfl) (by repeat' first | exact trivial | constructor) rfl (by rfl) rfl rfl (Nat.le_of_ble_eq_true rfl) (by rfl) (by exact if_pos rfl) (by rfl) (hX) ⟨_, _, by simp (maxSteps := 100000) (disch := omega) only [List.drop_succ_cons, List.drop_zero, mres, go_sem, V.isAgg, V.flat, ↓reduceIte, Nat.reduceAdd, Nat.reduceSub, Nat.reduceLT, Nat.reduceEqDiff, reduceCtorEq, Nat.reduceLeDiff, Nat.reduceBEq, Nat.reduceMul, Int.reduceToNat]; rfl, by repeat' first | exact trivial | constructor, ?_⟩); show Holds _ _ _ _ _ _ _
     refine zs0 ?_
     exact Holds.condF rfl (Holds.skip ⟨rfl, x1, fun a w h => Rel.keep [9, 4, 6, 7] [22, 7, 4] h⟩)
    ·rw [if_pos ⟨trivial, h0, rfl⟩]
     refine Holds.seq (Holds.regionM (Px := px) (T := TT) (ρ := fun _ => []) (k := 1) TTe (by simp (maxSteps := 100000) (disch := omega) only [List.take_succ_cons, List.take_zero, go_sem, V.isAgg, V.flat, ↓reduceIte, Nat.reduceAdd, Nat.reduceSub, Nat.reduceLT, Nat.reduceEqDiff, reduceCtorEq, Nat.reduceLeDiff, Nat.reduceBEq, Nat.reduceMul, Int.reduceToNat]; rfl) (by repeat' first | exact trivial | constructor) rfl (by rfl) rfl rfl (Nat.le_of_ble_eq_true rfl) (by rfl) (by exact if_pos rfl) (by rfl) (hX) ⟨_, _, by simp (maxSteps := 100000) (disch := omega) only [List.drop_succ_cons, List.drop_zero, mres, go_sem, V.isAgg, V.flat, ↓reduceIte, Nat.reduceAdd, Nat.reduceSub, Nat.reduceLT, Nat.reduceEqDiff, reduceCtorEq, Nat.reduceLeDiff, Nat.reduceBEq, Nat.reduceMul, Int.reduceToNat]; rfl, by repeat' first | exact trivial | constructor, ?_⟩); show Holds _ _ _ _ _ _ _
     refine zs0 ?_
     refine Holds.condT rfl ?_
     refine Holds.from (σ' := { nt := 128, env := [(10, .v true (.str ⟨d2.toArray⟩)), (11, .v true (.int .i64 (d3 : Nat))), (13, .v true (.int .i64 x2)), (4, .ptr 4 0 [] 0), (6, .ptr 22 0 [] 0), (7, .ptr 7 0 [] 0)], mem := [(22, .box 136 (.v true (rdV s x1))), (7, .box 80 (.v true (numV 0 neg ⟨#[]⟩ 0 0 0 sgl))), (4, .box 80 (.v true (numV 0 false ⟨#[]⟩ 0 0 0 false)))] }) (fun a w h => Rel.keep [10, 11, 13, 4, 6, 7] [22, 7, 4] h) ?_
     unfold numV
     refine Holds.dstep (Px := px) (T := TT) (ρ := fun _ => []) [(4, 8), (5, 8), (6, 8), (4, 10), (5, 10), (6, 10), (4, 12), (5, 12), (6, 12), (4, 14), (5, 14), (6, 14)] mixed (by kernel_rfl) TTe (by simp (maxSteps := 100000) (disch := omega) only [go_sem, V.isAgg, V.flat, ↓reduceIte, Nat.reduceAdd, Nat.reduceSub, Nat.reduceLT, Nat.reduceEqDiff, reduceCtorEq, Nat.reduceLeDiff, Nat.reduceBEq, Nat.reduceMul, Int.reduceToNat, rdV]; rfl) (by repeat' first | exact trivial | constructor) (by rfl) (by rfl) (by rfl) ?_
     refine zs0 ?_
     exact Holds.ret (RetOk.vs rfl (by exact ⟨⟨rfl, id⟩, ⟨rfl, id⟩, trivial⟩) rfl)
   ·rw [decide_eq_false h0] at hD
    rw [if_neg (fun h => h0 h.2.1)]
    refine Holds.seq (Holds.regionM (Px := px) (T := TT) (ρ := fun _ => []) (k := 1) TTe (by simp (maxSteps := 100000) (disch := omega) only [List.take_succ_cons, List.take_zero, go_sem, V.isAgg, V.flat, ↓reduceIte, Nat.reduceAdd, Nat.reduceSub, Nat.reduceLT, Nat.reduceEqDiff, reduceCtorEq, Nat.reduceLeDiff, Nat.reduceBEq, Nat.reduceMul, Int.reduceToNat]; rfl) (by repeat' first | exact trivial | constructor) rfl (by rfl) rfl rfl (Nat.le_of_ble_eq_true rfl) (by rfl) (by exact if_pos rfl) (by rfl) (hD) ⟨_, _, by simp (maxSteps := 100000) (disch := omega) only [List.drop_succ_cons, List.drop_zero, mres, go_sem, V.isAgg, V.flat, ↓reduceIte, Nat.reduceAdd, Nat.reduceSub, Nat.reduceLT, Nat.reduceEqDiff, reduceCtorEq, Nat.reduceLeDiff, Nat.reduceBEq, Nat.reduceMul, Int.reduceToNat]; rfl, by repeat' first | exact trivial | constructor, ?_⟩); show Holds _ _ _ _ _ _ _
    refine zs0 ?_
    exact Holds.condF rfl (Holds.skip ⟨rfl, d1, fun a w h => Rel.keep [9, 4, 6, 7] [22, 7, 4] h⟩)
 rintro σ ⟨hx, j, hσ⟩
 refine Holds.from hσ ?_
 rw [hx]
 simp only
 clear hx hσ hW
 unfold numV
 refine Holds.step (Px := px) (T := TT) (ρ := fun _ => []) TTe (by simp (maxSteps := 100000) (disch := omega) only [go_sem, V.isAgg, V.flat, ↓reduceIte, Nat.reduceAdd, Nat.reduceSub, Nat.reduceLT, Nat.reduceEqDiff, reduceCtorEq, Nat.reduceLeDiff, Nat.reduceBEq, Nat.reduceMul, Int.reduceToNat, rdV]; rfl) (by repeat' first | exact trivial | constructor) ?_
 refine Holds.from (σ' := { nt := 128, env := [(4, .ptr 4 0 [] 0), (6, .ptr 22 0 [] 0), (7, .ptr 7 0 [] 0)], mem := [(22, .box 136 (.v true (rdV s i))), (7, .box 80 (.v true (numV 0 neg ⟨#[]⟩ 0 0 0 sgl))), (4, .box 80 (.v true (numV 0 false ⟨#[]⟩ 0 0 0 false)))] }) (fun a w h => Rel.keep [4, 6, 7] [22, 7, 4] h) ?_
 unfold numV
 unfold decM
 have hD := digits_ok s i false (by omega) hi
 have hDl := dgR_le s i false hi
 obtain ⟨D, hDe⟩ : ∃ D, D = dgR s i false := ⟨_, rfl⟩
 rw [← hDe] at hD hDl ⊢
 obtain ⟨d1, d2, d3⟩ := D
 simp only at hD hDl ⊢
 by_cases h0 : d2.length = 0
 ·rw [if_pos h0]
  rw [decide_eq_false (by omega)] at hD
  refine Holds.seq (Holds.regionM (Px := px) (T := TT) (ρ := fun _ => []) (k := 1) TTe (by simp (maxSteps := 100000) (disch := omega) only [List.take_succ_cons, List.take_zero, go_sem, V.isAgg, V.flat, ↓reduceIte, Nat.reduceAdd, Nat.reduceSub, Nat.reduceLT, Nat.reduceEqDiff, reduceCtorEq, Nat.reduceLeDiff, Nat.reduceBEq, Nat.reduceMul, Int.reduceToNat]; rfl) (by repeat' first | exact trivial | constructor) rfl (by rfl) rfl rfl (Nat.le_of_ble_eq_true rfl) (by rfl) (by exact if_pos rfl) (by rfl) (hD) ⟨_, _, by simp (maxSteps := 100000) (disch := omega) only [List.drop_succ_cons, List.drop_zero, mres, go_sem, V.isAgg, V.flat, ↓reduceIte, Nat.reduceAdd, Nat.reduceSub, Nat.reduceLT, Nat.reduceEqDiff, reduceCtorEq, Nat.reduceLeDiff, Nat.reduceBEq, Nat.reduceMul, Int.reduceToNat]; rfl, by repeat' first | exact trivial | constructor, ?_⟩); show Holds _ _ _ _ _ _ _
  refine Holds.seq ?_
  refine zs0 ?_
  refine Holds.condT rfl ?_
  refine zs0 ?_
  exact Holds.ret (RetOk.vs rfl (by exact ⟨⟨rfl, id⟩, ⟨rfl, id⟩, trivial⟩) rfl)
 ·rw [if_neg h0]
  rw [decide_eq_true (by omega)] at hD
  refine Holds.seq (Holds.regionM (Px := px) (T := TT) (ρ := fun _ => []) (k := 1) TTe (by simp (maxSteps := 100000) (disch := omega) only [List.take_succ_cons, List.take_zero, go_sem, V.isAgg, V.flat, ↓reduceIte, Nat.reduceAdd, Nat.reduceSub, Nat.reduceLT, Nat.reduceEqDiff, reduceCtorEq, Nat.reduceLeDiff, Nat.reduceBEq, Nat.reduceMul, Int.reduceToNat]; rfl) (by repeat' first | exact trivial | constructor) rfl (by rfl) rfl rfl (Nat.le_of_ble_eq_true rfl) (by rfl) (by exact if_pos rfl) (by rfl) (hD) ⟨_, _, by simp (maxSteps := 100000) (disch := omega) only [List.drop_succ_cons, List.drop_zero, mres, go_sem, V.isAgg, V.flat, ↓reduceIte, Nat.reduceAdd, Nat.reduceSub, Nat.reduceLT, Nat.reduceEqDiff, reduceCtorEq, Nat.reduceLeDiff, Nat.reduceBEq, Nat.reduceMul, Int.reduceToNat]; rfl, by repeat' first | exact trivial | constructor, ?_⟩); show Holds _ _ _ _ _ _ _
  refine Holds.next (fun σ => ∀ a w, Rel cx w0 σ a w → Rel cx w0 { nt := 128, env := [(15, .v true (.str ⟨d2.toArray⟩)), (16, .v true (.int .i64 (d3 : Nat))), (4, .ptr 4 0 [] 0), (6, .ptr 22 0 [] 0), (7, .ptr 7 0 [] 0)], mem := [(22, .box 136 (.v true (rdV s d1))), (7, .box 80 (.v true (numV 0 neg ⟨#[]⟩ 0 0 0 sgl))), (4, .box 80 (.v true (numV 0 false ⟨#[]⟩ 0 0 0 false)))] } a w) ?_ ?_
  ·refine zs0 ?_
   exact Holds.condF rfl (Holds.skip fun a w h => Rel.keep [15, 16, 4, 6, 7] [22, 7, 4] h)
  intro σ hσ
  refine Holds.from hσ ?_
  unfold numV
  refine Holds.dstep (Px := px) (T := TT) (ρ := fun _ => []) [(3, 7), (4, 7), (5, 7), (3, 9), (4, 9), (5, 9)] mixed (by kernel_rfl) TTe (by simp (maxSteps := 100000) (disch := omega) only [go_sem, V.isAgg, V.flat, ↓reduceIte, Nat.reduceAdd, Nat.reduceSub, Nat.reduceLT, Nat.reduceEqDiff, reduceCtorEq, Nat.reduceLeDiff, Nat.reduceBEq, Nat.reduceMul, Int.reduceToNat, rdV]; rfl) (by repeat' first | exact trivial | constructor) (by rfl) (by rfl) (by rfl) ?_
  refine Holds.from (σ' := { nt := 128, env := [(4, .ptr 4 0 [] 0), (6, .ptr 22 0 [] 0), (7, .ptr 7 0 [] 0)], mem := [(22, .box 136 (.v true (rdV s d1))), (7, .box 80 (.v true (numV 0 neg ⟨d2.toArray⟩ (d3 : Nat) 0 (d1 : Nat) sgl))), (4, .box 80 (.v true (numV 0 false ⟨#[]⟩ 0 0 0 false)))] }) (fun a w h => Rel.keep [4, 6, 7] [22, 7, 4] h) ?_
  unfold numV
  have hX := exponent_ok s d1 101 (by omega) (by omega) (by decide)
  obtain ⟨X, hXe⟩ : ∃ X, X = expR s d1 101 := ⟨_, rfl⟩
  rw [← hXe] at hX ⊢
  obtain ⟨x1, x2, x3⟩ := X
  simp only at hX ⊢
  refine Holds.next (fun σ => ∃ n : Nm, n = (if x3 = true then ⟨0, neg, d2, d3, x2, x1, sgl⟩ else ⟨0, neg, d2, d3, 0, d1, sgl⟩) ∧ ∃ j : Nat, ∀ a w, Rel cx w0 σ a w → Rel cx w0 { nt := 128, env := [(4, .ptr 4 0 [] 0), (6, .ptr 22 0 [] 0), (7, .ptr 7 0 [] 0)], mem := [(22, .box 136 (.v true (rdV s j))), (7, .box 80 (.v true n.v)), (4, .box 80 (.v true (numV 0 false ⟨#[]⟩ 0 0 0 false)))] } a w) ?_ ?_
  ·cases x3
   ·refine Holds.seq (Holds.regionM (Px := px) (T := TT) (ρ := fun _ => []) (k := 1) TTe (by simp (maxSteps := 100000) (disch := omega) only [List.take_succ_cons, List.take_zero, go_sem, V.isAgg, V.flat, ↓reduceIte, Nat.reduceAdd, Nat.reduceSub, Nat.reduceLT, Nat.reduceEqDiff, reduceCtorEq, Nat.reduceLeDiff, Nat.reduceBEq, Nat.reduceMul, Int.reduceToNat]; rfl) (by repeat' first | exact trivial | constructor) rfl (by rfl) rfl rfl (Nat.le_of_ble_eq_true rfl) (by rfl) (by exact if_pos rfl) (by rfl) (hX) ⟨_, _, by simp (maxSteps := 100000) (disch := omega) only [List.drop_succ_cons, List.drop_zero, mres, go_sem, V.isAgg, V.flat, ↓reduceIte, Nat.reduceAdd, Nat.reduceSub, Nat.reduceLT, Nat.reduceEqDiff, reduceCtorEq, Nat.reduceLeDiff, Nat.reduceBEq, Nat.reduceMul, Int.reduceToNat]; rfl, by repeat' first | exact trivial | constructor, ?_⟩); show Holds _ _ _ _ _ _ _
    refine zs0 ?_
    exact Holds.condF rfl (Holds.skip ⟨_, rfl, x1, fun a w h => Rel.keep [4, 6, 7] [22, 7, 4] h⟩)
   ·refine Holds.seq (Holds.regionM (Px := px) (T := TT) (ρ := fun _ => []) (k := 1) TTe (by simp (maxSteps := 100000) (disch := omega) only [List.take_succ_cons, List.take_zero, go_sem, V.isAgg, V.flat, ↓reduceIte, Nat.reduceAdd, Nat.reduceSub, Nat.reduceLT, Nat.reduceEqDiff, reduceCtorEq, Nat.reduceLeDiff, Nat.reduceBEq, Nat.reduceMul, Int.reduceToNat]; rfl) (by repeat' first | exact trivial | constructor) rfl (by rfl) rfl rfl (Nat.le_of_ble_eq_true rfl) (by rfl) (by exact if_pos rfl) (by rfl) (hX) ⟨_, _, by simp (maxSteps := 100000) (disch := omega) only [List.drop_succ_cons, List.drop_zero, mres, go_sem, V.isAgg, V.flat, ↓reduceIte, Nat.reduceAdd, Nat.reduceSub, Nat.reduceLT, Nat.reduceEqDiff, reduceCtorEq, Nat.reduceLeDiff, Nat.reduceBEq, Nat.reduceMul, Int.reduceToNat]; rfl, by repeat' first | exact trivial | constructor, ?_⟩); show Holds _ _ _ _ _ _ _
    refine zs0 ?_
    refine Holds.condT rfl ?_
    refine Holds.from (σ' := { nt := 128, env := [(18, .v true (.int .i64 x2)), (4, .ptr 4 0 [] 0), (6, .ptr 22 0 [] 0), (7, .ptr 7 0 [] 0)], mem := [(22, .box 136 (.v true (rdV s x1))), (7, .box 80 (.v true (numV 0 neg ⟨d2.toArray⟩ (d3 : Nat) 0 (d1 : Nat) sgl))), (4, .box 80 (.v true (numV 0 false ⟨#[]⟩ 0 0 0 false)))] }) (fun a w h => Rel.keep [18, 4, 6, 7] [22, 7, 4] h) ?_
    unfold numV
    refine Holds.dregion (Px := px) (T := TT) (ρ := fun _ => []) [(2, 6), (3, 6), (4, 6)] mixed (by kernel_rfl) TTe (by simp (maxSteps := 100000) (disch := omega) only [go_sem, V.isAgg, V.flat, ↓reduceIte, Nat.reduceAdd, Nat.reduceSub, Nat.reduceLT, Nat.reduceEqDiff, reduceCtorEq, Nat.reduceLeDiff, Nat.reduceBEq, Nat.reduceMul, Int.reduceToNat, rdV]; rfl) (by repeat' first | exact trivial | constructor) (by rfl) (by rfl) (by rfl) ?_
    exact ⟨_, rfl, x1, fun a w h => Rel.keep [4, 6, 7] [22, 7, 4] h⟩
  rintro σ ⟨n, hn, j, hσ⟩
  refine Holds.from hσ ?_
  rw [← hn]
  unfold Nm.v numV
  refine zs0 ?_
  exact Holds.ret (RetOk.vs rfl (by exact ⟨⟨rfl, id⟩, ⟨rfl, id⟩, trivial⟩) rfl)
def lgV : Option Nm → V
 | some n => n.v
 | none => numV 0 false ⟨#[]⟩ 0 0 0 false
def rdB (s : ByteArray) : Bool := match longM s true with
 | some n => decide (n.len = s.size)
 | none => false
theorem read_ok (s : ByteArray) (hs : s.size < 1000000) : FnOk Tryz.prog 32 [.v (.str s)] [.v true (lgV (longM s true)), .v true (.bool (rdB s))] := by
 have hL := longest_ok s true hs
 unfold rdB
 obtain ⟨o, ho⟩ : ∃ o, o = longM s true := ⟨_, rfl⟩
 rw [← ho] at hL ⊢
 refine FnOk.of Tryz.func32 rfl rfl fun cx w0 => ?_
 rw [show Tryz.f32.ntmps = 20 from rfl]
 cases o with
 | none =>
   unfold longR numV at hL
   simp only
   unfold lgV numV
   refine zs0 ?_
   refine zs2 (ρ := fun _ => [.v true (.agg [.int .i64 (0 : Nat), .bool false, .str ⟨#[]⟩, .int .i64 0, .int .i64 0, .int .i64 0, .bool false]), .v true (.bool false)]) (o := by repeat' first|exact hL|trivial|constructor) (k := ?_)
   refine zd0 [(3, 9), (4, 9), (6, 9)] ?_
   exact Holds.ret (RetOk.vs rfl (by exact ⟨⟨rfl, id⟩, ⟨rfl, id⟩, trivial⟩) rfl)
 | some n =>
   obtain ⟨k, neg, d, bh, e, len, sg⟩ := n
   unfold longR Nm.v numV at hL
   simp only at hL
   simp only
   unfold lgV Nm.v numV
   simp only
   refine zs0 ?_
   refine zs2 (ρ := fun _ => [.v true (.agg [.int .i64 (k : Nat), .bool neg, .str ⟨d.toArray⟩, .int .i64 (bh : Nat), .int .i64 e, .int .i64 (len : Nat), .bool sg]), .v true (.bool true)]) (o := by repeat' first|exact hL|trivial|constructor) (k := ?_)
   by_cases h : len = s.size
   ·rw [decide_eq_true h]
    subst h
    refine zd0 [(3, 9), (4, 9), (6, 9)] ?_
    exact Holds.ret (RetOk.vs rfl (by exact ⟨⟨rfl, id⟩, ⟨rfl, id⟩, trivial⟩) rfl)
   ·rw [decide_eq_false h]
    have g : ¬ (len : Int) = s.size := by omega
    refine zd1 [(3, 9), (4, 9), (6, 9)] g ?_
    exact Holds.ret (RetOk.vs rfl (by exact ⟨⟨rfl, id⟩, ⟨rfl, id⟩, trivial⟩) rfl)
theorem lgV_form (o : Option Nm) : ∃ k neg d bh e len sg, lgV o = .agg [.int .i64 k, .bool neg, .str d, .int .i64 bh, .int .i64 e, .int .i64 len, .bool sg] := by
 cases o with
 | none => exact ⟨_, _, _, _, _, _, _, rfl⟩
 | some n => exact ⟨_, _, _, _, _, _, _, rfl⟩
theorem Rel.nilV {cx : Cx} {w0 w : World} {σ : St} {a : Act} {t z : Nat} (ht : σ.get t = .nil) (h : Rel cx w0 σ a w) : Rel cx w0 (σ.set t (.v true (.sl z []))) a w := by
 obtain ⟨hd, μ, hr⟩ := h
 refine ⟨hd, μ, hr.below, hr.hB, hr.gl, hr.size, hr.sites, hr.mem, fun t' => ?_, hr.roots, hr.fix⟩
 show RepA cx w μ σ.at (look ((t, _) :: σ.env) t') _
 rw [look]
 split
 ·next he =>
  simp only at he
  subst he
  have h1 := hr.env t
  rw [ht, repA_nil] at h1
  rw [RepA]
  exact ⟨[.slice none 0 0], by rw [Rep]; exact .inl ⟨rfl, _, _, rfl⟩, h1⟩
 ·exact hr.env t'
theorem digs_len {v m : Nat} (h : v < 18446744073709551616 ^ m) : (digs v).length ≤ m := by
 obtain ⟨o, _, hv⟩ := digs_ok v
 have e := trim_digs o
 rw [hv] at e
 rcases trimL_last (digs v) with h0 | ⟨t, z, ht, hz⟩
 ·rw [e] at h0; rw [h0]; exact Nat.zero_le _
 ·rw [e] at ht
  have oz := o z (by rw [ht]; simp)
  have hval : v = val t + 18446744073709551616 ^ t.length * (z.toNat + 18446744073709551616 * 0) := by
   have := val_append t [z]
   rw [← ht, hv] at this
   exact this
  have hz1 : 1 ≤ z.toNat := by omega
  have hge : 18446744073709551616 ^ t.length ≤ v := by
   have h1 : 18446744073709551616 ^ t.length * 1 ≤ 18446744073709551616 ^ t.length * z.toNat := Nat.mul_le_mul_left _ hz1
   rw [Nat.mul_zero, Nat.add_zero] at hval
   omega
  rw [ht, List.length_append]
  refine Nat.lt_of_not_le fun hle => ?_
  have : 18446744073709551616 ^ m ≤ 18446744073709551616 ^ t.length := Nat.pow_le_pow_right (by decide) hle
  omega
theorem Word_ok (u : Nat) (hu : u < 18446744073709551616) : FnOk Tryz.prog 72 [.v (.int .u64 u)] [.v true (words [(u : Int) % 4294967296, (u : Int) / 4294967296])] := by
 have e1 : (u : Int).tmod 4294967296 = (u : Int) % 4294967296 := Int.tmod_eq_emod_of_nonneg (by omega)
 have e2 : (u : Int).tdiv 4294967296 = (u : Int) / 4294967296 := Int.tdiv_eq_ediv_of_nonneg (by omega)
 have e3 : IntKind.u64.wrap ((u : Int) % 4294967296) = (u : Int) % 4294967296 := by rw [wrap_u64]; omega
 have e4 : IntKind.u64.wrap ((u : Int) / 4294967296) = (u : Int) / 4294967296 := by rw [wrap_u64]; omega
 refine FnOk.of Tryz.func72 rfl rfl fun cx w0 => ?_
 rw [show Tryz.f72.ntmps = 8 from rfl]
 refine zs0 ?_
 refine zs1 (an e1 <| an e2 <| an e3 <| e4) ?_
 exact Holds.ret ⟨_, [], rfl, ⟨⟨rfl, rfl, id, rfl⟩, trivial⟩, by simp [R.names, R.mems, R.blks], by simp, rfl⟩
theorem FromWord_ok (u : Nat) (hu : u < 18446744073709551616) : FnOk Tryz.prog 30 [.v (.int .u64 u)] [.v true (words (digs u))] := by
 have h1 := Word_ok u hu
 have o1 : okH [(u : Int) % 4294967296, (u : Int) / 4294967296] := by intro n hn; simp at hn; omega
 have h2 := nat_ok [(u : Int) % 4294967296, (u : Int) / 4294967296] (by simp) o1
 rw [show valH [(u : Int) % 4294967296, (u : Int) / 4294967296] = u from by simp only [valH]; omega] at h2
 refine FnOk.of Tryz.func30 rfl rfl fun cx w0 => ?_
 rw [show Tryz.f30.ntmps = 6 from rfl]
 refine zs0 ?_
 refine zs2 (ρ := fun d => if d = 4 then [.v true (words [(u : Int) % 4294967296, (u : Int) / 4294967296])] else [.v true (words (digs u))]) (o := by repeat' first|exact h1|exact h2|trivial|constructor) (k := ?_)
 exact Holds.ret (RetOk.vs rfl (by exact ⟨⟨rfl, id⟩, trivial⟩) rfl)
theorem digs_short {n i : Nat} (h : n < 16 ^ i) (hi : i ≤ 1000) : (digs n).length < 40000 := by
 have h1 : (16 : Nat) ^ i ≤ 18446744073709551616 ^ i := Nat.pow_le_pow_left (by decide) i
 have := digs_len (Nat.lt_of_lt_of_le h h1)
 omega
def seB (a b : ByteArray) : Bool := a.toList == b.toList
theorem FnOk.int3 {P : Program} {f : FuncId} {k : IntKind} {x y c a b : Int} (hr : ∀ w, (callFunc f #[.int k x, .int k y, .int k c]).run P w = .ok (.value (.tuple #[.int k a, .int k b])) w) :
 FnOk P f [.v (.int k x), .v (.int k y), .v (.int k c)] [.v true (.int k a), .v true (.int k b)] := by
 intro w O vs _ h
 have one : ∀ {n : Int} {v : Value}, ArgRep w O (.v (.int k n)) v → v = .int k n := fun h => by
  rw [ArgRep] at h
  obtain ⟨cs, h1, h2⟩ := h
  rw [Rep] at h1
  subst h1
  exact h2
 rw [ArgsRep] at h
 obtain ⟨v1, r1, rfl, h1, h⟩ := h
 rw [ArgsRep] at h
 obtain ⟨v2, r2, rfl, h2, h⟩ := h
 rw [ArgsRep] at h
 obtain ⟨v3, r3, rfl, h3, h⟩ := h
 rw [ArgsRep] at h
 subst h
 rw [one h1, one h2, one h3]
 refine .inr ⟨_, w, hr w, _, fun _ => none, rfl, Below.refl _ _, ⟨fun s b c hs => by simp at hs, fun s1 s2 b c c' h1 => by simp at h1⟩, fun s => rfl, ?_⟩
 show RepA _ w _ _ (.tup [.v true (.int k a), .v true (.int k b)]) _
 rw [RepA]
 refine ⟨[.int k a, .int k b], rfl, ?_⟩
 rw [RepAL]
 refine ⟨_, _, rfl, repA_int.2 rfl, ?_⟩
 rw [RepAL]
 exact ⟨_, _, rfl, repA_int.2 rfl, by rw [RepAL]⟩
theorem add64_ok (x y c : Int) (hx : 0 ≤ x) (hy : 0 ≤ y) (hc0 : 0 ≤ c) (hc : c ≤ 1) : FnOk Tryz.prog 91 [.v (.int .u64 x), .v (.int .u64 y), .v (.int .u64 c)] [.v true (.int .u64 ((x + y + c) % 18446744073709551616)), .v true (.int .u64 ((x + y + c) / 18446744073709551616))] :=
 FnOk.int3 fun w => by
  rw [run_callFunc_extern Tryz.func91 (by kernel_rfl) (by kernel_rfl) (by kernel_rfl) (e := add64Entry) (by kernel_rfl), run_add64 x y c hx hy hc0 hc]
  rfl
theorem sub64_ok (x y c : Int) (hx : 0 ≤ x) (hx' : x < 18446744073709551616) (hy : 0 ≤ y) (hy' : y < 18446744073709551616) (hc0 : 0 ≤ c) (hc : c ≤ 1) :
 FnOk Tryz.prog 177 [.v (.int .u64 x), .v (.int .u64 y), .v (.int .u64 c)] [.v true (.int .u64 ((x - y - c) % 18446744073709551616)), .v true (.int .u64 (if x < y + c then 1 else 0))] :=
 FnOk.int3 fun w => by
  obtain ⟨X, rfl⟩ := Int.eq_ofNat_of_zero_le hx
  obtain ⟨Y, rfl⟩ := Int.eq_ofNat_of_zero_le hy
  obtain ⟨C, rfl⟩ := Int.eq_ofNat_of_zero_le hc0
  rw [run_callFunc_extern Tryz.func177 (by kernel_rfl) (by kernel_rfl) (by kernel_rfl) (e := sub64Entry) (by kernel_rfl)]
  have := run_sub64 (P := Tryz.prog) X Y C (by omega) w
  rw [this]
  simp only [Result.andThen]
  have e1 : (((X + 18446744073709551616 - Y - C) % 18446744073709551616 : Nat) : Int) = ((X : Int) - Y - C) % 18446744073709551616 := by omega
  have e2 : ((if X < Y + C then 1 else 0 : Nat) : Int) = if (X : Int) < (Y : Int) + C then 1 else 0 := by
   split <;> split <;> omega
  rw [e1, e2]
theorem maskN (a : Nat) (ha : a < 18446744073709551616) : bitI .and .u64 (a : Int) 4294967295 = ((a % 4294967296 : Nat) : Int) := by
 have h := bits_and_u64_nat a 4294967295 ha (by omega)
 have e : a &&& 4294967295 = a % 4294967296 := Nat.and_two_pow_sub_one_eq_mod a 32
 rw [e] at h
 exact h
theorem shrN (a : Nat) : Int.fdiv (a : Int) (2 ^ min (32 : Nat) 64) = ((a / 4294967296 : Nat) : Int) := by
 show Int.fdiv (a : Int) 4294967296 = _
 rw [Int.fdiv_eq_ediv_of_nonneg _ (by omega)]
 omega
theorem mulN (a b : Nat) : (a : Int) * (b : Int) = ((a * b : Nat) : Int) := (Int.natCast_mul a b).symm
theorem addN (a b : Nat) : (a : Int) + (b : Int) = ((a + b : Nat) : Int) := (Int.natCast_add a b).symm
theorem wrapN (a : Nat) (ha : a < 18446744073709551616) : IntKind.u64.wrap (a : Int) = (a : Int) := by rw [wrap_u64]; omega
theorem wrapM (a : Nat) : IntKind.u64.wrap (a : Int) = ((a % 18446744073709551616 : Nat) : Int) := by rw [wrap_u64]; omega
theorem mul64_ok (x y : Nat) (hx : x < 18446744073709551616) (hy : y < 18446744073709551616) :
 FnOk Tryz.prog 90 [.v (.int .u64 x), .v (.int .u64 y)] [.v true (.int .u64 ((x * y / 18446744073709551616 : Nat) : Int)), .v true (.int .u64 ((x * y % 18446744073709551616 : Nat) : Int))] := by
 obtain ⟨bd, bt, bw, hhi⟩ := Lib.mul64_hi x y hx hy
 obtain ⟨x0, e1⟩ : ∃ a, a = x % 4294967296 := ⟨_, rfl⟩
 obtain ⟨x1, e2⟩ : ∃ a, a = x / 4294967296 := ⟨_, rfl⟩
 obtain ⟨y0, e3⟩ : ∃ a, a = y % 4294967296 := ⟨_, rfl⟩
 obtain ⟨y1, e4⟩ : ∃ a, a = y / 4294967296 := ⟨_, rfl⟩
 have ba := Lib.half_mul_le (a := x1) (b := y1) (by omega) (by omega)
 have bb := Lib.half_mul_le (a := x1) (b := y0) (by omega) (by omega)
 have bc := Lib.half_mul_le (a := x0) (b := y1) (by omega) (by omega)
 rw [← e1, ← e2, ← e3, ← e4] at hhi
 rw [← e1, ← e3] at bd
 rw [← e1, ← e2, ← e3] at bt
 rw [← e1, ← e2, ← e3, ← e4] at bw
 obtain ⟨w0', e5⟩ : ∃ a, a = x0 * y0 := ⟨_, rfl⟩
 obtain ⟨p, e6⟩ : ∃ a, a = x1 * y0 := ⟨_, rfl⟩
 obtain ⟨q, e7⟩ : ∃ a, a = x0 * y1 := ⟨_, rfl⟩
 obtain ⟨r, e8⟩ : ∃ a, a = x1 * y1 := ⟨_, rfl⟩
 rw [← e5] at bd
 rw [← e5, ← e6] at bt
 rw [← e5, ← e6, ← e7] at bw
 rw [← e5, ← e6, ← e7, ← e8] at hhi
 obtain ⟨v, e9⟩ : ∃ a, a = w0' / 4294967296 := ⟨_, rfl⟩
 rw [← e9] at bt bw hhi
 obtain ⟨t, e10⟩ : ∃ a, a = p + v := ⟨_, rfl⟩
 rw [← e10] at bt bw hhi
 obtain ⟨w1, e11⟩ : ∃ a, a = t % 4294967296 := ⟨_, rfl⟩
 obtain ⟨w2, e12⟩ : ∃ a, a = t / 4294967296 := ⟨_, rfl⟩
 rw [← e11] at bw hhi
 rw [← e12] at hhi
 obtain ⟨w3, e13⟩ : ∃ a, a = w1 + q := ⟨_, rfl⟩
 rw [← e13] at bw hhi
 obtain ⟨w4, e14⟩ : ∃ a, a = w3 / 4294967296 := ⟨_, rfl⟩
 rw [← e14] at hhi
 obtain ⟨u, e15⟩ : ∃ a, a = r + w2 := ⟨_, rfl⟩
 obtain ⟨h, e16⟩ : ∃ a, a = u + w4 := ⟨_, rfl⟩
 obtain ⟨lo, e17⟩ : ∃ a, a = x * y % 18446744073709551616 := ⟨_, rfl⟩
 have f1 : bitI .and .u64 (x : Int) 4294967295 = x0 := by rw [maskN x hx, e1]
 have f2 : Int.fdiv (x : Int) (2 ^ min (32 : Nat) 64) = x1 := by rw [shrN, e2]
 have f3 : bitI .and .u64 (y : Int) 4294967295 = y0 := by rw [maskN y hy, e3]
 have f4 : Int.fdiv (y : Int) (2 ^ min (32 : Nat) 64) = y1 := by rw [shrN, e4]
 have f5 : IntKind.u64.wrap ((x0 : Int) * y0) = w0' := by rw [mulN, ← e5, wrapN _ bd]
 have f6 : IntKind.u64.wrap ((x1 : Int) * y0) = p := by rw [mulN, ← e6, wrapN _ (by omega)]
 have f7 : IntKind.u64.wrap ((x0 : Int) * y1) = q := by rw [mulN, ← e7, wrapN _ (by omega)]
 have f8 : IntKind.u64.wrap ((x1 : Int) * y1) = r := by rw [mulN, ← e8, wrapN _ (by omega)]
 have f9 : Int.fdiv (w0' : Int) (2 ^ min (32 : Nat) 64) = v := by rw [shrN, e9]
 have f10 : IntKind.u64.wrap ((p : Int) + v) = t := by rw [addN, ← e10, wrapN _ bt]
 have f11 : bitI .and .u64 (t : Int) 4294967295 = w1 := by rw [maskN t bt, e11]
 have f12 : Int.fdiv (t : Int) (2 ^ min (32 : Nat) 64) = w2 := by rw [shrN, e12]
 have f13 : IntKind.u64.wrap ((w1 : Int) + q) = w3 := by rw [addN, ← e13, wrapN _ bw]
 have f14 : Int.fdiv (w3 : Int) (2 ^ min (32 : Nat) 64) = w4 := by rw [shrN, e14]
 have f15 : IntKind.u64.wrap ((r : Int) + w2) = u := by rw [addN, ← e15, wrapN _ (by omega)]
 have f16 : IntKind.u64.wrap ((u : Int) + w4) = h := by rw [addN, ← e16, wrapN _ (by omega)]
 have f17 : IntKind.u64.wrap ((x : Int) * y) = lo := by rw [mulN, wrapM, e17]
 have hh : x * y / 18446744073709551616 = h := by rw [← hhi, e16, e15]
 rw [hh, ← e17]
 refine FnOk.of Tryz.func90 rfl rfl fun cx w0 => ?_
 rw [show Tryz.f90.ntmps = 51 from rfl]
 refine zs0 ?_
 refine zs1 f1 ?_
 refine zs1 f2 ?_
 refine zs1 f3 ?_
 refine zs1 f4 ?_
 refine zs1 f5 ?_
 refine zs1 (an f6 <| an f9 <| f10) ?_
 refine zs1 f11 ?_
 refine zs1 f12 ?_
 refine zs1 (an f7 <| f13) ?_
 refine zs1 (an f8 <| an f14 <| an f15 <| f16) ?_
 refine zs1 f17 ?_
 exact Holds.ret ⟨_, [], rfl, ⟨⟨rfl, id⟩, ⟨rfl, id⟩, trivial⟩, by simp [R.names, R.mems, R.blks], by simp, rfl⟩
theorem add64N (a b c : Nat) (hc : c ≤ 1) {s t : Nat} (hs : s = (a + b + c) % 18446744073709551616) (ht : t = (a + b + c) / 18446744073709551616) : FnOk Tryz.prog 91 [.v (.int .u64 a), .v (.int .u64 b), .v (.int .u64 c)] [.v true (.int .u64 s), .v true (.int .u64 t)] := by
 have h := add64_ok a b c (by omega) (by omega) (by omega) (by omega)
 rw [show ((a : Int) + b + c) % 18446744073709551616 = (s : Int) from by omega, show ((a : Int) + b + c) / 18446744073709551616 = (t : Int) from by omega] at h
 exact h
noncomputable def lenTab : ByteArray := ((Tryz.f139.body.bind tabIn).getD ByteArray.empty)
theorem lenTab_ok : tabOk lenTab 256 8 = true := by kernel_rfl
def hv (b : Nat) (s : Nat × Nat) : Nat × Nat := if 2 ^ b ≤ s.1 then (s.1 / 2 ^ b, s.2 + b) else s
def len3 (x : Nat) : Nat × Nat := hv 8 (hv 16 (hv 32 (x, 0)))
noncomputable def len64 (x : Nat) : Nat := (len3 x).2 + bAt lenTab (len3 x).1
theorem shrB (a b : Nat) (hb : b < 64) : Int.fdiv (a : Int) (2 ^ min b 64) = ((a / 2 ^ b : Nat) : Int) := by
 have : min b 64 = b := Nat.min_eq_left (by omega)
 rw [this, Int.fdiv_eq_ediv_of_nonneg _ (Int.le_of_lt (Int.pow_pos (by omega))), Int.natCast_ediv, Int.natCast_pow]
 rfl
theorem len3_ok {x : Nat} (hx : x < 18446744073709551616) : (len3 x).1 < 256 ∧ (len3 x).2 ≤ 56 := by
 unfold len3
 have h1 : (hv 32 (x, 0)).1 < 4294967296 ∧ (hv 32 (x, 0)).2 ≤ 32 := by
  unfold hv; split <;> first | omega | (simp only; omega)
 generalize hv 32 (x, 0) = s at h1
 have h2 : (hv 16 s).1 < 65536 ∧ (hv 16 s).2 ≤ 48 := by
  unfold hv; split <;> first | omega | (simp only; omega)
 generalize hv 16 s = t at h2
 unfold hv; split <;> first | omega | (simp only; omega)
theorem len64_le {x : Nat} (hx : x < 18446744073709551616) : len64 x ≤ 64 := by
 obtain ⟨h1, h2⟩ := len3_ok hx
 have h3 := List.all_eq_true.1 lenTab_ok _ (List.mem_range.2 h1)
 unfold len64 bAt
 split
 ·next b hb => rw [hb] at h3; have : b.toNat ≤ 8 := by simpa using h3
               omega
 ·omega
theorem len64_ok (x : Nat) (hx : x < 18446744073709551616) : FnOk Tryz.prog 139 [.v (.int .u64 x)] [.v true (.int .i64 (len64 x))] := by
 refine FnOk.of Tryz.func139 rfl rfl fun cx w0 => ?_
 rw [show Tryz.f139.ntmps = 25 from rfl]
 refine zs0 ?_
 refine Holds.next (fun σ => ∀ a w, Rel cx w0 σ a w → Rel cx w0 { nt := 25, env := [(0, .v true (.int .u64 (hv 32 (x, 0)).1)), (2, .v true (.int .i64 (hv 32 (x, 0)).2))], mem := [] } a w) ?_ ?_
 ·by_cases h : 4294967296 ≤ x
  ·refine zs0 ?_
   refine Holds.condT rfl ?_
   refine zs1 ((shrB x 32 (by omega))) ?_
   refine zr0 ?_
   intro a w hr
   rw [show hv 32 (x, 0) = (x / 2 ^ 32, 0 + 32) from by rw [hv, if_pos h]]
   exact Rel.keep [0, 2] [] hr
  ·refine zs0 ?_
   refine Holds.condF rfl (Holds.skip fun a w hr => ?_)
   rw [show hv 32 (x, 0) = (x, 0) from by rw [hv, if_neg h]]
   exact Rel.keep [0, 2] [] hr
 ·have b1 : (hv 32 (x, 0)).1 < 4294967296 ∧ (hv 32 (x, 0)).2 ≤ 32 := by
   unfold hv; split <;> first | omega | (simp only; omega)
  have b2 : ∀ s : Nat × Nat, s.1 < 4294967296 → s.2 ≤ 32 → (hv 16 s).1 < 65536 ∧ (hv 16 s).2 ≤ 48 := by
   intro s h1 h2
   unfold hv; split <;> first | omega | (simp only; omega)
  have b3 := b2 _ b1.1 b1.2
  intro σ hσ
  refine Holds.from hσ ?_
  obtain ⟨s, hs⟩ : ∃ s, s = hv 32 (x, 0) := ⟨_, rfl⟩
  have hb : s.1 < 4294967296 ∧ s.2 ≤ 32 := by rw [hs]; exact b1
  rw [← hs]
  refine Holds.next (fun σ => ∀ a w, Rel cx w0 σ a w → Rel cx w0 { nt := 25, env := [(0, .v true (.int .u64 (hv 16 s).1)), (2, .v true (.int .i64 (hv 16 s).2))], mem := [] } a w) ?_ ?_
  ·by_cases h : 65536 ≤ s.1
   ·refine zs0 ?_
    refine Holds.condT rfl ?_
    refine zs1 ((shrB s.1 16 (by omega))) ?_
    refine zr0 ?_
    intro a w hr
    rw [show hv 16 s = (s.1 / 2 ^ 16, s.2 + 16) from by rw [hv, if_pos h]]
    exact Rel.keep [0, 2] [] hr
   ·refine zs0 ?_
    refine Holds.condF rfl (Holds.skip fun a w hr => ?_)
    rw [show hv 16 s = s from by rw [hv, if_neg h]]
    exact Rel.keep [0, 2] [] hr
  ·rw [hs]
   intro σ hσ
   refine Holds.from hσ ?_
   obtain ⟨s, hs⟩ : ∃ s, s = hv 16 (hv 32 (x, 0)) := ⟨_, rfl⟩
   have hb : s.1 < 65536 ∧ s.2 ≤ 48 := by rw [hs]; exact b3
   rw [← hs]
   refine Holds.next (fun σ => ∀ a w, Rel cx w0 σ a w → Rel cx w0 { nt := 25, env := [(0, .v true (.int .u64 (hv 8 s).1)), (2, .v true (.int .i64 (hv 8 s).2))], mem := [] } a w) ?_ ?_
   ·by_cases h : 256 ≤ s.1
    ·refine zs0 ?_
     refine Holds.condT rfl ?_
     refine zs1 ((shrB s.1 8 (by omega))) ?_
     refine zr0 ?_
     intro a w hr
     rw [show hv 8 s = (s.1 / 2 ^ 8, s.2 + 8) from by rw [hv, if_pos h]]
     exact Rel.keep [0, 2] [] hr
    ·refine zs0 ?_
     refine Holds.condF rfl (Holds.skip fun a w hr => ?_)
     rw [show hv 8 s = s from by rw [hv, if_neg h]]
     exact Rel.keep [0, 2] [] hr
   ·rw [hs]
    intro σ hσ
    refine Holds.from hσ ?_
    have h3 := len3_ok hx
    obtain ⟨n, hn⟩ : ∃ n, n = len3 x := ⟨_, rfl⟩
    have e : len64 x = n.2 + bAt lenTab n.1 := by rw [hn]; rfl
    rw [← hn] at h3
    rw [e]
    rw [show hv 8 (hv 16 (hv 32 (x, 0))) = n from hn.symm]
    have hw : IntKind.u8.wrap (n.1 : Int) = n.1 := by
     unfold IntKind.wrap
     simp only [IntKind.bits, IntKind.signed, Bool.false_and, Bool.false_eq_true, if_false]
     omega
    have ikd5 : ikd Tryz.prog 5 = some .u8 := by kernel_rfl
    have ikd3 : ikd Tryz.prog 3 = some .i64 := by kernel_rfl
    have und69 : (Tryz.prog.underlying 76).isSome = true := by kernel_rfl
    have und5 : (Tryz.prog.underlying 5).isSome = true := by kernel_rfl
    have hb8 := (evalOp_tab (P := Tryz.prog) (T := TT) (ρ := fun _ => []) (σ := { nt := 1, env := [(0, .v true (.int .u8 n.1))], mem := [] }) (o := { dst := some 0, op := .index 9 (.const (.string lenTab)) (.tmp 0), type := 0, pos := "", after := #[], guard := none }) (N := 256) (m := 8) (n := n.1) (by kernel_rfl) lenTab_ok rfl rfl (Nat.le_of_ble_eq_true rfl) rfl h3.1).1
    refine Holds.seq (Holds.regionS (σ2 := { nt := 25, env := [(22, .v true (.int .u8 (bAt lenTab n.1 : Nat))), (21, .v true (.int .u8 n.1)), (20, .v true (.int .u64 n.1)), (19, .v true (.int .i64 n.2)), (0, .v true (.int .u64 n.1)), (2, .v true (.int .i64 n.2))], mem := [] }) (p2 := True) (Px := px) (T := TT) (ρ := fun _ => []) (k := 3) TTe (by simp (maxSteps := 100000) (disch := omega) only [List.take_succ_cons, List.take_zero, go_sem, V.isAgg, V.flat, ↓reduceIte, Nat.reduceAdd, Nat.reduceSub, Nat.reduceLT, Nat.reduceEqDiff, reduceCtorEq, Nat.reduceLeDiff, Nat.reduceBEq, Nat.reduceMul, Int.reduceToNat, hw, ikd5, und69]; rfl) (by repeat' constructor) rfl rfl ?h2 trivial ?h3)
    case h2 => exact evalOp_tabE (tab := lenTab) (N := 256) (m := 8) (n := n.1) (by kernel_rfl) lenTab_ok (by rfl) (by rfl) (by exact Nat.le_of_ble_eq_true rfl) (by rfl) h3.1
    case h3 =>
     refine ⟨_, _, by simp (maxSteps := 100000) (disch := omega) only [List.drop_succ_cons, List.drop_zero, go_sem, V.isAgg, V.flat, ↓reduceIte, Nat.reduceAdd, Nat.reduceSub, Nat.reduceLT, Nat.reduceEqDiff, reduceCtorEq, Nat.reduceLeDiff, Nat.reduceBEq, Nat.reduceMul, Int.reduceToNat, ikd3, und5]; rfl, by repeat' constructor, ?_⟩
     show Holds _ _ _ _ _ _ _
     exact Holds.ret (RetOk.vs rfl (by exact ⟨⟨rfl, id⟩, trivial⟩) rfl)
theorem lz64_ok (x : Nat) (hx : x < 18446744073709551616) : FnOk Tryz.prog 147 [.v (.int .u64 x)] [.v true (.int .i64 (64 - (len64 x : Int)))] := by
 have h := len64_le hx
 refine FnOk.of Tryz.func147 rfl rfl fun cx w0 => ?_
 rw [show Tryz.f147.ntmps = 6 from rfl]
 refine zs0 ?_
 refine zs2 (ρ := fun _ => [.v true (.int .i64 (len64 x))]) (o := by repeat' first|exact len64_ok x hx|trivial|constructor) (k := ?_)
 exact Holds.ret (RetOk.vs rfl (by exact ⟨⟨rfl, id⟩, trivial⟩) rfl)
theorem hv_inv {x b : Nat} {s : Nat × Nat} (h : s.1 = x / 2 ^ s.2) (h0 : 0 < s.1) : (hv b s).1 = x / 2 ^ (hv b s).2 ∧ 0 < (hv b s).1 := by
 unfold hv
 split
 ·next hb =>
  refine ⟨?_, Nat.div_pos hb (Nat.pow_pos (by decide))⟩
  simp only
  rw [h, Nat.div_div_eq_div_mul, ← Nat.pow_add]
 ·exact ⟨h, h0⟩
noncomputable def lenTabOk : Bool := (List.range 256).all fun n => n == 0 || decide (2 ^ (bAt lenTab n - 1) ≤ n ∧ n < 2 ^ bAt lenTab n ∧ 0 < bAt lenTab n)
theorem lenTabOk_ok : lenTabOk = true := by kernel_rfl
theorem len64_spec {x : Nat} (hx : x < 18446744073709551616) (h0 : 0 < x) : 0 < len64 x ∧ 2 ^ (len64 x - 1) ≤ x ∧ x < 2 ^ len64 x := by
 obtain ⟨h1, h2⟩ := len3_ok hx
 obtain ⟨a1, a2⟩ := hv_inv (b := 32) (s := (x, 0)) (x := x) (by simp) h0
 obtain ⟨b1, b2⟩ := hv_inv (b := 16) a1 a2
 obtain ⟨c1, c2⟩ := hv_inv (b := 8) b1 b2
 have e : len64 x = (len3 x).2 + bAt lenTab (len3 x).1 := rfl
 rw [show hv 8 (hv 16 (hv 32 (x, 0))) = len3 x from rfl] at c1 c2
 rw [e]
 obtain ⟨n, hn⟩ : ∃ n, n = (len3 x).1 := ⟨_, rfl⟩
 obtain ⟨k, hk⟩ : ∃ k, k = (len3 x).2 := ⟨_, rfl⟩
 rw [← hn] at h1 c1 c2 ⊢
 rw [← hk] at c1 ⊢
 have h3 := List.all_eq_true.1 lenTabOk_ok _ (List.mem_range.2 h1)
 have hn0 : n ≠ 0 := by omega
 simp only [Bool.or_eq_true, beq_iff_eq, hn0, false_or, decide_eq_true_eq] at h3
 obtain ⟨h4, h5, h6⟩ := h3
 obtain ⟨b, hb⟩ : ∃ b, b = bAt lenTab n := ⟨_, rfl⟩
 rw [← hb] at h4 h5 h6 ⊢
 refine ⟨by omega, ?_, ?_⟩
 ·have : 2 ^ (b - 1) * 2 ^ k ≤ n * 2 ^ k := Nat.mul_le_mul_right _ h4
  rw [← Nat.pow_add, show b - 1 + k = k + b - 1 from by omega] at this
  have h7 : n * 2 ^ k ≤ x := by rw [c1]; exact Nat.div_mul_le_self _ _
  omega
 ·have h7 : x < 2 ^ k * (n + 1) := by rw [c1]; exact Nat.lt_mul_div_succ _ (Nat.pow_pos (by decide))
  have h8 : 2 ^ k * (n + 1) ≤ 2 ^ k * 2 ^ b := Nat.mul_le_mul_left _ h5
  rw [← Nat.pow_add] at h8
  omega
theorem norm64 {y : Nat} (hy : y < 18446744073709551616) (h0 : 0 < y) : ∃ s : Nat, s < 64 ∧ (64 - (len64 y : Int)) = (s : Int) ∧ 9223372036854775808 ≤ y * 2 ^ s ∧ y * 2 ^ s < 18446744073709551616 := by
 obtain ⟨h1, h2, h3⟩ := len64_spec hy h0
 have h4 := len64_le hy
 obtain ⟨n, hn⟩ : ∃ n, n = len64 y := ⟨_, rfl⟩
 rw [← hn] at h1 h2 h3 h4 ⊢
 refine ⟨64 - n, by omega, by omega, ?_, ?_⟩
 ·have : 2 ^ (n - 1) * 2 ^ (64 - n) ≤ y * 2 ^ (64 - n) := Nat.mul_le_mul_right _ h2
  rw [← Nat.pow_add, show n - 1 + (64 - n) = 63 from by omega] at this
  exact this
 ·have : y * 2 ^ (64 - n) < 2 ^ n * 2 ^ (64 - n) := Nat.mul_lt_mul_of_pos_right h3 (Nat.pow_pos (by decide))
  rw [← Nat.pow_add, show n + (64 - n) = 64 from by omega] at this
  exact this
theorem orN (a v s : Nat) (hv : v < 2 ^ s) (h : a * 2 ^ s + v < 18446744073709551616) : bitI .or .u64 ((a * 2 ^ s : Nat) : Int) (v : Int) = ((a * 2 ^ s + v : Nat) : Int) := by
 unfold bitI
 simp only
 have h1 : (BitVec.ofInt IntKind.u64.bits ((a * 2 ^ s : Nat) : Int) ||| BitVec.ofInt IntKind.u64.bits (v : Int)).toNat = a * 2 ^ s + v := by
  rw [BitVec.toNat_or, BitVec.toNat_ofInt, BitVec.toNat_ofInt]
  have e1 : (((a * 2 ^ s : Nat) : Int) % ((2 ^ IntKind.u64.bits : Nat) : Int)).toNat = a * 2 ^ s := by
   show (((a * 2 ^ s : Nat) : Int) % 18446744073709551616).toNat = _
   omega
  have e2 : ((v : Int) % ((2 ^ IntKind.u64.bits : Nat) : Int)).toNat = v := by
   show ((v : Int) % 18446744073709551616).toNat = _
   omega
  rw [e1, e2, Nat.mul_comm, Nat.two_pow_add_eq_or_of_lt hv]
 rw [h1]
 exact wrapN _ h
theorem shlN (a s : Nat) (hs : s < 64) : IntKind.u64.wrap ((a : Int) * 2 ^ min s 64) = ((a * 2 ^ s % 18446744073709551616 : Nat) : Int) := by
 have : min s 64 = s := Nat.min_eq_left (by omega)
 rw [this, show ((a : Int) * 2 ^ s) = ((a * 2 ^ s : Nat) : Int) from by rw [Int.natCast_mul, Int.natCast_pow]; rfl]
 exact wrapM _
theorem shrG (a s : Nat) (hs : s ≤ 64) : Int.fdiv (a : Int) (2 ^ min s 64) = ((a / 2 ^ s : Nat) : Int) := by
 have : min s 64 = s := Nat.min_eq_left (by omega)
 rw [this, Int.fdiv_eq_ediv_of_nonneg _ (Int.le_of_lt (Int.pow_pos (by omega))), Int.natCast_ediv, Int.natCast_pow]
 rfl
theorem quoN (a b : Nat) : (a : Int).tdiv (b : Int) = ((a / b : Nat) : Int) := by
 rw [Int.tdiv_eq_ediv_of_nonneg (Int.natCast_nonneg a), Int.natCast_ediv]
theorem remN (a b : Nat) : (a : Int).tmod (b : Int) = ((a % b : Nat) : Int) := by
 rw [Int.tmod_eq_emod_of_nonneg (Int.natCast_nonneg a), Int.natCast_emod]
theorem guess_iff {U u Y1 Y0 q r : Nat} (h : q * Y1 + r = U) : r * 4294967296 + u < q * Y0 ↔ U * 4294967296 + u < q * (Y1 * 4294967296 + Y0) := by
 have : q * (Y1 * 4294967296 + Y0) = q * Y1 * 4294967296 + q * Y0 := by rw [Nat.mul_add, Nat.mul_assoc]
 rw [this, ← h, Nat.add_mul]
 omega
theorem div_is {T Y q Q : Nat} (hY : 0 < Y) (hQ : Q = T / Y) (h1 : Q ≤ q) (h2 : q * Y ≤ T) : q = Q := by
 have : q ≤ T / Y := (Nat.le_div_iff_mul_le hY).2 h2
 omega
theorem guess_first {U u Y1 Y0 : Nat} (hY1 : 0 < Y1) : (U * 4294967296 + u) / (Y1 * 4294967296 + Y0) ≤ (U * 4294967296 + u) / (Y1 * 4294967296) :=
 Nat.div_le_div_left (by omega) (by omega)
end Go.Proofs.YtobacemgcjnahaaGreatDoor.L
