/-
  Na Pa Nb Pb Bld Ba Bc Bg Mc Mj Mn Ua Ub Ca Ta Ga Gd Ge Gf Gg Gj Hc Hd He Hf Ib Ic Id
-/
import Derived.Test.YtlpolbeikangpaaGreatDoorW4
import Derived.Shelf.Strings.Builder1
import Derived.Shelf.Strings.BuilderF
import Derived.Shelf.Strings.Repeat
import Derived.Shelf.Strings.Trim
import Derived.Shelf.Strconv.Itoa3
import Derived.Test.YtlpolbeikangpaaGreatDoorProg
import Derived.Test.YtlpolbeikangpaaGreatDoorW3
import Derived.WalkKit
import Derived.WalkSpells
import Derived.WalkLawsBesides
import Derived.Deep.LoopGhost
import Derived.Laws.RangeString
import Derived.Shelf.Spec.BitsCarry
import Derived.Lib.Mul64
import Derived.Laws.Bits64b
set_option linter.unusedSimpArgs false
set_option linter.unusedVariables false
set_option maxRecDepth 100000
namespace Go.Proofs.YtlpolbeikangpaaGreatDoor.L
def okW (l : List Int) : Prop := ∀ n ∈ l, 0 ≤ n ∧ n < 18446744073709551616
theorem okW_getD {l : List Int} (h : okW l) (i : Nat) : 0 ≤ l.getD i 0 ∧ l.getD i 0 < 18446744073709551616 := by
 rw [List.getD_eq_getElem?_getD]
 cases hi : l[i]? with
 | none => simp
 | some n => exact h n (List.mem_of_getElem? hi)
theorem get_map {l : List Int} {i : Nat} (h : i < l.length) : l[i]? = some (l.getD i 0) := by
 rw [List.getD_eq_getElem?_getD, List.getElem?_eq_getElem h]; rfl
def trimW (l : List Int) : Nat → Nat
 | 0 => 0
 | n + 1 => if l.getD n 0 = 0 then trimW l n else n + 1
theorem trimW_le (l : List Int) : ∀ n, trimW l n ≤ n
 | 0 => Nat.le_refl _
 | n + 1 => by
   rw [trimW]
   split
   ·exact Nat.le_succ_of_le (trimW_le l n)
   ·exact Nat.le_refl _
def trimL (l : List Int) : List Int := l.take (trimW l l.length)
theorem trimL_len (l : List Int) : (trimL l).length ≤ l.length := by
 unfold trimL
 rw [List.length_take]
 exact Nat.min_le_right _ _
def val : List Int → Nat
 | [] => 0
 | x :: r => x.toNat + 18446744073709551616 * val r
def digsF : Nat → Nat → List Int
 | 0, _ => []
 | f + 1, n => if n = 0 then [] else ((n % 18446744073709551616 : Nat) : Int) :: digsF f (n / 18446744073709551616)
def digs (n : Nat) : List Int := digsF (n.log2 / 64 + 1) n
def noZ : List Int → Prop
 | [] => True
 | [x] => x ≠ 0
 | _ :: y :: r => noZ (y :: r)
theorem okW_cons {x : Int} {r : List Int} (h : okW (x :: r)) : (0 ≤ x ∧ x < 18446744073709551616) ∧ okW r := ⟨h x (by simp), fun n hn => h n (by simp [hn])⟩
theorem noZ_cons {x : Int} {r : List Int} (h : noZ (x :: r)) : noZ r := by
 cases r with
 | nil => trivial
 | cons y q => exact h
theorem val_pos : ∀ {l : List Int}, okW l → noZ l → l ≠ [] → 0 < val l
 | [], _, _, h => absurd rfl h
 | [x], ok, h, _ => by
   have h1 := (okW_cons ok).1
   have h2 : x ≠ 0 := h
   rw [val, val]
   omega
 | x :: y :: r, ok, h, _ => by
   have := val_pos (okW_cons ok).2 h (by simp)
   rw [val]
   omega
theorem val_inj : ∀ {l m : List Int}, okW l → okW m → noZ l → noZ m → val l = val m → l = m
 | [], [], _, _, _, _, _ => rfl
 | [], y :: q, _, om, _, zm, h => by have := val_pos om zm (by simp); rw [← h] at this; simp [val] at this
 | x :: r, [], ol, _, zl, _, h => by have := val_pos ol zl (by simp); rw [h] at this; simp [val] at this
 | x :: r, y :: q, ol, om, zl, zm, h => by
   have h1 := okW_cons ol
   have h2 := okW_cons om
   rw [val, val] at h
   have e1 : x = y := by omega
   have e2 : val r = val q := by omega
   rw [e1, val_inj h1.2 h2.2 (noZ_cons zl) (noZ_cons zm) e2]
theorem digsF_ok : ∀ (f n : Nat), n < 18446744073709551616 ^ f → okW (digsF f n) ∧ noZ (digsF f n) ∧ val (digsF f n) = n
 | 0, n, h => by
   rw [digsF]
   refine ⟨(fun n hn => by cases hn), trivial, ?_⟩
   rw [val]
   simp at h
   omega
 | f + 1, n, h => by
   rw [digsF]
   split
   ·next h0 => exact ⟨(fun n hn => by cases hn), trivial, by rw [val, h0]⟩
   ·next h0 =>
    obtain ⟨h1, h2, h3⟩ := digsF_ok f (n / 18446744073709551616) (by rw [Nat.pow_succ] at h; exact (Nat.div_lt_iff_lt_mul (by decide)).2 h)
    refine ⟨fun m hm => ?_, ?_, by rw [val, h3]; omega⟩
    ·rcases List.mem_cons.1 hm with rfl | hm
     ·omega
     ·exact h1 m hm
    ·cases hd : digsF f (n / 18446744073709551616) with
     | nil =>
       rw [hd] at h3
       rw [val] at h3
       show ((n % 18446744073709551616 : Nat) : Int) ≠ 0
       omega
     | cons y q => rw [hd] at h2; exact h2
theorem digs_ok (n : Nat) : okW (digs n) ∧ noZ (digs n) ∧ val (digs n) = n := by
 refine digsF_ok _ n ?_
 have h1 : n < 2 ^ (n.log2 + 1) := Nat.lt_log2_self
 refine Nat.lt_of_lt_of_le h1 ?_
 rw [show (18446744073709551616 : Nat) = 2 ^ 64 from rfl, ← Nat.pow_mul]
 exact Nat.pow_le_pow_right (by decide) (by omega)
theorem digs_of {l : List Int} (ol : okW l) (zl : noZ l) : l = digs (val l) := by
 obtain ⟨h1, h2, h3⟩ := digs_ok (val l)
 exact val_inj ol h1 zl h2 h3.symm
theorem val_append : ∀ (l m : List Int), val (l ++ m) = val l + 18446744073709551616 ^ l.length * val m
 | [], m => by simp [val]
 | x :: r, m => by
   rw [List.cons_append, val, val, val_append r m, List.length_cons, Nat.pow_succ]
   rw [Nat.mul_add, Nat.mul_comm _ (18446744073709551616 : Nat), ← Nat.mul_assoc]
   omega
end Go.Proofs.YtlpolbeikangpaaGreatDoor.L
namespace Go.Proofs.YtlpolbeikangpaaGreatDoor.L
open Go Go.RowKit Go.Proofs
attribute [local go_sem] evalOps_nil evalOps_cons runW_t runW_f runE_s runP_s wantA evalOp effOp letters okDst coreA St.opv St.get St.at look constA St.put St.upd St.set decide_true List.all_nil List.all_cons Bool.and_true Bool.true_and and_self and_true true_and if_true if_false true_or Int.sub_zero List.nil_append List.cons_append List.append_nil Option.isSome_some List.getElem?_toArray List.getElem?_cons_succ List.getElem?_cons_zero Option.bind_some Option.map_some Option.map_none beq_self_eq_true Bool.false_beq Bool.true_beq Bool.not_true Bool.not_false Bool.false_eq_true cond_true cond_false binA binI List.map_cons List.map_nil boundA List.length_nil List.length_cons Nat.zero_mul Nat.one_mul Nat.mul_one Nat.zero_add Nat.add_zero Nat.zero_le Option.toList St.freshB AV.ment AV.ments Blk.ment V.sizes Nat.lt_add_one Bool.or_true Bool.true_or Bool.or_false Bool.false_or Bool.or_self if_pos if_neg decide_false decide_eq_true decide_eq_false wrap_i64 Int.toNat_natCast minA maxA Int.natCast_add Int.cast_ofNat_Int Option.isSome_none false_implies true_implies forall_const List.drop_zero Int.toNat_zero Int.add_sub_cancel lenA sliceA loadA indexAddrA partA fitsT V.atP V.offP V.size List.length_map List.getElem?_map Int.toNat_natCast_add_one Int.ofNat_eq_natCast TY calleeA capArg knotA capArgs toArgs toArg callA R.res R.mems R.blks R.av R.names R.nw invokeA storeA storeV fieldAddrA liveB V.off V.offs V.setP List.set_cons_zero List.set_cons_succ buildA buildP partsA appendA srcA copyA boxOk makeA AV.pure List.take_succ_cons List.take_zero nilA words unA entry List.zipIdx_cons List.zipIdx_nil Arg.av Arg.avs
theorem take_succ {x : List Int} {k : Nat} (h : k < x.length) : x.take (k + 1) = x.take k ++ [x.getD k 0] := by
 rw [List.take_add_one, List.getElem?_eq_getElem h, List.getD_eq_getElem?_getD, List.getElem?_eq_getElem h]; rfl
end Go.Proofs.YtlpolbeikangpaaGreatDoor.L
namespace Go.Proofs.YtlpolbeikangpaaGreatDoor.L
theorem okW_take {l : List Int} (h : okW l) (n : Nat) : okW (l.take n) := fun m hm => h m (List.mem_of_mem_take hm)
theorem val_lt : ∀ {l : List Int}, okW l → val l < 18446744073709551616 ^ l.length
 | [], _ => by simp [val]
 | x :: r, ok => by
   have h1 := okW_cons ok
   have h2 := val_lt h1.2
   rw [val, List.length_cons, Nat.pow_succ]
   omega
theorem trimL_ok {l : List Int} (ol : okW l) : okW (trimL l) := fun n hn => ol n (List.mem_of_mem_take hn)
end Go.Proofs.YtlpolbeikangpaaGreatDoor.L
namespace Go.Proofs.YtlpolbeikangpaaGreatDoor.L
open Go Go.RowKit Go.Proofs
def valH : List Int → Nat
 | [] => 0
 | x :: r => x.toNat + 4294967296 * valH r
theorem valH_zeros : ∀ (l : List Int) (n : Nat), valH (l ++ List.replicate n 0) = valH l
 | [], n => by
   rw [List.nil_append]
   induction n with
   | zero => rfl
   | succ n ih =>
     rw [List.replicate_succ]
     show (0 : Int).toNat + 4294967296 * valH (List.replicate n 0) = 0
     rw [ih]; rfl
 | x :: r, n => by rw [List.cons_append, valH, valH, valH_zeros r n]
theorem val_zeros : ∀ (l : List Int) (n : Nat), val (l ++ List.replicate n 0) = val l
 | [], n => by
   rw [List.nil_append]
   induction n with
   | zero => rfl
   | succ n ih =>
     rw [List.replicate_succ]
     show (0 : Int).toNat + 18446744073709551616 * val (List.replicate n 0) = 0
     rw [ih]; rfl
 | x :: r, n => by rw [List.cons_append, val, val, val_zeros r n]
theorem trim_split (l : List Int) : ∀ k, k ≤ l.length → l.take k = l.take (trimW l k) ++ List.replicate (k - trimW l k) 0
 | 0, _ => by simp [trimW]
 | k + 1, h => by
   have hk : k < l.length := h
   rw [trimW]
   split
   ·next h0 =>
    have h1 := trim_split l k (by omega)
    have h2 := trimW_le l k
    rw [List.getD_eq_getElem?_getD, List.getElem?_eq_getElem hk] at h0
    have h0' : l[k] = 0 := h0
    rw [List.take_add_one, List.getElem?_eq_getElem hk, h1, h0', show k + 1 - trimW l k = (k - trimW l k) + 1 from by omega, List.replicate_succ', List.append_assoc]
    rfl
   ·simp
theorem trimL_split (l : List Int) : ∃ n, l = trimL l ++ List.replicate n 0 := ⟨l.length - trimW l l.length, by
 have := trim_split l l.length (Nat.le_refl _)
 rw [List.take_length] at this
 exact this⟩
theorem val_trim (l : List Int) : val (trimL l) = val l := by
 obtain ⟨n, h⟩ := trimL_split l
 have := val_zeros (trimL l) n
 rw [← h] at this
 exact this.symm
theorem trimW_last (l : List Int) : ∀ (k m : Nat), trimW l k = m + 1 → l.getD m 0 ≠ 0 ∧ m < k
 | 0, m, h => by rw [trimW] at h; omega
 | k + 1, m, h => by
   rw [trimW] at h
   split at h
   ·obtain ⟨h1, h2⟩ := trimW_last l k m h
    exact ⟨h1, by omega⟩
   ·next h0 =>
    have : m = k := by omega
    subst this
    exact ⟨h0, by omega⟩
theorem trimL_last (l : List Int) : trimL l = [] ∨ ∃ t z, trimL l = t ++ [z] ∧ z ≠ 0 := by
 cases hm : trimW l l.length with
 | zero => left; rw [trimL, hm]; rfl
 | succ m =>
   obtain ⟨h1, h2⟩ := trimW_last l l.length m hm
   right
   refine ⟨l.take m, l.getD m 0, ?_, h1⟩
   rw [trimL, hm, List.take_add_one, List.getElem?_eq_getElem h2, List.getD_eq_getElem?_getD, List.getElem?_eq_getElem h2]
   rfl
theorem noZ_end : ∀ (L : List Int) (z : Int), z ≠ 0 → noZ (L ++ [z])
 | [], z, h => h
 | [x], z, h => h
 | x :: y :: r, z, h => noZ_end (y :: r) z h
theorem noZ_trim (l : List Int) : noZ (trimL l) := by
 rcases trimL_last l with h | ⟨t, z, h, hz⟩
 ·rw [h]; trivial
 ·rw [h]; exact noZ_end t z hz
theorem trim_digs {l : List Int} (ol : okW l) : trimL l = digs (val l) := by
 have := digs_of (trimL_ok ol) (noZ_trim l)
 rw [val_trim] at this
 exact this
end Go.Proofs.YtlpolbeikangpaaGreatDoor.L
namespace Go.Proofs
open Go.Shelf
def Tryz.lays170_ren : Go.Shelf.Ren := ⟨fun | 170 => 62 | n => n, fun | 0 => 0 | 3 => 3 | 5 => 5 | 37 => 102 | 70 => 101 | 72 => 104 | n => n, fun | n => n⟩
theorem Tryz.lays170 : Go.Proofs.Lays.n170 Tryz.prog Tryz.lays170_ren := {
 mixed := by kernel_rfl
 f170 := Tryz.func62.trans (congrArg some (by kernel_rfl))
 t0 := Tryz.underlying0
 a0 := Tryz.isAgg0
 z0 := Tryz.sizeOf0
 v0 := Tryz.zeroValue0
 t3 := Tryz.underlying3
 a3 := Tryz.isAgg3
 z3 := Tryz.sizeOf3
 v3 := Tryz.zeroValue3
 t37 := Tryz.underlying102
 a37 := Tryz.isAgg102
 z37 := Tryz.sizeOf102
 v37 := Tryz.zeroValue102
 t70 := Tryz.underlying101
 a70 := Tryz.isAgg101
 z70 := Tryz.sizeOf101
 v70 := Tryz.zeroValue101
 t72 := Tryz.underlying104
 a72 := Tryz.isAgg104
 z72 := Tryz.sizeOf104
 v72 := Tryz.zeroValue104 }
def Tryz.lays167_ren : Go.Shelf.Ren := ⟨fun | 167 => 61 | 240 => 141 | 276 => 216 | n => n, fun | 0 => 0 | 4 => 4 | 5 => 5 | 9 => 9 | 20 => 20 | 37 => 102 | 70 => 101 | 72 => 104 | 75 => 107 | 80 => 110 | 164 => 237 | n => n, fun | n => n⟩
theorem Tryz.lays167 : Go.Proofs.Lays.n167 Tryz.prog Tryz.lays167_ren := {
 mixed := by kernel_rfl
 f167 := Tryz.func61.trans (congrArg some (by kernel_rfl))
 f240 := Tryz.func141.trans (congrArg some (by kernel_rfl))
 f276 := Tryz.func216.trans (congrArg some (by kernel_rfl))
 t0 := Tryz.underlying0
 a0 := Tryz.isAgg0
 z0 := Tryz.sizeOf0
 v0 := Tryz.zeroValue0
 t4 := Tryz.underlying4
 a4 := Tryz.isAgg4
 z4 := Tryz.sizeOf4
 v4 := Tryz.zeroValue4
 t5 := Tryz.underlying5
 a5 := Tryz.isAgg5
 z5 := Tryz.sizeOf5
 v5 := Tryz.zeroValue5
 t9 := Tryz.underlying9
 a9 := Tryz.isAgg9
 z9 := Tryz.sizeOf9
 v9 := Tryz.zeroValue9
 t20 := Tryz.underlying20
 a20 := Tryz.isAgg20
 z20 := Tryz.sizeOf20
 v20 := Tryz.zeroValue20
 t37 := Tryz.underlying102
 a37 := Tryz.isAgg102
 z37 := Tryz.sizeOf102
 v37 := Tryz.zeroValue102
 t70 := Tryz.underlying101
 a70 := Tryz.isAgg101
 z70 := Tryz.sizeOf101
 v70 := Tryz.zeroValue101
 t72 := Tryz.underlying104
 a72 := Tryz.isAgg104
 z72 := Tryz.sizeOf104
 v72 := Tryz.zeroValue104
 t75 := Tryz.underlying107
 a75 := Tryz.isAgg107
 z75 := Tryz.sizeOf107
 v75 := Tryz.zeroValue107
 t164 := Tryz.underlying237
 a164 := Tryz.isAgg237
 z164 := Tryz.sizeOf237
 v164 := Tryz.zeroValue237 }
theorem Tryz.Builder_Extra_167 : Builder.Extra Tryz.prog Tryz.lays167_ren := {
 sizeBuilder := by kernel_rfl
 liesBuilder := by kernel_rfl
 t5 := Tryz.underlying5
 a5 := Tryz.isAgg5
 z5 := Tryz.sizeOf5
 v5 := Tryz.zeroValue5
 infoByte := by kernel_rfl
 cellsByte := by kernel_rfl
 sizeByte := by kernel_rfl
 neB5 := by decide }
def Tryz.lays169_ren : Go.Shelf.Ren := ⟨fun | 169 => 63 | n => n, fun | 0 => 0 | 3 => 3 | 5 => 5 | 9 => 9 | 37 => 102 | 70 => 101 | 72 => 104 | 127 => 183 | n => n, fun | n => n⟩
theorem Tryz.lays169 : Go.Proofs.Lays.n169 Tryz.prog Tryz.lays169_ren := {
 mixed := by kernel_rfl
 f169 := Tryz.func63.trans (congrArg some (by kernel_rfl))
 t0 := Tryz.underlying0
 a0 := Tryz.isAgg0
 z0 := Tryz.sizeOf0
 v0 := Tryz.zeroValue0
 t3 := Tryz.underlying3
 a3 := Tryz.isAgg3
 z3 := Tryz.sizeOf3
 v3 := Tryz.zeroValue3
 t9 := Tryz.underlying9
 a9 := Tryz.isAgg9
 z9 := Tryz.sizeOf9
 v9 := Tryz.zeroValue9
 t37 := Tryz.underlying102
 a37 := Tryz.isAgg102
 z37 := Tryz.sizeOf102
 v37 := Tryz.zeroValue102
 t70 := Tryz.underlying101
 a70 := Tryz.isAgg101
 z70 := Tryz.sizeOf101
 v70 := Tryz.zeroValue101
 t72 := Tryz.underlying104
 a72 := Tryz.isAgg104
 z72 := Tryz.sizeOf104
 v72 := Tryz.zeroValue104
 t127 := Tryz.underlying183
 a127 := Tryz.isAgg183
 z127 := Tryz.sizeOf183
 v127 := Tryz.zeroValue183 }
theorem Tryz.Builder_Extra_169 : Builder.Extra Tryz.prog Tryz.lays169_ren := {
 sizeBuilder := by kernel_rfl
 liesBuilder := by kernel_rfl
 t5 := Tryz.underlying5
 a5 := Tryz.isAgg5
 z5 := Tryz.sizeOf5
 v5 := Tryz.zeroValue5
 infoByte := by kernel_rfl
 cellsByte := by kernel_rfl
 sizeByte := by kernel_rfl
 neB5 := by decide }
def Tryz.lays105_ren : Go.Shelf.Ren := ⟨fun | 99 => 163 | 105 => 82 | 165 => 164 | 166 => 165 | 169 => 63 | 170 => 62 | 206 => 225 | 212 => 162 | 240 => 141 | 241 => 226 | 263 => 224 | 264 => 138 | 276 => 216 | 277 => 261 | n => n, fun | 0 => 0 | 3 => 3 | 4 => 4 | 5 => 5 | 9 => 9 | 20 => 20 | 37 => 102 | 46 => 181 | 51 => 245 | 53 => 91 | 70 => 101 | 72 => 104 | 75 => 107 | 76 => 176 | 80 => 110 | 109 => 197 | 127 => 183 | 146 => 246 | 148 => 178 | 164 => 237 | n => n, fun | n => n⟩
theorem Tryz.lays105 : Go.Proofs.Lays.n105 Tryz.prog Tryz.lays105_ren := {
 mixed := by kernel_rfl
 f99 := Tryz.func163.trans (congrArg some (by kernel_rfl))
 f105 := Tryz.func82.trans (congrArg some (by kernel_rfl))
 f165 := Tryz.func164.trans (congrArg some (by kernel_rfl))
 f166 := Tryz.func165.trans (congrArg some (by kernel_rfl))
 f169 := Tryz.func63.trans (congrArg some (by kernel_rfl))
 f170 := Tryz.func62.trans (congrArg some (by kernel_rfl))
 f206 := Tryz.func225.trans (congrArg some (by kernel_rfl))
 f212 := Tryz.func162.trans (congrArg some (by kernel_rfl))
 f240 := Tryz.func141.trans (congrArg some (by kernel_rfl))
 f241 := Tryz.func226.trans (congrArg some (by kernel_rfl))
 f263 := Tryz.func224.trans (congrArg some (by kernel_rfl))
 f264 := Tryz.func138.trans (congrArg some (by kernel_rfl))
 f276 := Tryz.func216.trans (congrArg some (by kernel_rfl))
 f277 := Tryz.func261.trans (congrArg some (by kernel_rfl))
 t0 := Tryz.underlying0
 a0 := Tryz.isAgg0
 z0 := Tryz.sizeOf0
 v0 := Tryz.zeroValue0
 t3 := Tryz.underlying3
 a3 := Tryz.isAgg3
 z3 := Tryz.sizeOf3
 v3 := Tryz.zeroValue3
 t4 := Tryz.underlying4
 a4 := Tryz.isAgg4
 z4 := Tryz.sizeOf4
 v4 := Tryz.zeroValue4
 t5 := Tryz.underlying5
 a5 := Tryz.isAgg5
 z5 := Tryz.sizeOf5
 v5 := Tryz.zeroValue5
 t9 := Tryz.underlying9
 a9 := Tryz.isAgg9
 z9 := Tryz.sizeOf9
 v9 := Tryz.zeroValue9
 t20 := Tryz.underlying20
 a20 := Tryz.isAgg20
 z20 := Tryz.sizeOf20
 v20 := Tryz.zeroValue20
 t37 := Tryz.underlying102
 a37 := Tryz.isAgg102
 z37 := Tryz.sizeOf102
 v37 := Tryz.zeroValue102
 t46 := Tryz.underlying181
 a46 := Tryz.isAgg181
 z46 := Tryz.sizeOf181
 v46 := Tryz.zeroValue181
 t51 := Tryz.underlying245
 a51 := Tryz.isAgg245
 z51 := Tryz.sizeOf245
 v51 := Tryz.zeroValue245
 t53 := Tryz.underlying91
 a53 := Tryz.isAgg91
 z53 := Tryz.sizeOf91
 v53 := Tryz.zeroValue91
 t70 := Tryz.underlying101
 a70 := Tryz.isAgg101
 z70 := Tryz.sizeOf101
 v70 := Tryz.zeroValue101
 t72 := Tryz.underlying104
 a72 := Tryz.isAgg104
 z72 := Tryz.sizeOf104
 v72 := Tryz.zeroValue104
 t75 := Tryz.underlying107
 a75 := Tryz.isAgg107
 z75 := Tryz.sizeOf107
 v75 := Tryz.zeroValue107
 t76 := Tryz.underlying176
 a76 := Tryz.isAgg176
 z76 := Tryz.sizeOf176
 v76 := Tryz.zeroValue176
 t109 := Tryz.underlying197
 a109 := Tryz.isAgg197
 z109 := Tryz.sizeOf197
 v109 := Tryz.zeroValue197
 t127 := Tryz.underlying183
 a127 := Tryz.isAgg183
 z127 := Tryz.sizeOf183
 v127 := Tryz.zeroValue183
 t146 := Tryz.underlying246
 a146 := Tryz.isAgg246
 z146 := Tryz.sizeOf246
 v146 := Tryz.zeroValue246
 t148 := Tryz.underlying178
 a148 := Tryz.isAgg178
 z148 := Tryz.sizeOf178
 v148 := Tryz.zeroValue178
 t164 := Tryz.underlying237
 a164 := Tryz.isAgg237
 z164 := Tryz.sizeOf237
 v164 := Tryz.zeroValue237 }
theorem Tryz.Builder_Extra_105 : Builder.Extra Tryz.prog Tryz.lays105_ren := {
 sizeBuilder := by kernel_rfl
 liesBuilder := by kernel_rfl
 t5 := Tryz.underlying5
 a5 := Tryz.isAgg5
 z5 := Tryz.sizeOf5
 v5 := Tryz.zeroValue5
 infoByte := by kernel_rfl
 cellsByte := by kernel_rfl
 sizeByte := by kernel_rfl
 neB5 := by decide }
def Tryz.lays161_ren : Go.Shelf.Ren := ⟨fun | 119 => 280 | 137 => 279 | 151 => 255 | 152 => 272 | 161 => 136 | 197 => 256 | 217 => 289 | 224 => 281 | 225 => 282 | 227 => 209 | 228 => 253 | 231 => 213 | 233 => 214 | 235 => 215 | 260 => 273 | 266 => 291 | n => n, fun | 0 => 0 | 3 => 3 | 4 => 4 | 5 => 5 | 9 => 9 | 21 => 21 | 37 => 102 | 46 => 181 | 70 => 101 | 72 => 104 | 105 => 268 | 116 => 232 | 117 => 233 | 119 => 291 | 124 => 236 | 138 => 293 | 139 => 294 | n => n, fun | 3 => 5 | 4 => 6 | n => n⟩
theorem Tryz.lays161 : Go.Proofs.Lays.n161 Tryz.prog Tryz.lays161_ren := {
 mixed := by kernel_rfl
 f119 := Tryz.func280.trans (congrArg some (by kernel_rfl))
 f137 := Tryz.func279.trans (congrArg some (by kernel_rfl))
 f151 := Tryz.func255.trans (congrArg some (by kernel_rfl))
 f152 := Tryz.func272.trans (congrArg some (by kernel_rfl))
 f161 := Tryz.func136.trans (congrArg some (by kernel_rfl))
 f197 := Tryz.func256.trans (congrArg some (by kernel_rfl))
 f217 := Tryz.func289.trans (congrArg some (by kernel_rfl))
 f224 := Tryz.func281.trans (congrArg some (by kernel_rfl))
 f225 := Tryz.func282.trans (congrArg some (by kernel_rfl))
 f227 := Tryz.func209.trans (congrArg some (by kernel_rfl))
 f228 := Tryz.func253.trans (congrArg some (by kernel_rfl))
 f231 := Tryz.func213.trans (congrArg some (by kernel_rfl))
 f233 := Tryz.func214.trans (congrArg some (by kernel_rfl))
 f235 := Tryz.func215.trans (congrArg some (by kernel_rfl))
 f260 := Tryz.func273.trans (congrArg some (by kernel_rfl))
 f266 := Tryz.func291.trans (congrArg some (by kernel_rfl))
 t0 := Tryz.underlying0
 a0 := Tryz.isAgg0
 z0 := Tryz.sizeOf0
 v0 := Tryz.zeroValue0
 t3 := Tryz.underlying3
 a3 := Tryz.isAgg3
 z3 := Tryz.sizeOf3
 v3 := Tryz.zeroValue3
 t4 := Tryz.underlying4
 a4 := Tryz.isAgg4
 z4 := Tryz.sizeOf4
 v4 := Tryz.zeroValue4
 t5 := Tryz.underlying5
 a5 := Tryz.isAgg5
 z5 := Tryz.sizeOf5
 v5 := Tryz.zeroValue5
 t9 := Tryz.underlying9
 a9 := Tryz.isAgg9
 z9 := Tryz.sizeOf9
 v9 := Tryz.zeroValue9
 t21 := Tryz.underlying21
 a21 := Tryz.isAgg21
 z21 := Tryz.sizeOf21
 v21 := Tryz.zeroValue21
 t46 := Tryz.underlying181
 a46 := Tryz.isAgg181
 z46 := Tryz.sizeOf181
 v46 := Tryz.zeroValue181
 t105 := Tryz.underlying268
 a105 := Tryz.isAgg268
 z105 := Tryz.sizeOf268
 v105 := Tryz.zeroValue268
 t116 := Tryz.underlying232
 a116 := Tryz.isAgg232
 z116 := Tryz.sizeOf232
 t117 := Tryz.underlying233
 a117 := Tryz.isAgg233
 z117 := Tryz.sizeOf233
 v117 := Tryz.zeroValue233
 t119 := Tryz.underlying291
 a119 := Tryz.isAgg291
 z119 := Tryz.sizeOf291
 t124 := Tryz.underlying236
 a124 := Tryz.isAgg236
 z124 := Tryz.sizeOf236
 v124 := Tryz.zeroValue236
 t138 := Tryz.underlying293
 a138 := Tryz.isAgg293
 z138 := Tryz.sizeOf293
 v138 := Tryz.zeroValue293
 t139 := Tryz.underlying294
 a139 := Tryz.isAgg294
 z139 := Tryz.sizeOf294
 v139 := Tryz.zeroValue294
 g3 := by kernel_rfl
 g4 := by kernel_rfl }
def Tryz.lays162_ren : Go.Shelf.Ren := ⟨fun | 119 => 280 | 120 => 271 | 137 => 279 | 151 => 255 | 152 => 272 | 162 => 132 | 197 => 256 | 217 => 289 | 224 => 281 | 225 => 282 | 227 => 209 | 228 => 253 | 232 => 208 | 234 => 210 | 236 => 211 | 260 => 273 | 266 => 291 | 271 => 254 | n => n, fun | 0 => 0 | 3 => 3 | 4 => 4 | 5 => 5 | 9 => 9 | 21 => 21 | 37 => 102 | 46 => 181 | 70 => 101 | 72 => 104 | 105 => 268 | 116 => 232 | 117 => 233 | 119 => 291 | 124 => 236 | 138 => 293 | 139 => 294 | n => n, fun | 3 => 5 | 4 => 6 | n => n⟩
theorem Tryz.lays162 : Go.Proofs.Lays.n162 Tryz.prog Tryz.lays162_ren := {
 mixed := by kernel_rfl
 f119 := Tryz.func280.trans (congrArg some (by kernel_rfl))
 f120 := Tryz.func271.trans (congrArg some (by kernel_rfl))
 f137 := Tryz.func279.trans (congrArg some (by kernel_rfl))
 f151 := Tryz.func255.trans (congrArg some (by kernel_rfl))
 f152 := Tryz.func272.trans (congrArg some (by kernel_rfl))
 f162 := Tryz.func132.trans (congrArg some (by kernel_rfl))
 f197 := Tryz.func256.trans (congrArg some (by kernel_rfl))
 f217 := Tryz.func289.trans (congrArg some (by kernel_rfl))
 f224 := Tryz.func281.trans (congrArg some (by kernel_rfl))
 f225 := Tryz.func282.trans (congrArg some (by kernel_rfl))
 f227 := Tryz.func209.trans (congrArg some (by kernel_rfl))
 f228 := Tryz.func253.trans (congrArg some (by kernel_rfl))
 f232 := Tryz.func208.trans (congrArg some (by kernel_rfl))
 f234 := Tryz.func210.trans (congrArg some (by kernel_rfl))
 f236 := Tryz.func211.trans (congrArg some (by kernel_rfl))
 f260 := Tryz.func273.trans (congrArg some (by kernel_rfl))
 f266 := Tryz.func291.trans (congrArg some (by kernel_rfl))
 f271 := Tryz.func254.trans (congrArg some (by kernel_rfl))
 t0 := Tryz.underlying0
 a0 := Tryz.isAgg0
 z0 := Tryz.sizeOf0
 v0 := Tryz.zeroValue0
 t3 := Tryz.underlying3
 a3 := Tryz.isAgg3
 z3 := Tryz.sizeOf3
 v3 := Tryz.zeroValue3
 t4 := Tryz.underlying4
 a4 := Tryz.isAgg4
 z4 := Tryz.sizeOf4
 v4 := Tryz.zeroValue4
 t5 := Tryz.underlying5
 a5 := Tryz.isAgg5
 z5 := Tryz.sizeOf5
 v5 := Tryz.zeroValue5
 t9 := Tryz.underlying9
 a9 := Tryz.isAgg9
 z9 := Tryz.sizeOf9
 v9 := Tryz.zeroValue9
 t21 := Tryz.underlying21
 a21 := Tryz.isAgg21
 z21 := Tryz.sizeOf21
 v21 := Tryz.zeroValue21
 t46 := Tryz.underlying181
 a46 := Tryz.isAgg181
 z46 := Tryz.sizeOf181
 v46 := Tryz.zeroValue181
 t105 := Tryz.underlying268
 a105 := Tryz.isAgg268
 z105 := Tryz.sizeOf268
 v105 := Tryz.zeroValue268
 t116 := Tryz.underlying232
 a116 := Tryz.isAgg232
 z116 := Tryz.sizeOf232
 t117 := Tryz.underlying233
 a117 := Tryz.isAgg233
 z117 := Tryz.sizeOf233
 v117 := Tryz.zeroValue233
 t119 := Tryz.underlying291
 a119 := Tryz.isAgg291
 z119 := Tryz.sizeOf291
 t124 := Tryz.underlying236
 a124 := Tryz.isAgg236
 z124 := Tryz.sizeOf236
 v124 := Tryz.zeroValue236
 t138 := Tryz.underlying293
 a138 := Tryz.isAgg293
 z138 := Tryz.sizeOf293
 v138 := Tryz.zeroValue293
 t139 := Tryz.underlying294
 a139 := Tryz.isAgg294
 z139 := Tryz.sizeOf294
 v139 := Tryz.zeroValue294
 g3 := by kernel_rfl
 g4 := by kernel_rfl }
def Tryz.laysM171_ren : Go.Shelf.Ren := ⟨fun | 129 => 140 | 171 => 142 | 243 => 217 | 246 => 257 | 283 => 274 | 284 => 275 | 285 => 276 | 286 => 277 | 317 => 283 | 318 => 284 | 319 => 285 | 320 => 286 | 337 => 290 | 338 => 242 | n => n, fun | 0 => 0 | 2 => 2 | 3 => 3 | 4 => 4 | 5 => 5 | 9 => 9 | 20 => 20 | 37 => 102 | 46 => 181 | 51 => 245 | 53 => 91 | 70 => 101 | 72 => 104 | 171 => 282 | 173 => 284 | 212 => 296 | 213 => 297 | 232 => 313 | 233 => 280 | n => n, fun | 17 => 7 | 18 => 11 | 19 => 3 | n => n⟩
theorem Tryz.laysM171 : Go.Proofs.LaysM.n171 Tryz.prog Tryz.laysM171_ren := {
 mixed := by kernel_rfl
 f129 := Tryz.func140.trans (congrArg some (by kernel_rfl))
 f171 := Tryz.func142.trans (congrArg some (by kernel_rfl))
 f243 := Tryz.func217.trans (congrArg some (by kernel_rfl))
 f246 := Tryz.func257.trans (congrArg some (by kernel_rfl))
 f283 := Tryz.func274.trans (congrArg some (by kernel_rfl))
 f284 := Tryz.func275.trans (congrArg some (by kernel_rfl))
 f285 := Tryz.func276.trans (congrArg some (by kernel_rfl))
 f286 := Tryz.func277.trans (congrArg some (by kernel_rfl))
 f317 := Tryz.func283.trans (congrArg some (by kernel_rfl))
 f318 := Tryz.func284.trans (congrArg some (by kernel_rfl))
 f319 := Tryz.func285.trans (congrArg some (by kernel_rfl))
 f320 := Tryz.func286.trans (congrArg some (by kernel_rfl))
 f337 := Tryz.func290.trans (congrArg some (by kernel_rfl))
 f338 := Tryz.func242.trans (congrArg some (by kernel_rfl))
 t0 := Tryz.underlying0
 a0 := Tryz.isAgg0
 z0 := Tryz.sizeOf0
 v0 := Tryz.zeroValue0
 t2 := Tryz.underlying2
 a2 := Tryz.isAgg2
 z2 := Tryz.sizeOf2
 v2 := Tryz.zeroValue2
 t3 := Tryz.underlying3
 a3 := Tryz.isAgg3
 z3 := Tryz.sizeOf3
 v3 := Tryz.zeroValue3
 t4 := Tryz.underlying4
 a4 := Tryz.isAgg4
 z4 := Tryz.sizeOf4
 v4 := Tryz.zeroValue4
 t5 := Tryz.underlying5
 a5 := Tryz.isAgg5
 z5 := Tryz.sizeOf5
 v5 := Tryz.zeroValue5
 t9 := Tryz.underlying9
 a9 := Tryz.isAgg9
 z9 := Tryz.sizeOf9
 v9 := Tryz.zeroValue9
 t20 := Tryz.underlying20
 a20 := Tryz.isAgg20
 z20 := Tryz.sizeOf20
 v20 := Tryz.zeroValue20
 t37 := Tryz.underlying102
 a37 := Tryz.isAgg102
 z37 := Tryz.sizeOf102
 v37 := Tryz.zeroValue102
 t46 := Tryz.underlying181
 a46 := Tryz.isAgg181
 z46 := Tryz.sizeOf181
 v46 := Tryz.zeroValue181
 t51 := Tryz.underlying245
 a51 := Tryz.isAgg245
 z51 := Tryz.sizeOf245
 v51 := Tryz.zeroValue245
 t53 := Tryz.underlying91
 a53 := Tryz.isAgg91
 z53 := Tryz.sizeOf91
 v53 := Tryz.zeroValue91
 t171 := Tryz.underlying282
 a171 := Tryz.isAgg282
 z171 := Tryz.sizeOf282
 v171 := Tryz.zeroValue282
 t173 := Tryz.underlying284
 a173 := Tryz.isAgg284
 z173 := Tryz.sizeOf284
 v173 := Tryz.zeroValue284
 t212 := Tryz.underlying296
 a212 := Tryz.isAgg296
 z212 := Tryz.sizeOf296
 v212 := Tryz.zeroValue296
 t213 := Tryz.underlying297
 a213 := Tryz.isAgg297
 z213 := Tryz.sizeOf297
 t232 := Tryz.underlying313
 a232 := Tryz.isAgg313
 z232 := Tryz.sizeOf313
 v232 := Tryz.zeroValue313
 t233 := Tryz.underlying280
 a233 := Tryz.isAgg280
 z233 := Tryz.sizeOf280
 v233 := Tryz.zeroValue280
 g17 := by kernel_rfl
 g18 := by kernel_rfl
 g19 := by kernel_rfl
 i0 := by kernel_rfl
 i2 := by kernel_rfl
 i3 := by kernel_rfl
 i4 := by kernel_rfl
 i5 := by kernel_rfl
 i9 := by kernel_rfl
 i20 := by kernel_rfl
 i37 := by kernel_rfl
 i46 := by kernel_rfl
 i51 := by kernel_rfl
 i53 := by kernel_rfl
 i171 := by kernel_rfl
 i173 := by kernel_rfl
 i212 := by kernel_rfl
 i232 := by kernel_rfl
 i233 := by kernel_rfl
 m17 := by kernel_rfl
 m18 := by kernel_rfl
 m19 := by kernel_rfl }
open Go.RowKit in
theorem Tryz.Builder_Len (B b : Nat) (bs : List Value) (w : World) (h : Lib.IsBuilder 104 5 B b bs w) :
 Calls Tryz.prog 62 #[.pointer (some ⟨b, 0, none⟩)] w fun e w' => e = .returned (.int .i64 bs.length) ∧ w' = w := Any.Builder_Len Tryz.lays170 B b bs w h
open Go.RowKit in
theorem Tryz.Builder_WriteByte (B b : Nat) (bs : List Value) (c : Int) (w : World) (h : Lib.IsBuilder 104 5 B b bs w) (hlen : bs.length + 1 ≤ 140737488355328) (hBw : B ≤ w.heap.size) :
 Calls Tryz.prog 61 #[.pointer (some ⟨b, 0, none⟩), .int .u8 c] w fun e w' => e = .returned .nilIface ∧ (Lib.BuilderAt 104 5 B b (.pointer (some ⟨b, 0, none⟩)) (bs ++ [.int .u8 c]) w' ∧ Below B w w') := Any.Builder_WriteByte Tryz.lays167 Tryz.Builder_Extra_167 B b bs c w h hlen hBw
open Go.RowKit in
theorem Tryz.Builder_String (B b : Nat) (l : List UInt8) (w : World) (h : Lib.IsBuilder 104 5 B b (Lib.byteCells l) w) (hBw : B ≤ w.heap.size) :
 Calls Tryz.prog 63 #[.pointer (some ⟨b, 0, none⟩)] w fun e w' => e = .returned (.string ⟨l.toArray⟩) ∧ Below B w w' := Any.Builder_String_any Tryz.lays169 Tryz.Builder_Extra_169 B b l w h hBw
open Go.RowKit in
theorem Tryz.strings_Repeat (s : ByteArray) (c : Nat) (w : World) (hc : c ≤ 9223372036854775807) (hlen : s.size * c ≤ 140737488355328) :
 Calls Tryz.prog 82 #[.string s, .int .i64 c] w fun e w' => e = .returned (.string ⟨(Lib.repeatL s.data.toList c).toArray⟩) ∧ Below w.heap.size w w' := Any.strings_Repeat Tryz.lays105 Tryz.Builder_Extra_105 s c w hc hlen
open Go.RowKit in
theorem Tryz.strings_TrimLeft (s : ByteArray) (c : UInt8) (hc : c.toNat < 128) (w : World) :
 Calls Tryz.prog 136 #[.string s, .string ⟨#[c]⟩] w fun e w' => e = .returned (.string ⟨(Lib.trimLeftB s.data.toList c).toArray⟩) ∧ w' = w := Any.strings_TrimLeft_one Tryz.lays161 s c hc w
open Go.RowKit in
theorem Tryz.strings_TrimRight (s : ByteArray) (c : UInt8) (hc : c.toNat < 128) (w : World) (hs : s.size ≤ 9223372036854775807) :
 Calls Tryz.prog 132 #[.string s, .string ⟨#[c]⟩] w fun e w' => e = .returned (.string ⟨(Lib.trimRightB s.data.toList c).toArray⟩) ∧ w' = w := Any.strings_TrimRight_one Tryz.lays162 s c hc w hs
open Go.RowKit in
theorem Tryz.strconv_Itoa (n : Int) (h0 : -9223372036854775808 ≤ n) (h1 : n ≤ 9223372036854775807) (w : World) (htab : Lib.TabIs Tryz.prog w "internal/strconv.uint64pow10" .u64 Lib.pow10Tab) :
 Calls Tryz.prog 142 #[.int .i64 n] w fun e w' => e = .returned (.string ⟨(Lib.itoa n).toArray⟩) ∧ Below w.heap.size w w' := (Any.strconv_Itoa Tryz.laysM171 n h0 h1 w htab).mono fun e w' ⟨h, k, os, hw⟩ => ⟨h, hw ▸ ⟨rfl, rfl, rfl, by simp [Go.Sort.grow], fun k hk => by simp [Go.Sort.grow, Array.getElem?_append, hk]⟩⟩
end Go.Proofs
namespace Go.Proofs.YtlpolbeikangpaaGreatDoor.L
open Go Go.RowKit Go.Proofs
theorem builder_kept {T e : TypeId} {B b : Nat} {bs : List Value} {w w' : World} (h : Lib.IsBuilder T e B b bs w) (hk : ∀ k, k < w.heap.size → w'.heap[k]? = w.heap[k]?) : Lib.IsBuilder T e B b bs w' := by
 have one : ∀ p, Lib.BuilderAt T e B b p bs w → Lib.BuilderAt T e B b p bs w' := by
  rintro p ⟨hB, v, hb, hown, hne⟩
  have hlt : ∀ {k : Nat} {o : Obj}, w.heap[k]? = some o → w'.heap[k]? = some o := fun {k o} h => (hk k (Array.getElem?_eq_some_iff.1 h).1).trans h
  refine ⟨hB, v, hlt hb, ?_, hne⟩
  obtain ⟨h1, h2⟩ := hown
  refine ⟨h1, ?_⟩
  rcases h2 with h2 | ⟨g, cap, cur, k1, k2, k3, k4⟩
  ·exact .inl h2
  ·exact .inr ⟨g, cap, cur, k1, k2, hlt k3, k4⟩
 rcases h with h | h
 ·exact .inl (one _ h)
 ·exact .inr (one _ h)
attribute [local go_sem] evalOps_nil evalOps_cons runW_t runW_f runE_s runP_s wantA evalOp effOp letters okDst coreA St.opv St.get St.at look constA St.put St.upd St.set decide_true List.all_nil List.all_cons Bool.and_true Bool.true_and and_self and_true true_and if_true if_false true_or Int.sub_zero List.nil_append List.cons_append List.append_nil Option.isSome_some List.getElem?_toArray List.getElem?_cons_succ List.getElem?_cons_zero Option.bind_some Option.map_some Option.map_none beq_self_eq_true Bool.false_beq Bool.true_beq Bool.not_true Bool.not_false Bool.false_eq_true cond_true cond_false binA binI List.map_cons List.map_nil boundA List.length_nil List.length_cons Nat.zero_mul Nat.one_mul Nat.mul_one Nat.zero_add Nat.add_zero Nat.zero_le Option.toList St.freshB AV.ment AV.ments Blk.ment V.sizes Nat.lt_add_one Bool.or_true Bool.true_or Bool.or_false Bool.false_or Bool.or_self if_pos if_neg decide_false decide_eq_true decide_eq_false wrap_i64 Int.toNat_natCast minA maxA Int.natCast_add Int.cast_ofNat_Int Option.isSome_none false_implies true_implies forall_const List.drop_zero Int.toNat_zero Int.add_sub_cancel lenA sliceA loadA indexAddrA partA fitsT V.atP V.offP V.size List.length_map List.getElem?_map Int.toNat_natCast_add_one Int.ofNat_eq_natCast TY calleeA capArg knotA capArgs toArgs toArg callA R.res R.mems R.blks R.av R.names R.nw invokeA storeA storeV fieldAddrA liveB V.off V.offs V.setP List.set_cons_zero List.set_cons_succ buildA buildP partsA appendA srcA copyA boxOk makeA AV.pure List.take_succ_cons List.take_zero nilA words unA entry List.zipIdx_cons List.zipIdx_nil Arg.av Arg.avs
def okWord (t : ByteArray) : Prop := ∀ i, i < t.size → bAt t i < 128 ∧ ¬ (65 ≤ bAt t i ∧ bAt t i ≤ 90) ∧ bAt t i ≠ 107 ∧ bAt t i ≠ 115
instance (t : ByteArray) : Decidable (okWord t) := inferInstanceAs (Decidable (∀ i, i < t.size → _))
theorem digs_len {v m : Nat} (h : v < 18446744073709551616 ^ m) : (digs v).length ≤ m := by
 obtain ⟨o, _, hv⟩ := digs_ok v
 have e := trim_digs o
 rw [hv] at e
 rcases trimL_last (digs v) with h0 | ⟨t, z, ht, hz⟩
 ·rw [e] at h0; rw [h0]; exact Nat.zero_le _
 ·rw [e] at ht
  have oz := o z (by rw [ht]; simp)
  have hval : v = val t + 18446744073709551616 ^ t.length * (z.toNat + 18446744073709551616 * 0) := by
   have := val_append t [z]
   rw [← ht, hv] at this
   exact this
  have hz1 : 1 ≤ z.toNat := by omega
  have hge : 18446744073709551616 ^ t.length ≤ v := by
   have h1 : 18446744073709551616 ^ t.length * 1 ≤ 18446744073709551616 ^ t.length * z.toNat := Nat.mul_le_mul_left _ hz1
   rw [Nat.mul_zero, Nat.add_zero] at hval
   omega
  rw [ht, List.length_append]
  refine Nat.lt_of_not_le fun hle => ?_
  have : 18446744073709551616 ^ m ≤ 18446744073709551616 ^ t.length := Nat.pow_le_pow_right (by decide) hle
  omega
theorem FnOk.int3 {P : Program} {f : FuncId} {k : IntKind} {x y c a b : Int} (hr : ∀ w, (callFunc f #[.int k x, .int k y, .int k c]).run P w = .ok (.value (.tuple #[.int k a, .int k b])) w) :
 FnOk P f [.v (.int k x), .v (.int k y), .v (.int k c)] [.v true (.int k a), .v true (.int k b)] := by
 intro w O vs _ h
 have one : ∀ {n : Int} {v : Value}, ArgRep w O (.v (.int k n)) v → v = .int k n := fun h => by
  rw [ArgRep] at h
  obtain ⟨cs, h1, h2⟩ := h
  rw [Rep] at h1
  subst h1
  exact h2
 rw [ArgsRep] at h
 obtain ⟨v1, r1, rfl, h1, h⟩ := h
 rw [ArgsRep] at h
 obtain ⟨v2, r2, rfl, h2, h⟩ := h
 rw [ArgsRep] at h
 obtain ⟨v3, r3, rfl, h3, h⟩ := h
 rw [ArgsRep] at h
 subst h
 rw [one h1, one h2, one h3]
 refine .inr ⟨_, w, hr w, _, fun _ => none, rfl, Below.refl _ _, ⟨fun s b c hs => by simp at hs, fun s1 s2 b c c' h1 => by simp at h1⟩, fun s => rfl, ?_⟩
 show RepA _ w _ _ (.tup [.v true (.int k a), .v true (.int k b)]) _
 rw [RepA]
 refine ⟨[.int k a, .int k b], rfl, ?_⟩
 rw [RepAL]
 refine ⟨_, _, rfl, repA_int.2 rfl, ?_⟩
 rw [RepAL]
 exact ⟨_, _, rfl, repA_int.2 rfl, by rw [RepAL]⟩
theorem add64_ok (x y c : Int) (hx : 0 ≤ x) (hy : 0 ≤ y) (hc0 : 0 ≤ c) (hc : c ≤ 1) : FnOk Tryz.prog 139 [.v (.int .u64 x), .v (.int .u64 y), .v (.int .u64 c)] [.v true (.int .u64 ((x + y + c) % 18446744073709551616)), .v true (.int .u64 ((x + y + c) / 18446744073709551616))] :=
 FnOk.int3 fun w => by
  rw [run_callFunc_extern Tryz.func139 (by kernel_rfl) (by kernel_rfl) (by kernel_rfl) (e := add64Entry) (by kernel_rfl), run_add64 x y c hx hy hc0 hc]
  rfl
theorem sub64_ok (x y c : Int) (hx : 0 ≤ x) (hx' : x < 18446744073709551616) (hy : 0 ≤ y) (hy' : y < 18446744073709551616) (hc0 : 0 ≤ c) (hc : c ≤ 1) :
 FnOk Tryz.prog 252 [.v (.int .u64 x), .v (.int .u64 y), .v (.int .u64 c)] [.v true (.int .u64 ((x - y - c) % 18446744073709551616)), .v true (.int .u64 (if x < y + c then 1 else 0))] :=
 FnOk.int3 fun w => by
  obtain ⟨X, rfl⟩ := Int.eq_ofNat_of_zero_le hx
  obtain ⟨Y, rfl⟩ := Int.eq_ofNat_of_zero_le hy
  obtain ⟨C, rfl⟩ := Int.eq_ofNat_of_zero_le hc0
  rw [run_callFunc_extern Tryz.func252 (by kernel_rfl) (by kernel_rfl) (by kernel_rfl) (e := sub64Entry) (by kernel_rfl)]
  have := run_sub64 (P := Tryz.prog) X Y C (by omega) w
  rw [this]
  simp only [Result.andThen]
  have e1 : (((X + 18446744073709551616 - Y - C) % 18446744073709551616 : Nat) : Int) = ((X : Int) - Y - C) % 18446744073709551616 := by omega
  have e2 : ((if X < Y + C then 1 else 0 : Nat) : Int) = if (X : Int) < (Y : Int) + C then 1 else 0 := by
   split <;> split <;> omega
  rw [e1, e2]
theorem maskN (a : Nat) (ha : a < 18446744073709551616) : bitI .and .u64 (a : Int) 4294967295 = ((a % 4294967296 : Nat) : Int) := by
 have h := bits_and_u64_nat a 4294967295 ha (by omega)
 have e : a &&& 4294967295 = a % 4294967296 := Nat.and_two_pow_sub_one_eq_mod a 32
 rw [e] at h
 exact h
theorem mulN (a b : Nat) : (a : Int) * (b : Int) = ((a * b : Nat) : Int) := (Int.natCast_mul a b).symm
theorem wrapN (a : Nat) (ha : a < 18446744073709551616) : IntKind.u64.wrap (a : Int) = (a : Int) := by rw [wrap_u64]; omega
theorem wrapM (a : Nat) : IntKind.u64.wrap (a : Int) = ((a % 18446744073709551616 : Nat) : Int) := by rw [wrap_u64]; omega
noncomputable def lenTab : ByteArray := ((Tryz.f140.body.bind tabIn).getD ByteArray.empty)
theorem lenTab_ok : tabOk lenTab 256 8 = true := by kernel_rfl
def hv (b : Nat) (s : Nat × Nat) : Nat × Nat := if 2 ^ b ≤ s.1 then (s.1 / 2 ^ b, s.2 + b) else s
def len3 (x : Nat) : Nat × Nat := hv 8 (hv 16 (hv 32 (x, 0)))
noncomputable def len64 (x : Nat) : Nat := (len3 x).2 + bAt lenTab (len3 x).1
theorem shrB (a b : Nat) (hb : b < 64) : Int.fdiv (a : Int) (2 ^ min b 64) = ((a / 2 ^ b : Nat) : Int) := by
 have : min b 64 = b := Nat.min_eq_left (by omega)
 rw [this, Int.fdiv_eq_ediv_of_nonneg _ (Int.le_of_lt (Int.pow_pos (by omega))), Int.natCast_ediv, Int.natCast_pow]
 rfl
theorem len3_ok {x : Nat} (hx : x < 18446744073709551616) : (len3 x).1 < 256 ∧ (len3 x).2 ≤ 56 := by
 unfold len3
 have h1 : (hv 32 (x, 0)).1 < 4294967296 ∧ (hv 32 (x, 0)).2 ≤ 32 := by
  unfold hv; split <;> first | omega | (simp only; omega)
 generalize hv 32 (x, 0) = s at h1
 have h2 : (hv 16 s).1 < 65536 ∧ (hv 16 s).2 ≤ 48 := by
  unfold hv; split <;> first | omega | (simp only; omega)
 generalize hv 16 s = t at h2
 unfold hv; split <;> first | omega | (simp only; omega)
theorem len64_le {x : Nat} (hx : x < 18446744073709551616) : len64 x ≤ 64 := by
 obtain ⟨h1, h2⟩ := len3_ok hx
 have h3 := List.all_eq_true.1 lenTab_ok _ (List.mem_range.2 h1)
 unfold len64 bAt
 split
 ·next b hb => rw [hb] at h3; have : b.toNat ≤ 8 := by simpa using h3
               omega
 ·omega
theorem len64_ok (x : Nat) (hx : x < 18446744073709551616) : FnOk Tryz.prog 140 [.v (.int .u64 x)] [.v true (.int .i64 (len64 x))] := by
 refine FnOk.of Tryz.func140 rfl rfl fun cx w0 => ?_
 rw [show Tryz.f140.ntmps = 25 from rfl]
 refine Holds.step (Px := px) (T := TT) (ρ := fun _ => []) TTe (by simp (maxSteps := 100000) (disch := omega) only [go_sem, V.isAgg, V.flat, ↓reduceIte, Nat.reduceAdd, Nat.reduceSub, Nat.reduceLT, Nat.reduceEqDiff, reduceCtorEq, Nat.reduceLeDiff, Nat.reduceBEq, Nat.reduceMul, Int.reduceToNat, List.length_cons, List.length_nil]; rfl) (by repeat' first | exact trivial | constructor) ?_
 refine Holds.next (fun σ => ∀ a w, Rel cx w0 σ a w → Rel cx w0 { nt := 25, env := [(0, .v true (.int .u64 (hv 32 (x, 0)).1)), (2, .v true (.int .i64 (hv 32 (x, 0)).2))], mem := [] } a w) ?_ ?_
 ·by_cases h : 4294967296 ≤ x
  ·refine Holds.step (Px := px) (T := TT) (ρ := fun _ => []) TTe (by simp (maxSteps := 100000) (disch := omega) only [go_sem, V.isAgg, V.flat, ↓reduceIte, Nat.reduceAdd, Nat.reduceSub, Nat.reduceLT, Nat.reduceEqDiff, reduceCtorEq, Nat.reduceLeDiff, Nat.reduceBEq, Nat.reduceMul, Int.reduceToNat]; rfl) (by repeat' first | exact trivial | constructor) ?_
   refine Holds.condT rfl ?_
   refine Holds.step (Px := px) (T := TT) (ρ := fun _ => []) TTe (by simp (maxSteps := 100000) (disch := omega) only [go_sem, V.isAgg, V.flat, ↓reduceIte, Nat.reduceAdd, Nat.reduceSub, Nat.reduceLT, Nat.reduceEqDiff, reduceCtorEq, Nat.reduceLeDiff, Nat.reduceBEq, Nat.reduceMul, Int.reduceToNat, Int.reduceToNat, shrB x 32 (by omega)]; rfl) (by repeat' first | exact trivial | constructor) ?_
   refine Holds.region (Px := px) (T := TT) (ρ := fun _ => []) TTe (by simp (maxSteps := 100000) (disch := omega) only [go_sem, V.isAgg, V.flat, ↓reduceIte, Nat.reduceAdd, Nat.reduceSub, Nat.reduceLT, Nat.reduceEqDiff, reduceCtorEq, Nat.reduceLeDiff, Nat.reduceBEq, Nat.reduceMul, Int.reduceToNat]; rfl) (by repeat' first | exact trivial | constructor) ?_
   intro a w hr
   rw [show hv 32 (x, 0) = (x / 2 ^ 32, 0 + 32) from by rw [hv, if_pos h]]
   exact Rel.keep [0, 2] [] hr
  ·refine Holds.step (Px := px) (T := TT) (ρ := fun _ => []) TTe (by simp (maxSteps := 100000) (disch := omega) only [go_sem, V.isAgg, V.flat, ↓reduceIte, Nat.reduceAdd, Nat.reduceSub, Nat.reduceLT, Nat.reduceEqDiff, reduceCtorEq, Nat.reduceLeDiff, Nat.reduceBEq, Nat.reduceMul, Int.reduceToNat]; rfl) (by repeat' first | exact trivial | constructor) ?_
   refine Holds.condF rfl (Holds.skip fun a w hr => ?_)
   rw [show hv 32 (x, 0) = (x, 0) from by rw [hv, if_neg h]]
   exact Rel.keep [0, 2] [] hr
 ·have b1 : (hv 32 (x, 0)).1 < 4294967296 ∧ (hv 32 (x, 0)).2 ≤ 32 := by
   unfold hv; split <;> first | omega | (simp only; omega)
  have b2 : ∀ s : Nat × Nat, s.1 < 4294967296 → s.2 ≤ 32 → (hv 16 s).1 < 65536 ∧ (hv 16 s).2 ≤ 48 := by
   intro s h1 h2
   unfold hv; split <;> first | omega | (simp only; omega)
  have b3 := b2 _ b1.1 b1.2
  intro σ hσ
  refine Holds.from hσ ?_
  obtain ⟨s, hs⟩ : ∃ s, s = hv 32 (x, 0) := ⟨_, rfl⟩
  have hb : s.1 < 4294967296 ∧ s.2 ≤ 32 := by rw [hs]; exact b1
  rw [← hs]
  refine Holds.next (fun σ => ∀ a w, Rel cx w0 σ a w → Rel cx w0 { nt := 25, env := [(0, .v true (.int .u64 (hv 16 s).1)), (2, .v true (.int .i64 (hv 16 s).2))], mem := [] } a w) ?_ ?_
  ·by_cases h : 65536 ≤ s.1
   ·refine Holds.step (Px := px) (T := TT) (ρ := fun _ => []) TTe (by simp (maxSteps := 100000) (disch := omega) only [go_sem, V.isAgg, V.flat, ↓reduceIte, Nat.reduceAdd, Nat.reduceSub, Nat.reduceLT, Nat.reduceEqDiff, reduceCtorEq, Nat.reduceLeDiff, Nat.reduceBEq, Nat.reduceMul, Int.reduceToNat]; rfl) (by repeat' first | exact trivial | constructor) ?_
    refine Holds.condT rfl ?_
    refine Holds.step (Px := px) (T := TT) (ρ := fun _ => []) TTe (by simp (maxSteps := 100000) (disch := omega) only [go_sem, V.isAgg, V.flat, ↓reduceIte, Nat.reduceAdd, Nat.reduceSub, Nat.reduceLT, Nat.reduceEqDiff, reduceCtorEq, Nat.reduceLeDiff, Nat.reduceBEq, Nat.reduceMul, Int.reduceToNat, Int.reduceToNat, shrB s.1 16 (by omega)]; rfl) (by repeat' first | exact trivial | constructor) ?_
    refine Holds.region (Px := px) (T := TT) (ρ := fun _ => []) TTe (by simp (maxSteps := 100000) (disch := omega) only [go_sem, V.isAgg, V.flat, ↓reduceIte, Nat.reduceAdd, Nat.reduceSub, Nat.reduceLT, Nat.reduceEqDiff, reduceCtorEq, Nat.reduceLeDiff, Nat.reduceBEq, Nat.reduceMul, Int.reduceToNat]; rfl) (by repeat' first | exact trivial | constructor) ?_
    intro a w hr
    rw [show hv 16 s = (s.1 / 2 ^ 16, s.2 + 16) from by rw [hv, if_pos h]]
    exact Rel.keep [0, 2] [] hr
   ·refine Holds.step (Px := px) (T := TT) (ρ := fun _ => []) TTe (by simp (maxSteps := 100000) (disch := omega) only [go_sem, V.isAgg, V.flat, ↓reduceIte, Nat.reduceAdd, Nat.reduceSub, Nat.reduceLT, Nat.reduceEqDiff, reduceCtorEq, Nat.reduceLeDiff, Nat.reduceBEq, Nat.reduceMul, Int.reduceToNat]; rfl) (by repeat' first | exact trivial | constructor) ?_
    refine Holds.condF rfl (Holds.skip fun a w hr => ?_)
    rw [show hv 16 s = s from by rw [hv, if_neg h]]
    exact Rel.keep [0, 2] [] hr
  ·rw [hs]
   intro σ hσ
   refine Holds.from hσ ?_
   obtain ⟨s, hs⟩ : ∃ s, s = hv 16 (hv 32 (x, 0)) := ⟨_, rfl⟩
   have hb : s.1 < 65536 ∧ s.2 ≤ 48 := by rw [hs]; exact b3
   rw [← hs]
   refine Holds.next (fun σ => ∀ a w, Rel cx w0 σ a w → Rel cx w0 { nt := 25, env := [(0, .v true (.int .u64 (hv 8 s).1)), (2, .v true (.int .i64 (hv 8 s).2))], mem := [] } a w) ?_ ?_
   ·by_cases h : 256 ≤ s.1
    ·refine Holds.step (Px := px) (T := TT) (ρ := fun _ => []) TTe (by simp (maxSteps := 100000) (disch := omega) only [go_sem, V.isAgg, V.flat, ↓reduceIte, Nat.reduceAdd, Nat.reduceSub, Nat.reduceLT, Nat.reduceEqDiff, reduceCtorEq, Nat.reduceLeDiff, Nat.reduceBEq, Nat.reduceMul, Int.reduceToNat]; rfl) (by repeat' first | exact trivial | constructor) ?_
     refine Holds.condT rfl ?_
     refine Holds.step (Px := px) (T := TT) (ρ := fun _ => []) TTe (by simp (maxSteps := 100000) (disch := omega) only [go_sem, V.isAgg, V.flat, ↓reduceIte, Nat.reduceAdd, Nat.reduceSub, Nat.reduceLT, Nat.reduceEqDiff, reduceCtorEq, Nat.reduceLeDiff, Nat.reduceBEq, Nat.reduceMul, Int.reduceToNat, Int.reduceToNat, shrB s.1 8 (by omega)]; rfl) (by repeat' first | exact trivial | constructor) ?_
     refine Holds.region (Px := px) (T := TT) (ρ := fun _ => []) TTe (by simp (maxSteps := 100000) (disch := omega) only [go_sem, V.isAgg, V.flat, ↓reduceIte, Nat.reduceAdd, Nat.reduceSub, Nat.reduceLT, Nat.reduceEqDiff, reduceCtorEq, Nat.reduceLeDiff, Nat.reduceBEq, Nat.reduceMul, Int.reduceToNat]; rfl) (by repeat' first | exact trivial | constructor) ?_
     intro a w hr
     rw [show hv 8 s = (s.1 / 2 ^ 8, s.2 + 8) from by rw [hv, if_pos h]]
     exact Rel.keep [0, 2] [] hr
    ·refine Holds.step (Px := px) (T := TT) (ρ := fun _ => []) TTe (by simp (maxSteps := 100000) (disch := omega) only [go_sem, V.isAgg, V.flat, ↓reduceIte, Nat.reduceAdd, Nat.reduceSub, Nat.reduceLT, Nat.reduceEqDiff, reduceCtorEq, Nat.reduceLeDiff, Nat.reduceBEq, Nat.reduceMul, Int.reduceToNat]; rfl) (by repeat' first | exact trivial | constructor) ?_
     refine Holds.condF rfl (Holds.skip fun a w hr => ?_)
     rw [show hv 8 s = s from by rw [hv, if_neg h]]
     exact Rel.keep [0, 2] [] hr
   ·rw [hs]
    intro σ hσ
    refine Holds.from hσ ?_
    have h3 := len3_ok hx
    obtain ⟨n, hn⟩ : ∃ n, n = len3 x := ⟨_, rfl⟩
    have e : len64 x = n.2 + bAt lenTab n.1 := by rw [hn]; rfl
    rw [← hn] at h3
    rw [e]
    rw [show hv 8 (hv 16 (hv 32 (x, 0))) = n from hn.symm]
    have hw : IntKind.u8.wrap (n.1 : Int) = n.1 := by
     unfold IntKind.wrap
     simp only [IntKind.bits, IntKind.signed, Bool.false_and, Bool.false_eq_true, if_false]
     omega
    have ikd5 : ikd Tryz.prog 5 = some .u8 := by kernel_rfl
    have ikd3 : ikd Tryz.prog 3 = some .i64 := by kernel_rfl
    have und69 : (Tryz.prog.underlying 91).isSome = true := by kernel_rfl
    have und5 : (Tryz.prog.underlying 5).isSome = true := by kernel_rfl
    have hb8 := (evalOp_tab (P := Tryz.prog) (T := TT) (ρ := fun _ => []) (σ := { nt := 1, env := [(0, .v true (.int .u8 n.1))], mem := [] }) (o := { dst := some 0, op := .index 9 (.const (.string lenTab)) (.tmp 0), type := 0, pos := "", after := #[], guard := none }) (N := 256) (m := 8) (n := n.1) (by kernel_rfl) lenTab_ok rfl rfl (Nat.le_of_ble_eq_true rfl) rfl h3.1).1
    refine Holds.seq (Holds.regionS (σ2 := { nt := 25, env := [(22, .v true (.int .u8 (bAt lenTab n.1 : Nat))), (21, .v true (.int .u8 n.1)), (20, .v true (.int .u64 n.1)), (19, .v true (.int .i64 n.2)), (0, .v true (.int .u64 n.1)), (2, .v true (.int .i64 n.2))], mem := [] }) (p2 := True) (Px := px) (T := TT) (ρ := fun _ => []) (k := 3) TTe (by simp (maxSteps := 100000) (disch := omega) only [List.take_succ_cons, List.take_zero, go_sem, V.isAgg, V.flat, ↓reduceIte, Nat.reduceAdd, Nat.reduceSub, Nat.reduceLT, Nat.reduceEqDiff, reduceCtorEq, Nat.reduceLeDiff, Nat.reduceBEq, Nat.reduceMul, Int.reduceToNat, hw, ikd5, und69]; rfl) (by repeat' constructor) rfl rfl ?h2 trivial ?h3)
    case h2 => exact evalOp_tabE (tab := lenTab) (N := 256) (m := 8) (n := n.1) (by kernel_rfl) lenTab_ok (by rfl) (by rfl) (by exact Nat.le_of_ble_eq_true rfl) (by rfl) h3.1
    case h3 =>
     refine ⟨_, _, by simp (maxSteps := 100000) (disch := omega) only [List.drop_succ_cons, List.drop_zero, go_sem, V.isAgg, V.flat, ↓reduceIte, Nat.reduceAdd, Nat.reduceSub, Nat.reduceLT, Nat.reduceEqDiff, reduceCtorEq, Nat.reduceLeDiff, Nat.reduceBEq, Nat.reduceMul, Int.reduceToNat, ikd3, und5]; rfl, by repeat' constructor, ?_⟩
     show Holds _ _ _ _ _ _ _
     exact Holds.ret (RetOk.vs rfl (by exact ⟨⟨rfl, id⟩, trivial⟩) rfl)
theorem lz64_ok (x : Nat) (hx : x < 18446744073709551616) : FnOk Tryz.prog 205 [.v (.int .u64 x)] [.v true (.int .i64 (64 - (len64 x : Int)))] := by
 have h := len64_le hx
 refine FnOk.of Tryz.func205 rfl rfl fun cx w0 => ?_
 rw [show Tryz.f205.ntmps = 6 from rfl]
 refine Holds.step (Px := px) (T := TT) (ρ := fun _ => []) TTe (by simp (maxSteps := 100000) (disch := omega) only [go_sem, V.isAgg, V.flat, ↓reduceIte, Nat.reduceAdd, Nat.reduceSub, Nat.reduceLT, Nat.reduceEqDiff, reduceCtorEq, Nat.reduceLeDiff, Nat.reduceBEq, Nat.reduceMul, Int.reduceToNat, List.length_cons, List.length_nil]; rfl) (by repeat' first | exact trivial | constructor) ?_
 refine Holds.step (Px := px) (T := TT) (ρ := fun _ => [.v true (.int .i64 (len64 x))]) TTe (by simp (maxSteps := 100000) (disch := omega) only [go_sem, V.isAgg, V.flat, ↓reduceIte, Nat.reduceAdd, Nat.reduceSub, Nat.reduceLT, Nat.reduceEqDiff, reduceCtorEq, Nat.reduceLeDiff, Nat.reduceBEq, Nat.reduceMul, Int.reduceToNat]; rfl) (by first | exact len64_ok x hx | (repeat' first | exact trivial | exact len64_ok x hx | constructor)) ?_
 exact Holds.ret (RetOk.vs rfl (by exact ⟨⟨rfl, id⟩, trivial⟩) rfl)
theorem hv_inv {x b : Nat} {s : Nat × Nat} (h : s.1 = x / 2 ^ s.2) (h0 : 0 < s.1) : (hv b s).1 = x / 2 ^ (hv b s).2 ∧ 0 < (hv b s).1 := by
 unfold hv
 split
 ·next hb =>
  refine ⟨?_, Nat.div_pos hb (Nat.pow_pos (by decide))⟩
  simp only
  rw [h, Nat.div_div_eq_div_mul, ← Nat.pow_add]
 ·exact ⟨h, h0⟩
noncomputable def lenTabOk : Bool := (List.range 256).all fun n => n == 0 || decide (2 ^ (bAt lenTab n - 1) ≤ n ∧ n < 2 ^ bAt lenTab n ∧ 0 < bAt lenTab n)
theorem lenTabOk_ok : lenTabOk = true := by kernel_rfl
theorem len64_spec {x : Nat} (hx : x < 18446744073709551616) (h0 : 0 < x) : 0 < len64 x ∧ 2 ^ (len64 x - 1) ≤ x ∧ x < 2 ^ len64 x := by
 obtain ⟨h1, h2⟩ := len3_ok hx
 obtain ⟨a1, a2⟩ := hv_inv (b := 32) (s := (x, 0)) (x := x) (by simp) h0
 obtain ⟨b1, b2⟩ := hv_inv (b := 16) a1 a2
 obtain ⟨c1, c2⟩ := hv_inv (b := 8) b1 b2
 have e : len64 x = (len3 x).2 + bAt lenTab (len3 x).1 := rfl
 rw [show hv 8 (hv 16 (hv 32 (x, 0))) = len3 x from rfl] at c1 c2
 rw [e]
 obtain ⟨n, hn⟩ : ∃ n, n = (len3 x).1 := ⟨_, rfl⟩
 obtain ⟨k, hk⟩ : ∃ k, k = (len3 x).2 := ⟨_, rfl⟩
 rw [← hn] at h1 c1 c2 ⊢
 rw [← hk] at c1 ⊢
 have h3 := List.all_eq_true.1 lenTabOk_ok _ (List.mem_range.2 h1)
 have hn0 : n ≠ 0 := by omega
 simp only [Bool.or_eq_true, beq_iff_eq, hn0, false_or, decide_eq_true_eq] at h3
 obtain ⟨h4, h5, h6⟩ := h3
 obtain ⟨b, hb⟩ : ∃ b, b = bAt lenTab n := ⟨_, rfl⟩
 rw [← hb] at h4 h5 h6 ⊢
 refine ⟨by omega, ?_, ?_⟩
 ·have : 2 ^ (b - 1) * 2 ^ k ≤ n * 2 ^ k := Nat.mul_le_mul_right _ h4
  rw [← Nat.pow_add, show b - 1 + k = k + b - 1 from by omega] at this
  have h7 : n * 2 ^ k ≤ x := by rw [c1]; exact Nat.div_mul_le_self _ _
  omega
 ·have h7 : x < 2 ^ k * (n + 1) := by rw [c1]; exact Nat.lt_mul_div_succ _ (Nat.pow_pos (by decide))
  have h8 : 2 ^ k * (n + 1) ≤ 2 ^ k * 2 ^ b := Nat.mul_le_mul_left _ h5
  rw [← Nat.pow_add] at h8
  omega
theorem norm64 {y : Nat} (hy : y < 18446744073709551616) (h0 : 0 < y) : ∃ s : Nat, s < 64 ∧ (64 - (len64 y : Int)) = (s : Int) ∧ 9223372036854775808 ≤ y * 2 ^ s ∧ y * 2 ^ s < 18446744073709551616 := by
 obtain ⟨h1, h2, h3⟩ := len64_spec hy h0
 have h4 := len64_le hy
 obtain ⟨n, hn⟩ : ∃ n, n = len64 y := ⟨_, rfl⟩
 rw [← hn] at h1 h2 h3 h4 ⊢
 refine ⟨64 - n, by omega, by omega, ?_, ?_⟩
 ·have : 2 ^ (n - 1) * 2 ^ (64 - n) ≤ y * 2 ^ (64 - n) := Nat.mul_le_mul_right _ h2
  rw [← Nat.pow_add, show n - 1 + (64 - n) = 63 from by omega] at this
  exact this
 ·have : y * 2 ^ (64 - n) < 2 ^ n * 2 ^ (64 - n) := Nat.mul_lt_mul_of_pos_right h3 (Nat.pow_pos (by decide))
  rw [← Nat.pow_add, show n + (64 - n) = 64 from by omega] at this
  exact this
theorem orN (a v s : Nat) (hv : v < 2 ^ s) (h : a * 2 ^ s + v < 18446744073709551616) : bitI .or .u64 ((a * 2 ^ s : Nat) : Int) (v : Int) = ((a * 2 ^ s + v : Nat) : Int) := by
 unfold bitI
 simp only
 have h1 : (BitVec.ofInt IntKind.u64.bits ((a * 2 ^ s : Nat) : Int) ||| BitVec.ofInt IntKind.u64.bits (v : Int)).toNat = a * 2 ^ s + v := by
  rw [BitVec.toNat_or, BitVec.toNat_ofInt, BitVec.toNat_ofInt]
  have e1 : (((a * 2 ^ s : Nat) : Int) % ((2 ^ IntKind.u64.bits : Nat) : Int)).toNat = a * 2 ^ s := by
   show (((a * 2 ^ s : Nat) : Int) % 18446744073709551616).toNat = _
   omega
  have e2 : ((v : Int) % ((2 ^ IntKind.u64.bits : Nat) : Int)).toNat = v := by
   show ((v : Int) % 18446744073709551616).toNat = _
   omega
  rw [e1, e2, Nat.mul_comm, Nat.two_pow_add_eq_or_of_lt hv]
 rw [h1]
 exact wrapN _ h
theorem shlN (a s : Nat) (hs : s < 64) : IntKind.u64.wrap ((a : Int) * 2 ^ min s 64) = ((a * 2 ^ s % 18446744073709551616 : Nat) : Int) := by
 have : min s 64 = s := Nat.min_eq_left (by omega)
 rw [this, show ((a : Int) * 2 ^ s) = ((a * 2 ^ s : Nat) : Int) from by rw [Int.natCast_mul, Int.natCast_pow]; rfl]
 exact wrapM _
theorem shrG (a s : Nat) (hs : s ≤ 64) : Int.fdiv (a : Int) (2 ^ min s 64) = ((a / 2 ^ s : Nat) : Int) := by
 have : min s 64 = s := Nat.min_eq_left (by omega)
 rw [this, Int.fdiv_eq_ediv_of_nonneg _ (Int.le_of_lt (Int.pow_pos (by omega))), Int.natCast_ediv, Int.natCast_pow]
 rfl
theorem quoN (a b : Nat) : (a : Int).tdiv (b : Int) = ((a / b : Nat) : Int) := by
 rw [Int.tdiv_eq_ediv_of_nonneg (Int.natCast_nonneg a), Int.natCast_ediv]
theorem remN (a b : Nat) : (a : Int).tmod (b : Int) = ((a % b : Nat) : Int) := by
 rw [Int.tmod_eq_emod_of_nonneg (Int.natCast_nonneg a), Int.natCast_emod]
theorem guess_iff {U u Y1 Y0 q r : Nat} (h : q * Y1 + r = U) : r * 4294967296 + u < q * Y0 ↔ U * 4294967296 + u < q * (Y1 * 4294967296 + Y0) := by
 have : q * (Y1 * 4294967296 + Y0) = q * Y1 * 4294967296 + q * Y0 := by rw [Nat.mul_add, Nat.mul_assoc]
 rw [this, ← h, Nat.add_mul]
 omega
theorem div_is {T Y q Q : Nat} (hY : 0 < Y) (hQ : Q = T / Y) (h1 : Q ≤ q) (h2 : q * Y ≤ T) : q = Q := by
 have : q ≤ T / Y := (Nat.le_div_iff_mul_le hY).2 h2
 omega
theorem guess_first {U u Y1 Y0 : Nat} (hY1 : 0 < Y1) : (U * 4294967296 + u) / (Y1 * 4294967296 + Y0) ≤ (U * 4294967296 + u) / (Y1 * 4294967296) :=
 Nat.div_le_div_left (by omega) (by omega)
theorem blockQ_other {id id' : Nat} {Q : Exit → St → Prop} {σ : St} (hn : id' ≠ id) (h : Q (.exit id') σ) : blockQ id Q (.exit id') σ := by
 unfold blockQ
 simp only [hn, if_false]
 exact h
theorem digit_less {U u Y1 Y0 q r Q : Nat} (hu : u < 4294967296) (hQ : Q = (U * 4294967296 + u) / (Y1 * 4294967296 + Y0)) (hQB : Q < 4294967296) (hY : 0 < Y1 * 4294967296 + Y0) (h : q * Y1 + r = U)
 (hc : 4294967296 ≤ q ∨ r * 4294967296 + u < q * Y0) : Q < q ∧ (q - 1) * Y1 + (r + Y1) = U := by
 have h1 : Q < q := by
  rcases hc with hc | hc
  ·omega
  ·rw [hQ]
   exact (Nat.div_lt_iff_lt_mul hY).2 ((guess_iff h).1 hc)
 refine ⟨h1, ?_⟩
 obtain ⟨p, rfl⟩ : ∃ p, q = p + 1 := ⟨q - 1, by omega⟩
 rw [Nat.add_mul, Nat.one_mul] at h
 rw [Nat.add_sub_cancel]
 omega
theorem digit_done {U u Y1 Y0 q r Q : Nat} (hQ : Q = (U * 4294967296 + u) / (Y1 * 4294967296 + Y0)) (hY : 0 < Y1 * 4294967296 + Y0) (h : q * Y1 + r = U) (h1 : Q ≤ q)
 (hc : q * Y0 ≤ r * 4294967296 + u) : q = Q :=
 div_is hY hQ h1 (by
  have := mt (guess_iff (u := u) (Y0 := Y0) h).2 (by omega)
  omega)
theorem digit_first {U u Y1 Y0 : Nat} (hu : u < 4294967296) (hY1 : 2147483648 ≤ Y1) (hY0 : Y0 < 4294967296) (hU : U < Y1 * 4294967296 + Y0) :
 (U * 4294967296 + u) / (Y1 * 4294967296 + Y0) ≤ U / Y1 ∧ U / Y1 ≤ 4294967297 ∧ (U * 4294967296 + u) / (Y1 * 4294967296 + Y0) < 4294967296 := by
 refine ⟨?_, ?_, ?_⟩
 ·refine Nat.le_trans (guess_first (by omega)) ?_
  have e1 := Nat.div_div_eq_div_mul (U * 4294967296 + u) 4294967296 Y1
  have e2 : (U * 4294967296 + u) / 4294967296 = U := by omega
  rw [e2, Nat.mul_comm 4294967296 Y1] at e1
  exact Nat.le_of_eq e1.symm
 ·have e : U < 4294967298 * Y1 := by
   rw [show 4294967298 = 4294967296 + 2 from rfl, Nat.add_mul, Nat.mul_comm 4294967296 Y1]
   omega
  exact Nat.le_of_lt_succ ((Nat.div_lt_iff_lt_mul (by omega)).2 e)
 ·refine (Nat.div_lt_iff_lt_mul (by omega)).2 ?_
  rw [Nat.mul_comm 4294967296]
  have : (U + 1) * 4294967296 ≤ (Y1 * 4294967296 + Y0) * 4294967296 := Nat.mul_le_mul_right _ hU
  rw [Nat.add_mul] at this
  omega
theorem mul_small {q Y0 : Nat} (hq : q ≤ 4294967296) (hY0 : Y0 < 4294967296) : q * Y0 ≤ 4294967296 * 4294967295 := Nat.mul_le_mul hq (by omega)
theorem div_lin {B G L1 Lo u1 u0 U P W P2 Rm : Nat} (hU : U = G + L1) (hu : Lo = u1 * B + u0) (e1 : U * B + u1 = P + W) (e2 : W * B + u0 = P2 + Rm) :
 G * (B * B) + (L1 * (B * B) + Lo) = P * B + P2 + Rm := by
 subst hU hu
 have h : ((G + L1) * B + u1) * B = (P + W) * B := by rw [e1]
 simp only [Nat.add_mul, Nat.mul_assoc] at h
 omega
theorem div_whole {hi lo y s Y Q Q2 W Rm U L1 Lo u1 u0 P P2 : Nat} (hy : 0 < y) (hY : Y = y * 2 ^ s) (hU : U = hi * 2 ^ s + L1) (elo : lo * 2 ^ s = L1 * 18446744073709551616 + Lo) (hu : Lo = u1 * 4294967296 + u0)
 (hP : P = Q * Y) (e1 : U * 4294967296 + u1 = P + W) (hP2 : P2 = Q2 * Y) (e2 : W * 4294967296 + u0 = P2 + Rm) (bR : Rm < Y) :
 (hi * 18446744073709551616 + lo) / y = Q * 4294967296 + Q2 ∧ Rm = (hi * 18446744073709551616 + lo) % y * 2 ^ s := by
 have pw : 0 < 2 ^ s := Nat.pow_pos (by decide)
 have key : (hi * 18446744073709551616 + lo) * 2 ^ s = (Q * 4294967296 + Q2) * Y + Rm := by
  have a0 : hi * 18446744073709551616 * 2 ^ s = (hi * 2 ^ s) * 18446744073709551616 := Nat.mul_right_comm _ _ _
  have a2 : Q * 4294967296 * Y = P * 4294967296 := by rw [hP]; exact Nat.mul_right_comm _ _ _
  rw [Nat.add_mul, Nat.add_mul, elo, a0, a2, ← hP2]
  exact div_lin hU hu e1 e2
 obtain ⟨Nn, hN⟩ : ∃ Nn, Nn = hi * 18446744073709551616 + lo := ⟨_, rfl⟩
 obtain ⟨K, hK⟩ : ∃ K, K = Q * 4294967296 + Q2 := ⟨_, rfl⟩
 rw [← hN, ← hK] at key ⊢
 clear hP e1 hP2 e2 hU elo hu
 rw [hY, ← Nat.mul_assoc] at key
 have l1 : K * y * 2 ^ s ≤ Nn * 2 ^ s := by omega
 have l2 := Nat.le_of_mul_le_mul_right l1 pw
 obtain ⟨t, ht⟩ : ∃ t, Nn = K * y + t := ⟨Nn - K * y, by omega⟩
 rw [ht, Nat.add_mul] at key
 have l3 : Rm = t * 2 ^ s := by omega
 have l4 : t < y := Nat.lt_of_mul_lt_mul_right (a := 2 ^ s) (by rw [← l3, ← hY]; exact bR)
 have l6 : Nn / y = K := by
  rw [ht, Nat.mul_comm K y, Nat.mul_add_div (by omega), Nat.div_eq_of_lt l4, Nat.add_zero]
 have l7 : Nn % y = t := by
  have h7 := Nat.div_add_mod Nn y
  rw [l6, Nat.mul_comm] at h7
  omega
 exact ⟨l6, by rw [l7]; exact l3⟩
set_option maxHeartbeats 2000000 in
theorem div64_ok (hi lo y : Nat) (hlo : lo < 18446744073709551616) (hy : y < 18446744073709551616) (hhi : hi < y) :
 FnOk Tryz.prog 212 [.v (.int .u64 hi), .v (.int .u64 lo), .v (.int .u64 y)] [.v true (.int .u64 (((hi * 18446744073709551616 + lo) / y : Nat) : Int)), .v true (.int .u64 (((hi * 18446744073709551616 + lo) % y : Nat) : Int))] := by
 have y0 : ¬ (y : Int) = 0 := by omega
 by_cases h0 : hi = 0
 ·subst h0
  have hq := quoN lo y
  have hr := remN lo y
  rw [Nat.zero_mul, Nat.zero_add]
  have hdl : lo / y ≤ lo := Nat.div_le_self _ _
  have hw := wrapN (lo / y) (by omega)
  refine FnOk.of Tryz.func212 rfl rfl fun cx w0 => ?_
  rw [show Tryz.f212.ntmps = 135 from rfl]
  refine Holds.step (Px := px) (T := TT) (ρ := fun _ => []) TTe (by simp (maxSteps := 100000) (disch := omega) only [go_sem, V.isAgg, V.flat, ↓reduceIte, Nat.reduceAdd, Nat.reduceSub, Nat.reduceLT, Nat.reduceEqDiff, reduceCtorEq, Nat.reduceLeDiff, Nat.reduceBEq, Nat.reduceMul, Int.reduceToNat, List.length_cons, List.length_nil]; rfl) (by repeat' first | exact trivial | constructor) ?_
  refine Holds.next (fun σ => ∀ a w, Rel cx w0 σ a w → Rel cx w0 { nt := 135, env := [(0, .v true (.int .u64 0)), (1, .v true (.int .u64 lo)), (2, .v true (.int .u64 y))], mem := [] } a w) ?_ ?_
  ·refine Holds.step (Px := px) (T := TT) (ρ := fun _ => []) TTe (by simp (maxSteps := 100000) (disch := omega) only [go_sem, V.isAgg, V.flat, ↓reduceIte, Nat.reduceAdd, Nat.reduceSub, Nat.reduceLT, Nat.reduceEqDiff, reduceCtorEq, Nat.reduceLeDiff, Nat.reduceBEq, Nat.reduceMul, Int.reduceToNat, y0]; rfl) (by repeat' first | exact trivial | constructor) ?_
   exact Holds.condF rfl (Holds.skip fun a w h => Rel.keep [0, 1, 2] [] h)
  ·intro σ hσ
   refine Holds.from hσ ?_
   refine Holds.next (fun σ => ∀ a w, Rel cx w0 σ a w → Rel cx w0 { nt := 135, env := [(0, .v true (.int .u64 0)), (1, .v true (.int .u64 lo)), (2, .v true (.int .u64 y))], mem := [] } a w) ?_ ?_
   ·refine Holds.step (Px := px) (T := TT) (ρ := fun _ => []) TTe (by simp (maxSteps := 100000) (disch := omega) only [go_sem, V.isAgg, V.flat, ↓reduceIte, Nat.reduceAdd, Nat.reduceSub, Nat.reduceLT, Nat.reduceEqDiff, reduceCtorEq, Nat.reduceLeDiff, Nat.reduceBEq, Nat.reduceMul, Int.reduceToNat]; rfl) (by repeat' first | exact trivial | constructor) ?_
    exact Holds.condF rfl (Holds.skip fun a w h => Rel.keep [0, 1, 2] [] h)
   ·intro σ hσ
    refine Holds.from hσ ?_
    refine Holds.seq ?_
    refine Holds.step (Px := px) (T := TT) (ρ := fun _ => []) TTe (by simp (maxSteps := 100000) (disch := omega) only [go_sem, V.isAgg, V.flat, ↓reduceIte, Nat.reduceAdd, Nat.reduceSub, Nat.reduceLT, Nat.reduceEqDiff, reduceCtorEq, Nat.reduceLeDiff, Nat.reduceBEq, Nat.reduceMul, Int.reduceToNat]; rfl) (by repeat' first | exact trivial | constructor) ?_
    refine Holds.condT rfl ?_
    refine Holds.dstep (Px := px) (T := TT) (ρ := fun _ => []) [] mixed (by kernel_rfl) TTe (by simp (maxSteps := 100000) (disch := omega) only [go_sem, V.isAgg, V.flat, ↓reduceIte, Nat.reduceAdd, Nat.reduceSub, Nat.reduceLT, Nat.reduceEqDiff, reduceCtorEq, Nat.reduceLeDiff, Nat.reduceBEq, Nat.reduceMul, Int.reduceToNat, y0, hq, hr, hw]; rfl) (by repeat' first | exact trivial | constructor) (by rfl) (by rfl) (by rfl) ?_
    exact Holds.ret (RetOk.vs rfl (by exact ⟨⟨rfl, id⟩, ⟨rfl, id⟩, trivial⟩) rfl)
 ·have h0' : ¬ (hi : Int) = 0 := by omega
  obtain ⟨s, hs, es, hY63, hY64⟩ := norm64 hy (by omega)
  have hlz := lz64_ok y hy
  rw [es] at hlz
  obtain ⟨Y, hY⟩ : ∃ Y, Y = y * 2 ^ s := ⟨_, rfl⟩
  rw [← hY] at hY63 hY64
  obtain ⟨Y1, hY1⟩ : ∃ a, a = Y / 4294967296 := ⟨_, rfl⟩
  obtain ⟨Y0, hY0⟩ : ∃ a, a = Y % 4294967296 := ⟨_, rfl⟩
  have eY : Y = Y1 * 4294967296 + Y0 := by omega
  have pw : 0 < 2 ^ s := Nat.pow_pos (by decide)
  have pw2 : 2 ^ (64 - s) * 2 ^ s = 18446744073709551616 := by rw [← Nat.pow_add, show 64 - s + s = 64 from by omega]
  have b1 : hi * 2 ^ s + 2 ^ s ≤ Y := by
   rw [hY]
   have : (hi + 1) * 2 ^ s ≤ y * 2 ^ s := Nat.mul_le_mul_right _ hhi
   rw [Nat.add_mul, Nat.one_mul] at this
   exact this
  obtain ⟨L1, hL1⟩ : ∃ a, a = lo / 2 ^ (64 - s) := ⟨_, rfl⟩
  have bL1 : L1 < 2 ^ s := by
   rw [hL1]
   exact (Nat.div_lt_iff_lt_mul (Nat.pow_pos (by decide))).2 (by rw [Nat.mul_comm, pw2]; exact hlo)
  obtain ⟨U, hU⟩ : ∃ a, a = hi * 2 ^ s + L1 := ⟨_, rfl⟩
  obtain ⟨Lo, hLo⟩ : ∃ a, a = lo * 2 ^ s % 18446744073709551616 := ⟨_, rfl⟩
  obtain ⟨u1, hu1⟩ : ∃ a, a = Lo / 4294967296 := ⟨_, rfl⟩
  obtain ⟨u0, hu0⟩ : ∃ a, a = Lo % 4294967296 := ⟨_, rfl⟩
  have bU : U < Y := by omega
  have bLo : Lo < 18446744073709551616 := by rw [hLo]; exact Nat.mod_lt _ (by decide)
  have elo : lo * 2 ^ s = L1 * 18446744073709551616 + Lo := by
   rw [hLo, hL1, ← pw2, Nat.mul_comm (2 ^ (64 - s)) (2 ^ s)]
   have h1 := Nat.mod_add_div (lo * 2 ^ s) (2 ^ s * 2 ^ (64 - s))
   rw [show lo * 2 ^ s / (2 ^ s * 2 ^ (64 - s)) = lo / 2 ^ (64 - s) from by rw [Nat.mul_comm lo, Nat.mul_div_mul_left _ _ pw]] at h1
   rw [Nat.mul_comm (lo / 2 ^ (64 - s)), Nat.add_comm]
   exact h1.symm
  have bY1 : 2147483648 ≤ Y1 ∧ Y1 < 4294967296 := by omega
  have bY0 : Y0 < 4294967296 := by omega
  have bu1 : u1 < 4294967296 := by omega
  have bu0 : u0 < 4294967296 := by omega
  have eLo : Lo = u1 * 4294967296 + u0 := by omega
  have w1 := shlN y s hs
  rw [← hY, Nat.mod_eq_of_lt hY64] at w1
  have w2 := shrG Y 32 (by decide)
  rw [show Y / 2 ^ 32 = Y1 from by omega] at w2
  have w3 := maskN Y hY64
  rw [← hY0] at w3
  have w4 := shlN hi s hs
  rw [Nat.mod_eq_of_lt (show hi * 2 ^ s < 18446744073709551616 by omega)] at w4
  have w5 : IntKind.u64.wrap ((64 : Int) - (s : Int)) = ((64 - s : Nat) : Int) := by rw [wrap_u64]; omega
  have w6 := shrG lo (64 - s) (by omega)
  rw [← hL1] at w6
  have w7 := orN hi L1 s bL1 (by omega)
  rw [← hU] at w7
  have w8 := shlN lo s hs
  rw [← hLo] at w8
  have w9 := shrG Lo 32 (by decide)
  rw [show Lo / 2 ^ 32 = u1 from by omega] at w9
  have w10 := maskN Lo bLo
  rw [← hu0] at w10
  have Y1n : ¬ (Y1 : Int) = 0 := by omega
  have w11 := quoN U Y1
  have bq1 := digit_first (U := U) (u := u1) (Y1 := Y1) (Y0 := Y0) (by omega) (by omega) (by omega) (by omega)
  have eq1 : U / Y1 * Y1 + U % Y1 = U := by rw [Nat.mul_comm]; exact Nat.div_add_mod U Y1
  have br1 : U % Y1 < Y1 := Nat.mod_lt _ (by omega)
  obtain ⟨q, hq⟩ : ∃ a, a = U / Y1 := ⟨_, rfl⟩
  obtain ⟨r, hr⟩ : ∃ a, a = U % Y1 := ⟨_, rfl⟩
  rw [← hq] at w11 bq1 eq1
  rw [← hr] at eq1 br1
  obtain ⟨Q, hQ⟩ : ∃ a, a = (U * 4294967296 + u1) / (Y1 * 4294967296 + Y0) := ⟨_, rfl⟩
  rw [← hQ] at bq1
  have w12 := wrapN q (by omega)
  have w13 := mulN q Y1
  have w14 := wrapN (q * Y1) (by omega)
  have w15 : IntKind.u64.wrap ((U : Int) - ((q * Y1 : Nat) : Int)) = (r : Int) := by rw [wrap_u64]; omega
  refine FnOk.of Tryz.func212 rfl rfl fun cx w0 => ?_
  rw [show Tryz.f212.ntmps = 135 from rfl]
  refine Holds.step (Px := px) (T := TT) (ρ := fun _ => []) TTe (by simp (maxSteps := 100000) (disch := omega) only [go_sem, V.isAgg, V.flat, ↓reduceIte, Nat.reduceAdd, Nat.reduceSub, Nat.reduceLT, Nat.reduceEqDiff, reduceCtorEq, Nat.reduceLeDiff, Nat.reduceBEq, Nat.reduceMul, Int.reduceToNat, List.length_cons, List.length_nil]; rfl) (by repeat' first | exact trivial | constructor) ?_
  refine Holds.next (fun σ => ∀ a w, Rel cx w0 σ a w → Rel cx w0 { nt := 135, env := [(0, .v true (.int .u64 hi)), (1, .v true (.int .u64 lo)), (2, .v true (.int .u64 y))], mem := [] } a w) ?_ ?_
  ·refine Holds.step (Px := px) (T := TT) (ρ := fun _ => []) TTe (by simp (maxSteps := 100000) (disch := omega) only [go_sem, V.isAgg, V.flat, ↓reduceIte, Nat.reduceAdd, Nat.reduceSub, Nat.reduceLT, Nat.reduceEqDiff, reduceCtorEq, Nat.reduceLeDiff, Nat.reduceBEq, Nat.reduceMul, Int.reduceToNat, y0]; rfl) (by repeat' first | exact trivial | constructor) ?_
   exact Holds.condF rfl (Holds.skip fun a w h => Rel.keep [0, 1, 2] [] h)
  ·intro σ hσ
   refine Holds.from hσ ?_
   refine Holds.next (fun σ => ∀ a w, Rel cx w0 σ a w → Rel cx w0 { nt := 135, env := [(0, .v true (.int .u64 hi)), (1, .v true (.int .u64 lo)), (2, .v true (.int .u64 y))], mem := [] } a w) ?_ ?_
   ·refine Holds.step (Px := px) (T := TT) (ρ := fun _ => []) TTe (by simp (maxSteps := 100000) (disch := omega) only [go_sem, V.isAgg, V.flat, ↓reduceIte, Nat.reduceAdd, Nat.reduceSub, Nat.reduceLT, Nat.reduceEqDiff, reduceCtorEq, Nat.reduceLeDiff, Nat.reduceBEq, Nat.reduceMul, Int.reduceToNat]; rfl) (by repeat' first | exact trivial | constructor) ?_
    exact Holds.condF rfl (Holds.skip fun a w h => Rel.keep [0, 1, 2] [] h)
   ·intro σ hσ
    refine Holds.from hσ ?_
    refine Holds.next (fun σ => ∀ a w, Rel cx w0 σ a w → Rel cx w0 { nt := 135, env := [(0, .v true (.int .u64 hi)), (1, .v true (.int .u64 lo)), (2, .v true (.int .u64 y))], mem := [] } a w) ?_ ?_
    ·refine Holds.step (Px := px) (T := TT) (ρ := fun _ => []) TTe (by simp (maxSteps := 100000) (disch := omega) only [go_sem, V.isAgg, V.flat, ↓reduceIte, Nat.reduceAdd, Nat.reduceSub, Nat.reduceLT, Nat.reduceEqDiff, reduceCtorEq, Nat.reduceLeDiff, Nat.reduceBEq, Nat.reduceMul, Int.reduceToNat, h0']; rfl) (by repeat' first | exact trivial | constructor) ?_
     exact Holds.condF rfl (Holds.skip fun a w h => Rel.keep [0, 1, 2] [] h)
    ·intro σ hσ
     refine Holds.from hσ ?_
     have ikd31 : ikd Tryz.prog 181 = some .u64 := by kernel_rfl
     have ikd3 : ikd Tryz.prog 3 = some .i64 := by kernel_rfl
     have und3 : (Tryz.prog.underlying 3).isSome = true := by kernel_rfl
     have und31 : (Tryz.prog.underlying 181).isSome = true := by kernel_rfl
     have ws := wrapN s (by omega)
     refine Holds.step (Px := px) (T := TT) (ρ := fun _ => [.v true (.int .i64 s)]) TTe (by simp (maxSteps := 100000) (disch := omega) only [go_sem, V.isAgg, V.flat, ↓reduceIte, Nat.reduceAdd, Nat.reduceSub, Nat.reduceLT, Nat.reduceEqDiff, reduceCtorEq, Nat.reduceLeDiff, Nat.reduceBEq, Nat.reduceMul, Int.reduceToNat, ikd31, ikd3, und3, und31, ws]; rfl) (by first | exact hlz | (repeat' first | exact trivial | exact hlz | constructor)) ?_
     refine Holds.step (Px := px) (T := TT) (ρ := fun _ => []) TTe (by simp (maxSteps := 100000) (disch := omega) only [go_sem, V.isAgg, V.flat, ↓reduceIte, Nat.reduceAdd, Nat.reduceSub, Nat.reduceLT, Nat.reduceEqDiff, reduceCtorEq, Nat.reduceLeDiff, Nat.reduceBEq, Nat.reduceMul, Int.reduceToNat, w1]; rfl) (by repeat' first | exact trivial | constructor) ?_
     refine Holds.step (Px := px) (T := TT) (ρ := fun _ => []) TTe (by simp (maxSteps := 100000) (disch := omega) only [go_sem, V.isAgg, V.flat, ↓reduceIte, Nat.reduceAdd, Nat.reduceSub, Nat.reduceLT, Nat.reduceEqDiff, reduceCtorEq, Nat.reduceLeDiff, Nat.reduceBEq, Nat.reduceMul, Int.reduceToNat, w2]; rfl) (by repeat' first | exact trivial | constructor) ?_
     refine Holds.step (Px := px) (T := TT) (ρ := fun _ => []) TTe (by simp (maxSteps := 100000) (disch := omega) only [go_sem, V.isAgg, V.flat, ↓reduceIte, Nat.reduceAdd, Nat.reduceSub, Nat.reduceLT, Nat.reduceEqDiff, reduceCtorEq, Nat.reduceLeDiff, Nat.reduceBEq, Nat.reduceMul, Int.reduceToNat, w3]; rfl) (by repeat' first | exact trivial | constructor) ?_
     refine Holds.step (Px := px) (T := TT) (ρ := fun _ => []) TTe (by simp (maxSteps := 100000) (disch := omega) only [go_sem, V.isAgg, V.flat, ↓reduceIte, Nat.reduceAdd, Nat.reduceSub, Nat.reduceLT, Nat.reduceEqDiff, reduceCtorEq, Nat.reduceLeDiff, Nat.reduceBEq, Nat.reduceMul, Int.reduceToNat, w4, w5, w6, w7]; rfl) (by repeat' first | exact trivial | constructor) ?_
     refine Holds.step (Px := px) (T := TT) (ρ := fun _ => []) TTe (by simp (maxSteps := 100000) (disch := omega) only [go_sem, V.isAgg, V.flat, ↓reduceIte, Nat.reduceAdd, Nat.reduceSub, Nat.reduceLT, Nat.reduceEqDiff, reduceCtorEq, Nat.reduceLeDiff, Nat.reduceBEq, Nat.reduceMul, Int.reduceToNat, w8]; rfl) (by repeat' first | exact trivial | constructor) ?_
     refine Holds.step (Px := px) (T := TT) (ρ := fun _ => []) TTe (by simp (maxSteps := 100000) (disch := omega) only [go_sem, V.isAgg, V.flat, ↓reduceIte, Nat.reduceAdd, Nat.reduceSub, Nat.reduceLT, Nat.reduceEqDiff, reduceCtorEq, Nat.reduceLeDiff, Nat.reduceBEq, Nat.reduceMul, Int.reduceToNat, w9]; rfl) (by repeat' first | exact trivial | constructor) ?_
     refine Holds.step (Px := px) (T := TT) (ρ := fun _ => []) TTe (by simp (maxSteps := 100000) (disch := omega) only [go_sem, V.isAgg, V.flat, ↓reduceIte, Nat.reduceAdd, Nat.reduceSub, Nat.reduceLT, Nat.reduceEqDiff, reduceCtorEq, Nat.reduceLeDiff, Nat.reduceBEq, Nat.reduceMul, Int.reduceToNat, w10]; rfl) (by repeat' first | exact trivial | constructor) ?_
     refine Holds.step (Px := px) (T := TT) (ρ := fun _ => []) TTe (by simp (maxSteps := 100000) (disch := omega) only [go_sem, V.isAgg, V.flat, ↓reduceIte, Nat.reduceAdd, Nat.reduceSub, Nat.reduceLT, Nat.reduceEqDiff, reduceCtorEq, Nat.reduceLeDiff, Nat.reduceBEq, Nat.reduceMul, Int.reduceToNat, Y1n, w11, w12]; rfl) (by repeat' first | exact trivial | constructor) ?_
     refine Holds.step (Px := px) (T := TT) (ρ := fun _ => []) TTe (by simp (maxSteps := 100000) (disch := omega) only [go_sem, V.isAgg, V.flat, ↓reduceIte, Nat.reduceAdd, Nat.reduceSub, Nat.reduceLT, Nat.reduceEqDiff, reduceCtorEq, Nat.reduceLeDiff, Nat.reduceBEq, Nat.reduceMul, Int.reduceToNat, w13, w14, w15]; rfl) (by repeat' first | exact trivial | constructor) ?_
     refine Holds.next (fun σ => ∀ a w, Rel cx w0 σ a w → Rel cx w0 { nt := 135, env := [(15, .v true (.int .u64 Q)), (9, .v true (.int .u64 Y1)), (10, .v true (.int .u64 Y0)), (13, .v true (.int .u64 u1)), (14, .v true (.int .u64 u0)), (11, .v true (.int .u64 U)), (2, .v true (.int .u64 Y)), (8, .v true (.int .u64 s))], mem := [] } a w) ?_ ?_
     ·clear w1 w2 w3 w4 w5 w6 w7 w8 w9 w10 w11 w12 w13 w14 w15 ws hlz hlo es eLo elo hLo hL1 hu1 hu0 hU pw pw2 b1 bL1 bLo hY hY1 hY0 hY63 hY64 eY bU ikd3 ikd31 und3 und31 y0 h0 h0' hy hhi bu0 hs Y1n
      refine Holds.loopB (fun i : Nat × Nat => { nt := 135, env := [(15, .v true (.int .u64 i.1)), (16, .v true (.int .u64 i.2)), (9, .v true (.int .u64 Y1)), (10, .v true (.int .u64 Y0)), (13, .v true (.int .u64 u1)), (14, .v true (.int .u64 u0)), (11, .v true (.int .u64 U)), (2, .v true (.int .u64 Y)), (8, .v true (.int .u64 s))], mem := [] }) (fun i => i.1 * Y1 + i.2 = U ∧ Q ≤ i.1 ∧ i.1 ≤ 4294967297 ∧ i.2 < 4294967296) (fun i => i.1) (q, r) ⟨eq1, bq1.1, bq1.2.1, by show r < _; omega⟩ (fun a w h => Rel.keep [15, 16, 9, 10, 13, 14, 11, 2, 8] [] h) ?_
      rintro ⟨q, r⟩ ⟨i1, i2, i3, i4⟩
      simp only at i1 i2 i3 i4
      by_cases hc : 4294967296 ≤ q ∨ r * 4294967296 + u1 < q * Y0
      ·obtain ⟨c1, c2⟩ := digit_less (by omega) hQ bq1.2.2 (by omega) i1 hc
       refine Holds.next (fun σ => ∀ a w, Rel cx w0 σ a w → Rel cx w0 { nt := 135, env := [(15, .v true (.int .u64 q)), (16, .v true (.int .u64 r)), (9, .v true (.int .u64 Y1)), (10, .v true (.int .u64 Y0)), (13, .v true (.int .u64 u1)), (14, .v true (.int .u64 u0)), (11, .v true (.int .u64 U)), (2, .v true (.int .u64 Y)), (8, .v true (.int .u64 s))], mem := [] } a w) ?_ ?_
       ·have g0 : ∀ h : 4294967296 ≤ q, decide ((4294967296 : Int) ≤ (q : Int)) = true := fun h => decide_eq_true (by omega)
        by_cases hq1 : 4294967296 ≤ q
        ·refine Holds.step (Px := px) (T := TT) (ρ := fun _ => []) TTe (by simp (maxSteps := 100000) (disch := omega) only [go_sem, V.isAgg, V.flat, ↓reduceIte, Nat.reduceAdd, Nat.reduceSub, Nat.reduceLT, Nat.reduceEqDiff, reduceCtorEq, Nat.reduceLeDiff, Nat.reduceBEq, Nat.reduceMul, Int.reduceToNat, hq1]; rfl) (by repeat' first | exact trivial | constructor) ?_
         exact Holds.condT rfl (Holds.skip fun a w h => Rel.keep [15, 16, 9, 10, 13, 14, 11, 2, 8] [] h)
        ·have hc' : r * 4294967296 + u1 < q * Y0 := by omega
         have m1 := mul_small (q := q) (Y0 := Y0) (by omega) (by omega)
         have x1 := mulN q Y0
         obtain ⟨m, hm⟩ : ∃ m, m = q * Y0 := ⟨_, rfl⟩
         rw [← hm] at m1 hc' x1
         have x2 := wrapN m (by omega)
         have x3 : IntKind.u64.wrap ((4294967296 : Int) * (r : Int)) = ((4294967296 * r : Nat) : Int) := by rw [wrap_u64]; omega
         have x4 : IntKind.u64.wrap (((4294967296 * r : Nat) : Int) + (u1 : Int)) = ((4294967296 * r + u1 : Nat) : Int) := by rw [wrap_u64]; omega
         have x5 : ((4294967296 * r + u1 : Nat) : Int) < (m : Int) := by omega
         have x6 : ¬ (4294967296 : Int) ≤ (q : Int) := by omega
         refine Holds.step (Px := px) (T := TT) (ρ := fun _ => []) TTe (by simp (maxSteps := 100000) (disch := omega) only [go_sem, V.isAgg, V.flat, ↓reduceIte, Nat.reduceAdd, Nat.reduceSub, Nat.reduceLT, Nat.reduceEqDiff, reduceCtorEq, Nat.reduceLeDiff, Nat.reduceBEq, Nat.reduceMul, Int.reduceToNat, x1, x2, x3, x4, x5, x6]; rfl) (by repeat' first | exact trivial | constructor) ?_
         exact Holds.condT rfl (Holds.skip fun a w h => Rel.keep [15, 16, 9, 10, 13, 14, 11, 2, 8] [] h)
       ·intro σ hσ
        refine Holds.from hσ ?_
        refine Holds.block ?_
        have y1 : IntKind.u64.wrap ((q : Int) - 1) = ((q - 1 : Nat) : Int) := by rw [wrap_u64]; omega
        have y2 : IntKind.u64.wrap ((r : Int) + (Y1 : Int)) = ((r + Y1 : Nat) : Int) := by rw [wrap_u64]; omega
        refine Holds.step (Px := px) (T := TT) (ρ := fun _ => []) TTe (by simp (maxSteps := 100000) (disch := omega) only [go_sem, V.isAgg, V.flat, ↓reduceIte, Nat.reduceAdd, Nat.reduceSub, Nat.reduceLT, Nat.reduceEqDiff, reduceCtorEq, Nat.reduceLeDiff, Nat.reduceBEq, Nat.reduceMul, Int.reduceToNat, y1]; rfl) (by repeat' first | exact trivial | constructor) ?_
        refine Holds.step (Px := px) (T := TT) (ρ := fun _ => []) TTe (by simp (maxSteps := 100000) (disch := omega) only [go_sem, V.isAgg, V.flat, ↓reduceIte, Nat.reduceAdd, Nat.reduceSub, Nat.reduceLT, Nat.reduceEqDiff, reduceCtorEq, Nat.reduceLeDiff, Nat.reduceBEq, Nat.reduceMul, Int.reduceToNat, y2]; rfl) (by repeat' first | exact trivial | constructor) ?_
        by_cases hb : 4294967296 ≤ r + Y1
        ·have hb' : (4294967296 : Int) ≤ ((r + Y1 : Nat) : Int) := by omega
         have m1 := mul_small (q := q - 1) (Y0 := Y0) (by omega) (by omega)
         have hd := digit_done (q := q - 1) (r := r + Y1) hQ (by omega) c2 (by omega) (by omega)
         refine Holds.step (Px := px) (T := TT) (ρ := fun _ => []) TTe (by simp (maxSteps := 100000) (disch := omega) only [go_sem, V.isAgg, V.flat, ↓reduceIte, Nat.reduceAdd, Nat.reduceSub, Nat.reduceLT, Nat.reduceEqDiff, reduceCtorEq, Nat.reduceLeDiff, Nat.reduceBEq, Nat.reduceMul, Int.reduceToNat, hb']; rfl) (by repeat' first | exact trivial | constructor) ?_
         refine Holds.condT rfl (Holds.exit (blockQ_other (by decide) ⟨rfl, fun a w h => ?_⟩))
         rw [← hd]
         exact Rel.keep [15, 9, 10, 13, 14, 11, 2, 8] [] h
        ·have hb' : ¬ (4294967296 : Int) ≤ ((r + Y1 : Nat) : Int) := by omega
         refine Holds.step (Px := px) (T := TT) (ρ := fun _ => []) TTe (by simp (maxSteps := 100000) (disch := omega) only [go_sem, V.isAgg, V.flat, ↓reduceIte, Nat.reduceAdd, Nat.reduceSub, Nat.reduceLT, Nat.reduceEqDiff, reduceCtorEq, Nat.reduceLeDiff, Nat.reduceBEq, Nat.reduceMul, Int.reduceToNat, hb']; rfl) (by repeat' first | exact trivial | constructor) ?_
         refine Holds.condF rfl (Holds.skip ?_)
         exact ⟨(q - 1, r + Y1), ⟨c2, by show Q ≤ q - 1; omega, by show q - 1 ≤ _; omega, by show r + Y1 < _; omega⟩, (show q - 1 < q by omega), fun a w h => Rel.keep [15, 16, 9, 10, 13, 14, 11, 2, 8] [] h⟩
      ·have hq1 : q < 4294967296 := by omega
       have hc' : q * Y0 ≤ r * 4294967296 + u1 := by omega
       have hd := digit_done hQ (by omega) i1 i2 hc'
       have m1 := mul_small (q := q) (Y0 := Y0) (by omega) (by omega)
       have x1 := mulN q Y0
       obtain ⟨m, hm⟩ : ∃ m, m = q * Y0 := ⟨_, rfl⟩
       rw [← hm] at m1 hc' x1
       have x2 := wrapN m (by omega)
       have x3 : IntKind.u64.wrap ((4294967296 : Int) * (r : Int)) = ((4294967296 * r : Nat) : Int) := by rw [wrap_u64]; omega
       have x4 : IntKind.u64.wrap (((4294967296 * r : Nat) : Int) + (u1 : Int)) = ((4294967296 * r + u1 : Nat) : Int) := by rw [wrap_u64]; omega
       have x5 : ¬ ((4294967296 * r + u1 : Nat) : Int) < (m : Int) := by omega
       have x6 : ¬ (4294967296 : Int) ≤ (q : Int) := by omega
       refine Holds.seq ?_
       refine Holds.step (Px := px) (T := TT) (ρ := fun _ => []) TTe (by simp (maxSteps := 100000) (disch := omega) only [go_sem, V.isAgg, V.flat, ↓reduceIte, Nat.reduceAdd, Nat.reduceSub, Nat.reduceLT, Nat.reduceEqDiff, reduceCtorEq, Nat.reduceLeDiff, Nat.reduceBEq, Nat.reduceMul, Int.reduceToNat, x1, x2, x3, x4, x5, x6]; rfl) (by repeat' first | exact trivial | constructor) ?_
       refine Holds.condF rfl (Holds.exit ⟨rfl, fun a w h => ?_⟩)
       rw [← hd]
       exact Rel.keep [15, 9, 10, 13, 14, 11, 2, 8] [] h
     ·intro σ hσ
      refine Holds.from hσ ?_
      clear w1 w2 w3 w4 w5 w6 w7 w8 w9 w10 w11 w12 w13 w14 w15 ws hlz es ikd3 ikd31 und3 und31 y0 h0 h0' eq1 br1 hq hr
      have eT := Nat.div_add_mod (U * 4294967296 + u1) (Y1 * 4294967296 + Y0)
      rw [← hQ, ← eY] at eT
      have bT : (U * 4294967296 + u1) % Y < Y := Nat.mod_lt _ (by omega)
      obtain ⟨W, hW⟩ : ∃ W, W = (U * 4294967296 + u1) % Y := ⟨_, rfl⟩
      rw [← hW] at eT bT
      have z1 := mulN Q Y
      have eT' : U * 4294967296 + u1 = Q * Y + W := by rw [Nat.mul_comm Q Y]; exact eT.symm
      obtain ⟨P, hP⟩ : ∃ P, P = Q * Y := ⟨_, rfl⟩
      rw [← hP] at z1 eT'
      have z2 : IntKind.u64.wrap ((U : Int) * 4294967296) = ((U * 4294967296 % 18446744073709551616 : Nat) : Int) := by rw [wrap_u64]; omega
      have z3 : IntKind.u64.wrap (((U * 4294967296 % 18446744073709551616 : Nat) : Int) + (u1 : Int)) = (((P + W) % 18446744073709551616 : Nat) : Int) := by rw [wrap_u64]; omega
      have z4 := wrapM P
      have z5 : IntKind.u64.wrap ((((P + W) % 18446744073709551616 : Nat) : Int) - ((P % 18446744073709551616 : Nat) : Int)) = (W : Int) := by rw [wrap_u64]; omega
      have w16 := quoN W Y1
      have bq2 := digit_first (U := W) (u := u0) (Y1 := Y1) (Y0 := Y0) (by omega) (by omega) (by omega) (by omega)
      have eq2 : W / Y1 * Y1 + W % Y1 = W := by rw [Nat.mul_comm]; exact Nat.div_add_mod W Y1
      have br2 : W % Y1 < Y1 := Nat.mod_lt _ (by omega)
      obtain ⟨q, hq⟩ : ∃ a, a = W / Y1 := ⟨_, rfl⟩
      obtain ⟨r, hr⟩ : ∃ a, a = W % Y1 := ⟨_, rfl⟩
      rw [← hq] at w16 bq2 eq2
      rw [← hr] at eq2 br2
      obtain ⟨Q2, hQ2⟩ : ∃ a, a = (W * 4294967296 + u0) / (Y1 * 4294967296 + Y0) := ⟨_, rfl⟩
      rw [← hQ2] at bq2
      have w17 := wrapN q (by omega)
      have w18 := mulN q Y1
      have w19 := wrapN (q * Y1) (by omega)
      have w20 : IntKind.u64.wrap ((W : Int) - ((q * Y1 : Nat) : Int)) = (r : Int) := by rw [wrap_u64]; omega
      refine Holds.step (Px := px) (T := TT) (ρ := fun _ => []) TTe (by simp (maxSteps := 100000) (disch := omega) only [go_sem, V.isAgg, V.flat, ↓reduceIte, Nat.reduceAdd, Nat.reduceSub, Nat.reduceLT, Nat.reduceEqDiff, reduceCtorEq, Nat.reduceLeDiff, Nat.reduceBEq, Nat.reduceMul, Int.reduceToNat, z1, z2, z3, z4, z5]; rfl) (by repeat' first | exact trivial | constructor) ?_
      refine Holds.step (Px := px) (T := TT) (ρ := fun _ => []) TTe (by simp (maxSteps := 100000) (disch := omega) only [go_sem, V.isAgg, V.flat, ↓reduceIte, Nat.reduceAdd, Nat.reduceSub, Nat.reduceLT, Nat.reduceEqDiff, reduceCtorEq, Nat.reduceLeDiff, Nat.reduceBEq, Nat.reduceMul, Int.reduceToNat, Y1n, w16, w17]; rfl) (by repeat' first | exact trivial | constructor) ?_
      refine Holds.step (Px := px) (T := TT) (ρ := fun _ => []) TTe (by simp (maxSteps := 100000) (disch := omega) only [go_sem, V.isAgg, V.flat, ↓reduceIte, Nat.reduceAdd, Nat.reduceSub, Nat.reduceLT, Nat.reduceEqDiff, reduceCtorEq, Nat.reduceLeDiff, Nat.reduceBEq, Nat.reduceMul, Int.reduceToNat, w18, w19, w20]; rfl) (by repeat' first | exact trivial | constructor) ?_
      refine Holds.next (fun σ => ∀ a w, Rel cx w0 σ a w → Rel cx w0 { nt := 135, env := [(18, .v true (.int .u64 Q2)), (17, .v true (.int .u64 W)), (15, .v true (.int .u64 Q)), (14, .v true (.int .u64 u0)), (2, .v true (.int .u64 Y)), (8, .v true (.int .u64 s))], mem := [] } a w) ?_ ?_
      ·clear w16 w17 w18 w19 w20 z1 z2 z3 z4 z5 eT eT' hP hW bT hlo eLo elo hLo hL1 hu1 hu0 hU pw pw2 b1 bL1 bLo hY hY1 hY0 hY63 hY64 eY bU bu1 hs Y1n hy hhi hQ bq1
       refine Holds.loopB (fun i : Nat × Nat => { nt := 135, env := [(18, .v true (.int .u64 i.1)), (16, .v true (.int .u64 i.2)), (17, .v true (.int .u64 W)), (15, .v true (.int .u64 Q)), (9, .v true (.int .u64 Y1)), (10, .v true (.int .u64 Y0)), (14, .v true (.int .u64 u0)), (2, .v true (.int .u64 Y)), (8, .v true (.int .u64 s))], mem := [] }) (fun i => i.1 * Y1 + i.2 = W ∧ Q2 ≤ i.1 ∧ i.1 ≤ 4294967297 ∧ i.2 < 4294967296) (fun i => i.1) (q, r) ⟨eq2, bq2.1, bq2.2.1, by show r < _; omega⟩ (fun a w h => Rel.keep [18, 16, 17, 15, 9, 10, 14, 2, 8] [] h) ?_
       rintro ⟨q, r⟩ ⟨i1, i2, i3, i4⟩
       simp only at i1 i2 i3 i4
       by_cases hc : 4294967296 ≤ q ∨ r * 4294967296 + u0 < q * Y0
       ·obtain ⟨c1, c2⟩ := digit_less (by omega) hQ2 bq2.2.2 (by omega) i1 hc
        refine Holds.next (fun σ => ∀ a w, Rel cx w0 σ a w → Rel cx w0 { nt := 135, env := [(18, .v true (.int .u64 q)), (16, .v true (.int .u64 r)), (17, .v true (.int .u64 W)), (15, .v true (.int .u64 Q)), (9, .v true (.int .u64 Y1)), (10, .v true (.int .u64 Y0)), (14, .v true (.int .u64 u0)), (2, .v true (.int .u64 Y)), (8, .v true (.int .u64 s))], mem := [] } a w) ?_ ?_
        ·by_cases hq1 : 4294967296 ≤ q
         ·refine Holds.step (Px := px) (T := TT) (ρ := fun _ => []) TTe (by simp (maxSteps := 100000) (disch := omega) only [go_sem, V.isAgg, V.flat, ↓reduceIte, Nat.reduceAdd, Nat.reduceSub, Nat.reduceLT, Nat.reduceEqDiff, reduceCtorEq, Nat.reduceLeDiff, Nat.reduceBEq, Nat.reduceMul, Int.reduceToNat, hq1]; rfl) (by repeat' first | exact trivial | constructor) ?_
          exact Holds.condT rfl (Holds.skip fun a w h => Rel.keep [18, 16, 17, 15, 9, 10, 14, 2, 8] [] h)
         ·have hc' : r * 4294967296 + u0 < q * Y0 := by omega
          have m1 := mul_small (q := q) (Y0 := Y0) (by omega) (by omega)
          have x1 := mulN q Y0
          obtain ⟨m, hm⟩ : ∃ m, m = q * Y0 := ⟨_, rfl⟩
          rw [← hm] at m1 hc' x1
          have x2 := wrapN m (by omega)
          have x3 : IntKind.u64.wrap ((4294967296 : Int) * (r : Int)) = ((4294967296 * r : Nat) : Int) := by rw [wrap_u64]; omega
          have x4 : IntKind.u64.wrap (((4294967296 * r : Nat) : Int) + (u0 : Int)) = ((4294967296 * r + u0 : Nat) : Int) := by rw [wrap_u64]; omega
          have x5 : ((4294967296 * r + u0 : Nat) : Int) < (m : Int) := by omega
          have x6 : ¬ (4294967296 : Int) ≤ (q : Int) := by omega
          refine Holds.step (Px := px) (T := TT) (ρ := fun _ => []) TTe (by simp (maxSteps := 100000) (disch := omega) only [go_sem, V.isAgg, V.flat, ↓reduceIte, Nat.reduceAdd, Nat.reduceSub, Nat.reduceLT, Nat.reduceEqDiff, reduceCtorEq, Nat.reduceLeDiff, Nat.reduceBEq, Nat.reduceMul, Int.reduceToNat, x1, x2, x3, x4, x5, x6]; rfl) (by repeat' first | exact trivial | constructor) ?_
          exact Holds.condT rfl (Holds.skip fun a w h => Rel.keep [18, 16, 17, 15, 9, 10, 14, 2, 8] [] h)
        ·intro σ hσ
         refine Holds.from hσ ?_
         refine Holds.block ?_
         have y1 : IntKind.u64.wrap ((q : Int) - 1) = ((q - 1 : Nat) : Int) := by rw [wrap_u64]; omega
         have y2 : IntKind.u64.wrap ((r : Int) + (Y1 : Int)) = ((r + Y1 : Nat) : Int) := by rw [wrap_u64]; omega
         refine Holds.step (Px := px) (T := TT) (ρ := fun _ => []) TTe (by simp (maxSteps := 100000) (disch := omega) only [go_sem, V.isAgg, V.flat, ↓reduceIte, Nat.reduceAdd, Nat.reduceSub, Nat.reduceLT, Nat.reduceEqDiff, reduceCtorEq, Nat.reduceLeDiff, Nat.reduceBEq, Nat.reduceMul, Int.reduceToNat, y1]; rfl) (by repeat' first | exact trivial | constructor) ?_
         refine Holds.step (Px := px) (T := TT) (ρ := fun _ => []) TTe (by simp (maxSteps := 100000) (disch := omega) only [go_sem, V.isAgg, V.flat, ↓reduceIte, Nat.reduceAdd, Nat.reduceSub, Nat.reduceLT, Nat.reduceEqDiff, reduceCtorEq, Nat.reduceLeDiff, Nat.reduceBEq, Nat.reduceMul, Int.reduceToNat, y2]; rfl) (by repeat' first | exact trivial | constructor) ?_
         by_cases hb : 4294967296 ≤ r + Y1
         ·have hb' : (4294967296 : Int) ≤ ((r + Y1 : Nat) : Int) := by omega
          have m1 := mul_small (q := q - 1) (Y0 := Y0) (by omega) (by omega)
          have hd := digit_done (q := q - 1) (r := r + Y1) hQ2 (by omega) c2 (by omega) (by omega)
          refine Holds.step (Px := px) (T := TT) (ρ := fun _ => []) TTe (by simp (maxSteps := 100000) (disch := omega) only [go_sem, V.isAgg, V.flat, ↓reduceIte, Nat.reduceAdd, Nat.reduceSub, Nat.reduceLT, Nat.reduceEqDiff, reduceCtorEq, Nat.reduceLeDiff, Nat.reduceBEq, Nat.reduceMul, Int.reduceToNat, hb']; rfl) (by repeat' first | exact trivial | constructor) ?_
          refine Holds.condT rfl (Holds.exit (blockQ_other (by decide) ⟨rfl, fun a w h => ?_⟩))
          rw [← hd]
          exact Rel.keep [18, 17, 15, 14, 2, 8] [] h
         ·have hb' : ¬ (4294967296 : Int) ≤ ((r + Y1 : Nat) : Int) := by omega
          refine Holds.step (Px := px) (T := TT) (ρ := fun _ => []) TTe (by simp (maxSteps := 100000) (disch := omega) only [go_sem, V.isAgg, V.flat, ↓reduceIte, Nat.reduceAdd, Nat.reduceSub, Nat.reduceLT, Nat.reduceEqDiff, reduceCtorEq, Nat.reduceLeDiff, Nat.reduceBEq, Nat.reduceMul, Int.reduceToNat, hb']; rfl) (by repeat' first | exact trivial | constructor) ?_
          refine Holds.condF rfl (Holds.skip ?_)
          exact ⟨(q - 1, r + Y1), ⟨c2, by show Q2 ≤ q - 1; omega, by show q - 1 ≤ _; omega, by show r + Y1 < _; omega⟩, (show q - 1 < q by omega), fun a w h => Rel.keep [18, 16, 17, 15, 9, 10, 14, 2, 8] [] h⟩
       ·have hq1 : q < 4294967296 := by omega
        have hc' : q * Y0 ≤ r * 4294967296 + u0 := by omega
        have hd := digit_done hQ2 (by omega) i1 i2 hc'
        have m1 := mul_small (q := q) (Y0 := Y0) (by omega) (by omega)
        have x1 := mulN q Y0
        obtain ⟨m, hm⟩ : ∃ m, m = q * Y0 := ⟨_, rfl⟩
        rw [← hm] at m1 hc' x1
        have x2 := wrapN m (by omega)
        have x3 : IntKind.u64.wrap ((4294967296 : Int) * (r : Int)) = ((4294967296 * r : Nat) : Int) := by rw [wrap_u64]; omega
        have x4 : IntKind.u64.wrap (((4294967296 * r : Nat) : Int) + (u0 : Int)) = ((4294967296 * r + u0 : Nat) : Int) := by rw [wrap_u64]; omega
        have x5 : ¬ ((4294967296 * r + u0 : Nat) : Int) < (m : Int) := by omega
        have x6 : ¬ (4294967296 : Int) ≤ (q : Int) := by omega
        refine Holds.seq ?_
        refine Holds.step (Px := px) (T := TT) (ρ := fun _ => []) TTe (by simp (maxSteps := 100000) (disch := omega) only [go_sem, V.isAgg, V.flat, ↓reduceIte, Nat.reduceAdd, Nat.reduceSub, Nat.reduceLT, Nat.reduceEqDiff, reduceCtorEq, Nat.reduceLeDiff, Nat.reduceBEq, Nat.reduceMul, Int.reduceToNat, x1, x2, x3, x4, x5, x6]; rfl) (by repeat' first | exact trivial | constructor) ?_
        refine Holds.condF rfl (Holds.exit ⟨rfl, fun a w h => ?_⟩)
        rw [← hd]
        exact Rel.keep [18, 17, 15, 14, 2, 8] [] h
      ·intro σ hσ
       refine Holds.from hσ ?_
       clear w16 w17 w18 w19 w20 z1 z2 z3 z4 z5 eT hW Y1n
       have eR := Nat.div_add_mod (W * 4294967296 + u0) (Y1 * 4294967296 + Y0)
       rw [← hQ2, ← eY] at eR
       have bRm : (W * 4294967296 + u0) % Y < Y := Nat.mod_lt _ (by omega)
       obtain ⟨Rm, hR⟩ : ∃ Rm, Rm = (W * 4294967296 + u0) % Y := ⟨_, rfl⟩
       rw [← hR] at eR bRm
       have eR' : W * 4294967296 + u0 = Q2 * Y + Rm := by rw [Nat.mul_comm Q2 Y]; exact eR.symm
       have v1 := mulN Q2 Y
       obtain ⟨P2, hP2⟩ : ∃ P2, P2 = Q2 * Y := ⟨_, rfl⟩
       rw [← hP2] at v1 eR'
       have dq := div_whole (by omega) hY hU elo eLo hP eT' hP2 eR' bRm
       rw [dq.1]
       have dq2 := dq.2
       have bQ2 : Q2 < 4294967296 := bq2.2.2
       have bRm2 : Rm < 18446744073709551616 := by omega
       clear dq hU elo hLo hL1 hY1 hY0 eY bq2 eq2 br2 eR hQ2 hQ bU bLo bL1 b1 pw2 hu1 hu0 hY63 hY64
       have v2 : IntKind.u64.wrap ((Q : Int) * 4294967296) = ((Q * 4294967296 : Nat) : Int) := by rw [wrap_u64]; omega
       have v3 : IntKind.u64.wrap (((Q * 4294967296 : Nat) : Int) + (Q2 : Int)) = ((Q * 4294967296 + Q2 : Nat) : Int) := by rw [wrap_u64]; omega
       have v4 : IntKind.u64.wrap ((W : Int) * 4294967296) = ((W * 4294967296 % 18446744073709551616 : Nat) : Int) := by rw [wrap_u64]; omega
       have v5 : IntKind.u64.wrap (((W * 4294967296 % 18446744073709551616 : Nat) : Int) + (u0 : Int)) = (((P2 + Rm) % 18446744073709551616 : Nat) : Int) := by rw [wrap_u64]; omega
       have v6 := wrapM P2
       have v7 : IntKind.u64.wrap ((((P2 + Rm) % 18446744073709551616 : Nat) : Int) - ((P2 % 18446744073709551616 : Nat) : Int)) = (Rm : Int) := by rw [wrap_u64]; omega
       have v8 := shrG Rm s (by omega)
       rw [show Rm / 2 ^ s = (hi * 18446744073709551616 + lo) % y from by rw [dq2]; exact Nat.mul_div_cancel _ pw] at v8
       refine Holds.step (Px := px) (T := TT) (ρ := fun _ => []) TTe (by simp (maxSteps := 100000) (disch := omega) only [go_sem, V.isAgg, V.flat, ↓reduceIte, Nat.reduceAdd, Nat.reduceSub, Nat.reduceLT, Nat.reduceEqDiff, reduceCtorEq, Nat.reduceLeDiff, Nat.reduceBEq, Nat.reduceMul, Int.reduceToNat, v1, v2, v3, v4, v5, v6, v7, v8]; rfl) (by repeat' first | exact trivial | constructor) ?_
       exact Holds.ret (RetOk.vs rfl (by exact ⟨⟨rfl, id⟩, ⟨rfl, id⟩, trivial⟩) rfl)
theorem view_ok (l : List Int) (hl : l.length < 1000000000) : FnOk Tryz.prog 137 [.v (words l)] [.v false (words (trimL l))] := by
 refine FnOk.of Tryz.func137 rfl rfl fun cx w0 => ?_
 rw [show Tryz.f137.ntmps = 22 from rfl]
 refine Holds.step (Px := px) (T := TT) (ρ := fun _ => []) TTe (by simp (maxSteps := 100000) (disch := omega) only [go_sem, V.isAgg, V.flat, ↓reduceIte, Nat.reduceAdd, Nat.reduceSub, Nat.reduceLT, Nat.reduceEqDiff, reduceCtorEq, Nat.reduceLeDiff, Nat.reduceBEq, Nat.reduceMul, Int.reduceToNat, List.length_cons, List.length_nil]; rfl) (by repeat' first | exact trivial | constructor) ?_
 refine Holds.step (Px := px) (T := TT) (ρ := fun _ => []) TTe (by simp (maxSteps := 100000) (disch := omega) only [go_sem, V.isAgg, V.flat, ↓reduceIte, Nat.reduceAdd, Nat.reduceSub, Nat.reduceLT, Nat.reduceEqDiff, reduceCtorEq, Nat.reduceLeDiff, Nat.reduceBEq, Nat.reduceMul, Int.reduceToNat]; rfl) (by repeat' first | exact trivial | constructor) ?_
 refine Holds.next (fun σ => ∃ env, σ = { nt := 22, env, mem := [] } ∧ look env 3 = .v true (.int .i64 (trimW l l.length : Nat)) ∧ look env 0 = .v false (.sl 1 (l.map fun n => .int .u64 n)))
  (Holds.loopB (fun n : Nat => { nt := 22, env := [(3, .v true (.int .i64 (n : Int))), (0, .v false (.sl 1 (l.map fun n => .int .u64 n)))], mem := [] }) (fun n => n ≤ l.length ∧ trimW l n = trimW l l.length) id l.length ⟨Nat.le_refl _, rfl⟩ (fun a w h => Rel.keep [3, 0] [] h) ?_) ?_
 ·rintro n ⟨hn, ht⟩
  rcases n with _ | n
  ·refine Holds.seq ?_
   refine Holds.step (Px := px) (T := TT) (ρ := fun _ => []) TTe (by simp (maxSteps := 100000) (disch := omega) only [go_sem, V.isAgg, V.flat, ↓reduceIte, Nat.reduceAdd, Nat.reduceSub, Nat.reduceLT, Nat.reduceEqDiff, reduceCtorEq, Nat.reduceLeDiff, Nat.reduceBEq, Nat.reduceMul, Int.reduceToNat]; rfl) (by repeat' first | exact trivial | constructor) ?_
   refine Holds.condF rfl (Holds.exit ⟨rfl, _, rfl, ?_, rfl⟩)
   rw [← ht]; rfl
  ·have hlt : n < l.length := by omega
   have e1 : l[n]? = some (l.getD n 0) := by rw [List.getD_eq_getElem?_getD, List.getElem?_eq_getElem hlt]; rfl
   refine Holds.seq ?_
   refine Holds.step (Px := px) (T := TT) (ρ := fun _ => []) TTe (by simp (maxSteps := 100000) (disch := omega) only [go_sem, V.isAgg, V.flat, ↓reduceIte, Nat.reduceAdd, Nat.reduceSub, Nat.reduceLT, Nat.reduceEqDiff, reduceCtorEq, Nat.reduceLeDiff, Nat.reduceBEq, Nat.reduceMul, Int.reduceToNat, e1]; rfl) (by repeat' first | exact trivial | constructor) ?_
   by_cases h0 : l.getD n 0 = 0
   ·refine Holds.condT (nw := true) (by rw [h0]; rfl) (Holds.skip ?_)
    refine Holds.block ?_
    refine Holds.region (Px := px) (T := TT) (ρ := fun _ => []) TTe (by simp (maxSteps := 100000) (disch := omega) only [go_sem, V.isAgg, V.flat, ↓reduceIte, Nat.reduceAdd, Nat.reduceSub, Nat.reduceLT, Nat.reduceEqDiff, reduceCtorEq, Nat.reduceLeDiff, Nat.reduceBEq, Nat.reduceMul, Int.reduceToNat]; rfl) (by repeat' first | exact trivial | constructor) ?_
    refine ⟨n, ⟨by omega, ?_⟩, by simp, fun a w h => Rel.keep [3, 0] [] h⟩
    rw [← ht, trimW, if_pos h0]
   ·refine Holds.condF (nw := true) (by rw [decide_eq_false h0]; rfl) (Holds.exit ⟨rfl, _, rfl, ?_, rfl⟩)
    rw [← ht, trimW, if_neg h0]
    rfl
 ·rintro σ ⟨env, rfl, e3, e0⟩
  have hle := trimW_le l l.length
  refine Holds.step (Px := px) (T := TT) (ρ := fun _ => []) TTe (by simp (maxSteps := 100000) (disch := omega) only [go_sem, V.isAgg, V.flat, ↓reduceIte, Nat.reduceAdd, Nat.reduceSub, Nat.reduceLT, Nat.reduceEqDiff, reduceCtorEq, Nat.reduceLeDiff, Nat.reduceBEq, Nat.reduceMul, Int.reduceToNat, e3, e0]; rfl) (by repeat' first | exact trivial | constructor) ?_
  refine Holds.ret ⟨_, [], rfl, ⟨⟨?_, by simp⟩, trivial⟩, by simp [R.names, R.mems, R.blks], by simp, rfl⟩
  rw [words, trimL, List.map_take]
theorem wTrim_ok (l : List Int) (hl : l.length < 1000000) (ol : okW l) : FnOk Tryz.prog 133 [.v (words l)] [.v true (words (digs (val l)))] := by
 have h1 := view_ok l (by omega)
 have hlen := trimL_len l
 rw [← trim_digs ol]
 obtain ⟨m, hm⟩ : ∃ m, m = trimL l := ⟨_, rfl⟩
 rw [← hm] at h1 hlen ⊢
 refine FnOk.of Tryz.func133 rfl rfl fun cx w0 => ?_
 rw [show Tryz.f133.ntmps = 12 from rfl]
 refine Holds.step (Px := px) (T := TT) (ρ := fun _ => []) TTe (by simp (maxSteps := 100000) (disch := omega) only [go_sem, V.isAgg, V.flat, ↓reduceIte, Nat.reduceAdd, Nat.reduceSub, Nat.reduceLT, Nat.reduceEqDiff, reduceCtorEq, Nat.reduceLeDiff, Nat.reduceBEq, Nat.reduceMul, Int.reduceToNat, List.length_cons, List.length_nil]; rfl) (by repeat' first | exact trivial | constructor) ?_
 refine Holds.seq ?_
 refine Holds.step (Px := px) (T := TT) (ρ := fun _ => [.v false (words m)]) TTe (by simp (maxSteps := 100000) (disch := omega) only [go_sem, V.isAgg, V.flat, ↓reduceIte, Nat.reduceAdd, Nat.reduceSub, Nat.reduceLT, Nat.reduceEqDiff, reduceCtorEq, Nat.reduceLeDiff, Nat.reduceBEq, Nat.reduceMul, Int.reduceToNat]; rfl) (by first | exact h1 | (repeat' first | exact trivial | exact h1 | constructor)) ?_
 by_cases h0 : m = []
 ·subst h0
  refine Holds.step (Px := px) (T := TT) (ρ := fun _ => []) TTe (by simp (maxSteps := 100000) (disch := omega) only [go_sem, V.isAgg, V.flat, ↓reduceIte, Nat.reduceAdd, Nat.reduceSub, Nat.reduceLT, Nat.reduceEqDiff, reduceCtorEq, Nat.reduceLeDiff, Nat.reduceBEq, Nat.reduceMul, Int.reduceToNat, words]; rfl) (by repeat' first | exact trivial | constructor) ?_
  refine Holds.condF rfl (Holds.skip ?_)
  refine Holds.step (Px := px) (T := TT) (ρ := fun _ => []) TTe (by simp (maxSteps := 100000) (disch := omega) only [go_sem, V.isAgg, V.flat, ↓reduceIte, Nat.reduceAdd, Nat.reduceSub, Nat.reduceLT, Nat.reduceEqDiff, reduceCtorEq, Nat.reduceLeDiff, Nat.reduceBEq, Nat.reduceMul, Int.reduceToNat]; rfl) (by repeat' first | exact trivial | constructor) ?_
  exact Holds.ret ⟨_, [], rfl, ⟨rfl, trivial⟩, by simp [R.names, R.mems, R.blks], by simp, rfl⟩
 ·have hpos : 0 < m.length := List.length_pos_iff.2 h0
  have g : (0 : Int) < m.length := by omega
  have hall := flatW m
  refine Holds.step (Px := px) (T := TT) (ρ := fun _ => []) TTe (by simp (maxSteps := 100000) (disch := omega) only [go_sem, V.isAgg, V.flat, ↓reduceIte, Nat.reduceAdd, Nat.reduceSub, Nat.reduceLT, Nat.reduceEqDiff, reduceCtorEq, Nat.reduceLeDiff, Nat.reduceBEq, Nat.reduceMul, Int.reduceToNat, words, g]; rfl) (by repeat' first | exact trivial | constructor) ?_
  refine Holds.condT rfl ?_
  refine Holds.step (Px := px) (T := TT) (ρ := fun _ => []) TTe (by simp (maxSteps := 100000) (disch := omega) only [go_sem, V.isAgg, V.flat, ↓reduceIte, Nat.reduceAdd, Nat.reduceSub, Nat.reduceLT, Nat.reduceEqDiff, reduceCtorEq, Nat.reduceLeDiff, Nat.reduceBEq, Nat.reduceMul, Int.reduceToNat, words, tby76, hall]; rfl) (by repeat' first | exact trivial | constructor) ?_
  exact Holds.ret ⟨_, [], rfl, ⟨⟨rfl, by rw [List.drop_zero, List.take_of_length_le (by simp)], id, rfl⟩, trivial⟩, by simp [R.names, R.mems, R.blks], by simp, rfl⟩
theorem val_zero {l : List Int} (ol : okW l) : trimL l = [] ↔ val l = 0 := by
 rw [trim_digs ol]
 constructor
 ·intro h
  have := (digs_ok (val l)).2.2
  rw [h] at this
  simpa [val] using this.symm
 ·intro h
  rw [h]; rfl
theorem wZero_ok (l : List Int) (hl : l.length < 1000000) (ol : okW l) : FnOk Tryz.prog 108 [.v (words l)] [.v true (.bool (decide (val l = 0)))] := by
 have h1 := view_ok l (by omega)
 have hz := val_zero ol
 obtain ⟨m, hm⟩ : ∃ m, m = trimL l := ⟨_, rfl⟩
 rw [← hm] at h1 hz
 refine FnOk.of Tryz.func108 rfl rfl fun cx w0 => ?_
 rw [show Tryz.f108.ntmps = 7 from rfl]
 refine Holds.step (Px := px) (T := TT) (ρ := fun _ => []) TTe (by simp (maxSteps := 100000) (disch := omega) only [go_sem, V.isAgg, V.flat, ↓reduceIte, Nat.reduceAdd, Nat.reduceSub, Nat.reduceLT, Nat.reduceEqDiff, reduceCtorEq, Nat.reduceLeDiff, Nat.reduceBEq, Nat.reduceMul, Int.reduceToNat, List.length_cons, List.length_nil]; rfl) (by repeat' first | exact trivial | constructor) ?_
 by_cases h0 : m = []
 ·rw [decide_eq_true (hz.1 h0)]
  subst h0
  refine Holds.step (Px := px) (T := TT) (ρ := fun _ => [.v false (words [])]) TTe (by simp (maxSteps := 100000) (disch := omega) only [go_sem, V.isAgg, V.flat, ↓reduceIte, Nat.reduceAdd, Nat.reduceSub, Nat.reduceLT, Nat.reduceEqDiff, reduceCtorEq, Nat.reduceLeDiff, Nat.reduceBEq, Nat.reduceMul, Int.reduceToNat, words]; rfl) (by first | exact h1 | (repeat' first | exact trivial | exact h1 | constructor)) ?_
  exact Holds.ret (RetOk.vs rfl (by exact ⟨⟨rfl, id⟩, trivial⟩) rfl)
 ·rw [decide_eq_false (fun h => h0 (hz.2 h))]
  have hpos : 0 < m.length := List.length_pos_iff.2 h0
  have g : ¬ (m.length : Int) = 0 := by omega
  refine Holds.step (Px := px) (T := TT) (ρ := fun _ => [.v false (words m)]) TTe (by simp (maxSteps := 100000) (disch := omega) only [go_sem, V.isAgg, V.flat, ↓reduceIte, Nat.reduceAdd, Nat.reduceSub, Nat.reduceLT, Nat.reduceEqDiff, reduceCtorEq, Nat.reduceLeDiff, Nat.reduceBEq, Nat.reduceMul, Int.reduceToNat, words, g]; rfl) (by first | exact h1 | (repeat' first | exact trivial | exact h1 | constructor)) ?_
  exact Holds.ret (RetOk.vs rfl (by exact ⟨⟨rfl, id⟩, trivial⟩) rfl)
theorem val_takeS {l : List Int} (j : Nat) : val (l.take (j + 1)) = val (l.take j) + 18446744073709551616 ^ j * (l.getD j 0).toNat := by
 rcases Nat.lt_or_ge j l.length with h | h
 ·rw [take_succ h, val_append, List.length_take, Nat.min_eq_left (by omega), val, val]; simp
 ·rw [List.take_of_length_le (by omega), List.take_of_length_le h, List.getD_eq_getElem?_getD, List.getElem?_eq_none h]; rfl
theorem natW {x : Int} (h : 0 ≤ x ∧ x < 18446744073709551616) : ∃ a : Nat, x = a ∧ a < 18446744073709551616 := ⟨x.toNat, by omega, by omega⟩
theorem val_takeN {l : List Int} (j : Nat) : val (l.take (j + 1)) = val (l.take j) + 18446744073709551616 ^ j * (l.getD j 0).toNat := val_takeS j
theorem okW_dropN {l : List Int} (h : okW l) (k : Nat) : okW (l.drop k) := fun n hn => h n (List.mem_of_mem_drop hn)
def dvW (k : Nat) : List Int → List Int × Nat
 | [] => ([], 0)
 | a :: r => ((((dvW k r).2 * 18446744073709551616 + a.toNat) / k : Nat) :: (dvW k r).1, ((dvW k r).2 * 18446744073709551616 + a.toNat) % k)
theorem dvW_ok {k : Nat} (hk : 0 < k) : ∀ {x : List Int}, okW x → (dvW k x).2 < k ∧ okW (dvW k x).1 ∧ (dvW k x).1.length = x.length ∧ val (dvW k x).1 * k + (dvW k x).2 = val x
 | [], _ => ⟨hk, (fun n hn => by cases hn), rfl, by simp [dvW, val]⟩
 | a :: r, o => by
   obtain ⟨h1, h2, h3, h4⟩ := dvW_ok hk (x := r) fun n hn => o n (by simp [hn])
   have ha := o a (by simp)
   obtain ⟨s, hs⟩ : ∃ s, s = (dvW k r).2 := ⟨_, rfl⟩
   obtain ⟨W, hW⟩ : ∃ W, W = (dvW k r).1 := ⟨_, rfl⟩
   have e : dvW k (a :: r) = ((((s * 18446744073709551616 + a.toNat) / k : Nat) : Int) :: W, (s * 18446744073709551616 + a.toNat) % k) := by rw [dvW, hs, hW]
   rw [← hs] at h1 h4
   rw [← hW] at h2 h3 h4
   rw [e]
   have hq : (s * 18446744073709551616 + a.toNat) / k < 18446744073709551616 := by
    refine (Nat.div_lt_iff_lt_mul hk).2 ?_
    have : (s + 1) * 18446744073709551616 ≤ k * 18446744073709551616 := Nat.mul_le_mul_right _ h1
    omega
   refine ⟨Nat.mod_lt _ hk, fun n hn => ?_, by simp [h3], ?_⟩
   ·rcases List.mem_cons.1 hn with rfl | hn
    ·obtain ⟨q, hq'⟩ : ∃ q, q = (s * 18446744073709551616 + a.toNat) / k := ⟨_, rfl⟩
     rw [← hq'] at hq ⊢
     omega
    ·exact h2 n hn
   ·have hd := Nat.div_add_mod (s * 18446744073709551616 + a.toNat) k
    simp only [val]
    rw [← h4, Nat.add_mul, Nat.mul_comm _ k, Nat.mul_add, Nat.mul_assoc]
    simp only [Int.toNat_natCast]
    omega
theorem dvW_drop {k j : Nat} {x : List Int} (h : j < x.length) : dvW k (x.drop j) = (((((dvW k (x.drop (j + 1))).2 * 18446744073709551616 + (x.getD j 0).toNat) / k : Nat) : Int) :: (dvW k (x.drop (j + 1))).1, ((dvW k (x.drop (j + 1))).2 * 18446744073709551616 + (x.getD j 0).toNat) % k) := by
 rw [List.drop_eq_getElem_cons h, dvW, List.getD_eq_getElem?_getD, List.getElem?_eq_getElem h]; rfl
theorem dvW_val {k : Nat} (hk : 0 < k) {x : List Int} (o : okW x) : val (dvW k x).1 = val x / k ∧ (dvW k x).2 = val x % k := by
 obtain ⟨h1, _, _, h4⟩ := dvW_ok hk o
 obtain ⟨v, hv⟩ : ∃ v, v = val (dvW k x).1 := ⟨_, rfl⟩
 obtain ⟨s, hs⟩ : ∃ s, s = (dvW k x).2 := ⟨_, rfl⟩
 rw [← hv, ← hs] at h4
 rw [← hs] at h1
 rw [← hv, ← hs, ← h4, Nat.mul_comm v k]
 exact ⟨by rw [Nat.mul_add_div hk, Nat.div_eq_of_lt h1, Nat.add_zero], by rw [Nat.mul_add_mod, Nat.mod_eq_of_lt h1]⟩
set_option maxHeartbeats 2000000 in
theorem divWord_ok (x : List Int) (k : Nat) (hx : x.length < 100000) (ox : okW x) (hk : 0 < k) (hk2 : k < 18446744073709551616) : FnOk Tryz.prog 134 [.v (words x), .v (.int .u64 k)] [.v true (words (digs (val x / k))), .v true (.int .u64 (val x % k : Nat))] := by
 obtain ⟨_, ow, lw, _⟩ := dvW_ok hk ox
 obtain ⟨v1, v2⟩ := dvW_val hk ox
 have hT := wTrim_ok (dvW k x).1 (by omega) ow
 rw [v1] at hT
 rw [← v2]
 obtain ⟨D, hD⟩ : ∃ D, D = digs (val x / k) := ⟨_, rfl⟩
 rw [← hD] at hT ⊢
 clear v1 v2 hD
 refine FnOk.of Tryz.func134 rfl rfl fun cx w0 => ?_
 rw [show Tryz.f134.ntmps = 35 from rfl]
 refine Holds.step (Px := px) (T := TT) (ρ := fun _ => []) TTe (by simp (maxSteps := 100000) (disch := omega) only [go_sem, V.isAgg, V.flat, ↓reduceIte, Nat.reduceAdd, Nat.reduceSub, Nat.reduceLT, Nat.reduceEqDiff, reduceCtorEq, Nat.reduceLeDiff, Nat.reduceBEq, Nat.reduceMul, Int.reduceToNat, List.length_cons, List.length_nil]; rfl) (by repeat' first | exact trivial | constructor) ?_
 refine Holds.step (Px := px) (T := TT) (ρ := fun _ => []) TTe (by simp (maxSteps := 100000) (disch := omega) only [go_sem, V.isAgg, V.flat, ↓reduceIte, Nat.reduceAdd, Nat.reduceSub, Nat.reduceLT, Nat.reduceEqDiff, reduceCtorEq, Nat.reduceLeDiff, Nat.reduceBEq, Nat.reduceMul, Int.reduceToNat, tby76]; rfl) (by repeat' first | exact trivial | constructor) ?_
 refine Holds.step (Px := px) (T := TT) (ρ := fun _ => []) TTe (by simp (maxSteps := 100000) (disch := omega) only [go_sem, V.isAgg, V.flat, ↓reduceIte, Nat.reduceAdd, Nat.reduceSub, Nat.reduceLT, Nat.reduceEqDiff, reduceCtorEq, Nat.reduceLeDiff, Nat.reduceBEq, Nat.reduceMul, Int.reduceToNat]; rfl) (by repeat' first | exact trivial | constructor) ?_
 refine Holds.next (fun σ => ∀ a w, Rel cx w0 σ a w → Rel cx w0 { nt := 35, env := [(7, .v true (.int .u64 (dvW k x).2)), (6, .own 11 0 x.length)], mem := [(11, .buf 91 1 true ((dvW k x).1.map fun n => .int .u64 n))] } a w) ?_ ?_
 ·refine Holds.step (Px := px) (T := TT) (ρ := fun _ => []) TTe (by simp (maxSteps := 100000) (disch := omega) only [go_sem, V.isAgg, V.flat, ↓reduceIte, Nat.reduceAdd, Nat.reduceSub, Nat.reduceLT, Nat.reduceEqDiff, reduceCtorEq, Nat.reduceLeDiff, Nat.reduceBEq, Nat.reduceMul, Int.reduceToNat]; rfl) (by repeat' first | exact trivial | constructor) ?_
  refine Holds.loopB (fun j : Nat => { nt := 35, env := [(8, .v true (.int .i64 ((j : Int) - 1))), (7, .v true (.int .u64 (dvW k (x.drop j)).2)), (6, .own 11 0 x.length), (0, .v false (words x)), (1, .v true (.int .u64 k))], mem := [(11, .buf 91 1 true ((List.replicate j 0 ++ (dvW k (x.drop j)).1).map fun n => .int .u64 n))] }) (fun j => j ≤ x.length) id x.length (Nat.le_refl _) (fun a w h => by
   have := Rel.keep [8, 7, 6, 0, 1] [11] h
   rw [List.drop_length]
   show Rel _ _ { nt := 35, env := _, mem := [(11, .buf 91 1 true ((List.replicate x.length (0 : Int) ++ []).map fun n => .int .u64 n))] } _ _
   rw [List.append_nil, List.map_replicate]
   exact this) ?_
  intro j hj
  rcases j with _ | j
  ·refine Holds.seq ?_
   refine Holds.step (Px := px) (T := TT) (ρ := fun _ => []) TTe (by simp (maxSteps := 100000) (disch := omega) only [go_sem, V.isAgg, V.flat, ↓reduceIte, Nat.reduceAdd, Nat.reduceSub, Nat.reduceLT, Nat.reduceEqDiff, reduceCtorEq, Nat.reduceLeDiff, Nat.reduceBEq, Nat.reduceMul, Int.reduceToNat]; rfl) (by repeat' first | exact trivial | constructor) ?_
   refine Holds.condF rfl (Holds.exit ⟨rfl, fun a w h => ?_⟩)
   exact Rel.keep [7, 6] [11] h
  ·have hjx : j < x.length := by omega
   obtain ⟨d, hd0, hd64⟩ := natW (okW_getD ox j)
   have gx := get_map hjx
   rw [hd0] at gx
   have ho : okW (x.drop (j + 1)) := okW_dropN ox _
   obtain ⟨r1, r2, r3, _⟩ := dvW_ok hk ho
   have hd := dvW_drop (k := k) hjx
   rw [hd0, Int.toNat_natCast] at hd
   obtain ⟨s, hs⟩ : ∃ s, s = (dvW k (x.drop (j + 1))).2 := ⟨_, rfl⟩
   obtain ⟨W, hW⟩ : ∃ W, W = (dvW k (x.drop (j + 1))).1 := ⟨_, rfl⟩
   rw [← hs] at r1 hd
   rw [← hW] at r3 hd
   rw [← hs, ← hW]
   have fD := div64_ok s d k hd64 hk2 r1
   obtain ⟨q, hq⟩ : ∃ q, q = (s * 18446744073709551616 + d) / k := ⟨_, rfl⟩
   obtain ⟨r, hr⟩ : ∃ r, r = (s * 18446744073709551616 + d) % k := ⟨_, rfl⟩
   rw [← hq, ← hr] at hd fD
   rw [List.length_drop] at r3
   have hLl : (List.replicate (j + 1) (0 : Int) ++ W).length = x.length := by rw [List.length_append, List.length_replicate, r3]; omega
   have eset : (List.replicate (j + 1) (0 : Int) ++ W).set j (q : Int) = List.replicate j 0 ++ (q : Int) :: W := by
    rw [show List.replicate (j + 1) (0 : Int) = List.replicate j 0 ++ [0] from by rw [List.replicate_succ'], List.append_assoc, List.set_append_right _ _ (by rw [List.length_replicate]; exact Nat.le_refl _), List.length_replicate, Nat.sub_self]
    rfl
   obtain ⟨Lw, hL⟩ : ∃ Lw, Lw = List.replicate (j + 1) (0 : Int) ++ W := ⟨_, rfl⟩
   rw [← hL] at hLl eset ⊢
   have gL := get_map (l := Lw) (i := j) (by omega)
   refine Holds.seq ?_
   refine Holds.step (Px := px) (T := TT) (ρ := fun _ => []) TTe (by simp (maxSteps := 100000) (disch := omega) only [go_sem, V.isAgg, V.flat, ↓reduceIte, Nat.reduceAdd, Nat.reduceSub, Nat.reduceLT, Nat.reduceEqDiff, reduceCtorEq, Nat.reduceLeDiff, Nat.reduceBEq, Nat.reduceMul, Int.reduceToNat]; rfl) (by repeat' first | exact trivial | constructor) ?_
   refine Holds.condT rfl (Holds.skip ?_)
   refine Holds.next (fun σ => ∀ a w, Rel cx w0 σ a w → Rel cx w0 { nt := 35, env := [(8, .v true (.int .i64 (j : Int))), (7, .v true (.int .u64 r)), (6, .own 11 0 x.length), (0, .v false (words x)), (1, .v true (.int .u64 k))], mem := [(11, .buf 91 1 true ((Lw.set j (q : Int)).map fun n => .int .u64 n))] } a w) ?_ ?_
   ·refine Holds.blockN ?_
    refine Holds.region (Px := px) (T := TT) (ρ := fun _ => [.v true (.int .u64 q), .v true (.int .u64 r)]) TTe (by simp (maxSteps := 100000) (disch := omega) only [go_sem, V.isAgg, V.flat, ↓reduceIte, Nat.reduceAdd, Nat.reduceSub, Nat.reduceLT, Nat.reduceEqDiff, reduceCtorEq, Nat.reduceLeDiff, Nat.reduceBEq, Nat.reduceMul, Int.reduceToNat, gx, gL, hLl]; rfl) (by first | exact fD | (repeat' first | exact trivial | exact fD | constructor)) ?_
    intro a w h
    have := Rel.keep [8, 7, 6, 0, 1] [11] h
    rw [List.map_set]
    exact this
   ·intro σ hσ
    refine Holds.from hσ ?_
    refine Holds.region (Px := px) (T := TT) (ρ := fun _ => []) TTe (by simp (maxSteps := 100000) (disch := omega) only [go_sem, V.isAgg, V.flat, ↓reduceIte, Nat.reduceAdd, Nat.reduceSub, Nat.reduceLT, Nat.reduceEqDiff, reduceCtorEq, Nat.reduceLeDiff, Nat.reduceBEq, Nat.reduceMul, Int.reduceToNat]; rfl) (by repeat' first | exact trivial | constructor) ?_
    refine ⟨j, (by show j ≤ x.length; omega), (show j < j + 1 by omega), fun a w h => ?_⟩
    have := Rel.keep [8, 7, 6, 0, 1] [11] h
    rw [eset] at this
    simp only [hd]
    exact this
 ·intro σ hσ
  refine Holds.from hσ ?_
  have htk : List.take x.length (List.map (fun n => V.int .u64 n) (dvW k x).1) = List.map (fun n => V.int .u64 n) (dvW k x).1 := List.take_of_length_le (by rw [List.length_map]; omega)
  refine Holds.step (Px := px) (T := TT) (ρ := fun _ => [.v true (words D)]) TTe (by simp (maxSteps := 100000) (disch := omega) only [go_sem, V.isAgg, V.flat, ↓reduceIte, Nat.reduceAdd, Nat.reduceSub, Nat.reduceLT, Nat.reduceEqDiff, reduceCtorEq, Nat.reduceLeDiff, Nat.reduceBEq, Nat.reduceMul, Int.reduceToNat, htk]; rfl) (by first | exact hT | (repeat' first | exact trivial | exact hT | constructor)) ?_
  exact Holds.ret (RetOk.vs rfl (by exact ⟨⟨rfl, id⟩, ⟨rfl, id⟩, trivial⟩) rfl)
theorem bitI_orC (k : IntKind) (x y : Int) : bitI .or k x y = bitI .or k y x := by
 show k.wrap ((BitVec.ofInt k.bits x ||| BitVec.ofInt k.bits y).toNat : Int) = k.wrap ((BitVec.ofInt k.bits y ||| BitVec.ofInt k.bits x).toNat : Int)
 rw [BitVec.or_comm]
theorem sh_split {w D E B : Nat} (hB : D * E = B) (hE : 0 < E) (hD : 0 < D) : w * E = w / D * B + w % D * E ∧ w % D * E + E ≤ B ∧ w * E % B = w % D * E := by
 have h1 := Nat.div_add_mod w D
 have h2 := Nat.mod_lt w hD
 have h3 : w * E = w / D * B + w % D * E := by
  have := congrArg (· * E) h1
  simp only [Nat.add_mul] at this
  rw [← hB, ← Nat.mul_assoc, Nat.mul_comm (w / D) D]
  exact this.symm
 have h4 : w % D * E + E ≤ B := by
  have := Nat.mul_le_mul_right E (show w % D + 1 ≤ D by omega)
  rw [Nat.add_mul, Nat.one_mul, hB] at this
  exact this
 refine ⟨h3, h4, ?_⟩
 rw [h3, Nat.mul_comm, Nat.mul_add_mod]
 exact Nat.mod_eq_of_lt (by omega)
def shr1 (r a h : Nat) : Nat := a / 2 ^ r + h * 2 ^ (64 - r) % 18446744073709551616
def shrL (r : Nat) : List Int → List Int
 | [] => []
 | a :: t => ((shr1 r a.toNat (t.getD 0 0).toNat : Nat) : Int) :: shrL r t
theorem shr1_ok {r a h : Nat} (hr : r < 64) (ha : a < 18446744073709551616) : shr1 r a h < 18446744073709551616 ∧ shr1 r a h * 2 ^ r + a % 2 ^ r = a + 18446744073709551616 * (h % 2 ^ r) ∧ a / 2 ^ r < 2 ^ (64 - r) ∧ h * 2 ^ (64 - r) % 18446744073709551616 = h % 2 ^ r * 2 ^ (64 - r) := by
 have hB : 2 ^ (64 - r) * 2 ^ r = 18446744073709551616 := by rw [← Nat.pow_add, show 64 - r + r = 64 from by omega]
 have hB2 : 2 ^ r * 2 ^ (64 - r) = 18446744073709551616 := by rw [Nat.mul_comm]; exact hB
 obtain ⟨s1, s2, s3⟩ := sh_split (w := h) hB2 (Nat.pow_pos (by decide)) (Nat.pow_pos (by decide))
 have hlt : a / 2 ^ r < 2 ^ (64 - r) := (Nat.div_lt_iff_lt_mul (Nat.pow_pos (by decide))).2 (by rw [hB]; exact ha)
 have hd := Nat.div_add_mod a (2 ^ r)
 unfold shr1
 rw [s3]
 refine ⟨by omega, ?_, hlt, rfl⟩
 rw [Nat.add_mul, Nat.mul_assoc, hB, Nat.mul_comm (a / 2 ^ r), Nat.mul_comm (h % 2 ^ r)]
 omega
theorem shrL_ok {r : Nat} (hr : r < 64) : ∀ {X : List Int}, okW X → okW (shrL r X) ∧ (shrL r X).length = X.length ∧ val (shrL r X) * 2 ^ r + (X.getD 0 0).toNat % 2 ^ r = val X
 | [], _ => ⟨(fun n hn => by cases hn), rfl, by simp [shrL, val]⟩
 | a :: t, o => by
   obtain ⟨h1, h2, h3⟩ := shrL_ok hr (X := t) fun n hn => o n (by simp [hn])
   obtain ⟨b, hb, hb64⟩ := natW (o a (by simp))
   subst hb
   obtain ⟨k1, k2, _, _⟩ := shr1_ok (h := (t.getD 0 0).toNat) hr hb64
   rw [shrL, Int.toNat_natCast]
   refine ⟨fun n hn => ?_, by rw [List.length_cons, List.length_cons, h2], ?_⟩
   ·rcases List.mem_cons.1 hn with rfl | hn
    ·omega
    ·exact h1 n hn
   ·rw [val, val, Int.toNat_natCast, Int.toNat_natCast, show ((b : Int) :: t).getD 0 0 = (b : Int) from rfl, Int.toNat_natCast]
    rw [Nat.add_mul, Nat.mul_assoc]
    obtain ⟨p, hp⟩ : ∃ p, p = shr1 r b (t.getD 0 0).toNat * 2 ^ r := ⟨_, rfl⟩
    obtain ⟨q, hq⟩ : ∃ q, q = val (shrL r t) * 2 ^ r := ⟨_, rfl⟩
    rw [← hp] at k2 ⊢
    rw [← hq] at h3 ⊢
    omega
theorem shrL_val {r : Nat} (hr : r < 64) {X : List Int} (o : okW X) : val (shrL r X) = val X / 2 ^ r := by
 obtain ⟨_, _, h⟩ := shrL_ok hr o
 have hp : 0 < 2 ^ r := Nat.pow_pos (by decide)
 rw [← h, Nat.mul_comm, Nat.mul_add_div hp, Nat.div_eq_of_lt (Nat.mod_lt _ hp), Nat.add_zero]
theorem shrL_get {r : Nat} : ∀ (X : List Int) (i : Nat), i < X.length → (shrL r X).getD i 0 = (shr1 r (X.getD i 0).toNat (X.getD (i + 1) 0).toNat : Nat)
 | a :: t, 0, _ => by
   show (((shr1 r a.toNat (t.getD 0 0).toNat : Nat) : Int) :: shrL r t).getD 0 0 = _
   rfl
 | a :: t, i + 1, h => shrL_get t i (by simpa using h)
set_option maxHeartbeats 4000000 in
theorem wShr_ok (x : List Int) (s : Nat) (hx : x.length < 10000) (hs : s < 1000000) (ox : okW x) : FnOk Tryz.prog 187 [.v (words x), .v (.int .i64 s)] [.v true (words (digs (val x / 2 ^ s)))] := by
 have h1 := view_ok x (by omega)
 have lx := trimL_len x
 have o1 := trimL_ok ox
 have hv := val_trim x
 obtain ⟨X, hX⟩ : ∃ X, X = trimL x := ⟨_, rfl⟩
 rw [← hX] at h1 lx o1 hv
 clear hX
 obtain ⟨m, hm⟩ : ∃ m, m = s / 64 := ⟨_, rfl⟩
 obtain ⟨r, hr⟩ : ∃ r, r = s % 64 := ⟨_, rfl⟩
 have hqm : (s : Int).tdiv 64 = m := by rw [hm]; exact quoN s 64
 have hrm : (s : Int).tmod 64 = r := by rw [hr]; exact remN s 64
 have hpow : (2 : Nat) ^ s = 18446744073709551616 ^ m * 2 ^ r := by
  have hs' : s = 64 * m + r := by omega
  rw [hs', Nat.pow_add, Nat.pow_mul, show (2 : Nat) ^ 64 = 18446744073709551616 from rfl]
 have hrl : r < 64 := by omega
 have hml : m < 20000 := by omega
 rw [hpow, ← hv]
 clear hpow hm hr ox hv
 refine FnOk.of Tryz.func187 rfl rfl fun cx w0 => ?_
 rw [show Tryz.f187.ntmps = 64 from rfl]
 refine Holds.step (Px := px) (T := TT) (ρ := fun _ => []) TTe (by simp (maxSteps := 100000) (disch := omega) only [go_sem, V.isAgg, V.flat, ↓reduceIte, Nat.reduceAdd, Nat.reduceSub, Nat.reduceLT, Nat.reduceEqDiff, reduceCtorEq, Nat.reduceLeDiff, Nat.reduceBEq, Nat.reduceMul, Int.reduceToNat, List.length_cons, List.length_nil]; rfl) (by repeat' first | exact trivial | constructor) ?_
 refine Holds.step (Px := px) (T := TT) (ρ := fun _ => [.v false (words X)]) TTe (by simp (maxSteps := 100000) (disch := omega) only [go_sem, V.isAgg, V.flat, ↓reduceIte, Nat.reduceAdd, Nat.reduceSub, Nat.reduceLT, Nat.reduceEqDiff, reduceCtorEq, Nat.reduceLeDiff, Nat.reduceBEq, Nat.reduceMul, Int.reduceToNat]; rfl) (by first | exact h1 | (repeat' first | exact trivial | exact h1 | constructor)) ?_
 refine Holds.from (σ' := { nt := 64, env := [(0, .v false (words X)), (1, .v true (.int .i64 s))], mem := [] }) (fun a w h => Rel.keep [0, 1] [] h) ?_
 refine Holds.seq ?_
 by_cases hmX : X.length ≤ m
 ·have : val X / (18446744073709551616 ^ m * 2 ^ r) = 0 := by
   refine Nat.div_eq_of_lt ?_
   have h2 := val_lt o1
   have h3 : 18446744073709551616 ^ X.length ≤ 18446744073709551616 ^ m := Nat.pow_le_pow_right (by decide) hmX
   have h4 : 18446744073709551616 ^ m * 1 ≤ 18446744073709551616 ^ m * 2 ^ r := Nat.mul_le_mul_left _ (Nat.pow_pos (by decide))
   omega
  rw [this]
  have g : (X.length : Int) ≤ m := by omega
  refine Holds.step (Px := px) (T := TT) (ρ := fun _ => []) TTe (by simp (maxSteps := 100000) (disch := omega) only [go_sem, V.isAgg, V.flat, ↓reduceIte, Nat.reduceAdd, Nat.reduceSub, Nat.reduceLT, Nat.reduceEqDiff, reduceCtorEq, Nat.reduceLeDiff, Nat.reduceBEq, Nat.reduceMul, Int.reduceToNat, hqm, g]; rfl) (by repeat' first | exact trivial | constructor) ?_
  refine Holds.condT rfl ?_
  refine Holds.step (Px := px) (T := TT) (ρ := fun _ => []) TTe (by simp (maxSteps := 100000) (disch := omega) only [go_sem, V.isAgg, V.flat, ↓reduceIte, Nat.reduceAdd, Nat.reduceSub, Nat.reduceLT, Nat.reduceEqDiff, reduceCtorEq, Nat.reduceLeDiff, Nat.reduceBEq, Nat.reduceMul, Int.reduceToNat]; rfl) (by repeat' first | exact trivial | constructor) ?_
  exact Holds.ret ⟨_, [], rfl, ⟨rfl, trivial⟩, by simp [R.names, R.mems, R.blks], by simp, rfl⟩
 have g : ¬ (X.length : Int) ≤ m := by omega
 have hcut : val X / (18446744073709551616 ^ m * 2 ^ r) = val (shrL r (X.drop m)) := by
  rw [shrL_val hrl (okW_dropN o1 m), ← Nat.div_div_eq_div_mul]
  congr 1
  have e : val X = val (X.take m) + 18446744073709551616 ^ m * val (X.drop m) := by
   have := val_append (X.take m) (X.drop m)
   rw [List.take_append_drop, List.length_take, Nat.min_eq_left (by omega)] at this
   exact this
  have h2 := val_lt (okW_take o1 m)
  rw [List.length_take, Nat.min_eq_left (by omega)] at h2
  rw [e, Nat.add_comm, Nat.mul_add_div (Nat.pow_pos (by decide)), Nat.div_eq_of_lt h2, Nat.add_zero]
 rw [hcut]
 have oY := okW_dropN o1 m
 have lY : (X.drop m).length = X.length - m := List.length_drop
 have hdr : List.drop m (List.map (fun n => V.int .u64 n) X) = List.map (fun n => V.int .u64 n) (X.drop m) := List.map_drop.symm
 refine Holds.step (Px := px) (T := TT) (ρ := fun _ => []) TTe (by simp (maxSteps := 100000) (disch := omega) only [go_sem, V.isAgg, V.flat, ↓reduceIte, Nat.reduceAdd, Nat.reduceSub, Nat.reduceLT, Nat.reduceEqDiff, reduceCtorEq, Nat.reduceLeDiff, Nat.reduceBEq, Nat.reduceMul, Int.reduceToNat, hqm, g]; rfl) (by repeat' first | exact trivial | constructor) ?_
 refine Holds.condF rfl (Holds.skip ?_)
 refine Holds.from (σ' := { nt := 64, env := [(0, .v false (words X)), (1, .v true (.int .i64 s))], mem := [] }) (fun a w h => Rel.keep [0, 1] [] h) ?_
 have gm : (0 : Int) ≤ m := by omega
 have gm2 : (m : Int) ≤ X.length := by omega
 have htk0 : List.take X.length (List.map (fun n => V.int .u64 n) X) = List.map (fun n => V.int .u64 n) X := List.take_of_length_le (by rw [List.length_map]; exact Nat.le_refl _)
 refine Holds.step (Px := px) (T := TT) (ρ := fun _ => []) TTe (by simp (maxSteps := 100000) (disch := omega) only [go_sem, V.isAgg, V.flat, ↓reduceIte, Nat.reduceAdd, Nat.reduceSub, Nat.reduceLT, Nat.reduceEqDiff, reduceCtorEq, Nat.reduceLeDiff, Nat.reduceBEq, Nat.reduceMul, Int.reduceToNat, hqm, gm, gm2, hdr, htk0]; rfl) (by repeat' first | exact trivial | constructor) ?_
 obtain ⟨oR, lR, _⟩ := shrL_ok hrl oY
 have hget := fun i h => shrL_get (r := r) (X.drop m) i h
 have hT := wTrim_ok (shrL r (X.drop m)) (by omega) oR
 obtain ⟨Y, hY⟩ : ∃ Y, Y = X.drop m := ⟨_, rfl⟩
 rw [← hY] at hT lY oY lR hget ⊢
 obtain ⟨S, hS⟩ : ∃ S, S = shrL r Y := ⟨_, rfl⟩
 rw [← hS] at hT lR hget ⊢
 obtain ⟨D, hD⟩ : ∃ D, D = digs (val S) := ⟨_, rfl⟩
 rw [← hD] at hT ⊢
 clear hcut hdr htk0 gm gm2 g hY hS hD o1 oR h1 hmX
 refine Holds.from (σ' := { nt := 64, env := [(0, .v false (words Y)), (1, .v true (.int .i64 s))], mem := [] }) (fun a w h => Rel.keep [0, 1] [] h) ?_
 have hYl : Y.length < 100000 := by omega
 clear lY lx hx
 refine Holds.step (Px := px) (T := TT) (ρ := fun _ => []) TTe (by simp (maxSteps := 100000) (disch := omega) only [go_sem, V.isAgg, V.flat, ↓reduceIte, Nat.reduceAdd, Nat.reduceSub, Nat.reduceLT, Nat.reduceEqDiff, reduceCtorEq, Nat.reduceLeDiff, Nat.reduceBEq, Nat.reduceMul, Int.reduceToNat, tby76]; rfl) (by repeat' first | exact trivial | constructor) ?_
 refine Holds.next (fun σ => ∀ a w, Rel cx w0 σ a w → Rel cx w0 { nt := 64, env := [(5, .own 20 0 Y.length)], mem := [(20, .buf 91 1 true (S.map fun n => .int .u64 n))] } a w) ?_ ?_
 ·refine Holds.step (Px := px) (T := TT) (ρ := fun _ => []) TTe (by simp (maxSteps := 100000) (disch := omega) only [go_sem, V.isAgg, V.flat, ↓reduceIte, Nat.reduceAdd, Nat.reduceSub, Nat.reduceLT, Nat.reduceEqDiff, reduceCtorEq, Nat.reduceLeDiff, Nat.reduceBEq, Nat.reduceMul, Int.reduceToNat]; rfl) (by repeat' first | exact trivial | constructor) ?_
  refine Holds.loopB (fun i : Nat => { nt := 64, env := [(23, .v true (.int .i64 (i : Nat))), (22, .v true (.int .i64 (Y.length : Nat))), (5, .own 20 0 Y.length), (0, .v false (words Y)), (1, .v true (.int .i64 s))], mem := [(20, .buf 91 1 true ((S.take i ++ List.replicate (Y.length - i) 0).map fun n => .int .u64 n))] })
   (fun i => i ≤ Y.length) (fun i => Y.length - i) 0 (Nat.zero_le _) (fun a w h => by
     have := Rel.keep [23, 22, 5, 0, 1] [20] h
     rw [List.take_zero, List.nil_append, Nat.sub_zero, List.map_replicate]
     exact this) ?_
  intro i hi
  by_cases hend : i = Y.length
  ·have g : ¬ (i : Int) < Y.length := by omega
   refine Holds.step (Px := px) (T := TT) (ρ := fun _ => []) TTe (by simp (maxSteps := 100000) (disch := omega) only [go_sem, V.isAgg, V.flat, ↓reduceIte, Nat.reduceAdd, Nat.reduceSub, Nat.reduceLT, Nat.reduceEqDiff, reduceCtorEq, Nat.reduceLeDiff, Nat.reduceBEq, Nat.reduceMul, Int.reduceToNat, g]; rfl) (by repeat' first | exact trivial | constructor) ?_
   refine Holds.seq (Holds.condF rfl (Holds.exit ⟨rfl, fun a w h => ?_⟩))
   have := Rel.keep [5] [20] h
   rw [hend, Nat.sub_self, List.replicate_zero, List.append_nil, List.take_of_length_le (by omega)] at this
   exact this
  ·have g : (i : Int) < Y.length := by omega
   have hil : i < Y.length := by omega
   obtain ⟨a, ha, ha64⟩ := natW (okW_getD oY i)
   obtain ⟨b, hb, hb64⟩ := natW (okW_getD oY (i + 1))
   have hgi := hget i hil
   rw [ha, hb, Int.toNat_natCast, Int.toNat_natCast] at hgi
   obtain ⟨k1, _, k3, k4⟩ := shr1_ok (h := b) hrl ha64
   have gA : Y[i]? = some (a : Int) := by rw [get_map hil, ha]
   have sr := shrG a r (by omega)
   have wa : IntKind.u64.wrap ((a / 2 ^ r : Nat) : Int) = ((a / 2 ^ r : Nat) : Int) := wrapN _ (Nat.lt_of_le_of_lt (Nat.div_le_self _ _) ha64)
   have wk : IntKind.i64.wrap ((i : Int) + 1) = ((i + 1 : Nat) : Int) := by rw [wrap_i64] <;> omega
   obtain ⟨C, hC⟩ : ∃ C, C = S.take i ++ List.replicate (Y.length - i) (0 : Int) := ⟨_, rfl⟩
   have lC : C.length = Y.length := by rw [hC, List.length_append, List.length_take, List.length_replicate]; omega
   have hset : ∀ v : Int, C.set i v = S.take i ++ v :: List.replicate (Y.length - (i + 1)) (0 : Int) := fun v => by
    have l1 : (S.take i).length = i := by rw [List.length_take]; omega
    rw [hC, List.set_append_right _ _ (by omega), l1, Nat.sub_self, show Y.length - i = (Y.length - (i + 1)) + 1 from by omega, List.replicate_succ, List.set_cons_zero]
   have hnew : C.set i (shr1 r a b : Nat) = S.take (i + 1) ++ List.replicate (Y.length - (i + 1)) (0 : Int) := by
    rw [hset, take_succ (x := S) (k := i) (by omega), hgi, List.append_assoc]; rfl
   obtain ⟨q, hq⟩ : ∃ q, q = a / 2 ^ r := ⟨_, rfl⟩
   rw [← hq] at k3 sr wa
   have gC := get_map (l := C) (i := i) (by omega)
   rw [← hC]
   refine Holds.step (Px := px) (T := TT) (ρ := fun _ => []) TTe (by simp (maxSteps := 100000) (disch := omega) only [go_sem, V.isAgg, V.flat, ↓reduceIte, Nat.reduceAdd, Nat.reduceSub, Nat.reduceLT, Nat.reduceEqDiff, reduceCtorEq, Nat.reduceLeDiff, Nat.reduceBEq, Nat.reduceMul, Int.reduceToNat, g]; rfl) (by repeat' first | exact trivial | constructor) ?_
   refine Holds.seq (Holds.condT rfl (Holds.skip ?_))
   show Holds _ _ _ _ _ _ _
   refine Holds.next (fun σ => ∀ x w, Rel cx w0 σ x w → Rel cx w0 { nt := 64, env := [(23, .v true (.int .i64 (i : Nat))), (22, .v true (.int .i64 (Y.length : Nat))), (5, .own 20 0 Y.length), (0, .v false (words Y)), (1, .v true (.int .i64 s))], mem := [(20, .buf 91 1 true ((C.set i (shr1 r a b : Nat)).map fun n => .int .u64 n))] } x w) ?_ ?_
   ·refine Holds.blockN ?_
    refine Holds.step (Px := px) (T := TT) (ρ := fun _ => []) TTe (by simp (maxSteps := 100000) (disch := omega) only [go_sem, V.isAgg, V.flat, ↓reduceIte, Nat.reduceAdd, Nat.reduceSub, Nat.reduceLT, Nat.reduceEqDiff, reduceCtorEq, Nat.reduceLeDiff, Nat.reduceBEq, Nat.reduceMul, Int.reduceToNat]; rfl) (by repeat' first | exact trivial | constructor) ?_
    refine Holds.step (Px := px) (T := TT) (ρ := fun _ => []) TTe (by simp (maxSteps := 100000) (disch := omega) only [go_sem, V.isAgg, V.flat, ↓reduceIte, Nat.reduceAdd, Nat.reduceSub, Nat.reduceLT, Nat.reduceEqDiff, reduceCtorEq, Nat.reduceLeDiff, Nat.reduceBEq, Nat.reduceMul, Int.reduceToNat, gA, hrm, sr, wa, gC, lC]; rfl) (by repeat' first | exact trivial | constructor) ?_
    by_cases hr0 : 0 < r ∧ i + 1 < Y.length
    ·have g5 : (0 : Int) < (r : Int) := by omega
     have g6 : ((i + 1 : Nat) : Int) < Y.length := by omega
     have hil1 : i + 1 < Y.length := hr0.2
     have gB : Y[i + 1]? = some (b : Int) := by rw [get_map hil1, hb]
     obtain ⟨C1, hC1⟩ : ∃ C1, C1 = C.set i (q : Int) := ⟨_, rfl⟩
     have lC1 : C1.length = Y.length := by rw [hC1, List.length_set, lC]
     have gC1 : C1[i]? = some (q : Int) := by rw [hC1, List.getElem?_set_self (by omega)]
     have w64 : (64 : Int) - (r : Int) = ((64 - r : Nat) : Int) := by omega
     have sl := shlN b (64 - r) (by omega)
     have wo : bitI .or .u64 (q : Int) ((b * 2 ^ (64 - r) % 18446744073709551616 : Nat) : Int) = ((shr1 r a b : Nat) : Int) := by
      unfold shr1 at k1 ⊢
      rw [← hq] at k1 ⊢
      rw [k4] at k1 ⊢
      rw [bitI_orC, orN _ q (64 - r) k3 (by rw [Nat.add_comm]; exact k1), Nat.add_comm]
     obtain ⟨lo, hlo⟩ : ∃ lo, lo = b * 2 ^ (64 - r) % 18446744073709551616 := ⟨_, rfl⟩
     rw [← hlo] at sl wo
     have hss : C.set i (shr1 r a b : Nat) = C1.set i (shr1 r a b : Nat) := by rw [hC1, List.set_set]
     rw [hss]
     have ii : ((i + 1 : Nat) : Int).toNat = i + 1 := by omega
     have gi0 : (0 : Int) ≤ ((i + 1 : Nat) : Int) := by omega
     obtain ⟨i1, hi1⟩ : ∃ i1, i1 = i + 1 := ⟨_, rfl⟩
     rw [← hi1] at wk g6 gB ii gi0 hil1
     refine Holds.from (σ' := { nt := 64, env := [(6, .v true (.int .i64 (i : Nat))), (23, .v true (.int .i64 (i : Nat))), (22, .v true (.int .i64 (Y.length : Nat))), (5, .own 20 0 Y.length), (0, .v false (words Y)), (1, .v true (.int .i64 s))], mem := [(20, .buf 91 1 true (C1.map fun n => .int .u64 n))] }) (fun x w h => by
      have := Rel.keep [6, 23, 22, 5, 0, 1] [20] h
      rw [hC1, List.map_set]
      exact this) ?_
     refine Holds.step (Px := px) (T := TT) (ρ := fun _ => []) TTe (by simp (maxSteps := 100000) (disch := omega) only [go_sem, V.isAgg, V.flat, ↓reduceIte, Nat.reduceAdd, Nat.reduceSub, Nat.reduceLT, Nat.reduceEqDiff, reduceCtorEq, Nat.reduceLeDiff, Nat.reduceBEq, Nat.reduceMul, Int.reduceToNat, hrm, g5, g6, wk]; rfl) (by repeat' first | exact trivial | constructor) ?_
     refine Holds.condT rfl ?_
     refine Holds.dregion (Px := px) (T := TT) (ρ := fun _ => []) [] mixed (by kernel_rfl) TTe (by simp (maxSteps := 100000) (disch := omega) only [go_sem, V.isAgg, V.flat, ↓reduceIte, Nat.reduceAdd, Nat.reduceSub, Nat.reduceLT, Nat.reduceEqDiff, reduceCtorEq, Nat.reduceLeDiff, Nat.reduceBEq, Nat.reduceMul, Int.reduceToNat, hrm, wk, gi0, g6, ii, gB, gC1, lC1, w64, sl, wo]; rfl) (by repeat' first | exact trivial | constructor) (by rfl) (by rfl) (by rfl) ?_
     intro x w h
     have := Rel.keep [23, 22, 5, 0, 1] [20] h
     rw [List.map_set]
     exact this
    ·have hsame : shr1 r a b = q := by
      unfold shr1
      rw [← hq]
      rcases Nat.eq_zero_or_pos r with h0 | h0
      ·rw [h0]; simp
      ·have : b = 0 := by
        have h1 : Y.length ≤ i + 1 := by omega
        have e : Y.getD (i + 1) 0 = 0 := by rw [List.getD_eq_getElem?_getD, List.getElem?_eq_none h1]; rfl
        omega
       rw [this]; simp
     rw [hsame]
     by_cases h0 : 0 < r
     ·have g5 : (0 : Int) < (r : Int) := by omega
      have g6 : ¬ ((i + 1 : Nat) : Int) < Y.length := by omega
      obtain ⟨i1, hi1⟩ : ∃ i1, i1 = i + 1 := ⟨_, rfl⟩
      rw [← hi1] at wk g6
      refine Holds.step (Px := px) (T := TT) (ρ := fun _ => []) TTe (by simp (maxSteps := 100000) (disch := omega) only [go_sem, V.isAgg, V.flat, ↓reduceIte, Nat.reduceAdd, Nat.reduceSub, Nat.reduceLT, Nat.reduceEqDiff, reduceCtorEq, Nat.reduceLeDiff, Nat.reduceBEq, Nat.reduceMul, Int.reduceToNat, hrm, g5, g6, wk]; rfl) (by repeat' first | exact trivial | constructor) ?_
      exact Holds.condF rfl (Holds.skip fun x w h => by
       have := Rel.keep [23, 22, 5, 0, 1] [20] h
       rw [List.map_set]
       exact this)
     ·have g5 : ¬ (0 : Int) < (r : Int) := by omega
      refine Holds.step (Px := px) (T := TT) (ρ := fun _ => []) TTe (by simp (maxSteps := 100000) (disch := omega) only [go_sem, V.isAgg, V.flat, ↓reduceIte, Nat.reduceAdd, Nat.reduceSub, Nat.reduceLT, Nat.reduceEqDiff, reduceCtorEq, Nat.reduceLeDiff, Nat.reduceBEq, Nat.reduceMul, Int.reduceToNat, hrm, g5]; rfl) (by repeat' first | exact trivial | constructor) ?_
      exact Holds.condF rfl (Holds.skip fun x w h => by
       have := Rel.keep [23, 22, 5, 0, 1] [20] h
       rw [List.map_set]
       exact this)
   ·intro σ hσ
    refine Holds.from hσ ?_
    rw [hnew]
    refine Holds.region (Px := px) (T := TT) (ρ := fun _ => []) TTe (by simp (maxSteps := 100000) (disch := omega) only [go_sem, V.isAgg, V.flat, ↓reduceIte, Nat.reduceAdd, Nat.reduceSub, Nat.reduceLT, Nat.reduceEqDiff, reduceCtorEq, Nat.reduceLeDiff, Nat.reduceBEq, Nat.reduceMul, Int.reduceToNat, wk]; rfl) (by repeat' first | exact trivial | constructor) ?_
    exact ⟨i + 1, (by show i + 1 ≤ Y.length; omega), (show Y.length - (i + 1) < Y.length - i by omega), fun a w h => Rel.keep [23, 22, 5, 0, 1] [20] h⟩
 ·intro σ hσ
  refine Holds.from hσ ?_
  have htk : List.take Y.length (List.map (fun n => V.int .u64 n) S) = List.map (fun n => V.int .u64 n) S := List.take_of_length_le (by rw [List.length_map]; omega)
  refine Holds.step (Px := px) (T := TT) (ρ := fun _ => [.v true (words D)]) TTe (by simp (maxSteps := 100000) (disch := omega) only [go_sem, V.isAgg, V.flat, ↓reduceIte, Nat.reduceAdd, Nat.reduceSub, Nat.reduceLT, Nat.reduceEqDiff, reduceCtorEq, Nat.reduceLeDiff, Nat.reduceBEq, Nat.reduceMul, Int.reduceToNat, htk]; rfl) (by first | exact hT | (repeat' first | exact trivial | exact hT | constructor)) ?_
  exact Holds.ret (RetOk.vs rfl (by exact ⟨⟨rfl, id⟩, trivial⟩) rfl)
theorem val_cut (l : List Int) (k : Nat) (hk : k ≤ l.length) : val l = val (l.take k) + 18446744073709551616 ^ k * val (l.drop k) := by
 have := val_append (l.take k) (l.drop k)
 rw [List.take_append_drop, List.length_take, Nat.min_eq_left hk] at this
 exact this
theorem trim_self {l : List Int} (o : okW l) : trimL (trimL l) = trimL l := by
 rw [trim_digs (trimL_ok o), val_trim, ← trim_digs o]
theorem noZ_top {m n : Nat} (h : (digs m).length = n + 1) : 0 < ((digs m).getD n 0).toNat := by
 have ho := (digs_ok m).1
 have ht : trimL (digs m) = digs m := by rw [trim_digs ho, (digs_ok m).2.2]
 rcases trimL_last (digs m) with hn | ⟨t, z, hn, hz⟩
 ·rw [ht] at hn; rw [hn] at h; cases h
 ·rw [ht] at hn
  have hz' := ho z (by rw [hn]; simp)
  have hl : t.length = n := by rw [hn, List.length_append] at h; simpa using h
  have : (digs m).getD n 0 = z := by rw [hn, ← hl]; simp [List.getD_eq_getElem?_getD]
  rw [this]; omega
def blN (v : Nat) : Nat := if v = 0 then 0 else v.log2 + 1
theorem bl_of {v k : Nat} (h1 : 2 ^ k ≤ v) (h2 : v < 2 ^ (k + 1)) : blN v = k + 1 := by
 have hp : 0 < 2 ^ k := Nat.pow_pos (by decide)
 have h0 : v ≠ 0 := by omega
 rw [blN, if_neg h0]
 have a1 : v.log2 < k + 1 := (Nat.log2_lt h0).2 h2
 have a2 : k ≤ v.log2 := (Nat.le_log2 h0).2 h1
 omega
theorem bl_words {Y : List Int} {n top l : Nat} (oY : okW Y) (hn : Y.length = n + 1) (ht : Y.getD n 0 = (top : Int)) (hl0 : 0 < l) (hl1 : 2 ^ (l - 1) ≤ top) (hl2 : top < 2 ^ l) : blN (val Y) = 64 * n + l := by
 have hv := val_takeN (l := Y) n
 rw [← hn, List.take_length, ht, Int.toNat_natCast] at hv
 have h0 := val_lt (okW_take oY n)
 rw [List.length_take, Nat.min_eq_left (by omega)] at h0
 have hP : (18446744073709551616 : Nat) ^ n = 2 ^ (64 * n) := by rw [Nat.pow_mul]
 rw [hP] at hv h0
 have e : 64 * n + l = (64 * n + (l - 1)) + 1 := by omega
 rw [e]
 refine bl_of ?_ ?_
 ·have := Nat.mul_le_mul_left (2 ^ (64 * n)) hl1
  rw [← Nat.pow_add] at this
  omega
 ·have := Nat.mul_le_mul_left (2 ^ (64 * n)) (Nat.succ_le_of_lt hl2)
  rw [← Nat.pow_add, Nat.succ_eq_add_one, Nat.mul_add, Nat.mul_one, e] at this
  omega
theorem wLen_ok (x : List Int) (hx : x.length < 100000) (ox : okW x) : FnOk Tryz.prog 59 [.v (words x)] [.v true (.int .i64 (blN (val x) : Nat))] := by
 have h1 := view_ok x (by omega)
 have lx := trimL_len x
 have o1 := trimL_ok ox
 have t1 := trim_self ox
 rw [← val_trim x]
 obtain ⟨X, hX⟩ : ∃ X, X = trimL x := ⟨_, rfl⟩
 rw [← hX] at h1 lx o1 t1 ⊢
 clear hX ox
 refine FnOk.of Tryz.func59 rfl rfl fun cx w0 => ?_
 rw [show Tryz.f59.ntmps = 20 from rfl]
 refine Holds.step (Px := px) (T := TT) (ρ := fun _ => []) TTe (by simp (maxSteps := 100000) (disch := omega) only [go_sem, V.isAgg, V.flat, ↓reduceIte, Nat.reduceAdd, Nat.reduceSub, Nat.reduceLT, Nat.reduceEqDiff, reduceCtorEq, Nat.reduceLeDiff, Nat.reduceBEq, Nat.reduceMul, Int.reduceToNat, List.length_cons, List.length_nil]; rfl) (by repeat' first | exact trivial | constructor) ?_
 refine Holds.step (Px := px) (T := TT) (ρ := fun _ => [.v false (words X)]) TTe (by simp (maxSteps := 100000) (disch := omega) only [go_sem, V.isAgg, V.flat, ↓reduceIte, Nat.reduceAdd, Nat.reduceSub, Nat.reduceLT, Nat.reduceEqDiff, reduceCtorEq, Nat.reduceLeDiff, Nat.reduceBEq, Nat.reduceMul, Int.reduceToNat]; rfl) (by first | exact h1 | (repeat' first | exact trivial | exact h1 | constructor)) ?_
 refine Holds.from (σ' := { nt := 20, env := [(0, .v false (words X))], mem := [] }) (fun a w h => Rel.keep [0] [] h) ?_
 refine Holds.seq ?_
 by_cases h0 : X.length = 0
 ·have : X = [] := List.length_eq_zero_iff.1 h0
  subst this
  refine Holds.step (Px := px) (T := TT) (ρ := fun _ => []) TTe (by simp (maxSteps := 100000) (disch := omega) only [go_sem, V.isAgg, V.flat, ↓reduceIte, Nat.reduceAdd, Nat.reduceSub, Nat.reduceLT, Nat.reduceEqDiff, reduceCtorEq, Nat.reduceLeDiff, Nat.reduceBEq, Nat.reduceMul, Int.reduceToNat, words]; rfl) (by repeat' first | exact trivial | constructor) ?_
  refine Holds.condT rfl ?_
  refine Holds.step (Px := px) (T := TT) (ρ := fun _ => []) TTe (by simp (maxSteps := 100000) (disch := omega) only [go_sem, V.isAgg, V.flat, ↓reduceIte, Nat.reduceAdd, Nat.reduceSub, Nat.reduceLT, Nat.reduceEqDiff, reduceCtorEq, Nat.reduceLeDiff, Nat.reduceBEq, Nat.reduceMul, Int.reduceToNat]; rfl) (by repeat' first | exact trivial | constructor) ?_
  exact Holds.ret (RetOk.vs rfl (by exact ⟨⟨rfl, id⟩, trivial⟩) rfl)
 ·obtain ⟨n, hn⟩ : ∃ n, X.length = n + 1 := ⟨X.length - 1, by omega⟩
  obtain ⟨top, ht, ht64⟩ := natW (okW_getD o1 n)
  have gt := get_map (l := X) (i := n) (by omega)
  rw [ht] at gt
  have htp : 0 < top := by
   have := noZ_top (m := val X) (n := n) (by rw [← trim_digs o1, t1]; exact hn)
   rw [← trim_digs o1, t1, ht] at this
   omega
  obtain ⟨l1, l2, l3⟩ := len64_spec ht64 htp
  have hb := bl_words o1 hn ht l1 l2 l3
  have hL := len64_ok top ht64
  have hl64 : len64 top ≤ 64 := by
   rcases Nat.lt_or_ge 64 (len64 top) with h | h
   ·have := Nat.pow_le_pow_right (n := 2) (by decide) (show 64 ≤ len64 top - 1 by omega)
    rw [show (2 : Nat) ^ 64 = 18446744073709551616 from rfl] at this
    omega
   ·exact h
  obtain ⟨l, hl⟩ : ∃ l, l = len64 top := ⟨_, rfl⟩
  rw [← hl] at hb hL hl64
  rw [hb]
  have g0 : ¬ (X.length : Int) = 0 := by omega
  have e1 : (((n + 1 : Nat) : Int) - 1) = (n : Int) := by omega
  have w1 : IntKind.i64.wrap (64 * (n : Int)) = ((64 * n : Nat) : Int) := by rw [wrap_i64] <;> omega
  have w2 : IntKind.i64.wrap (((64 * n : Nat) : Int) + (l : Int)) = ((64 * n + l : Nat) : Int) := by rw [wrap_i64] <;> omega
  refine Holds.step (Px := px) (T := TT) (ρ := fun _ => []) TTe (by simp (maxSteps := 100000) (disch := omega) only [go_sem, V.isAgg, V.flat, ↓reduceIte, Nat.reduceAdd, Nat.reduceSub, Nat.reduceLT, Nat.reduceEqDiff, reduceCtorEq, Nat.reduceLeDiff, Nat.reduceBEq, Nat.reduceMul, Int.reduceToNat, g0]; rfl) (by repeat' first | exact trivial | constructor) ?_
  refine Holds.condF rfl (Holds.skip ?_)
  refine Holds.step (Px := px) (T := TT) (ρ := fun _ => [.v true (.int .i64 (l : Nat))]) TTe (by simp (maxSteps := 100000) (disch := omega) only [go_sem, V.isAgg, V.flat, ↓reduceIte, Nat.reduceAdd, Nat.reduceSub, Nat.reduceLT, Nat.reduceEqDiff, reduceCtorEq, Nat.reduceLeDiff, Nat.reduceBEq, Nat.reduceMul, Int.reduceToNat, hn, e1, gt, w1, w2]; rfl) (by first | exact hL | (repeat' first | exact trivial | exact hL | constructor)) ?_
  exact Holds.ret (RetOk.vs rfl (by exact ⟨⟨rfl, id⟩, trivial⟩) rfl)
def HasD (v D : Nat) : Prop := 1 ≤ D ∧ 10 ^ (D - 1) ≤ v ∧ v < 10 ^ D
theorem hasD_ex : ∀ (v : Nat), 0 < v → ∃ D, HasD v D := fun v hv => by
 have key : ∀ n, v < 10 ^ n → ∃ D, HasD v D := fun n => by
  induction n with
  | zero => intro h; simp at h; omega
  | succ n ih =>
    intro h
    rcases Nat.lt_or_ge v (10 ^ n) with h1 | h1
    ·exact ih h1
    ·exact ⟨n + 1, by omega, h1, h⟩
 exact key v (Nat.lt_pow_self (by decide))
theorem hasD_le {v D n : Nat} (h : HasD v D) (hn : v < 10 ^ n) : D ≤ n := by
 rcases Nat.lt_or_ge n D with h1 | h1
 ·have := Nat.pow_le_pow_right (n := 10) (by decide) (show n ≤ D - 1 by omega)
  have := h.2.1
  omega
 ·exact h1
theorem bl_le {v : Nat} (h : 0 < v) : 2 ^ (blN v - 1) ≤ v ∧ 1 ≤ blN v := by
 rw [blN, if_neg (by omega), Nat.add_sub_cancel]
 exact ⟨Nat.log2_self_le (by omega), by omega⟩
theorem bl_lt {v k : Nat} (h : v < 2 ^ k) : blN v ≤ k := by
 unfold blN
 split
 ·exact Nat.zero_le _
 ·next h0 => exact (Nat.log2_lt h0).2 h
def bitN (v i : Nat) : Bool := decide (v / 2 ^ i % 2 = 1)
theorem bit_word {x : List Int} (ox : okW x) (i : Nat) : val x / 2 ^ i % 2 = (x.getD (i / 64) 0).toNat / 2 ^ (i % 64) % 2 := by
 obtain ⟨m, hm⟩ : ∃ m, m = i / 64 := ⟨_, rfl⟩
 obtain ⟨r, hr⟩ : ∃ r, r = i % 64 := ⟨_, rfl⟩
 rw [← hm, ← hr]
 have hi : i = 64 * m + r := by omega
 have hP : (2 : Nat) ^ i = 18446744073709551616 ^ m * 2 ^ r := by rw [hi, Nat.pow_add, Nat.pow_mul, show (2 : Nat) ^ 64 = 18446744073709551616 from rfl]
 rw [hP, ← Nat.div_div_eq_div_mul]
 rcases Nat.lt_or_ge m x.length with h | h
 ·have hc := val_cut x m (by omega)
  have hl := val_lt (okW_take ox m)
  rw [List.length_take, Nat.min_eq_left (by omega)] at hl
  have hd : val x / 18446744073709551616 ^ m = val (x.drop m) := by
   rw [hc, Nat.add_comm, Nat.mul_add_div (Nat.pow_pos (by decide)), Nat.div_eq_of_lt hl, Nat.add_zero]
  rw [hd, List.drop_eq_getElem_cons h, val, List.getD_eq_getElem?_getD, List.getElem?_eq_getElem h]
  show (x[m].toNat + 18446744073709551616 * val (x.drop (m + 1))) / 2 ^ r % 2 = x[m].toNat / 2 ^ r % 2
  obtain ⟨k, hk⟩ : ∃ k, 64 - r = k + 1 := ⟨63 - r, by omega⟩
  have hB : 18446744073709551616 = 2 ^ r * (2 * 2 ^ k) := by rw [← Nat.pow_succ', ← Nat.pow_add, show r + (k + 1) = 64 from by omega]
  rw [hB, Nat.mul_assoc, Nat.add_comm, Nat.mul_add_div (Nat.pow_pos (by decide)), Nat.mul_assoc]
  omega
 ·have h0 : val x / 18446744073709551616 ^ m = 0 := by
   refine Nat.div_eq_of_lt (Nat.lt_of_lt_of_le (val_lt ox) (Nat.pow_le_pow_right (by decide) h))
  rw [h0, List.getD_eq_getElem?_getD, List.getElem?_eq_none h]
  simp
theorem and_one64 (k : Nat) (hk : k < 18446744073709551616) : bitI .and .u64 (k : Int) 1 = ((k % 2 : Nat) : Int) := by
 show IntKind.u64.wrap ((BitVec.ofInt IntKind.u64.bits (k : Int) &&& BitVec.ofInt IntKind.u64.bits 1).toNat : Int) = _
 have h1 : (BitVec.ofInt IntKind.u64.bits (k : Int) &&& BitVec.ofInt IntKind.u64.bits 1).toNat = k % 2 := by
  rw [BitVec.toNat_and, BitVec.toNat_ofInt, BitVec.toNat_ofInt]
  have e1 : ((k : Int) % ((2 ^ IntKind.u64.bits : Nat) : Int)).toNat = k := by
   show ((k : Int) % 18446744073709551616).toNat = _
   omega
  have e2 : ((1 : Int) % ((2 ^ IntKind.u64.bits : Nat) : Int)).toNat = 1 := by
   show ((1 : Int) % 18446744073709551616).toNat = _
   decide
  rw [e1, e2, Nat.and_one_is_mod]
 rw [h1]
 exact wrapN _ (by omega)
theorem wBit_ok (x : List Int) (i : Nat) (hx : x.length < 100000) (hi : i < 10000000) (ox : okW x) : FnOk Tryz.prog 60 [.v (words x), .v (.int .i64 i)] [.v true (.bool (bitN (val x) i))] := by
 have hb := bit_word ox i
 have hq : (i : Int).tdiv 64 = ((i / 64 : Nat) : Int) := quoN i 64
 have hr : (i : Int).tmod 64 = ((i % 64 : Nat) : Int) := remN i 64
 obtain ⟨w, hw, hw64⟩ := natW (okW_getD ox (i / 64))
 rw [hw, Int.toNat_natCast] at hb
 unfold bitN
 rw [hb]
 have hs := shrG w (i % 64) (by omega)
 have hle : w / 2 ^ (i % 64) ≤ w := Nat.div_le_self _ _
 have hwr := wrapN (w / 2 ^ (i % 64)) (by omega)
 have ha := and_one64 (w / 2 ^ (i % 64)) (by omega)
 obtain ⟨m, hm⟩ : ∃ m, m = i / 64 := ⟨_, rfl⟩
 obtain ⟨r, hr'⟩ : ∃ r, r = i % 64 := ⟨_, rfl⟩
 obtain ⟨u, hu⟩ : ∃ u, u = w / 2 ^ r := ⟨_, rfl⟩
 have hml : m < 10000000 := by omega
 rw [← hm] at hq hw
 rw [← hr'] at hr hs hwr ha ⊢
 rw [← hu] at hs hwr ha ⊢
 have g0 : (0 : Int) ≤ (i : Int) := by omega
 refine FnOk.of Tryz.func60 rfl rfl fun cx w0 => ?_
 rw [show Tryz.f60.ntmps = 26 from rfl]
 refine Holds.step (Px := px) (T := TT) (ρ := fun _ => []) TTe (by simp (maxSteps := 100000) (disch := omega) only [go_sem, V.isAgg, V.flat, ↓reduceIte, Nat.reduceAdd, Nat.reduceSub, Nat.reduceLT, Nat.reduceEqDiff, reduceCtorEq, Nat.reduceLeDiff, Nat.reduceBEq, Nat.reduceMul, Int.reduceToNat, List.length_cons, List.length_nil]; rfl) (by repeat' first | exact trivial | constructor) ?_
 by_cases hlt : m < x.length
 ·have g1 : (m : Int) < x.length := by omega
  have gx : x[m]? = some (w : Int) := by rw [get_map hlt, hw]
  rcases Nat.mod_two_eq_zero_or_one u with h | h
  ·rw [h] at ha ⊢
   rw [decide_eq_false (by decide)]
   refine Holds.step (Px := px) (T := TT) (ρ := fun _ => []) TTe (by simp (maxSteps := 100000) (disch := omega) only [go_sem, V.isAgg, V.flat, ↓reduceIte, Nat.reduceAdd, Nat.reduceSub, Nat.reduceLT, Nat.reduceEqDiff, reduceCtorEq, Nat.reduceLeDiff, Nat.reduceBEq, Nat.reduceMul, Int.reduceToNat, g0, hq, hr, g1, gx, hs, hwr, ha]; rfl) (by repeat' first | exact trivial | constructor) ?_
   exact Holds.ret (RetOk.vs rfl (by exact ⟨⟨rfl, id⟩, trivial⟩) rfl)
  ·rw [h] at ha ⊢
   rw [decide_eq_true rfl]
   refine Holds.step (Px := px) (T := TT) (ρ := fun _ => []) TTe (by simp (maxSteps := 100000) (disch := omega) only [go_sem, V.isAgg, V.flat, ↓reduceIte, Nat.reduceAdd, Nat.reduceSub, Nat.reduceLT, Nat.reduceEqDiff, reduceCtorEq, Nat.reduceLeDiff, Nat.reduceBEq, Nat.reduceMul, Int.reduceToNat, g0, hq, hr, g1, gx, hs, hwr, ha]; rfl) (by repeat' first | exact trivial | constructor) ?_
   exact Holds.ret (RetOk.vs rfl (by exact ⟨⟨rfl, id⟩, trivial⟩) rfl)
 ·have g1 : ¬ (m : Int) < x.length := by omega
  have hw0 : w = 0 := by
   have : x.getD m 0 = 0 := by rw [List.getD_eq_getElem?_getD, List.getElem?_eq_none (by omega)]; rfl
   omega
  rw [show u = 0 from by rw [hu, hw0, Nat.zero_div]]
  rw [decide_eq_false (by decide)]
  refine Holds.step (Px := px) (T := TT) (ρ := fun _ => []) TTe (by simp (maxSteps := 100000) (disch := omega) only [go_sem, V.isAgg, V.flat, ↓reduceIte, Nat.reduceAdd, Nat.reduceSub, Nat.reduceLT, Nat.reduceEqDiff, reduceCtorEq, Nat.reduceLeDiff, Nat.reduceBEq, Nat.reduceMul, Int.reduceToNat, g0, hq, hr, g1]; rfl) (by repeat' first | exact trivial | constructor) ?_
  exact Holds.ret (RetOk.vs rfl (by exact ⟨⟨rfl, id⟩, trivial⟩) rfl)
theorem Right_ok (r : Int) : FnOk Tryz.prog 105 [.v (.int .i64 r)] [.v true (.bool (decide (0 ≤ r ∧ r ≤ 4)))] := by
 refine FnOk.of Tryz.func105 rfl rfl fun cx w0 => ?_
 rw [show Tryz.f105.ntmps = 9 from rfl]
 refine Holds.step (Px := px) (T := TT) (ρ := fun _ => []) TTe (by simp (maxSteps := 100000) (disch := omega) only [go_sem, V.isAgg, V.flat, ↓reduceIte, Nat.reduceAdd, Nat.reduceSub, Nat.reduceLT, Nat.reduceEqDiff, reduceCtorEq, Nat.reduceLeDiff, Nat.reduceBEq, Nat.reduceMul, Int.reduceToNat, List.length_cons, List.length_nil]; rfl) (by repeat' first | exact trivial | constructor) ?_
 by_cases h1 : 0 ≤ r
 ·by_cases h2 : r ≤ 4
  ·rw [decide_eq_true ⟨h1, h2⟩]
   refine Holds.step (Px := px) (T := TT) (ρ := fun _ => []) TTe (by simp (maxSteps := 100000) (disch := omega) only [go_sem, V.isAgg, V.flat, ↓reduceIte, Nat.reduceAdd, Nat.reduceSub, Nat.reduceLT, Nat.reduceEqDiff, reduceCtorEq, Nat.reduceLeDiff, Nat.reduceBEq, Nat.reduceMul, Int.reduceToNat, h1, h2]; rfl) (by repeat' first | exact trivial | constructor) ?_
   exact Holds.ret (RetOk.vs rfl (by exact ⟨⟨rfl, id⟩, trivial⟩) rfl)
  ·rw [decide_eq_false (fun h => h2 h.2)]
   refine Holds.step (Px := px) (T := TT) (ρ := fun _ => []) TTe (by simp (maxSteps := 100000) (disch := omega) only [go_sem, V.isAgg, V.flat, ↓reduceIte, Nat.reduceAdd, Nat.reduceSub, Nat.reduceLT, Nat.reduceEqDiff, reduceCtorEq, Nat.reduceLeDiff, Nat.reduceBEq, Nat.reduceMul, Int.reduceToNat, h1, h2]; rfl) (by repeat' first | exact trivial | constructor) ?_
   exact Holds.ret (RetOk.vs rfl (by exact ⟨⟨rfl, id⟩, trivial⟩) rfl)
 ·rw [decide_eq_false (fun h => h1 h.1)]
  refine Holds.step (Px := px) (T := TT) (ρ := fun _ => []) TTe (by simp (maxSteps := 100000) (disch := omega) only [go_sem, V.isAgg, V.flat, ↓reduceIte, Nat.reduceAdd, Nat.reduceSub, Nat.reduceLT, Nat.reduceEqDiff, reduceCtorEq, Nat.reduceLeDiff, Nat.reduceBEq, Nat.reduceMul, Int.reduceToNat, h1]; rfl) (by repeat' first | exact trivial | constructor) ?_
  exact Holds.ret (RetOk.vs rfl (by exact ⟨⟨rfl, id⟩, trivial⟩) rfl)
def trF : Nat → Nat → Nat
 | 0, _ => 0
 | f + 1, v => if v % 2 = 0 then trF f (v / 2) + 1 else 0
def trN (v : Nat) : Nat := trF v v
theorem trF_ok : ∀ (f v : Nat), 0 < v → v ≤ f → ∃ c, v = (2 * c + 1) * 2 ^ trF f v
 | 0, v, h, hf => by omega
 | f + 1, v, h, hf => by
   rw [trF]
   by_cases h0 : v % 2 = 0
   ·obtain ⟨c, hc⟩ := trF_ok f (v / 2) (by omega) (by omega)
    refine ⟨c, ?_⟩
    rw [if_pos h0, Nat.pow_succ, ← Nat.mul_assoc, ← hc]
    omega
   ·rw [if_neg h0]
    exact ⟨v / 2, by rw [Nat.pow_zero]; omega⟩
theorem trN_ok {v : Nat} (h : 0 < v) : ∃ c, v = (2 * c + 1) * 2 ^ trN v := trF_ok v v h (Nat.le_refl _)
theorem odd_uniq {c d : Nat} : ∀ {s t : Nat}, (2 * c + 1) * 2 ^ s = (2 * d + 1) * 2 ^ t → s = t
 | 0, 0, _ => rfl
 | 0, t + 1, h => by rw [Nat.pow_zero, Nat.pow_succ, ← Nat.mul_assoc] at h; omega
 | s + 1, 0, h => by rw [Nat.pow_zero, Nat.pow_succ, ← Nat.mul_assoc] at h; omega
 | s + 1, t + 1, h => by
   rw [Nat.pow_succ, Nat.pow_succ, ← Nat.mul_assoc, ← Nat.mul_assoc] at h
   rw [odd_uniq (Nat.eq_of_mul_eq_mul_right (by decide) h)]
theorem trN_of {v c t : Nat} (h : v = (2 * c + 1) * 2 ^ t) : trN v = t := by
 have hp : 0 < v := by rw [h]; exact Nat.mul_pos (by omega) (Nat.pow_pos (by decide))
 obtain ⟨d, hd⟩ := trN_ok hp
 exact odd_uniq (hd.symm.trans h)
theorem trN_le {v k : Nat} (h : 0 < v) (hk : v < 2 ^ k) : trN v < k := by
 obtain ⟨c, hc⟩ := trN_ok h
 rcases Nat.lt_or_ge (trN v) k with h1 | h1
 ·exact h1
 ·have h2 := Nat.pow_le_pow_right (n := 2) (by decide) h1
  have h3 : 2 ^ trN v ≤ (2 * c + 1) * 2 ^ trN v := Nat.le_mul_of_pos_left _ (by omega)
  omega
theorem land_rec (a b : Nat) : a &&& b = 2 * (a / 2 &&& b / 2) + a % 2 * (b % 2) := by
 have h1 := Nat.div_add_mod (a &&& b) 2
 have h2 : (a &&& b) % 2 = a % 2 * (b % 2) := by
  have := Nat.and_mod_two_pow (a := a) (b := b) (n := 1)
  rw [Nat.pow_one] at this
  rw [this]
  rcases Nat.mod_two_eq_zero_or_one a with h | h <;> rcases Nat.mod_two_eq_zero_or_one b with h' | h' <;> rw [h, h'] <;> rfl
 rw [Nat.and_div_two, h2] at h1
 exact h1.symm
theorem land_compl : ∀ (n c d : Nat), c + d + 1 = 2 ^ n → c &&& d = 0
 | 0, c, d, h => by
   rw [Nat.pow_zero] at h
   rw [show c = 0 from by omega, show d = 0 from by omega]
   rfl
 | n + 1, c, d, h => by
   rw [Nat.pow_succ] at h
   rw [land_rec, land_compl n (c / 2) (d / 2) (by omega)]
   rcases Nat.mod_two_eq_zero_or_one c with e | e
   ·rw [e, Nat.zero_mul]
   ·simp [show d % 2 = 0 from by omega]
theorem land_neg : ∀ (n x y : Nat), 0 < x → x + y = 2 ^ n → x < 2 ^ n → x &&& y = 2 ^ trN x
 | 0, x, y, h0, h, h1 => by rw [Nat.pow_zero] at h1; omega
 | n + 1, x, y, h0, h, h1 => by
   rw [Nat.pow_succ] at h h1
   rw [land_rec]
   rcases Nat.mod_two_eq_zero_or_one x with e | e
   ·obtain ⟨c, hc⟩ := trN_ok (v := x / 2) (by omega)
    have ht : trN x = trN (x / 2) + 1 := trN_of (c := c) (by rw [Nat.pow_succ, ← Nat.mul_assoc, ← hc]; omega)
    rw [land_neg n (x / 2) (y / 2) (by omega) (by omega) (by omega), e, Nat.zero_mul, ht, Nat.pow_succ]
    omega
   ·have ht : trN x = 0 := trN_of (c := x / 2) (by rw [Nat.pow_zero]; omega)
    rw [land_compl n (x / 2) (y / 2) (by omega), e, show y % 2 = 1 from by omega, ht]
theorem and_neg64 {x : Nat} (h0 : 0 < x) (hx : x < 18446744073709551616) : bitI .and .u64 (x : Int) ((18446744073709551616 - x : Nat) : Int) = ((2 ^ trN x : Nat) : Int) := by
 show IntKind.u64.wrap ((BitVec.ofInt IntKind.u64.bits (x : Int) &&& BitVec.ofInt IntKind.u64.bits ((18446744073709551616 - x : Nat) : Int)).toNat : Int) = _
 have h1 : (BitVec.ofInt IntKind.u64.bits (x : Int) &&& BitVec.ofInt IntKind.u64.bits ((18446744073709551616 - x : Nat) : Int)).toNat = 2 ^ trN x := by
  rw [BitVec.toNat_and, BitVec.toNat_ofInt, BitVec.toNat_ofInt]
  have e1 : ((x : Int) % ((2 ^ IntKind.u64.bits : Nat) : Int)).toNat = x := by
   show ((x : Int) % 18446744073709551616).toNat = _
   omega
  have e2 : (((18446744073709551616 - x : Nat) : Int) % ((2 ^ IntKind.u64.bits : Nat) : Int)).toNat = 18446744073709551616 - x := by
   show (((18446744073709551616 - x : Nat) : Int) % 18446744073709551616).toNat = _
   omega
  rw [e1, e2]
  exact land_neg 64 x _ h0 (show _ = 18446744073709551616 by omega) hx
 rw [h1]
 have := trN_le (k := 64) h0 hx
 exact wrapN _ (Nat.pow_lt_pow_right (a := 2) (by decide) this)
def bruijnL : List V := match bruijnV with | .agg l => l | _ => []
def u8N : V → Nat
 | .int .u8 (.ofNat n) => n
 | _ => 999
def brN : List Nat := bruijnL.map u8N
def brI (t : Nat) : Nat := 2 ^ t * 285870213051353865 % 18446744073709551616 / 288230376151711744
theorem br_map : brN.map (fun n => V.int .u8 (n : Nat)) = bruijnL := by kernel_rfl
theorem br_all : ((List.range 64).map fun t => brN.getD (brI t) 99) = List.range 64 := by kernel_rfl
theorem br_get {t : Nat} (h : t < 64) : bruijnL[2 ^ t * 285870213051353865 % 18446744073709551616 / 2 ^ 58]? = some (.int .u8 t) := by
 have h1 : ((List.range 64).map fun t => brN.getD (brI t) 99)[t]? = some t := by rw [br_all, List.getElem?_range h]
 rw [List.getElem?_map, List.getElem?_range h, Option.map_some, List.getD_eq_getElem?_getD] at h1
 have h2 : brN[brI t]?.getD 99 = t := Option.some.inj h1
 rw [← br_map, List.getElem?_map, show 2 ^ t * 285870213051353865 % 18446744073709551616 / 2 ^ 58 = brI t from rfl]
 cases hg : brN[brI t]? with
 | none => rw [hg] at h2; simp at h2; omega
 | some n => rw [hg] at h2; simp at h2; rw [h2]; rfl
def isU8 : V → Bool
 | .int .u8 _ => true
 | _ => false
theorem br_u8 : bruijnL.all isU8 = true := by kernel_rfl
theorem br_off {k : Nat} (h : k ≤ bruijnL.length) : V.off bruijnL k = k := by
 rw [off_all (z := 1) (fun x hx => by
  have := List.all_eq_true.1 br_u8 x hx
  match x, this with
  | .int .u8 _, _ => rfl) h, Nat.mul_one]
theorem tz64_ok (x : Nat) (h0 : 0 < x) (hx : x < 18446744073709551616) : FnOk Tryz.prog 242 [.v (.int .u64 x)] [.v true (.int .i64 (trN x))] := by
 have ht := trN_le (k := 64) h0 hx
 have ha := and_neg64 h0 hx
 have wn : IntKind.u64.wrap (0 - (x : Int)) = ((18446744073709551616 - x : Nat) : Int) := by rw [wrap_u64]; omega
 obtain ⟨t, ht'⟩ : ∃ t, t = trN x := ⟨_, rfl⟩
 rw [← ht'] at ht ha ⊢
 have hg := br_get ht
 obtain ⟨a, ha'⟩ : ∃ a, a = 2 ^ t := ⟨_, rfl⟩
 rw [← ha'] at ha hg
 have wm : IntKind.u64.wrap ((a : Int) * 285870213051353865) = ((a * 285870213051353865 % 18446744073709551616 : Nat) : Int) := by
  rw [show ((a : Int) * 285870213051353865) = ((a * 285870213051353865 : Nat) : Int) from by omega]
  exact wrapM _
 obtain ⟨m, hm⟩ : ∃ m, m = a * 285870213051353865 % 18446744073709551616 := ⟨_, rfl⟩
 have hml : m < 18446744073709551616 := by rw [hm]; exact Nat.mod_lt _ (by decide)
 rw [← hm] at wm hg
 have hs := shrG m 58 (by decide)
 obtain ⟨i, hi⟩ : ∃ i, i = m / 2 ^ 58 := ⟨_, rfl⟩
 have hil : i < 64 := by rw [hi, Nat.div_lt_iff_lt_mul (by decide)]; exact hml
 rw [← hi] at hs hg
 have hoff : V.off bruijnL i = i := br_off (by rw [show bruijnL.length = 64 from rfl]; omega)
 have hG : lookG GLOB 3 = some (.agg bruijnL) := rfl
 have hl : bruijnL.length = 64 := rfl
 obtain ⟨fs, hfs⟩ : ∃ fs, fs = bruijnL := ⟨_, rfl⟩
 rw [← hfs] at hg hoff hG hl
 have g0 : ¬ (x : Int) = 0 := by omega
 have wi : IntKind.u64.wrap (i : Int) = (i : Int) := wrapN i (by omega)
 have g1 : (0 : Int) ≤ (i : Int) := by omega
 have g2 : (i : Int) < 64 := by omega
 refine FnOk.of Tryz.func242 rfl rfl fun cx w0 => ?_
 rw [show Tryz.f242.ntmps = 14 from rfl]
 refine Holds.step (Px := px) (T := TT) (ρ := fun _ => []) TTe (by simp (maxSteps := 100000) (disch := omega) only [go_sem, V.isAgg, V.flat, ↓reduceIte, Nat.reduceAdd, Nat.reduceSub, Nat.reduceLT, Nat.reduceEqDiff, reduceCtorEq, Nat.reduceLeDiff, Nat.reduceBEq, Nat.reduceMul, Int.reduceToNat, List.length_cons, List.length_nil]; rfl) (by repeat' first | exact trivial | constructor) ?_
 refine Holds.seq ?_
 refine Holds.step (Px := px) (T := TT) (ρ := fun _ => []) TTe (by simp (maxSteps := 100000) (disch := omega) only [go_sem, V.isAgg, V.flat, ↓reduceIte, Nat.reduceAdd, Nat.reduceSub, Nat.reduceLT, Nat.reduceEqDiff, reduceCtorEq, Nat.reduceLeDiff, Nat.reduceBEq, Nat.reduceMul, Int.reduceToNat, g0]; rfl) (by repeat' first | exact trivial | constructor) ?_
 refine Holds.condF rfl (Holds.skip ?_)
 obtain ⟨sA, hA⟩ : ∃ s, arrT Tryz.prog 280 = some (64, 1, s) := ⟨_, rfl⟩
 have wt : IntKind.i64.wrap (t : Int) = (t : Int) := by rw [wrap_i64] <;> omega
 refine Holds.step (Px := px) (T := TT) (ρ := fun _ => []) TTe (by simp (maxSteps := 100000) (disch := omega) only [go_sem, V.isAgg, V.flat, ↓reduceIte, Nat.reduceAdd, Nat.reduceSub, Nat.reduceLT, Nat.reduceEqDiff, reduceCtorEq, Nat.reduceLeDiff, Nat.reduceBEq, Nat.reduceMul, Int.reduceToNat, unA, wn, ha, wm, hs, wi, hG, hg, hoff, hl, g1, g2, hA, wt]; rfl) (by repeat' first | exact trivial | constructor) ?_
 exact Holds.ret (RetOk.vs rfl (by exact ⟨⟨rfl, id⟩, trivial⟩) rfl)
theorem tr_words {X : List Int} {i w : Nat} (hz : val (X.take i) = 0) (hi : i < X.length) (hw : X.getD i 0 = (w : Int)) (h0 : 0 < w) (h64 : w < 18446744073709551616) : trN (val X) = 64 * i + trN w := by
 have h1 := val_cut X i (by omega)
 have h2 := val_cut X (i + 1) (by omega)
 rw [val_takeN, hz, hw, Int.toNat_natCast, Nat.zero_add] at h2
 obtain ⟨R, hR⟩ : ∃ R, R = val (X.drop (i + 1)) := ⟨_, rfl⟩
 rw [← hR] at h2
 obtain ⟨c, hc⟩ := trN_ok h0
 have ht := trN_le (k := 64) h0 h64
 obtain ⟨t, ht'⟩ : ∃ t, t = trN w := ⟨_, rfl⟩
 rw [← ht'] at hc ht ⊢
 have hP : (18446744073709551616 : Nat) ^ i = 2 ^ (64 * i) := by rw [Nat.pow_mul]
 have hB : (18446744073709551616 : Nat) = 2 * 2 ^ (63 - t) * 2 ^ t := by
  rw [Nat.mul_comm 2, ← Nat.pow_succ, ← Nat.pow_add, show (63 - t).succ + t = 64 from by omega]
 refine trN_of (c := c + 2 ^ (63 - t) * R) ?_
 rw [h2, Nat.pow_succ, Nat.pow_add, hP]
 obtain ⟨P, hP'⟩ : ∃ P, P = 2 ^ (64 * i) := ⟨_, rfl⟩
 rw [← hP', hc]
 obtain ⟨T, hT⟩ : ∃ T, T = 2 ^ t := ⟨_, rfl⟩
 obtain ⟨S, hS⟩ : ∃ S, S = 2 ^ (63 - t) := ⟨_, rfl⟩
 rw [← hT, ← hS] at hB
 rw [← hT, ← hS]
 obtain ⟨B, hB'⟩ : ∃ B, B = (18446744073709551616 : Nat) := ⟨_, rfl⟩
 rw [← hB'] at hB ⊢
 rw [hB]
 grind
theorem wTrailing_ok (x : List Int) (hx : x.length < 100000) (ox : okW x) : FnOk Tryz.prog 186 [.v (words x)] [.v true (.int .i64 (trN (val x)))] := by
 obtain ⟨T, hT⟩ : ∃ T, T = trN (val x) := ⟨_, rfl⟩
 rw [← hT]
 refine FnOk.of Tryz.func186 rfl rfl fun cx w0 => ?_
 rw [show Tryz.f186.ntmps = 20 from rfl]
 refine Holds.step (Px := px) (T := TT) (ρ := fun _ => []) TTe (by simp (maxSteps := 100000) (disch := omega) only [go_sem, V.isAgg, V.flat, ↓reduceIte, Nat.reduceAdd, Nat.reduceSub, Nat.reduceLT, Nat.reduceEqDiff, reduceCtorEq, Nat.reduceLeDiff, Nat.reduceBEq, Nat.reduceMul, Int.reduceToNat, List.length_cons, List.length_nil]; rfl) (by repeat' first | exact trivial | constructor) ?_
 refine Holds.next (fun σ => T = 0 ∧ ∀ a w, Rel cx w0 σ a w → Rel cx w0 { nt := 20, env := [], mem := [] } a w) ?_ ?_
 ·refine Holds.step (Px := px) (T := TT) (ρ := fun _ => []) TTe (by simp (maxSteps := 100000) (disch := omega) only [go_sem, V.isAgg, V.flat, ↓reduceIte, Nat.reduceAdd, Nat.reduceSub, Nat.reduceLT, Nat.reduceEqDiff, reduceCtorEq, Nat.reduceLeDiff, Nat.reduceBEq, Nat.reduceMul, Int.reduceToNat]; rfl) (by repeat' first | exact trivial | constructor) ?_
  refine Holds.loopB (fun i : Nat => { nt := 20, env := [(7, .v true (.int .i64 (i : Nat))), (6, .v true (.int .i64 (x.length : Nat))), (5, .v false (words x))], mem := [] })
   (fun i => i ≤ x.length ∧ val (x.take i) = 0) (fun i => x.length - i) 0 ⟨Nat.zero_le _, rfl⟩ (fun a w h => Rel.keep [7, 6, 5] [] h) ?_
  rintro i ⟨hi, hz⟩
  by_cases hend : i = x.length
  ·have g : ¬ (i : Int) < x.length := by omega
   refine Holds.step (Px := px) (T := TT) (ρ := fun _ => []) TTe (by simp (maxSteps := 100000) (disch := omega) only [go_sem, V.isAgg, V.flat, ↓reduceIte, Nat.reduceAdd, Nat.reduceSub, Nat.reduceLT, Nat.reduceEqDiff, reduceCtorEq, Nat.reduceLeDiff, Nat.reduceBEq, Nat.reduceMul, Int.reduceToNat, g]; rfl) (by repeat' first | exact trivial | constructor) ?_
   refine Holds.seq (Holds.condF rfl (Holds.exit ⟨rfl, by rw [hend, List.take_length] at hz; rw [hT, hz]; rfl, fun a w h => Rel.keep [] [] h⟩))
  ·have g : (i : Int) < x.length := by omega
   obtain ⟨u, hu, hu64⟩ := natW (okW_getD ox i)
   have gX : x[i]? = some (u : Int) := by rw [get_map (by omega), hu]
   have wk : IntKind.i64.wrap ((i : Int) + 1) = ((i + 1 : Nat) : Int) := by rw [wrap_i64] <;> omega
   refine Holds.step (Px := px) (T := TT) (ρ := fun _ => []) TTe (by simp (maxSteps := 100000) (disch := omega) only [go_sem, V.isAgg, V.flat, ↓reduceIte, Nat.reduceAdd, Nat.reduceSub, Nat.reduceLT, Nat.reduceEqDiff, reduceCtorEq, Nat.reduceLeDiff, Nat.reduceBEq, Nat.reduceMul, Int.reduceToNat, g]; rfl) (by repeat' first | exact trivial | constructor) ?_
   refine Holds.seq (Holds.condT rfl (Holds.skip ?_))
   show Holds _ _ _ _ _ _ _
   refine Holds.next (fun σ => u = 0 ∧ ∀ a w, Rel cx w0 σ a w → Rel cx w0 { nt := 20, env := [(7, .v true (.int .i64 (i : Nat))), (6, .v true (.int .i64 (x.length : Nat))), (5, .v false (words x))], mem := [] } a w) ?_ ?_
   ·refine Holds.blockN ?_
    refine Holds.step (Px := px) (T := TT) (ρ := fun _ => []) TTe (by simp (maxSteps := 100000) (disch := omega) only [go_sem, V.isAgg, V.flat, ↓reduceIte, Nat.reduceAdd, Nat.reduceSub, Nat.reduceLT, Nat.reduceEqDiff, reduceCtorEq, Nat.reduceLeDiff, Nat.reduceBEq, Nat.reduceMul, Int.reduceToNat, words, gX]; rfl) (by repeat' first | exact trivial | constructor) ?_
    rcases Nat.eq_zero_or_pos u with h0 | h0
    ·subst h0
     refine Holds.step (Px := px) (T := TT) (ρ := fun _ => []) TTe (by simp (maxSteps := 100000) (disch := omega) only [go_sem, V.isAgg, V.flat, ↓reduceIte, Nat.reduceAdd, Nat.reduceSub, Nat.reduceLT, Nat.reduceEqDiff, reduceCtorEq, Nat.reduceLeDiff, Nat.reduceBEq, Nat.reduceMul, Int.reduceToNat]; rfl) (by repeat' first | exact trivial | constructor) ?_
     exact Holds.condF rfl (Holds.skip ⟨rfl, fun a w h => Rel.keep [7, 6, 5] [] h⟩)
    ·have g0 : ¬ (u : Int) = 0 := by omega
     have hZ := tz64_ok u h0 hu64
     have hw := tr_words hz (by omega) hu h0 hu64
     have htl := trN_le (k := 64) h0 hu64
     rw [← hT] at hw
     have w1 : IntKind.i64.wrap (64 * (i : Int) + (trN u : Nat)) = (T : Int) := by rw [wrap_i64] <;> omega
     obtain ⟨z, hz'⟩ : ∃ z, z = trN u := ⟨_, rfl⟩
     rw [← hz'] at hZ w1
     refine Holds.step (Px := px) (T := TT) (ρ := fun _ => []) TTe (by simp (maxSteps := 100000) (disch := omega) only [go_sem, V.isAgg, V.flat, ↓reduceIte, Nat.reduceAdd, Nat.reduceSub, Nat.reduceLT, Nat.reduceEqDiff, reduceCtorEq, Nat.reduceLeDiff, Nat.reduceBEq, Nat.reduceMul, Int.reduceToNat, g0]; rfl) (by repeat' first | exact trivial | constructor) ?_
     refine Holds.condT rfl ?_
     refine Holds.step (Px := px) (T := TT) (ρ := fun _ => [.v true (.int .i64 z)]) TTe (by simp (maxSteps := 100000) (disch := omega) only [go_sem, V.isAgg, V.flat, ↓reduceIte, Nat.reduceAdd, Nat.reduceSub, Nat.reduceLT, Nat.reduceEqDiff, reduceCtorEq, Nat.reduceLeDiff, Nat.reduceBEq, Nat.reduceMul, Int.reduceToNat, w1]; rfl) (by first | exact hZ | (repeat' first | exact trivial | exact hZ | constructor)) ?_
     exact Holds.ret (RetOk.vs rfl (by exact ⟨⟨rfl, id⟩, trivial⟩) rfl)
   ·rintro σ ⟨h0, hσ⟩
    refine Holds.from hσ ?_
    refine Holds.region (Px := px) (T := TT) (ρ := fun _ => []) TTe (by simp (maxSteps := 100000) (disch := omega) only [go_sem, V.isAgg, V.flat, ↓reduceIte, Nat.reduceAdd, Nat.reduceSub, Nat.reduceLT, Nat.reduceEqDiff, reduceCtorEq, Nat.reduceLeDiff, Nat.reduceBEq, Nat.reduceMul, Int.reduceToNat, wk]; rfl) (by repeat' first | exact trivial | constructor) ?_
    refine ⟨i + 1, ⟨by show i + 1 ≤ x.length; omega, ?_⟩, (show x.length - (i + 1) < x.length - i by omega), fun a w h => Rel.keep [7, 6, 5] [] h⟩
    rw [val_takeN, hz, hu, h0]
    simp
 ·rintro σ ⟨h0, hσ⟩
  refine Holds.from hσ ?_
  rw [h0]
  refine Holds.step (Px := px) (T := TT) (ρ := fun _ => []) TTe (by simp (maxSteps := 100000) (disch := omega) only [go_sem, V.isAgg, V.flat, ↓reduceIte, Nat.reduceAdd, Nat.reduceSub, Nat.reduceLT, Nat.reduceEqDiff, reduceCtorEq, Nat.reduceLeDiff, Nat.reduceBEq, Nat.reduceMul, Int.reduceToNat]; rfl) (by repeat' first | exact trivial | constructor) ?_
  exact Holds.ret (RetOk.vs rfl (by exact ⟨⟨rfl, id⟩, trivial⟩) rfl)
theorem digs_mono {a b : Nat} (h : a ≤ b) : (digs a).length ≤ (digs b).length := by
 have h1 := val_lt (digs_ok b).1
 rw [(digs_ok b).2.2] at h1
 exact digs_len (Nat.lt_of_le_of_lt h h1)
end Go.Proofs.YtlpolbeikangpaaGreatDoor.L
