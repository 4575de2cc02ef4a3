/-
  Ib Ic Id Ie If Ig Ih Ii Ij Ik Il Im In Io ParseDecimals0
-/
import Derived.Test.YtobacemgcjnahaaGreatDoorQ4
import Derived.Test.YtobacemgcjnahaaGreatDoorQ8
import Derived.Test.YtobacemgcjnahaaGreatDoorQ7
import Derived.Test.YtobacemgcjnahaaGreatDoorQ6
set_option linter.unusedSimpArgs false
set_option linter.unusedVariables false
namespace Go.Proofs.YtobacemgcjnahaaGreatDoor.L
open Go Go.RowKit Go.Proofs
attribute [local go_sem] evalOps_nil evalOps_cons runW_t runW_f runE_s runP_s wantA evalOp effOp letters okDst coreA St.opv St.get St.at look constA St.put St.upd St.set decide_true List.all_nil List.all_cons Bool.and_true Bool.true_and and_self and_true true_and if_true if_false true_or Int.sub_zero List.nil_append List.cons_append List.append_nil Option.isSome_some List.getElem?_toArray List.getElem?_cons_succ List.getElem?_cons_zero Option.bind_some Option.map_some Option.map_none beq_self_eq_true Bool.false_beq Bool.true_beq Bool.not_true Bool.not_false Bool.false_eq_true cond_true cond_false binA binI List.map_cons List.map_nil boundA List.length_nil List.length_cons Nat.zero_mul Nat.one_mul Nat.mul_one Nat.zero_add Nat.add_zero Nat.zero_le Option.toList St.freshB AV.ment AV.ments Blk.ment V.sizes Nat.lt_add_one Bool.or_true Bool.true_or Bool.or_false Bool.false_or Bool.or_self if_pos if_neg decide_false decide_eq_true decide_eq_false wrap_i64 Int.toNat_natCast minA maxA Int.natCast_add Int.cast_ofNat_Int Option.isSome_none false_implies true_implies forall_const List.drop_zero Int.toNat_zero Int.add_sub_cancel lenA sliceA loadA indexAddrA partA fitsT V.atP V.offP V.size List.length_map List.getElem?_map Int.toNat_natCast_add_one Int.ofNat_eq_natCast TY calleeA capArg knotA capArgs toArgs toArg callA R.res R.mems R.blks R.av R.names R.nw invokeA storeA storeV fieldAddrA liveB V.off V.offs V.setP List.set_cons_zero List.set_cons_succ buildA buildP partsA appendA srcA copyA boxOk makeA AV.pure List.take_succ_cons List.take_zero nilA words unA entry List.zipIdx_cons List.zipIdx_nil Arg.av Arg.avs
def trF : Nat → Nat → Nat
 | 0, _ => 0
 | f + 1, v => if v % 2 = 0 then trF f (v / 2) + 1 else 0
def trN (v : Nat) : Nat := trF v v
theorem trF_ok : ∀ (f v : Nat), 0 < v → v ≤ f → ∃ c, v = (2 * c + 1) * 2 ^ trF f v
 | 0, v, h, hf => by omega
 | f + 1, v, h, hf => by
   rw [trF]
   by_cases h0 : v % 2 = 0
   ·obtain ⟨c, hc⟩ := trF_ok f (v / 2) (by omega) (by omega)
    refine ⟨c, ?_⟩
    rw [if_pos h0, Nat.pow_succ, ← Nat.mul_assoc, ← hc]
    omega
   ·rw [if_neg h0]
    exact ⟨v / 2, by rw [Nat.pow_zero]; omega⟩
theorem trN_ok {v : Nat} (h : 0 < v) : ∃ c, v = (2 * c + 1) * 2 ^ trN v := trF_ok v v h (Nat.le_refl _)
theorem odd_uniq {c d : Nat} : ∀ {s t : Nat}, (2 * c + 1) * 2 ^ s = (2 * d + 1) * 2 ^ t → s = t
 | 0, 0, _ => rfl
 | 0, t + 1, h => by rw [Nat.pow_zero, Nat.pow_succ, ← Nat.mul_assoc] at h; omega
 | s + 1, 0, h => by rw [Nat.pow_zero, Nat.pow_succ, ← Nat.mul_assoc] at h; omega
 | s + 1, t + 1, h => by
   rw [Nat.pow_succ, Nat.pow_succ, ← Nat.mul_assoc, ← Nat.mul_assoc] at h
   rw [odd_uniq (Nat.eq_of_mul_eq_mul_right (by decide) h)]
theorem trN_of {v c t : Nat} (h : v = (2 * c + 1) * 2 ^ t) : trN v = t := by
 have hp : 0 < v := by rw [h]; exact Nat.mul_pos (by omega) (Nat.pow_pos (by decide))
 obtain ⟨d, hd⟩ := trN_ok hp
 exact odd_uniq (hd.symm.trans h)
theorem trN_le {v k : Nat} (h : 0 < v) (hk : v < 2 ^ k) : trN v < k := by
 obtain ⟨c, hc⟩ := trN_ok h
 rcases Nat.lt_or_ge (trN v) k with h1 | h1
 ·exact h1
 ·have h2 := Nat.pow_le_pow_right (n := 2) (by decide) h1
  have h3 : 2 ^ trN v ≤ (2 * c + 1) * 2 ^ trN v := Nat.le_mul_of_pos_left _ (by omega)
  omega
theorem trN_dvd {v k : Nat} (h : 0 < v) : v % 2 ^ k = 0 ↔ k ≤ trN v := by
 obtain ⟨c, hc⟩ := trN_ok h
 constructor
 ·intro h0
  obtain ⟨d, hd⟩ := Nat.dvd_of_mod_eq_zero h0
  have hd0 : 0 < d := by rcases Nat.eq_zero_or_pos d with h | h; · (rw [h] at hd; omega)
                         ·exact h
  obtain ⟨e, he⟩ := trN_ok hd0
  have : v = (2 * e + 1) * 2 ^ (trN d + k) := by rw [Nat.pow_add, ← Nat.mul_assoc, ← he, Nat.mul_comm]; exact hd
  rw [trN_of this]
  omega
 ·intro hk
  rw [hc, show trN v = (trN v - k) + k from by omega, Nat.pow_add, ← Nat.mul_assoc, Nat.mul_mod_left]
theorem land_rec (a b : Nat) : a &&& b = 2 * (a / 2 &&& b / 2) + a % 2 * (b % 2) := by
 have h1 := Nat.div_add_mod (a &&& b) 2
 have h2 : (a &&& b) % 2 = a % 2 * (b % 2) := by
  have := Nat.and_mod_two_pow (a := a) (b := b) (n := 1)
  rw [Nat.pow_one] at this
  rw [this]
  rcases Nat.mod_two_eq_zero_or_one a with h | h <;> rcases Nat.mod_two_eq_zero_or_one b with h' | h' <;> rw [h, h'] <;> rfl
 rw [Nat.and_div_two, h2] at h1
 exact h1.symm
theorem land_compl : ∀ (n c d : Nat), c + d + 1 = 2 ^ n → c &&& d = 0
 | 0, c, d, h => by
   rw [Nat.pow_zero] at h
   rw [show c = 0 from by omega, show d = 0 from by omega]
   rfl
 | n + 1, c, d, h => by
   rw [Nat.pow_succ] at h
   rw [land_rec, land_compl n (c / 2) (d / 2) (by omega)]
   rcases Nat.mod_two_eq_zero_or_one c with e | e
   ·rw [e, Nat.zero_mul]
   ·simp [show d % 2 = 0 from by omega]
theorem land_neg : ∀ (n x y : Nat), 0 < x → x + y = 2 ^ n → x < 2 ^ n → x &&& y = 2 ^ trN x
 | 0, x, y, h0, h, h1 => by rw [Nat.pow_zero] at h1; omega
 | n + 1, x, y, h0, h, h1 => by
   rw [Nat.pow_succ] at h h1
   rw [land_rec]
   rcases Nat.mod_two_eq_zero_or_one x with e | e
   ·obtain ⟨c, hc⟩ := trN_ok (v := x / 2) (by omega)
    have ht : trN x = trN (x / 2) + 1 := trN_of (c := c) (by rw [Nat.pow_succ, ← Nat.mul_assoc, ← hc]; omega)
    rw [land_neg n (x / 2) (y / 2) (by omega) (by omega) (by omega), e, Nat.zero_mul, ht, Nat.pow_succ]
    omega
   ·have ht : trN x = 0 := trN_of (c := x / 2) (by rw [Nat.pow_zero]; omega)
    rw [land_compl n (x / 2) (y / 2) (by omega), e, show y % 2 = 1 from by omega, ht]
theorem and_neg64 {x : Nat} (h0 : 0 < x) (hx : x < 18446744073709551616) : bitI .and .u64 (x : Int) ((18446744073709551616 - x : Nat) : Int) = ((2 ^ trN x : Nat) : Int) := by
 show IntKind.u64.wrap ((BitVec.ofInt IntKind.u64.bits (x : Int) &&& BitVec.ofInt IntKind.u64.bits ((18446744073709551616 - x : Nat) : Int)).toNat : Int) = _
 have h1 : (BitVec.ofInt IntKind.u64.bits (x : Int) &&& BitVec.ofInt IntKind.u64.bits ((18446744073709551616 - x : Nat) : Int)).toNat = 2 ^ trN x := by
  rw [BitVec.toNat_and, BitVec.toNat_ofInt, BitVec.toNat_ofInt]
  have e1 : ((x : Int) % ((2 ^ IntKind.u64.bits : Nat) : Int)).toNat = x := by
   show ((x : Int) % 18446744073709551616).toNat = _
   omega
  have e2 : (((18446744073709551616 - x : Nat) : Int) % ((2 ^ IntKind.u64.bits : Nat) : Int)).toNat = 18446744073709551616 - x := by
   show (((18446744073709551616 - x : Nat) : Int) % 18446744073709551616).toNat = _
   omega
  rw [e1, e2]
  exact land_neg 64 x _ h0 (show _ = 18446744073709551616 by omega) hx
 rw [h1]
 have := trN_le (k := 64) h0 hx
 exact wrapN _ (Nat.pow_lt_pow_right (a := 2) (by decide) this)
def bruijnL : List V := match bruijnV with | .agg l => l | _ => []
def u8N : V → Nat
 | .int .u8 (.ofNat n) => n
 | _ => 999
def brN : List Nat := bruijnL.map u8N
def brI (t : Nat) : Nat := 2 ^ t * 285870213051353865 % 18446744073709551616 / 288230376151711744
theorem br_map : brN.map (fun n => V.int .u8 (n : Nat)) = bruijnL := by kernel_rfl
theorem br_all : ((List.range 64).map fun t => brN.getD (brI t) 99) = List.range 64 := by kernel_rfl
theorem br_get {t : Nat} (h : t < 64) : bruijnL[2 ^ t * 285870213051353865 % 18446744073709551616 / 2 ^ 58]? = some (.int .u8 t) := by
 have h1 : ((List.range 64).map fun t => brN.getD (brI t) 99)[t]? = some t := by rw [br_all, List.getElem?_range h]
 rw [List.getElem?_map, List.getElem?_range h, Option.map_some, List.getD_eq_getElem?_getD] at h1
 have h2 : brN[brI t]?.getD 99 = t := Option.some.inj h1
 rw [← br_map, List.getElem?_map, show 2 ^ t * 285870213051353865 % 18446744073709551616 / 2 ^ 58 = brI t from rfl]
 cases hg : brN[brI t]? with
 | none => rw [hg] at h2; simp at h2; omega
 | some n => rw [hg] at h2; simp at h2; rw [h2]; rfl
def isU8 : V → Bool
 | .int .u8 _ => true
 | _ => false
theorem br_u8 : bruijnL.all isU8 = true := by kernel_rfl
theorem br_off {k : Nat} (h : k ≤ bruijnL.length) : V.off bruijnL k = k := by
 rw [off_all (z := 1) (fun x hx => by
  have := List.all_eq_true.1 br_u8 x hx
  match x, this with
  | .int .u8 _, _ => rfl) h, Nat.mul_one]
set_option maxRecDepth 100000 in
theorem tz64_ok (x : Nat) (h0 : 0 < x) (hx : x < 18446744073709551616) : FnOk Tryz.prog 178 [.v (.int .u64 x)] [.v true (.int .i64 (trN x))] := by
 have ht := trN_le (k := 64) h0 hx
 have ha := and_neg64 h0 hx
 have wn : IntKind.u64.wrap (0 - (x : Int)) = ((18446744073709551616 - x : Nat) : Int) := by rw [wrap_u64]; omega
 obtain ⟨t, ht'⟩ : ∃ t, t = trN x := ⟨_, rfl⟩
 rw [← ht'] at ht ha ⊢
 have hg := br_get ht
 obtain ⟨a, ha'⟩ : ∃ a, a = 2 ^ t := ⟨_, rfl⟩
 rw [← ha'] at ha hg
 have wm : IntKind.u64.wrap ((a : Int) * 285870213051353865) = ((a * 285870213051353865 % 18446744073709551616 : Nat) : Int) := by
  rw [show ((a : Int) * 285870213051353865) = ((a * 285870213051353865 : Nat) : Int) from by omega]
  exact wrapM _
 obtain ⟨m, hm⟩ : ∃ m, m = a * 285870213051353865 % 18446744073709551616 := ⟨_, rfl⟩
 have hml : m < 18446744073709551616 := by rw [hm]; exact Nat.mod_lt _ (by decide)
 rw [← hm] at wm hg
 have hs := shrG m 58 (by decide)
 obtain ⟨i, hi⟩ : ∃ i, i = m / 2 ^ 58 := ⟨_, rfl⟩
 have hil : i < 64 := by rw [hi, Nat.div_lt_iff_lt_mul (by decide)]; exact hml
 rw [← hi] at hs hg
 have hoff : V.off bruijnL i = i := br_off (by rw [show bruijnL.length = 64 from rfl]; omega)
 have hG : lookG GLOB 4 = some (.agg bruijnL) := rfl
 have hl : bruijnL.length = 64 := rfl
 obtain ⟨fs, hfs⟩ : ∃ fs, fs = bruijnL := ⟨_, rfl⟩
 rw [← hfs] at hg hoff hG hl
 have g0 : ¬ (x : Int) = 0 := by omega
 have wi : IntKind.u64.wrap (i : Int) = (i : Int) := wrapN i (by omega)
 have g1 : (0 : Int) ≤ (i : Int) := by omega
 have g2 : (i : Int) < 64 := by omega
 refine FnOk.of Tryz.func178 rfl rfl fun cx w0 => ?_
 rw [show Tryz.f178.ntmps = 14 from rfl]
 refine zs0 ?_
 refine Holds.seq ?_
 refine zs1 g0 ?_
 refine Holds.condF rfl (Holds.skip ?_)
 obtain ⟨sA, hA⟩ : ∃ s, arrT Tryz.prog 249 = some (64, 1, s) := ⟨_, rfl⟩
 have wt : IntKind.i64.wrap (t : Int) = (t : Int) := by rw [wrap_i64] <;> omega
 refine zs1 (an wn <| an ha <| an wm <| an hs <| an wi <| an hG <| an hg <| an hoff <| an hl <| an g1 <| an g2 <| an hA <| wt) ?_
 exact Holds.ret (RetOk.vs rfl (by exact ⟨⟨rfl, fun h => h⟩, trivial⟩) rfl)
theorem tr_words {X : List Int} {i w : Nat} (hz : val (X.take i) = 0) (hi : i < X.length) (hw : X.getD i 0 = (w : Int)) (h0 : 0 < w) (h64 : w < 18446744073709551616) : trN (val X) = 64 * i + trN w := by
 have h1 := val_cut X i (by omega)
 have h2 := val_cut X (i + 1) (by omega)
 rw [val_takeN, hz, hw, Int.toNat_natCast, Nat.zero_add] at h2
 obtain ⟨R, hR⟩ : ∃ R, R = val (X.drop (i + 1)) := ⟨_, rfl⟩
 rw [← hR] at h2
 obtain ⟨c, hc⟩ := trN_ok h0
 have ht := trN_le (k := 64) h0 h64
 obtain ⟨t, ht'⟩ : ∃ t, t = trN w := ⟨_, rfl⟩
 rw [← ht'] at hc ht ⊢
 have hP : (18446744073709551616 : Nat) ^ i = 2 ^ (64 * i) := by rw [Nat.pow_mul]
 have hB : (18446744073709551616 : Nat) = 2 * 2 ^ (63 - t) * 2 ^ t := by
  rw [Nat.mul_comm 2, ← Nat.pow_succ, ← Nat.pow_add, show (63 - t).succ + t = 64 from by omega]
 refine trN_of (c := c + 2 ^ (63 - t) * R) ?_
 rw [h2, Nat.pow_succ, Nat.pow_add, hP]
 obtain ⟨P, hP'⟩ : ∃ P, P = 2 ^ (64 * i) := ⟨_, rfl⟩
 rw [← hP', hc]
 obtain ⟨T, hT⟩ : ∃ T, T = 2 ^ t := ⟨_, rfl⟩
 obtain ⟨S, hS⟩ : ∃ S, S = 2 ^ (63 - t) := ⟨_, rfl⟩
 rw [← hT, ← hS] at hB
 rw [← hT, ← hS]
 obtain ⟨B, hB'⟩ : ∃ B, B = (18446744073709551616 : Nat) := ⟨_, rfl⟩
 rw [← hB'] at hB ⊢
 rw [hB]
 grind
set_option maxRecDepth 100000 in
theorem wTrailing_ok (x : List Int) (hx : x.length < 100000) (ox : okW x) : FnOk Tryz.prog 145 [.v (words x)] [.v true (.int .i64 (trN (val x)))] := by
 obtain ⟨T, hT⟩ : ∃ T, T = trN (val x) := ⟨_, rfl⟩
 rw [← hT]
 refine FnOk.of Tryz.func145 rfl rfl fun cx w0 => ?_
 rw [show Tryz.f145.ntmps = 20 from rfl]
 refine zs0 ?_
 refine Holds.next (fun σ => T = 0 ∧ ∀ a w, Rel cx w0 σ a w → Rel cx w0 { nt := 20, env := [], mem := [] } a w) ?_ ?_
 ·refine zs0 ?_
  refine Holds.loopB (fun i : Nat => { nt := 20, env := [(7, .v true (.int .i64 (i : Nat))), (6, .v true (.int .i64 (x.length : Nat))), (5, .v false (words x))], mem := [] })
   (fun i => i ≤ x.length ∧ val (x.take i) = 0) (fun i => x.length - i) 0 ⟨Nat.zero_le _, rfl⟩ (fun a w h => Rel.keep [7, 6, 5] [] h) ?_
  rintro i ⟨hi, hz⟩
  by_cases hend : i = x.length
  ·have g : ¬ (i : Int) < x.length := by omega
   refine zs1 g ?_
   refine Holds.seq (Holds.condF rfl (Holds.exit ⟨rfl, by rw [hend, List.take_length] at hz; rw [hT, hz]; rfl, fun a w h => Rel.keep [] [] h⟩))
  ·have g : (i : Int) < x.length := by omega
   obtain ⟨u, hu, hu64⟩ := natW (okW_getD ox i)
   have gX : x[i]? = some (u : Int) := by rw [get_map (by omega), hu]
   have wk : IntKind.i64.wrap ((i : Int) + 1) = ((i + 1 : Nat) : Int) := by rw [wrap_i64] <;> omega
   refine zs1 g ?_
   refine Holds.seq (Holds.condT rfl (Holds.skip ?_))
   show Holds _ _ _ _ _ _ _
   refine Holds.next (fun σ => u = 0 ∧ ∀ a w, Rel cx w0 σ a w → Rel cx w0 { nt := 20, env := [(7, .v true (.int .i64 (i : Nat))), (6, .v true (.int .i64 (x.length : Nat))), (5, .v false (words x))], mem := [] } a w) ?_ ?_
   ·refine Holds.blockN ?_
    refine zs1 gX ?_
    rcases Nat.eq_zero_or_pos u with h0 | h0
    ·subst h0
     refine zs0 ?_
     exact Holds.condF rfl (Holds.skip ⟨rfl, fun a w h => Rel.keep [7, 6, 5] [] h⟩)
    ·have g0 : ¬ (u : Int) = 0 := by omega
     have hZ := tz64_ok u h0 hu64
     have hw := tr_words hz (by omega) hu h0 hu64
     have htl := trN_le (k := 64) h0 hu64
     rw [← hT] at hw
     have w1 : IntKind.i64.wrap (64 * (i : Int) + (trN u : Nat)) = (T : Int) := by rw [wrap_i64] <;> omega
     obtain ⟨z, hz'⟩ : ∃ z, z = trN u := ⟨_, rfl⟩
     rw [← hz'] at hZ w1
     refine zs1 g0 ?_
     refine Holds.condT rfl ?_
     refine zs3 (ρ := fun _ => [.v true (.int .i64 z)]) w1 (o := by repeat' first|exact hZ|trivial|constructor) (k := ?_)
     exact Holds.ret (RetOk.vs rfl (by exact ⟨⟨rfl, fun h => h⟩, trivial⟩) rfl)
   ·rintro σ ⟨h0, hσ⟩
    refine Holds.from hσ ?_
    refine zr1 wk ?_
    refine ⟨i + 1, ⟨by show i + 1 ≤ x.length; omega, ?_⟩, (show x.length - (i + 1) < x.length - i by omega), fun a w h => Rel.keep [7, 6, 5] [] h⟩
    rw [val_takeN, hz, hu, h0]
    simp
 ·rintro σ ⟨h0, hσ⟩
  refine Holds.from hσ ?_
  rw [h0]
  refine zs0 ?_
  exact Holds.ret (RetOk.vs rfl (by exact ⟨⟨rfl, fun h => h⟩, trivial⟩) rfl)
theorem hasT_iff {m t k : Nat} (h : HasT m t) : m % 10 ^ k = 0 ↔ k ≤ t :=
 ⟨fun h0 => by
   rcases Nat.lt_or_ge t k with h1 | h1
   ·exact absurd h0 (hasT_not h h1)
   ·exact h1, hasT_dvd h⟩
theorem tr_ten {y k : Nat} (h : 0 < y) (hk : trN y < k) : y % 10 ^ k ≠ 0 := fun h0 => by
 obtain ⟨d, hd⟩ := Nat.dvd_of_mod_eq_zero h0
 have : y % 2 ^ k = 0 := by
  rw [hd, show (10 : Nat) = 2 * 5 from rfl, Nat.mul_pow, Nat.mul_assoc, Nat.mul_mod_right]
 have := (trN_dvd h).1 this
 omega
theorem blockQ_same {id : Nat} {Q : Exit → St → Prop} {σ : St} (h : Q .normal σ) : blockQ id Q (.exit id) σ := by
 unfold blockQ
 simp only [if_true]
 exact h
theorem Holds.cont {P : Program} {ro : Option Nat} {cx : Cx} {w0 : World} {σ : St} {y : Code} {id : Nat} {Q : Exit → St → Prop} (h : Q .normal σ) : Holds P ro cx w0 (.exit id) σ (seqQ P ro cx w0 y (blockQ id Q)) :=
 Holds.exit (show blockQ id Q (.exit id) σ from blockQ_same h)
structure StI (v t y n s : Nat) : Prop where
 tm : HasT y (t - n)
 nt : n ≤ t
 all : y * 10 ^ n = v
 s1 : 1 ≤ s
 s2 : s ≤ 2 * t + 1
theorem HasT.pos {m t : Nat} (h : HasT m t) : 0 < m := by
 obtain ⟨c, hc, hn⟩ := h
 rw [hc]
 exact Nat.mul_pos (by omega) (Nat.pow_pos (by decide))
theorem StI.done {v t y n : Nat} (h : StI v t y n 1) (h0 : y % 10 ^ 1 ≠ 0) : n = t ∧ y = v / 10 ^ t := by
 have h1 : n = t := by
  have := (not_congr (hasT_iff (k := 1) h.tm)).1 h0
  have := h.nt
  omega
 refine ⟨h1, ?_⟩
 rw [← h.all, h1, Nat.mul_div_cancel _ (Nat.pow_pos (by decide))]
theorem StI.less {v t y n s : Nat} (h : StI v t y n s) (hs : 2 ≤ s) : StI v t y n (s / 2) := ⟨h.tm, h.nt, h.all, by omega, by have := h.s2; omega⟩
theorem StI.more {v t y n s : Nat} (h : StI v t y n s) (h0 : y % 10 ^ s = 0) : StI v t (y / 10 ^ s) (n + s) (2 * s) ∧ s ≤ t - n := by
 have hs := (hasT_iff h.tm).1 h0
 have hnt := h.nt
 have hs1 := h.s1
 have hall := h.all
 have hp : 0 < 10 ^ s := Nat.pow_pos (by decide)
 obtain ⟨c, hc, hn⟩ := h.tm
 have e : y = c * 10 ^ (t - n - s) * 10 ^ s := by rw [hc, Nat.mul_assoc, ← Nat.pow_add, show t - n - s + s = t - n from by omega]
 have e2 : y / 10 ^ s = c * 10 ^ (t - n - s) := by rw [e, Nat.mul_div_cancel _ hp]
 refine ⟨⟨⟨c, by rw [e2, show t - (n + s) = t - n - s from by omega], hn⟩, by omega, ?_, by omega, by omega⟩, hs⟩
 rw [e2, ← hall, e, Nat.pow_add, Nat.mul_assoc (c * _), Nat.mul_comm (10 ^ s)]
theorem ten_len {k : Nat} : (digs (10 ^ k)).length ≤ k / 16 + 1 := by
 have h5 : (10 : Nat) ^ k ≤ 16 ^ k := Nat.pow_le_pow_left (by decide) k
 exact digs_len (v := 10 ^ k) (m := k / 16 + 1) (Nat.lt_of_le_of_lt h5 (by
  rw [show (18446744073709551616 : Nat) = 16 ^ 16 from rfl, ← Nat.pow_mul]
  exact Nat.pow_lt_pow_right (by decide) (by omega)))
theorem digs_mono {a b : Nat} (h : a ≤ b) : (digs a).length ≤ (digs b).length := by
 have h1 := val_lt (digs_ok b).1
 rw [(digs_ok b).2.2] at h1
 exact digs_len (Nat.lt_of_le_of_lt h h1)
set_option maxRecDepth 100000 in
set_option maxHeartbeats 2000000 in
theorem wStrip_ok (x : List Int) (t : Nat) (hx : x.length < 900) (ox : okW x) (hT : HasT (val x) t) (ht : t < 6000) : FnOk Tryz.prog 185 [.v (words x)] [.v true (words (digs (val x / 10 ^ t))), .v true (.int .i64 t)] := by
 have hTr := wTrim_ok x (by omega) ox
 have hvl := digs_len (val_lt ox)
 have hpos := hT.pos
 obtain ⟨v, hv⟩ : ∃ v, v = val x := ⟨_, rfl⟩
 rw [← hv] at hTr hT hvl hpos ⊢
 have hV0 : (digs v).length ≠ 0 := by
  intro h
  have := (digs_ok v).2.2
  rw [List.length_eq_zero_iff.1 h] at this
  simp [val] at this
  omega
 have hI0 : StI v t v 0 1 := ⟨hT, Nat.zero_le _, by rw [Nat.pow_zero, Nat.mul_one], by omega, by omega⟩
 obtain ⟨D, hD⟩ : ∃ D, D = digs (v / 10 ^ t) := ⟨_, rfl⟩
 rw [← hD]
 refine FnOk.of Tryz.func185 rfl rfl fun cx w0 => ?_
 rw [show Tryz.f185.ntmps = 44 from rfl]
 refine zs0 ?_
 have g0 : ¬ ((digs v).length : Int) = 0 := by omega
 have hs0 : ∀ W, W = digs v → FnOk Tryz.prog 92 [.v (words x)] [.v true (words W)] := fun W h => by rw [h]; exact hTr
 obtain ⟨W, hW⟩ : ∃ W, W = digs v := ⟨_, rfl⟩
 have hTr := hs0 W hW
 rw [← hW] at g0
 refine zs2 (ρ := fun _ => [.v true (words W)]) (o := by repeat' first|exact hTr|trivial|constructor) (k := ?_)
 refine Holds.seq ?_
 refine zs1 g0 ?_
 refine Holds.condF rfl (Holds.skip ?_)
 refine zs0 ?_
 have key : Holds Tryz.prog none cx w0 (codeAt Tryz.f185 [1, 1, 1, 1]) { nt := 44, env := [(0, .v true (words (digs v))), (4, .v true (.int .i64 (0 : Nat))), (5, .v true (.int .i64 (1 : Nat)))], mem := [] } (NR (fun _ => False) fun σ => fnQ Tryz.prog Tryz.f185 [.v true (words D), .v true (.int .i64 t)] .ret σ) := by
  refine Holds.loopB (fun q : Nat × Nat × Nat => { nt := 44, env := [(0, .v true (words (digs q.1))), (4, .v true (.int .i64 (q.2.1 : Nat))), (5, .v true (.int .i64 (q.2.2 : Nat)))], mem := [] })
   (fun q => StI v t q.1 q.2.1 q.2.2) (fun q => 4 * (t - q.2.1) + q.2.2) (v, 0, 1) hI0 (fun a w h => h) ?_
  rintro ⟨y, n, s⟩ hI
  simp only at hI ⊢
  have hyv : y ≤ v := by rw [← hI.all]; exact Nat.le_mul_of_pos_right _ (Nat.pow_pos (by decide))
  have hyl := digs_mono hyv
  have hy0 := hI.tm.pos
  have hs1 := hI.s1
  have hs2 := hI.s2
  have hTl := wTrailing_ok (digs y) (by omega) (digs_ok _).1
  rw [(digs_ok y).2.2] at hTl
  have hTen := wTen_ok s (by omega)
  have hTenl := ten_len (k := s)
  have hDM := wDivMod_ok (digs y) (digs (10 ^ s)) (by omega) (by omega) (digs_ok _).1 (digs_ok _).1 (by rw [(digs_ok _).2.2]; exact Nat.pow_pos (by decide))
  rw [(digs_ok y).2.2, (digs_ok (10 ^ s)).2.2] at hDM
  have hrl : (digs (y % 10 ^ s)).length < 1000 := by
   have := digs_mono (Nat.mod_le y (10 ^ s))
   omega
  have hZ := wZero_ok (digs (y % 10 ^ s)) (by omega) (digs_ok _).1
  rw [(digs_ok (y % 10 ^ s)).2.2] at hZ
  refine Holds.block ?_
  obtain ⟨z, hz⟩ : ∃ z, z = trN y := ⟨_, rfl⟩
  rw [← hz] at hTl
  obtain ⟨T, hT'⟩ : ∃ T, T = digs (10 ^ s) := ⟨_, rfl⟩
  rw [← hT'] at hTen hDM
  obtain ⟨qq, hqq⟩ : ∃ q, q = y / 10 ^ s := ⟨_, rfl⟩
  obtain ⟨rr, hrr⟩ : ∃ r, r = digs (y % 10 ^ s) := ⟨_, rfl⟩
  rw [← hqq, ← hrr] at hDM
  rw [← hrr] at hZ
  have w2 : IntKind.i64.wrap (2 * (s : Int)) = ((2 * s : Nat) : Int) := by rw [wrap_i64] <;> omega
  have w3 : IntKind.i64.wrap ((n : Int) + (s : Int)) = ((n + s : Nat) : Int) := by have := hI.nt; rw [wrap_i64] <;> omega
  have w4 : (s : Int).tdiv 2 = ((s / 2 : Nat) : Int) := quoN s 2
  have w5 : IntKind.i64.wrap ((s / 2 : Nat) : Int) = ((s / 2 : Nat) : Int) := by rw [wrap_i64] <;> omega
  by_cases h1 : trN y < s
  ·have g1 : (z : Int) < s := by omega
   have hnd := tr_ten hy0 h1
   refine Holds.seq ?_
   refine zs3 (ρ := fun _ => [.v true (.int .i64 z)]) g1 (o := by repeat' first|exact hTl|trivial|constructor) (k := ?_)
   refine Holds.condT rfl ?_
   refine Holds.seq ?_
   by_cases hs : s = 1
   ·subst hs
    obtain ⟨e1, e2⟩ := hI.done hnd
    subst e1
    rw [e2, ← hD]
    refine zs0 ?_
    refine Holds.condT rfl ?_
    refine zs0 ?_
    exact Holds.ret (RetOk.vs rfl (by exact ⟨⟨rfl, fun h => h⟩, ⟨rfl, fun h => h⟩, trivial⟩) rfl)
   ·have g2 : ¬ (s : Int) = 1 := by omega
    refine zs1 g2 ?_
    refine Holds.condF rfl (Holds.skip ?_)
    refine zs1 (an w4 <| w5) ?_
    refine Holds.cont ?_
    exact ⟨(y, n, s / 2), hI.less (by omega), (show 4 * (t - n) + s / 2 < 4 * (t - n) + s by omega), fun a w h => Rel.keep [0, 4, 5] [] h⟩
  ·have g1 : ¬ (z : Int) < s := by omega
   refine Holds.seq ?_
   refine zs3 (ρ := fun _ => [.v true (.int .i64 z)]) g1 (o := by repeat' first|exact hTl|trivial|constructor) (k := ?_)
   refine Holds.condF rfl (Holds.skip ?_)
   refine zs2 (ρ := fun d => if d = 26 then [.v true (words T)] else [.v true (words (digs qq)), .v true (words rr)]) (o := by repeat' first|exact hTen|exact hDM|trivial|constructor) (k := ?_)
   by_cases h2 : y % 10 ^ s = 0
   ·rw [decide_eq_true h2] at hZ
    obtain ⟨hI', hle⟩ := hI.more h2
    rw [← hqq] at hI'
    refine zs2 (ρ := fun _ => [.v true (.bool true)]) (o := by repeat' first|exact hZ|trivial|constructor) (k := ?_)
    refine Holds.condT rfl ?_
    refine zr1 (an w2 <| w3) ?_
    exact ⟨(qq, n + s, 2 * s), hI', (show 4 * (t - (n + s)) + 2 * s < 4 * (t - n) + s by omega), fun a w h => Rel.keep [0, 4, 5] [] h⟩
   ·rw [decide_eq_false h2] at hZ
    refine zs2 (ρ := fun _ => [.v true (.bool false)]) (o := by repeat' first|exact hZ|trivial|constructor) (k := ?_)
    refine Holds.condF rfl ?_
    by_cases hs : s = 1
    ·subst hs
     obtain ⟨e1, e2⟩ := hI.done h2
     subst e1
     rw [e2, ← hD]
     refine zs0 ?_
     refine Holds.condT rfl ?_
     refine zs0 ?_
     exact Holds.ret (RetOk.vs rfl (by exact ⟨⟨rfl, fun h => h⟩, ⟨rfl, fun h => h⟩, trivial⟩) rfl)
    ·have g2 : ¬ (s : Int) = 1 := by omega
     refine zs1 g2 ?_
     refine Holds.condF rfl ?_
     refine zr1 (an w4 <| w5) ?_
     exact ⟨(y, n, s / 2), hI.less (by omega), (show 4 * (t - n) + s / 2 < 4 * (t - n) + s by omega), fun a w h => Rel.keep [0, 4, 5] [] h⟩
 refine Holds.from (σ' := { nt := 44, env := [(0, .v true (words (digs v))), (4, .v true (.int .i64 (0 : Nat))), (5, .v true (.int .i64 (1 : Nat)))], mem := [] }) (fun a w h => by rw [← hW]; exact Rel.keep [0, 4, 5] [] h) ?_
 exact key.mono fun e σ hq => by
  cases e <;> first | exact hq | exact hq.elim
theorem hasD_bl {v D k : Nat} (h : v < 10 ^ D) (hk : 4 * D ≤ k) : blN v ≤ k := by
 refine bl_lt (Nat.lt_of_lt_of_le h ?_)
 have : (10 : Nat) ^ D ≤ 16 ^ D := Nat.pow_le_pow_left (by decide) _
 rw [show (16 : Nat) = 2 ^ 4 from rfl, ← Nat.pow_mul] at this
 exact Nat.le_trans this (Nat.pow_le_pow_right (by decide) hk)
theorem max2_eq (a b : Int) : (if a < b then b else a) = max a b := by omega
theorem min2_eq (a b : Int) : (if b < a then b else a) = min a b := by omega
theorem finV_zero : finV false 0 0 = .agg [.bool false, .sl 1 [], .int .i64 0] := rfl
set_option maxRecDepth 100000 in
set_option maxHeartbeats 2000000 in
theorem fits_no (p g : Int) (x : List Int) (D t : Nat) (e ideal : Int) (hp : 1 ≤ p ∧ p ≤ 400) (hg : 1 ≤ g ∧ g ≤ 6000) (hx : x.length < 900) (ox : okW x) (hD : HasD (val x) D) (hT : HasT (val x) t) (hDl : D < 500) (he : -4611686018427387904 < e ∧ e < 4611686018427387904)
 (h : ¬ (((D - t : Nat) : Int) ≤ p ∧ dTiny p g ≤ e + t ∧ e + D - 1 ≤ g)) :
 FnOk Tryz.prog 163 [.v (.int .i64 p), .v (.int .i64 g), .v (.int .i64 (dTiny p g)), .v (words x), .v (.int .i64 e), .v (.int .i64 ideal)] [.v true (finV false 0 0), .v true (.bool false)] := by
 have htD := hasT_le hT hD
 have hS := wStrip_ok x t hx ox hT (by omega)
 have hD2 := hasD_strip hT hD
 have hml : (digs (val x / 10 ^ t)).length < 900 := by
  have h1 := digs_len (val_lt ox)
  have h2 := digs_mono (Nat.div_le_self (val x) (10 ^ t))
  omega
 have hDd := wDigits_ok (digs (val x / 10 ^ t)) (D - t) (by omega) (digs_ok _).1 (by rw [(digs_ok _).2.2]; exact hD2) (by rw [(digs_ok _).2.2]; exact hasD_bl hD2.2.2 (by omega)) (by omega)
 obtain ⟨m, hm⟩ : ∃ m, m = digs (val x / 10 ^ t) := ⟨_, rfl⟩
 rw [← hm] at hS hDd
 obtain ⟨k, hk⟩ : ∃ k, k = D - t := ⟨_, rfl⟩
 rw [← hk] at hDd h
 have w1 : IntKind.i64.wrap ((t : Int) + e) = e + t := by rw [wrap_i64] <;> omega
 have w2 : IntKind.i64.wrap (e + (t : Int) + (k : Int)) = e + t + k := by rw [wrap_i64] <;> omega
 have w3 : IntKind.i64.wrap (e + (t : Int) + (k : Int) - 1) = e + t + k - 1 := by rw [wrap_i64] <;> omega
 obtain ⟨ti, hti⟩ : ∃ ti, ti = dTiny p g := ⟨_, rfl⟩
 rw [← hti] at h ⊢
 clear hm hT hD hD2
 refine FnOk.of Tryz.func163 rfl rfl fun cx w0 => ?_
 rw [show Tryz.f163.ntmps = 63 from rfl]
 rw [finV_zero]
 refine zs0 ?_
 refine zs2 (ρ := fun _ => [.v true (words m), .v true (.int .i64 t)]) (o := by repeat' first|exact hS|trivial|constructor) (k := ?_)
 refine zs1 w1 ?_
 refine zs2 (ρ := fun _ => [.v true (.int .i64 k)]) (o := by repeat' first|exact hDd|trivial|constructor) (k := ?_)
 refine Holds.seq ?_
 by_cases h1 : p < (k : Int)
 ·refine zs1 h1 ?_
  refine Holds.condT rfl ?_
  refine zs0 ?_
  exact Holds.ret (RetOk.vs rfl (by exact ⟨⟨rfl, fun h => h⟩, ⟨rfl, fun h => h⟩, trivial⟩) rfl)
 by_cases h2 : e + (t : Int) < ti
 ·refine zs1 (an h1 <| h2) ?_
  refine Holds.condT rfl ?_
  refine zs0 ?_
  exact Holds.ret (RetOk.vs rfl (by exact ⟨⟨rfl, fun h => h⟩, ⟨rfl, fun h => h⟩, trivial⟩) rfl)
 have h3 : g < e + (t : Int) + (k : Int) - 1 := by omega
 refine zs1 (an h1 <| an h2 <| an h3 <| an w2 <| w3) ?_
 refine Holds.condT rfl ?_
 refine zs0 ?_
 exact Holds.ret (RetOk.vs rfl (by exact ⟨⟨rfl, fun h => h⟩, ⟨rfl, fun h => h⟩, trivial⟩) rfl)
set_option maxRecDepth 100000 in
set_option maxHeartbeats 2000000 in
theorem fits_yes (p g : Int) (x : List Int) (D t : Nat) (e ideal : Int) (hp : 1 ≤ p ∧ p ≤ 400) (hg : 1 ≤ g ∧ g ≤ 6000) (hx : x.length < 900) (ox : okW x) (hD : HasD (val x) D) (hT : HasT (val x) t) (hDl : D < 500) (he : -4611686018427387904 < e ∧ e < 4611686018427387904)
 (h : ((D - t : Nat) : Int) ≤ p ∧ dTiny p g ≤ e + t ∧ e + D - 1 ≤ g) :
 FnOk Tryz.prog 163 [.v (.int .i64 p), .v (.int .i64 g), .v (.int .i64 (dTiny p g)), .v (words x), .v (.int .i64 e), .v (.int .i64 ideal)] [.v true (finV false (val x / 10 ^ t * 10 ^ (e + t - dAt p g D t e ideal).toNat) (dAt p g D t e ideal)), .v true (.bool true)] := by
 have htD := hasT_le hT hD
 have hS := wStrip_ok x t hx ox hT (by omega)
 have hD2 := hasD_strip hT hD
 have hml : (digs (val x / 10 ^ t)).length < 900 := by
  have h1 := digs_len (val_lt ox)
  have h2 := digs_mono (Nat.div_le_self (val x) (10 ^ t))
  omega
 have hDd := wDigits_ok (digs (val x / 10 ^ t)) (D - t) (by omega) (digs_ok _).1 (by rw [(digs_ok _).2.2]; exact hD2) (by rw [(digs_ok _).2.2]; exact hasD_bl hD2.2.2 (by omega)) (by omega)
 have hat : dAt p g D t e ideal = min (e + t) (max (max ideal (dTiny p g)) (e + t - (p - ((D - t : Nat) : Int)))) := rfl
 have hA1 : dAt p g D t e ideal ≤ e + t := Int.min_le_left _ _
 have hA2 : e + t - 400 ≤ dAt p g D t e ideal := by
  rw [hat]
  have := Int.le_max_right (max ideal (dTiny p g)) (e + t - (p - ((D - t : Nat) : Int)))
  omega
 obtain ⟨at_, hat_⟩ : ∃ a, a = dAt p g D t e ideal := ⟨_, rfl⟩
 rw [← hat_] at hat hA1 hA2 ⊢
 obtain ⟨b, hb⟩ : ∃ b : Nat, e + t - at_ = b := ⟨(e + t - at_).toNat, by omega⟩
 rw [hb, Int.toNat_natCast]
 have hTen := wTen_ok b (by omega)
 have hTl := ten_len (k := b)
 have hM := wMul_ok (digs (val x / 10 ^ t)) (digs (10 ^ b)) (by omega) (by omega) (digs_ok _).1 (digs_ok _).1
 rw [(digs_ok _).2.2, (digs_ok (10 ^ b)).2.2] at hM
 obtain ⟨m, hm⟩ : ∃ m, m = digs (val x / 10 ^ t) := ⟨_, rfl⟩
 rw [← hm] at hS hDd hM
 unfold finV
 obtain ⟨T, hT'⟩ : ∃ T, T = digs (10 ^ b) := ⟨_, rfl⟩
 obtain ⟨M, hM'⟩ : ∃ M, M = digs (val x / 10 ^ t * 10 ^ b) := ⟨_, rfl⟩
 rw [← hT'] at hTen hM
 rw [← hM'] at hM ⊢
 obtain ⟨k, hk⟩ : ∃ k, k = D - t := ⟨_, rfl⟩
 rw [← hk] at hDd h hat
 have w1 : IntKind.i64.wrap ((t : Int) + e) = e + t := by rw [wrap_i64] <;> omega
 have w2 : IntKind.i64.wrap (e + (t : Int) + (k : Int)) = e + t + k := by rw [wrap_i64] <;> omega
 have w3 : IntKind.i64.wrap (e + (t : Int) + (k : Int) - 1) = e + t + k - 1 := by rw [wrap_i64] <;> omega
 have w4 : IntKind.i64.wrap (p - (k : Int)) = p - k := by rw [wrap_i64] <;> omega
 have w5 : IntKind.i64.wrap (e + (t : Int) - (p - (k : Int))) = e + t - (p - k) := by rw [wrap_i64] <;> omega
 have w6 : IntKind.i64.wrap (e + (t : Int) - at_) = (b : Int) := by rw [wrap_i64] <;> omega
 obtain ⟨ti, hti⟩ : ∃ ti, ti = dTiny p g := ⟨_, rfl⟩
 rw [← hti] at h hat ⊢
 clear hm hT hD hD2 hT' hM' hat_
 refine FnOk.of Tryz.func163 rfl rfl fun cx w0 => ?_
 rw [show Tryz.f163.ntmps = 63 from rfl]
 have h1 : ¬ p < (k : Int) := by omega
 have h2 : ¬ e + (t : Int) < ti := by omega
 have h3 : ¬ g < e + (t : Int) + (k : Int) - 1 := by omega
 refine zs0 ?_
 refine zs2 (ρ := fun _ => [.v true (words m), .v true (.int .i64 t)]) (o := by repeat' first|exact hS|trivial|constructor) (k := ?_)
 refine zs1 w1 ?_
 refine zs2 (ρ := fun _ => [.v true (.int .i64 k)]) (o := by repeat' first|exact hDd|trivial|constructor) (k := ?_)
 refine Holds.seq ?_
 refine zs1 (an h1 <| an h2 <| an h3 <| an w2 <| w3) ?_
 refine Holds.condF rfl (Holds.skip ?_)
 refine zs1 (an w4 <| an w5 <| an max2_eq <| an min2_eq <| hat.symm) ?_
 refine zs3 (ρ := fun d => if d = 59 then [.v true (words T)] else [.v true (words M)]) w6 (o := by repeat' first|exact hTen|exact hM|trivial|constructor) (k := ?_)
 exact Holds.ret (RetOk.vs rfl (by exact ⟨⟨rfl, fun h => h⟩, ⟨rfl, fun h => h⟩, trivial⟩) rfl)
def resV (d : DRes) : List R := [.v true (finV d.1 d.2.1 d.2.2.1), .v true (.int .i64 d.2.2.2)]
theorem resV_ov (p g : Int) (r : Nat) (neg : Bool) : ∃ b m z, resV (ovR p g r neg) = [.v true (finV b m z), .v true (.int .i64 5)] ∧ ovV p g r neg = finV b m z := by
 unfold resV ovR ovV
 cases grB r neg with
 | true => exact ⟨false, _, _, rfl, rfl⟩
 | false => exact ⟨true, 0, 0, rfl, rfl⟩
def finS (p g r : Int) (neg : Bool) (a u : Int) (n : Nat) : St := { nt := 157, env := [(0, .v true (.int .i64 p)), (1, .v true (.int .i64 g)), (2, .v true (.int .i64 r)), (3, .v true (.bool neg)), (16, .ptr 16 0 [] 0), (18, .v true (.int .i64 (1 - g))), (23, .v true (.int .i64 a)), (24, .v true (.int .i64 u)), (25, .v true (words (digs n)))], mem := [(16, .box 179 (.v true (.agg [.bool false, .sl 1 [], .int .i64 0])))] }
set_option maxRecDepth 100000 in
theorem fin_end {cx : Cx} {w0 : World} (p g r : Int) (neg : Bool) (a u : Int) (n : Nat) :
 Holds Tryz.prog none cx w0 (codeAt Tryz.f112 [1, 1, 1, 1, 1, 1, 1, 1, 1, 1, 1, 1, 1, 1, 1]) (finS p g r neg a u n) (fnQ Tryz.prog Tryz.f112 (resV (false, n, u, if a < 1 - g then 3 else 1))) := by
 have ho : bitI .or .i64 1 2 = 3 := by decide
 unfold resV finV finS
 obtain ⟨l, hl⟩ : ∃ l, l = digs n := ⟨_, rfl⟩
 simp only
 rw [← hl]
 refine zs0 ?_
 refine Holds.seq ?_
 by_cases h : a < 1 - g
 ·rw [if_pos h]
  refine zs1 h ?_
  refine Holds.condT rfl ?_
  refine zr1 ho ?_
  refine zs0 ?_
  exact Holds.ret (RetOk.vs rfl (by exact ⟨⟨rfl, fun h => h⟩, ⟨rfl, fun h => h⟩, trivial⟩) rfl)
 ·rw [if_neg h]
  refine zs1 h ?_
  refine Holds.condF rfl (Holds.skip ?_)
  refine zs0 ?_
  exact Holds.ret (RetOk.vs rfl (by exact ⟨⟨rfl, fun h => h⟩, ⟨rfl, fun h => h⟩, trivial⟩) rfl)
theorem hasD_ten (k : Nat) : HasD (10 ^ k) (k + 1) := ⟨by omega, by rw [Nat.add_sub_cancel]; exact Nat.le_refl _, by rw [Nat.pow_succ]; have := Nat.pow_pos (a := 10) (n := k) (by decide); omega⟩
theorem pow_leT {a b : Nat} : (10 : Nat) ^ a ≤ 10 ^ b ↔ a ≤ b := Nat.pow_le_pow_iff_right (by decide)
set_option maxRecDepth 100000 in
set_option maxHeartbeats 4000000 in
theorem fin_tail {cx : Cx} {w0 : World} (p g : Int) (r : Nat) (neg : Bool) (a u : Int) (n : Nat) (h : CtxOk p g r) (hn : n ≤ 10 ^ p.toNat) (hu : dTiny p g ≤ u ∧ u ≤ g) :
 Holds Tryz.prog none cx w0 (codeAt Tryz.f112 [1, 1, 1, 1, 1, 1, 1, 1, 1, 1, 1, 1, 1]) (finS p g r neg a u n) (fnQ Tryz.prog Tryz.f112 (resV (if 10 ^ (g + 1 - u).toNat ≤ n then ovR p g r neg
 else if n = 10 ^ p.toNat then (false, 10 ^ (p.toNat - 1), u + 1, if a < 1 - g then 3 else 1)
 else (false, n, u, if a < 1 - g then 3 else 1)))) := by
 have hOv := over_ok p g r neg h
 obtain ⟨b, mo, zo, e1, e2⟩ := resV_ov p g r neg
 rw [e2] at hOv
 obtain ⟨⟨h1, h2⟩, ⟨h3, h4⟩, h5, h6⟩ := h
 unfold dTiny at hu
 obtain ⟨P, rfl⟩ := Int.eq_ofNat_of_zero_le (show 0 ≤ p by omega)
 rw [Int.toNat_natCast] at hn ⊢
 obtain ⟨k, hk⟩ : ∃ k : Nat, g + 1 - u = k := ⟨(g + 1 - u).toNat, by omega⟩
 rw [hk, Int.toNat_natCast]
 have hTl := ten_len (k := P)
 have hnl : (digs n).length < 1000 := by have := digs_mono hn; omega
 have hT := wTen_ok P (by omega)
 have hT1 := wTen_ok (P - 1) (by omega)
 have hT1l := ten_len (k := P - 1)
 have hC := wCmp_ok (digs n) (digs (10 ^ P)) (by omega) (by omega) (digs_ok _).1 (digs_ok _).1
 rw [(digs_ok n).2.2, (digs_ok (10 ^ P)).2.2] at hC
 have hT : FnOk Tryz.prog 41 [.v (.int .i64 (P : Int))] [.v true (words (digs (10 ^ P)))] := hT
 have wp : (P : Int) - 1 = ((P - 1 : Nat) : Int) := by omega
 have wu : IntKind.i64.wrap (u + 1) = u + 1 := by rw [wrap_i64] <;> omega
 by_cases hn1 : n = 10 ^ P
 ·have hc0 : cmpN n (10 ^ P) = 0 := by unfold cmpN; rw [hn1, if_neg (Nat.lt_irrefl _), if_neg (Nat.lt_irrefl _)]
  rw [hc0] at hC
  have hZ := wZero_ok (digs (10 ^ (P - 1))) (by omega) (digs_ok _).1
  rw [(digs_ok _).2.2, decide_eq_false (by have := Nat.pow_pos (a := 10) (n := P - 1) (by decide); omega)] at hZ
  have hDg := wDigits_ok (digs (10 ^ (P - 1))) P (by omega) (digs_ok _).1 (by
   rw [(digs_ok _).2.2]
   have := hasD_ten (P - 1)
   rw [show P - 1 + 1 = P from by omega] at this
   exact this) (by
   rw [(digs_ok _).2.2]
   exact hasD_bl (D := P) (by have := (hasD_ten (P - 1)).2.2; rw [show P - 1 + 1 = P from by omega] at this; exact this) (by omega)) (by omega)
  have hcond : (10 ^ k ≤ n) ↔ (g < u + 1 + P - 1) := by rw [hn1, pow_leT]; omega
  rw [if_pos hn1]
  obtain ⟨T, hT'⟩ : ∃ T, T = digs (10 ^ P) := ⟨_, rfl⟩
  obtain ⟨N, hN'⟩ : ∃ N, N = digs n := ⟨_, rfl⟩
  have w1 : IntKind.i64.wrap (u + 1 + (P : Int)) = u + 1 + P := by rw [wrap_i64] <;> omega
  have w2 : IntKind.i64.wrap (u + 1 + (P : Int) - 1) = u + 1 + P - 1 := by rw [wrap_i64] <;> omega
  obtain ⟨S, hS⟩ : ∃ S, S = digs (10 ^ (P - 1)) := ⟨_, rfl⟩
  unfold finS
  rw [← hT'] at hT hC
  rw [← hN'] at hC
  simp only [← hN']
  rw [← hS] at hT1 hZ hDg
  refine Holds.seq ?_
  refine zs2 (ρ := fun d => if d = 121 then [.v true (words T)] else [.v true (.int .i64 0)]) (o := by repeat' first|exact hT|exact hC|trivial|constructor) (k := ?_)
  refine Holds.condT rfl ?_
  refine zr3 (ρ := fun _ => [.v true (words S)]) (an wp <| wu) (o := by repeat' first|exact hT1|trivial|constructor) (k := ?_)
  refine Holds.seq ?_
  by_cases hg : g < u + 1 + P - 1
  ·rw [if_pos (hcond.2 hg), e1]
   unfold finV at hOv ⊢
   refine zs3 (ρ := fun d => if d = 130 then [.v true (.bool false)] else [.v true (.int .i64 P)]) (an hg <| an w1 <| w2) (o := by repeat' first|exact hZ|exact hDg|trivial|constructor) (k := ?_)
   refine Holds.condT rfl ?_
   refine zs2 (ρ := fun _ => [.v true (.agg [.bool b, words (digs mo), .int .i64 zo]), .v true (.int .i64 5)]) (o := by repeat' first|exact hOv|trivial|constructor) (k := ?_)
   exact Holds.ret (RetOk.vs rfl (by exact ⟨⟨rfl, fun h => h⟩, ⟨rfl, fun h => h⟩, trivial⟩) rfl)
  ·rw [if_neg (fun h => hg (hcond.1 h))]
   refine zs3 (ρ := fun d => if d = 130 then [.v true (.bool false)] else [.v true (.int .i64 P)]) (an hg <| an w1 <| w2) (o := by repeat' first|exact hZ|exact hDg|trivial|constructor) (k := ?_)
   refine Holds.condF rfl (Holds.skip ?_)
   refine Holds.from (σ' := finS P g r neg a (u + 1) (10 ^ (P - 1))) (fun a w h => by
    have := Rel.keep [0, 1, 2, 3, 16, 18, 23, 24, 25] [16] h
    unfold finS
    rw [← hS]
    exact this) ?_
   exact fin_end _ _ _ _ _ _ _
 ·have hc0 : ¬ cmpN n (10 ^ P) = 0 := by unfold cmpN; rw [if_pos (by omega)]; omega
  rw [if_neg hn1]
  have hZ := wZero_ok (digs n) (by omega) (digs_ok _).1
  rw [(digs_ok n).2.2] at hZ
  obtain ⟨c, hc⟩ : ∃ c, c = cmpN n (10 ^ P) := ⟨_, rfl⟩
  rw [← hc] at hC hc0
  obtain ⟨T, hT'⟩ : ∃ T, T = digs (10 ^ P) := ⟨_, rfl⟩
  obtain ⟨N, hN'⟩ : ∃ N, N = digs n := ⟨_, rfl⟩
  rw [← hT'] at hT hC
  rw [← hN'] at hC
  rcases Nat.eq_zero_or_pos n with h0 | h0
  ·rw [decide_eq_true h0, ← hN'] at hZ
   have hp : 0 < 10 ^ k := Nat.pow_pos (by decide)
   rw [if_neg (by omega)]
   unfold finS
   simp only [← hN']
   refine Holds.seq ?_
   refine zs3 (ρ := fun d => if d = 121 then [.v true (words T)] else [.v true (.int .i64 c)]) hc0 (o := by repeat' first|exact hT|exact hC|trivial|constructor) (k := ?_)
   refine Holds.condF rfl (Holds.skip ?_)
   refine Holds.seq ?_
   refine zs2 (ρ := fun d => [.v true (.bool true)]) (o := by repeat' first|exact hZ|trivial|constructor) (k := ?_)
   refine Holds.condF rfl (Holds.skip ?_)
   refine Holds.from (σ' := finS P g r neg a u n) (fun a w h => by
    have := Rel.keep [0, 1, 2, 3, 16, 18, 23, 24, 25] [16] h
    unfold finS
    rw [← hN']
    exact this) ?_
   exact fin_end _ _ _ _ _ _ _
  ·rw [decide_eq_false (by omega), ← hN'] at hZ
   obtain ⟨d, hd⟩ := hasD_ex n h0
   have hdP : d ≤ P := hasD_le hd (by omega)
   have hDg := wDigits_ok (digs n) d (by omega) (digs_ok _).1 (by rw [(digs_ok _).2.2]; exact hd) (by rw [(digs_ok _).2.2]; exact hasD_bl hd.2.2 (by omega)) (by omega)
   rw [← hN'] at hDg
   have hcond : (10 ^ k ≤ n) ↔ (g < u + d - 1) := by
    constructor
    ·intro h'; have := hasD_lt hd h'; omega
    ·intro h'
     rcases Nat.lt_or_ge n (10 ^ k) with h'' | h''
     ·have := hasD_le hd h''; omega
     ·exact h''
   have w1 : IntKind.i64.wrap (u + (d : Int)) = u + d := by rw [wrap_i64] <;> omega
   have w2 : IntKind.i64.wrap (u + (d : Int) - 1) = u + d - 1 := by rw [wrap_i64] <;> omega
   unfold finS
   simp only [← hN']
   refine Holds.seq ?_
   refine zs3 (ρ := fun d => if d = 121 then [.v true (words T)] else [.v true (.int .i64 c)]) hc0 (o := by repeat' first|exact hT|exact hC|trivial|constructor) (k := ?_)
   refine Holds.condF rfl (Holds.skip ?_)
   refine Holds.seq ?_
   by_cases hg : g < u + d - 1
   ·rw [if_pos (hcond.2 hg), e1]
    unfold finV at hOv ⊢
    refine zs3 (ρ := fun q => if q = 130 then [.v true (.bool false)] else [.v true (.int .i64 d)]) (an hg <| an w1 <| w2) (o := by repeat' first|exact hZ|exact hDg|trivial|constructor) (k := ?_)
    refine Holds.condT rfl ?_
    refine zs2 (ρ := fun _ => [.v true (.agg [.bool b, words (digs mo), .int .i64 zo]), .v true (.int .i64 5)]) (o := by repeat' first|exact hOv|trivial|constructor) (k := ?_)
    exact Holds.ret (RetOk.vs rfl (by exact ⟨⟨rfl, fun h => h⟩, ⟨rfl, fun h => h⟩, trivial⟩) rfl)
   ·rw [if_neg (fun h => hg (hcond.1 h))]
    refine zs3 (ρ := fun q => if q = 130 then [.v true (.bool false)] else [.v true (.int .i64 d)]) (an hg <| an w1 <| w2) (o := by repeat' first|exact hZ|exact hDg|trivial|constructor) (k := ?_)
    refine Holds.condF rfl (Holds.skip ?_)
    refine Holds.from (σ' := finS P g r neg a u n) (fun a w h => by
     have := Rel.keep [0, 1, 2, 3, 16, 18, 23, 24, 25] [16] h
     unfold finS
     rw [← hN']
     exact this) ?_
    exact fin_end _ _ _ _ _ _ _
def finR (p g r : Int) (neg : Bool) (x : List Int) (e a ti u D : Int) : St := { nt := 157, env := [(0, .v true (.int .i64 p)), (1, .v true (.int .i64 g)), (2, .v true (.int .i64 r)), (3, .v true (.bool neg)), (4, .v false (words x)), (5, .v true (.int .i64 e)), (6, .v true (.bool false)), (16, .ptr 16 0 [] 0), (18, .v true (.int .i64 (1 - g))), (22, .v true (.int .i64 D)), (23, .v true (.int .i64 a)), (24, .v true (.int .i64 u)), (25, .nil), (26, .v true (.int .i64 0))], mem := [(16, .box 179 (.v true (.agg [.bool false, .sl 1 [], .int .i64 0])))] }
set_option maxRecDepth 100000 in
set_option maxHeartbeats 4000000 in
theorem fin_round {cx : Cx} {w0 : World} (p g : Int) (r : Nat) (neg : Bool) (x : List Int) (D : Nat) (e a ti u : Int) (h : CtxOk p g r) (hx : x.length < 900) (ox : okW x) (hD : HasD (val x) D) (hDl : D < 500) (he : -4611686018427387904 < e ∧ e < 4611686018427387904)
 (ha : a = e + D - 1) (hag : ¬ g < a) (hu : u = dU p g D e) (hue : e < u) :
 Holds Tryz.prog none cx w0 (codeAt Tryz.f112 [1, 1, 1, 1, 1, 1, 1, 1, 1, 1]) (finR p g r neg x e a ti u D) (fnQ Tryz.prog Tryz.f112 (resV (dInex p g r neg (val x) D e))) := by
 have hle := dN_le (r := r) (neg := neg) h.1.1 hD (show e ≤ dU p g D e by omega)
 have hub : dTiny p g ≤ u ∧ u ≤ g := by
  rw [hu]
  obtain ⟨⟨h1, h2⟩, ⟨h3, h4⟩, h5, h6⟩ := h
  exact ⟨Int.le_max_right _ _, by unfold dU dTiny; omega⟩
 have ht := fun {cx w0} => fin_tail (cx := cx) (w0 := w0) p g r neg a u (dN r neg (val x) (u - e).toNat) h (by rw [hu]; exact hle) hub
 have hres : dInex p g r neg (val x) D e = (if 10 ^ (g + 1 - u).toNat ≤ dN r neg (val x) (u - e).toNat then ovR p g r neg
  else if dN r neg (val x) (u - e).toNat = 10 ^ p.toNat then (false, 10 ^ (p.toNat - 1), u + 1, if a < 1 - g then 3 else 1)
  else (false, dN r neg (val x) (u - e).toNat, u, if a < 1 - g then 3 else 1)) := by
  rw [hu, ha]; rfl
 rw [← hres] at ht
 obtain ⟨res, hres'⟩ : ∃ res, res = resV (dInex p g r neg (val x) D e) := ⟨_, rfl⟩
 rw [← hres'] at ht ⊢
 obtain ⟨k, hk⟩ : ∃ k : Nat, u - e = k := ⟨(u - e).toNat, by omega⟩
 rw [hk, Int.toNat_natCast] at ht
 obtain ⟨⟨h1, h2⟩, ⟨h3, h4⟩, h5, h6⟩ := h
 unfold dTiny at hub
 have wk : IntKind.i64.wrap (u - e) = (k : Int) := by rw [wrap_i64] <;> omega
 clear hres hres' hle
 by_cases hsm : D + 1 < k
 ·have hU := up_ok r (by omega) neg [] 1 (by simp) (by intro n hn; cases hn)
  obtain ⟨s1, s2⟩ := dN_small (r := r) (neg := neg) hD (show D < k by omega)
  have hn : upN r neg (val ([] : List Int)) 1 = dN r neg (val x) k := by
   unfold dN
   rw [s1, s2]
   rfl
  rw [hn] at hU
  have hU : FnOk Tryz.prog 83 [.v (.int .i64 r), .v (.bool neg), .v (.sl 1 []), .v (.int .i64 1)] [.v true (words (digs (dN r neg (val x) k)))] := hU
  obtain ⟨N, hN⟩ : ∃ N, N = digs (dN r neg (val x) k) := ⟨_, rfl⟩
  rw [← hN] at hU
  have g1 : ((D : Int) + 1 < (k : Int)) := by omega
  unfold finR
  refine Holds.seq ?_
  refine Holds.block ?_
  refine zs1 (an wk <| g1) ?_
  refine Holds.condT rfl ?_
  refine zr0 ?_
  show Holds _ _ _ _ _ _ _
  refine Holds.seq ?_
  refine zs0 ?_
  refine Holds.condF rfl (Holds.skip ?_)
  refine zs2 (ρ := fun _ => [.v true (words N)]) (o := by repeat' first|exact hU|trivial|constructor) (k := ?_)
  refine Holds.from (σ' := finS p g r neg a u (dN r neg (val x) k)) (fun a w h => by
   have := Rel.keep [0, 1, 2, 3, 16, 18, 23, 24, 25] [16] h
   unfold finS
   rw [← hN]
   exact this) ?_
  exact ht
 ·have g1 : ¬ ((D : Int) + 1 < (k : Int)) := by omega
  have hTen := wTen_ok k (by omega)
  have hTl := ten_len (k := k)
  have hp : 0 < 10 ^ k := Nat.pow_pos (by decide)
  have hDM := wDivMod_ok x (digs (10 ^ k)) (by omega) (by omega) ox (digs_ok _).1 (by rw [(digs_ok _).2.2]; exact hp)
  rw [(digs_ok (10 ^ k)).2.2] at hDM
  have hql : (digs (val x / 10 ^ k)).length < 1000 := by
   have h1 := digs_mono (Nat.div_le_self (val x) (10 ^ k))
   have h2 := digs_len (val_lt ox)
   omega
  have hrl : (digs (val x % 10 ^ k)).length < 1000 := by
   have h1 := digs_mono (Nat.mod_le (val x) (10 ^ k))
   have h2 := digs_len (val_lt ox)
   omega
  have hCm := compare_ok (digs (val x % 10 ^ k)) (digs (10 ^ k)) (by omega) (by omega) (digs_ok _).1 (digs_ok _).1
  rw [(digs_ok (val x % 10 ^ k)).2.2, (digs_ok (10 ^ k)).2.2] at hCm
  have hU := up_ok r (by omega) neg (digs (val x / 10 ^ k)) (rstN (val x % 10 ^ k) (10 ^ k)) (by omega) (digs_ok _).1
  rw [(digs_ok (val x / 10 ^ k)).2.2, show upN r neg (val x / 10 ^ k) (rstN (val x % 10 ^ k) (10 ^ k)) = dN r neg (val x) k from rfl] at hU
  obtain ⟨N, hN⟩ : ∃ N, N = digs (dN r neg (val x) k) := ⟨_, rfl⟩
  obtain ⟨T, hT'⟩ : ∃ T, T = digs (10 ^ k) := ⟨_, rfl⟩
  obtain ⟨q, hq⟩ : ∃ q, q = digs (val x / 10 ^ k) := ⟨_, rfl⟩
  obtain ⟨l, hl⟩ : ∃ l, l = digs (val x % 10 ^ k) := ⟨_, rfl⟩
  obtain ⟨z, hz⟩ : ∃ z, z = rstN (val x % 10 ^ k) (10 ^ k) := ⟨_, rfl⟩
  rw [← hN, ← hq, ← hz] at hU
  rw [← hl, ← hT', ← hz] at hCm
  rw [← hq, ← hl, ← hT'] at hDM
  rw [← hT'] at hTen
  clear hz hl hq hT' hp hD hu
  unfold finR
  refine Holds.seq ?_
  refine Holds.block ?_
  refine zs1 (an wk <| g1) ?_
  refine Holds.condF rfl ?_
  refine zs1 hue ?_
  refine Holds.condT rfl ?_
  refine zs3 (ρ := fun _ => [.v true (words T)]) wk (o := by repeat' first|exact hTen|trivial|constructor) (k := ?_)
  refine zs2 (ρ := fun _ => [.v true (words q), .v true (words l)]) (o := by repeat' first|exact hDM|trivial|constructor) (k := ?_)
  refine zs2 (ρ := fun _ => [.v true (.int .i64 z)]) (o := by repeat' first|exact hCm|trivial|constructor) (k := ?_)
  refine zs0 ?_
  refine Holds.condF rfl (Holds.skip ?_)
  refine Holds.from (σ' := { nt := 157, env := [(0, .v true (.int .i64 p)), (1, .v true (.int .i64 g)), (2, .v true (.int .i64 r)), (3, .v true (.bool neg)), (6, .v true (.bool false)), (16, .ptr 16 0 [] 0), (18, .v true (.int .i64 (1 - g))), (23, .v true (.int .i64 a)), (24, .v true (.int .i64 u)), (25, .v true (words q)), (26, .v true (.int .i64 z))], mem := [(16, .box 179 (.v true (.agg [.bool false, .sl 1 [], .int .i64 0])))] }) (fun a w h => Rel.keep [0, 1, 2, 3, 6, 16, 18, 23, 24, 25, 26] [16] h) ?_
  refine Holds.seq ?_
  refine zs0 ?_
  refine Holds.condF rfl (Holds.skip ?_)
  refine zs2 (ρ := fun _ => [.v true (words N)]) (o := by repeat' first|exact hU|trivial|constructor) (k := ?_)
  refine Holds.from (σ' := finS p g r neg a u (dN r neg (val x) k)) (fun a w h => by
   have := Rel.keep [0, 1, 2, 3, 16, 18, 23, 24, 25] [16] h
   unfold finS
   rw [← hN]
   exact this) ?_
  exact ht
set_option maxRecDepth 100000 in
set_option maxHeartbeats 4000000 in
theorem wFinish_ok (p g : Int) (r : Nat) (neg : Bool) (x : List Int) (D t : Nat) (e ideal : Int) (h : CtxOk p g r) (hx : x.length < 900) (ox : okW x) (hD : HasD (val x) D) (hT : HasT (val x) t) (hDl : D < 500) (he : -4611686018427387904 < e ∧ e < 4611686018427387000) :
 FnOk Tryz.prog 112 [.v (.int .i64 p), .v (.int .i64 g), .v (.int .i64 r), .v (.bool neg), .v (words x), .v (.int .i64 e), .v (.bool false), .v (.int .i64 ideal)] (resV (dFin p g r neg (val x) D t e ideal)) := by
 have htD := hasT_le hT hD
 have hDd := wDigits_ok x D (by omega) ox hD (hasD_bl hD.2.2 (by omega)) (by omega)
 have hOv := over_ok p g r neg h
 obtain ⟨b, mo, zo, e1, e2⟩ := resV_ov p g r neg
 rw [e2] at hOv
 have hh := h
 obtain ⟨⟨h1, h2⟩, ⟨h3, h4⟩, h5, h6⟩ := h
 have wg : IntKind.i64.wrap (1 - g) = 1 - g := by rw [wrap_i64] <;> omega
 have wp1 : IntKind.i64.wrap (p - 1) = p - 1 := by rw [wrap_i64] <;> omega
 have wt : IntKind.i64.wrap (1 - g - (p - 1)) = dTiny p g := by unfold dTiny; rw [wrap_i64] <;> omega
 have we : IntKind.i64.wrap (e + (D : Int)) = e + D := by rw [wrap_i64] <;> omega
 have we1 : IntKind.i64.wrap (e + (D : Int) - 1) = e + D - 1 := by rw [wrap_i64] <;> omega
 by_cases hf : ((D - t : Nat) : Int) ≤ p ∧ dTiny p g ≤ e + t ∧ e + D - 1 ≤ g
 ·have hF := fits_yes p g x D t e ideal ⟨h1, h2⟩ ⟨h3, h4⟩ hx ox hD hT (by omega) (by omega) hf
  unfold dFin
  rw [if_neg (by omega), if_pos ⟨hf.1, hf.2.1⟩]
  unfold resV
  simp only
  obtain ⟨M, hM⟩ : ∃ M, M = val x / 10 ^ t * 10 ^ (e + t - dAt p g D t e ideal).toNat := ⟨_, rfl⟩
  obtain ⟨A, hA⟩ : ∃ A, A = dAt p g D t e ideal := ⟨_, rfl⟩
  obtain ⟨ti, hti⟩ : ∃ ti, ti = dTiny p g := ⟨_, rfl⟩
  rw [← hM, ← hA, ← hti] at hF
  rw [← hti] at wt
  rw [← hM, ← hA]
  unfold finV at hF ⊢
  obtain ⟨L, hL⟩ : ∃ L, L = digs M := ⟨_, rfl⟩
  rw [← hL] at hF ⊢
  clear hM hL hA hti hf hDd hOv e1 e2 hh hD hT
  refine FnOk.of Tryz.func112 rfl rfl fun cx w0 => ?_
  rw [show Tryz.f112.ntmps = 157 from rfl]
  refine zs0 ?_
  refine zs1 wg ?_
  refine zs1 (an wp1 <| wt) ?_
  refine Holds.seq ?_
  refine zs0 ?_
  refine Holds.condT rfl ?_
  refine zs2 (ρ := fun _ => [.v true (.agg [.bool false, words L, .int .i64 A]), .v true (.bool true)]) (o := by repeat' first|exact hF|trivial|constructor) (k := ?_)
  refine zs0 ?_
  refine Holds.condT rfl ?_
  refine zs0 ?_
  exact Holds.ret (RetOk.vs rfl (by exact ⟨⟨rfl, fun h => h⟩, ⟨rfl, fun h => h⟩, trivial⟩) rfl)
 ·have hF := fits_no p g x D t e ideal ⟨h1, h2⟩ ⟨h3, h4⟩ hx ox hD hT (by omega) (by omega) hf
  rw [finV_zero] at hF
  obtain ⟨ti, hti⟩ : ∃ ti, ti = dTiny p g := ⟨_, rfl⟩
  rw [← hti] at hF wt
  refine FnOk.of Tryz.func112 rfl rfl fun cx w0 => ?_
  rw [show Tryz.f112.ntmps = 157 from rfl]
  refine zs0 ?_
  refine zs1 wg ?_
  refine zs1 (an wp1 <| wt) ?_
  refine Holds.seq ?_
  refine zs0 ?_
  refine Holds.condT rfl ?_
  refine zs2 (ρ := fun _ => [.v true (.agg [.bool false, .sl 1 [], .int .i64 0]), .v true (.bool false)]) (o := by repeat' first|exact hF|trivial|constructor) (k := ?_)
  refine zs0 ?_
  refine Holds.condF rfl (Holds.skip ?_)
  refine Holds.from (σ' := { nt := 157, env := [(0, .v true (.int .i64 p)), (1, .v true (.int .i64 g)), (2, .v true (.int .i64 r)), (3, .v true (.bool neg)), (4, .v false (words x)), (5, .v true (.int .i64 e)), (6, .v true (.bool false)), (16, .ptr 16 0 [] 0), (18, .v true (.int .i64 (1 - g))), (19, .v true (.int .i64 ti))], mem := [(16, .box 179 (.v true (.agg [.bool false, .sl 1 [], .int .i64 0])))] }) (fun a w h => Rel.keep [0, 1, 2, 3, 4, 5, 6, 16, 18, 19] [16] h) ?_
  refine zs2 (ρ := fun _ => [.v true (.int .i64 D)]) (o := by repeat' first|exact hDd|trivial|constructor) (k := ?_)
  refine zs1 (an we <| we1) ?_
  by_cases hag : g < e + D - 1
  ·unfold dFin
   rw [if_pos hag, e1]
   unfold finV at hOv ⊢
   refine Holds.seq ?_
   refine zs1 hag ?_
   refine Holds.condT rfl ?_
   refine zs2 (ρ := fun _ => [.v true (.agg [.bool b, words (digs mo), .int .i64 zo]), .v true (.int .i64 5)]) (o := by repeat' first|exact hOv|trivial|constructor) (k := ?_)
   exact Holds.ret (RetOk.vs rfl (by exact ⟨⟨rfl, fun h => h⟩, ⟨rfl, fun h => h⟩, trivial⟩) rfl)
  ·have hfD : ¬ (((D - t : Nat) : Int) ≤ p ∧ dTiny p g ≤ e + t) := fun h => hf ⟨h.1, h.2, by omega⟩
   unfold dFin
   rw [if_neg hag, if_neg hfD]
   have hu : max (e + (D : Int) - 1 - p + 1) ti = dU p g D e := by rw [hti]; rfl
   have hue : e < dU p g D e := by
    rw [← hu, hti]
    by_cases h7 : ((D - t : Nat) : Int) ≤ p
    ·have := Int.le_max_right (e + (D : Int) - 1 - p + 1) (dTiny p g)
     have : ¬ dTiny p g ≤ e + t := fun h8 => hfD ⟨h7, h8⟩
     omega
    ·have := Int.le_max_left (e + (D : Int) - 1 - p + 1) (dTiny p g)
     omega
   have hR := fun {cx w0} => fin_round (cx := cx) (w0 := w0) p g r neg x D e (e + D - 1) ti (dU p g D e) hh hx ox hD hDl ⟨he.1, by omega⟩ rfl hag rfl hue
   have wa : IntKind.i64.wrap (e + (D : Int) - 1 - p) = e + D - 1 - p := by rw [wrap_i64] <;> omega
   have wa1 : IntKind.i64.wrap (e + (D : Int) - 1 - p + 1) = e + D - 1 - p + 1 := by rw [wrap_i64] <;> omega
   obtain ⟨u, hu'⟩ : ∃ u, u = dU p g D e := ⟨_, rfl⟩
   rw [← hu'] at hu hR
   obtain ⟨res, hres⟩ : ∃ res, res = resV (dInex p g r neg (val x) D e) := ⟨_, rfl⟩
   rw [← hres] at hR ⊢
   clear hres hu' hue hfD hf hF hOv e1 e2 hh hD hT
   refine Holds.seq ?_
   refine zs1 hag ?_
   refine Holds.condF rfl (Holds.skip ?_)
   refine zs1 (an wa <| an wa1 <| an max2_eq <| hu) ?_
   refine zs0 ?_
   refine zs0 ?_
   exact Holds.from (σ' := finR p g r neg x e (e + D - 1) ti u D) (fun a w h => Rel.keep [0, 1, 2, 3, 4, 5, 6, 16, 18, 22, 23, 24, 25, 26] [16] h) hR
def dresK (d : DRes) : Nat := if d.1 = true then 1 else 0
def zeroAt (p g ideal : Int) : Int := min (max ideal (dTiny p g)) g
theorem ovR_form (p g : Int) (r : Nat) (neg : Bool) : (ovR p g r neg).1 = true → (ovR p g r neg).2.1 = 0 ∧ (ovR p g r neg).2.2.1 = 0 := by
 unfold ovR; split
 ·intro h; cases h
 ·intro _; exact ⟨rfl, rfl⟩
theorem dFin_inf (p g : Int) (r : Nat) (neg : Bool) (m D t : Nat) (e ideal : Int) : (dFin p g r neg m D t e ideal).1 = true → (dFin p g r neg m D t e ideal).2.1 = 0 ∧ (dFin p g r neg m D t e ideal).2.2.1 = 0 := by
 unfold dFin
 split
 ·exact ovR_form _ _ _ _
 ·split
  ·intro h; cases h
  ·unfold dInex
   split
   ·exact ovR_form _ _ _ _
   ·split <;> (intro h; cases h)
set_option maxRecDepth 100000 in
theorem Finish_zero (p g : Int) (r : Nat) (neg : Bool) (e ideal : Int) (h : CtxOk p g r) :
 FnOk Tryz.prog 57 [.v (ctxV p g r), .v (.bool neg), .v (words (digs 0)), .v (.int .i64 e), .v (.bool false), .v (.int .i64 ideal)] [.v true (decV 0 neg 0 (zeroAt p g ideal)), .v true (.int .i64 0)] := by
 have hT := tiny_ok p g r h
 have hZ := wZero_ok [] (by decide) (fun n hn => by cases hn)
 rw [show decide (val [] = 0) = true from rfl] at hZ
 have hZ : FnOk Tryz.prog 36 [.v (.sl 1 [])] [.v true (.bool true)] := hZ
 rw [decV_zero, show words (digs 0) = .sl 1 [] from rfl]
 have hz : zeroAt p g ideal = min (max ideal (1 - g - (p - 1))) g := rfl
 obtain ⟨z, hz'⟩ : ∃ z, z = zeroAt p g ideal := ⟨_, rfl⟩
 rw [← hz'] at hz ⊢
 unfold ctxV at hT ⊢
 refine FnOk.of Tryz.func57 rfl rfl fun cx w0 => ?_
 rw [show Tryz.f57.ntmps = 58 from rfl]
 refine zs0 ?_
 refine Holds.seq ?_
 refine zs2 (ρ := fun _ => [.v true (.bool true)]) (o := by repeat' first|exact hZ|trivial|constructor) (k := ?_)
 refine Holds.condT rfl ?_
 refine zd3 [] (ρ := fun _ => [.v true (.int .i64 (1 - g - (p - 1)))]) (an max2_eq <| an min2_eq <| hz.symm) (o := by repeat' first|exact hT|trivial|constructor) (k := ?_)
 exact Holds.ret (RetOk.vs rfl (by exact ⟨⟨rfl, fun h => h⟩, ⟨rfl, fun h => h⟩, trivial⟩) rfl)
set_option maxRecDepth 100000 in
theorem Finish_pos (p g : Int) (r : Nat) (neg : Bool) (m D t : Nat) (e ideal : Int) (h : CtxOk p g r) (hx : (digs m).length < 900) (hD : HasD m D) (hT : HasT m t) (hDl : D < 500) (he : -4611686018427387904 < e ∧ e < 4611686018427387000) :
 FnOk Tryz.prog 57 [.v (ctxV p g r), .v (.bool neg), .v (words (digs m)), .v (.int .i64 e), .v (.bool false), .v (.int .i64 ideal)] [.v true (decV (dresK (dFin p g r neg m D t e ideal)) neg (dFin p g r neg m D t e ideal).2.1 (dFin p g r neg m D t e ideal).2.2.1), .v true (.int .i64 (dFin p g r neg m D t e ideal).2.2.2)] := by
 have hpos := hT.pos
 have hF := wFinish_ok p g r neg (digs m) D t e ideal h hx (digs_ok _).1 (by rw [(digs_ok _).2.2]; exact hD) (by rw [(digs_ok _).2.2]; exact hT) hDl he
 have hZ := wZero_ok (digs m) (by omega) (digs_ok _).1
 rw [(digs_ok m).2.2] at hF hZ
 rw [decide_eq_false (by omega)] at hZ
 have hi := dFin_inf p g r neg m D t e ideal
 obtain ⟨res, hres⟩ : ∃ res, res = dFin p g r neg m D t e ideal := ⟨_, rfl⟩
 rw [← hres] at hF hi ⊢
 obtain ⟨b, mo, zo, fl⟩ := res
 simp only at hi
 unfold resV finV at hF
 unfold dresK decV
 simp only at hF ⊢
 obtain ⟨L, hL⟩ : ∃ L, L = digs m := ⟨_, rfl⟩
 rw [← hL] at hF hZ ⊢
 unfold ctxV
 refine FnOk.of Tryz.func57 rfl rfl fun cx w0 => ?_
 rw [show Tryz.f57.ntmps = 58 from rfl]
 cases b with
 | true =>
   obtain ⟨e1, e2⟩ := hi rfl
   subst e1; subst e2
   rw [if_pos rfl, show words (digs 0) = .sl 1 [] from rfl]
   rw [show words (digs 0) = .sl 1 [] from rfl] at hF
   refine zs0 ?_
   refine Holds.seq ?_
   refine zs2 (ρ := fun _ => [.v true (.bool false)]) (o := by repeat' first|exact hZ|trivial|constructor) (k := ?_)
   refine Holds.condF rfl (Holds.skip ?_)
   refine zs2 (ρ := fun _ => [.v true (.agg [.bool true, .sl 1 [], .int .i64 0]), .v true (.int .i64 fl)]) (o := by repeat' first|exact hF|trivial|constructor) (k := ?_)
   refine Holds.seq ?_
   refine zs0 ?_
   refine Holds.condT rfl ?_
   refine zs0 ?_
   exact Holds.ret (RetOk.vs rfl (by exact ⟨⟨rfl, fun h => h⟩, ⟨rfl, fun h => h⟩, trivial⟩) rfl)
 | false =>
   rw [if_neg (by simp)]
   obtain ⟨M, hM⟩ : ∃ M, M = digs mo := ⟨_, rfl⟩
   rw [← hM] at hF ⊢
   refine zs0 ?_
   refine Holds.seq ?_
   refine zs2 (ρ := fun _ => [.v true (.bool false)]) (o := by repeat' first|exact hZ|trivial|constructor) (k := ?_)
   refine Holds.condF rfl (Holds.skip ?_)
   refine zs2 (ρ := fun _ => [.v true (.agg [.bool false, words M, .int .i64 zo]), .v true (.int .i64 fl)]) (o := by repeat' first|exact hF|trivial|constructor) (k := ?_)
   refine Holds.seq ?_
   refine zs0 ?_
   refine Holds.condF rfl (Holds.skip ?_)
   refine zs0 ?_
   exact Holds.ret (RetOk.vs rfl (by exact ⟨⟨rfl, fun h => h⟩, ⟨rfl, fun h => h⟩, trivial⟩) rfl)
set_option maxRecDepth 100000 in
theorem Decimal_ctx (p g r : Int) (t : ByteArray) (ht : t.size ≤ 300) (h : ¬ CtxOk p g r) : FnOk Tryz.prog 19 [.v (ctxV p g r), .v (.str t)] [.v true (decV 0 false 0 0), .v true (.int .i64 0), .v true (.int .i64 220)] := by
 have hC := dCheck_ok p g r
 unfold CtxOk at h
 rw [if_neg h] at hC
 rw [decV_zero]
 unfold ctxV at hC ⊢
 have g0 : ¬ (65536 : Int) < t.size := by omega
 refine FnOk.of Tryz.func19 rfl rfl fun cx w0 => ?_
 rw [show Tryz.f19.ntmps = 59 from rfl]
 refine zs0 ?_
 refine Holds.seq ?_
 refine zs1 g0 ?_
 refine Holds.condF rfl (Holds.skip ?_)
 refine Holds.seq ?_
 refine zs2 (ρ := fun _ => [.v true (.int .i64 220)]) (o := by repeat' first|exact hC|trivial|constructor) (k := ?_)
 refine zs0 ?_
 refine Holds.condT rfl ?_
 refine zs0 ?_
 exact Holds.ret (RetOk.vs rfl (by exact ⟨⟨rfl, fun h => h⟩, ⟨rfl, fun h => h⟩, ⟨rfl, fun h => h⟩, trivial⟩) rfl)
set_option maxRecDepth 100000 in
theorem Decimal_none (p g r : Int) (t : ByteArray) (ht : t.size ≤ 300) (hc : CtxOk p g r) (h : rdB t = false ∨ ∃ n, longM t true = some n ∧ n.kind = 1) :
 FnOk Tryz.prog 19 [.v (ctxV p g r), .v (.str t)] [.v true (decV 0 false 0 0), .v true (.int .i64 0), .v true (.int .i64 6)] := by
 have hC := dCheck_ok p g r
 unfold CtxOk at hc
 rw [if_pos hc] at hC
 have hD := dec_none t (by omega) h
 rw [decV_zero]
 unfold ctxV at hC ⊢
 have g0 : ¬ (65536 : Int) < t.size := by omega
 refine FnOk.of Tryz.func19 rfl rfl fun cx w0 => ?_
 rw [show Tryz.f19.ntmps = 59 from rfl]
 refine zs0 ?_
 refine Holds.seq ?_
 refine zs1 g0 ?_
 refine Holds.condF rfl (Holds.skip ?_)
 refine Holds.seq ?_
 refine zs2 (ρ := fun _ => [.v true (.int .i64 0)]) (o := by repeat' first|exact hC|trivial|constructor) (k := ?_)
 refine zs0 ?_
 refine Holds.condF rfl (Holds.skip ?_)
 refine zs2 (ρ := fun _ => [.v true (.agg [.int .i64 (0 : Nat), .bool false, .str ⟨#[]⟩, .int .i64 0, .int .i64 0, .int .i64 0, .bool false]), .v true (.int .i64 6)]) (o := by repeat' first|exact hD|trivial|constructor) (k := ?_)
 refine Holds.seq ?_
 refine zs0 ?_
 refine Holds.condT rfl ?_
 refine zs0 ?_
 exact Holds.ret (RetOk.vs rfl (by exact ⟨⟨rfl, fun h => h⟩, ⟨rfl, fun h => h⟩, ⟨rfl, fun h => h⟩, trivial⟩) rfl)
set_option maxRecDepth 100000 in
theorem Decimal_spec (p g r : Int) (t : ByteArray) (ht : t.size ≤ 300) (hc : CtxOk p g r) {n : Nm} (h : longM t true = some n) (hr : rdB t = true) (hk : n.kind = 3 ∨ n.kind = 2) :
 FnOk Tryz.prog 19 [.v (ctxV p g r), .v (.str t)] [.v true (spV n), .v true (.int .i64 0), .v true (.int .i64 0)] := by
 have hC := dCheck_ok p g r
 unfold CtxOk at hc
 rw [if_pos hc] at hC
 have hD := dec_some t (by omega) h hr (by omega)
 have hS := special_ok n
 rw [decide_eq_true hk] at hS
 obtain ⟨ks, ns, hs⟩ := spV_form n
 rw [hs] at hS ⊢
 clear hs h hk hr
 obtain ⟨k, neg, d, bh, e, len, sg⟩ := n
 unfold Nm.v numV at hD hS
 simp only at hD hS
 unfold ctxV at hC ⊢
 have g0 : ¬ (65536 : Int) < t.size := by omega
 refine FnOk.of Tryz.func19 rfl rfl fun cx w0 => ?_
 rw [show Tryz.f19.ntmps = 59 from rfl]
 refine zs0 ?_
 refine Holds.seq ?_
 refine zs1 g0 ?_
 refine Holds.condF rfl (Holds.skip ?_)
 refine Holds.seq ?_
 refine zs2 (ρ := fun _ => [.v true (.int .i64 0)]) (o := by repeat' first|exact hC|trivial|constructor) (k := ?_)
 refine zs0 ?_
 refine Holds.condF rfl (Holds.skip ?_)
 refine zs2 (ρ := fun _ => [.v true (.agg [.int .i64 (k : Nat), .bool neg, .str ⟨d.toArray⟩, .int .i64 (bh : Nat), .int .i64 e, .int .i64 (len : Nat), .bool sg]), .v true (.int .i64 0)]) (o := by repeat' first|exact hD|trivial|constructor) (k := ?_)
 refine Holds.seq ?_
 refine zs0 ?_
 refine Holds.condF rfl (Holds.skip ?_)
 refine Holds.seq ?_
 refine zs2 (ρ := fun _ => [.v true (.agg [.int .i64 (ks : Nat), .bool ns, .sl 1 [], .int .i64 0]), .v true (.bool true)]) (o := by repeat' first|exact hS|trivial|constructor) (k := ?_)
 refine zs0 ?_
 refine Holds.condT rfl ?_
 refine zs0 ?_
 exact Holds.ret (RetOk.vs rfl (by exact ⟨⟨rfl, fun h => h⟩, ⟨rfl, fun h => h⟩, ⟨rfl, fun h => h⟩, trivial⟩) rfl)
set_option maxRecDepth 100000 in
theorem Decimal_num (p g r : Int) (t : ByteArray) (ht : t.size ≤ 300) (hc : CtxOk p g r) {n : Nm} (h : longM t true = some n) (hr : rdB t = true) (ho : NmOk n t.size) (hk : n.kind = 0)
 (kx : Nat) (nx : Bool) (mx : Nat) (ex fx : Int) (hF : FnOk Tryz.prog 57 [.v (ctxV p g r), .v (.bool n.neg), .v (words (digs n.num)), .v (.int .i64 (n.exp - (n.each * n.behind : Nat))), .v (.bool false), .v (.int .i64 (n.exp - (n.each * n.behind : Nat)))] [.v true (decV kx nx mx ex), .v true (.int .i64 fx)]) :
 FnOk Tryz.prog 19 [.v (ctxV p g r), .v (.str t)] [.v true (decV kx nx mx ex), .v true (.int .i64 fx), .v true (.int .i64 0)] := by
 have hC := dCheck_ok p g r
 unfold CtxOk at hc
 rw [if_pos hc] at hC
 have hD := dec_some t (by omega) h hr (by omega)
 have hS := special_ok n
 have hM := mag_ok ho (by omega)
 rw [decide_eq_false (by omega), show spV n = decV 0 false 0 0 from by unfold spV; rw [if_neg (by omega), if_neg (by omega)], decV_zero] at hS
 rw [decV_eq] at hF ⊢
 obtain ⟨L, hL⟩ : ∃ L, L = (digs mx).map fun n => V.int .u64 n := ⟨_, rfl⟩
 rw [← hL] at hF ⊢
 obtain ⟨m, hm⟩ : ∃ m, m = digs n.num := ⟨_, rfl⟩
 obtain ⟨x, hx⟩ : ∃ x, x = n.exp - (n.each * n.behind : Nat) := ⟨_, rfl⟩
 rw [← hm, ← hx] at hM hF
 obtain ⟨y, hy⟩ : ∃ y, y = n.neg := ⟨_, rfl⟩
 rw [← hy] at hF
 clear h hk hr ho hm hx
 obtain ⟨k, neg, d, bh, e, len, sg⟩ := n
 unfold Nm.v numV at hD hS hM
 simp only at hD hS hM hy
 subst hy
 unfold ctxV at hC hF ⊢
 have g0 : ¬ (65536 : Int) < t.size := by omega
 refine FnOk.of Tryz.func19 rfl rfl fun cx w0 => ?_
 rw [show Tryz.f19.ntmps = 59 from rfl]
 refine zs0 ?_
 refine Holds.seq ?_
 refine zs1 g0 ?_
 refine Holds.condF rfl (Holds.skip ?_)
 refine Holds.seq ?_
 refine zs2 (ρ := fun _ => [.v true (.int .i64 0)]) (o := by repeat' first|exact hC|trivial|constructor) (k := ?_)
 refine zs0 ?_
 refine Holds.condF rfl (Holds.skip ?_)
 refine zs2 (ρ := fun _ => [.v true (.agg [.int .i64 (k : Nat), .bool y, .str ⟨d.toArray⟩, .int .i64 (bh : Nat), .int .i64 e, .int .i64 (len : Nat), .bool sg]), .v true (.int .i64 0)]) (o := by repeat' first|exact hD|trivial|constructor) (k := ?_)
 refine Holds.seq ?_
 refine zs0 ?_
 refine Holds.condF rfl (Holds.skip ?_)
 refine Holds.seq ?_
 refine zs2 (ρ := fun _ => [.v true (.agg [.int .i64 (0 : Nat), .bool false, .sl 1 [], .int .i64 0]), .v true (.bool false)]) (o := by repeat' first|exact hS|trivial|constructor) (k := ?_)
 refine zs0 ?_
 refine Holds.condF rfl (Holds.skip ?_)
 refine zs2 (ρ := fun _ => [.v true (words m), .v true (.int .i64 x)]) (o := by repeat' first|exact hM|trivial|constructor) (k := ?_)
 refine zs2 (ρ := fun _ => [.v true (.agg [.int .i64 (kx : Nat), .bool nx, .sl 1 L, .int .i64 ex]), .v true (.int .i64 fx)]) (o := by repeat' first|exact hF|trivial|constructor) (k := ?_)
 refine zs0 ?_
 exact Holds.ret (RetOk.vs rfl (by exact ⟨⟨rfl, fun h => h⟩, ⟨rfl, fun h => h⟩, ⟨rfl, fun h => h⟩, trivial⟩) rfl)
def rfN (s : Nat) (h : Nat) : Nat := if s = 0 then 0 else h * 2 ^ (64 - s) % 18446744073709551616
theorem shr_rf (s a h : Nat) : shr1 s a h = a / 2 ^ s + rfN s h := by
 unfold shr1 rfN
 by_cases h0 : s = 0
 ·rw [if_pos h0, h0, Nat.sub_zero, show (2 : Nat) ^ 64 = 18446744073709551616 from rfl, Nat.mul_mod_left]
 ·rw [if_neg h0]
set_option maxRecDepth 100000 in
set_option maxHeartbeats 2000000 in
theorem WRight_ok (x : List Int) (s : Nat) (hs : s < 64) (hx : x.length < 100000) (ox : okW x) : FnOk Tryz.prog 182 [.v (words x), .v (.int .i64 s)] [.v true (words (shrL s x)), .v true (.int .u64 (rfN s (x.getD 0 0).toNat : Nat))] := by
 obtain ⟨oR, lR, _⟩ := shrL_ok hs ox
 have hget := fun i h => shrL_get (r := s) x i h
 obtain ⟨S, hS⟩ : ∃ S, S = shrL s x := ⟨_, rfl⟩
 rw [← hS] at oR lR hget ⊢
 obtain ⟨F, hF⟩ : ∃ F, F = rfN s (x.getD 0 0).toNat := ⟨_, rfl⟩
 rw [← hF]
 clear hS
 refine FnOk.of Tryz.func182 rfl rfl fun cx w0 => ?_
 rw [show Tryz.f182.ntmps = 41 from rfl]
 refine zs0 ?_
 refine zs1 tby76 ?_
 refine zs0 ?_
 refine Holds.next (fun σ => ∀ a w, Rel cx w0 σ a w → Rel cx w0 { nt := 41, env := [(6, .own 11 0 x.length), (7, .v true (.int .u64 F))], mem := [(11, .buf 76 1 true (S.map fun n => .int .u64 n))] } a w) ?_ ?_
 ·refine zs0 ?_
  refine Holds.loopB (fun q : Nat × List Int => { nt := 41, env := [(8, .v true (.int .i64 ((q.1 : Int) - 1))), (7, .v true (.int .u64 (rfN s (x.getD q.1 0).toNat : Nat))), (6, .own 11 0 x.length), (0, .v false (words x)), (1, .v true (.int .i64 s))], mem := [(11, .buf 76 1 true (q.2.map fun n => .int .u64 n))] })
   (fun q => q.1 ≤ x.length ∧ q.2.length = x.length ∧ ∀ k, q.1 ≤ k → q.2.getD k 0 = S.getD k 0) (fun q => q.1) (x.length, List.replicate x.length 0) ⟨Nat.le_refl _, List.length_replicate, fun k hk => by rw [getD_far (by rw [List.length_replicate]; exact hk), getD_far (by rw [lR]; exact hk)]⟩ (fun a w h => by
     have := Rel.keep [8, 7, 6, 0, 1] [11] h
     have e0 : rfN s (0 : Int).toNat = 0 := by unfold rfN; rw [Int.toNat_zero, Nat.zero_mul, Nat.zero_mod]; split <;> rfl
     have e1 : (List.replicate x.length (0 : Int)).map (fun n => V.int .u64 n) = List.replicate x.length (V.int .u64 0) := List.map_replicate
     show Rel cx w0 { nt := 41, env := [(8, .v true (.int .i64 ((x.length : Int) - 1))), (7, .v true (.int .u64 (rfN s (x.getD x.length 0).toNat : Nat))), (6, .own 11 0 x.length), (0, .v false (words x)), (1, .v true (.int .i64 s))], mem := [(11, .buf 76 1 true ((List.replicate x.length (0 : Int)).map fun n => .int .u64 n))] } a w
     rw [getD_far (Nat.le_refl _), e0, e1]
     exact this) ?_
  rintro ⟨j, L⟩ ⟨hj, hL, hk⟩
  simp only at hj hL hk ⊢
  rcases j with _ | i
  ·refine Holds.seq ?_
   refine zs0 ?_
   refine Holds.condF rfl (Holds.exit ⟨rfl, fun a w h => ?_⟩)
   have hLS : L = S := List.ext_getElem (by rw [hL, lR]) fun k h1 h2 => by
    have := hk k (Nat.zero_le _)
    rw [List.getD_eq_getElem?_getD, List.getD_eq_getElem?_getD, List.getElem?_eq_getElem h1, List.getElem?_eq_getElem h2] at this
    exact this
   have := Rel.keep [6, 7] [11] h
   rw [hLS] at this
   rw [hF]
   exact this
  ·obtain ⟨u, hu, hu64⟩ := natW (okW_getD ox i)
   obtain ⟨v, hv, hv64⟩ := natW (okW_getD ox (i + 1))
   have gX : x[i]? = some (u : Int) := by rw [get_map (by omega), hu]
   have gL := get_map (l := L) (i := i) (by omega)
   have gS := hget i (by omega)
   rw [hu, hv, Int.toNat_natCast, Int.toNat_natCast, shr_rf] at gS
   have hlt := (shr1_ok (r := s) (h := v) hs hu64).1
   rw [shr_rf] at hlt
   rw [hv, Int.toNat_natCast]
   have ws := shrG u s (by omega)
   have whi : u / 2 ^ s ≤ u := Nat.div_le_self _ _
   have ws2 : IntKind.u64.wrap ((u / 2 ^ s : Nat) : Int) = ((u / 2 ^ s : Nat) : Int) := wrapN _ (by omega)
   have w0' : rfN s u = if s = 0 then 0 else u * 2 ^ (64 - s) % 18446744073709551616 := rfl
   obtain ⟨f, hf⟩ : ∃ f, f = rfN s v := ⟨_, rfl⟩
   obtain ⟨a, ha⟩ : ∃ a, a = u / 2 ^ s := ⟨_, rfl⟩
   rw [← hf, ← ha] at gS hlt
   rw [← ha] at ws ws2
   rw [← hf]
   have wa : IntKind.u64.wrap ((f : Int) + (a : Int)) = ((a + f : Nat) : Int) := by rw [wrap_u64]; omega
   have e1 : (((i + 1 : Nat) : Int) - 1) = (i : Int) := by omega
   rw [e1]
   have wk : IntKind.i64.wrap ((i : Int) - 1) = (i : Int) - 1 := by rw [wrap_i64] <;> omega
   have gi : (i : Int) < x.length := by omega
   have g0 : (0 : Int) ≤ (i : Int) := by omega
   obtain ⟨y, hy⟩ : ∃ y, y = a + f := ⟨_, rfl⟩
   rw [← hy] at wa gS
   refine Holds.seq ?_
   refine zs0 ?_
   refine Holds.condT rfl (Holds.skip ?_)
   refine Holds.next (fun σ => ∀ a w, Rel cx w0 σ a w → Rel cx w0 { nt := 41, env := [(8, .v true (.int .i64 (i : Int))), (7, .v true (.int .u64 (rfN s u : Nat))), (6, .own 11 0 x.length), (0, .v false (words x)), (1, .v true (.int .i64 s))], mem := [(11, .buf 76 1 true ((L.set i (y : Int)).map fun n => .int .u64 n))] } a w) ?_ ?_
   ·refine Holds.blockN ?_
    refine zs1 (an gX <| an gi <| an g0 <| an ws <| an ws2 <| an wa <| an hL <| gL) ?_
    refine zs0 ?_
    by_cases h0 : s = 0
    ·have g1 : ¬ (0 : Int) < (s : Int) := by omega
     rw [if_pos h0] at w0'
     refine zs1 g1 ?_
     exact Holds.condF rfl (Holds.skip fun a w h => by
      have := Rel.keep [8, 7, 6, 0, 1] [11] h
      rw [List.map_set, w0']
      exact this)
    ·have g1 : (0 : Int) < (s : Int) := by omega
     rw [if_neg h0] at w0'
     have w64 : (64 : Int) - (s : Int) = ((64 - s : Nat) : Int) := by omega
     have wl := shlN u (64 - s) (by omega)
     obtain ⟨z, hz⟩ : ∃ z, z = u * 2 ^ (64 - s) % 18446744073709551616 := ⟨_, rfl⟩
     rw [← hz] at wl w0'
     refine zs1 g1 ?_
     refine Holds.condT rfl ?_
     refine zr1 (an gX <| an gi <| an g0 <| an w64 <| wl) ?_
     intro a w h
     have := Rel.keep [8, 7, 6, 0, 1] [11] h
     rw [List.map_set, w0']
     exact this
   ·intro σ hσ
    refine Holds.from hσ ?_
    refine zr1 wk ?_
    refine ⟨(i, L.set i (y : Int)), ⟨by show i ≤ x.length; omega, by show (L.set i (y : Int)).length = x.length; rw [List.length_set, hL], fun k hk' => ?_⟩, (show i < i + 1 by omega), fun a w h => ?_⟩
    ·show (L.set i (y : Int)).getD k 0 = S.getD k 0
     rw [getD_set (by omega)]
     by_cases hki : i = k
     ·rw [if_pos hki, ← hki, gS]
     ·rw [if_neg hki]
      exact hk k (by omega)
    ·have := Rel.keep [8, 7, 6, 0, 1] [11] h
     simp only
     rw [hu, Int.toNat_natCast]
     exact this
 ·intro σ hσ
  refine Holds.from hσ ?_
  have htk : List.take x.length (List.map (fun n => V.int .u64 n) S) = List.map (fun n => V.int .u64 n) S := List.take_of_length_le (by rw [List.length_map, lR]; exact Nat.le_refl _)
  refine zs1 htk ?_
  exact Holds.ret (RetOk.vs rfl (by exact ⟨⟨rfl, by rw [List.drop_zero, htk], fun h => h, rfl⟩, ⟨rfl, fun h => h⟩, trivial⟩) rfl)
set_option maxRecDepth 100000 in
theorem rRight1_ok (x : List Int) (s : Nat) (hx : x.length < 40000) (hs : s < 1000000) (ox : okW x) : FnOk Tryz.prog 159 [.v (words x), .v (.int .i64 s)] [.v true (words (digs (val x / 2 ^ s)))] := by
 obtain ⟨m, hm⟩ : ∃ m, m = s / 64 := ⟨_, rfl⟩
 obtain ⟨r, hr⟩ : ∃ r, r = s % 64 := ⟨_, rfl⟩
 have hqm : (s : Int).tdiv 64 = m := by rw [hm]; exact quoN s 64
 have hrm : (s : Int).tmod 64 = r := by rw [hr]; exact remN s 64
 have hpow : (2 : Nat) ^ s = 18446744073709551616 ^ m * 2 ^ r := by
  have hs' : s = 64 * m + r := by omega
  rw [hs', Nat.pow_add, Nat.pow_mul, show (2 : Nat) ^ 64 = 18446744073709551616 from rfl]
 have hrl : r < 64 := by omega
 have hml : m < 20000 := by omega
 rw [hpow]
 clear hpow hm hr
 refine FnOk.of Tryz.func159 rfl rfl fun cx w0 => ?_
 rw [show Tryz.f159.ntmps = 24 from rfl]
 refine zs0 ?_
 refine Holds.seq ?_
 by_cases hmX : x.length ≤ m
 ·have : val x / (18446744073709551616 ^ m * 2 ^ r) = 0 := by
   refine Nat.div_eq_of_lt ?_
   have h2 := val_lt ox
   have h3 : 18446744073709551616 ^ x.length ≤ 18446744073709551616 ^ m := Nat.pow_le_pow_right (by decide) hmX
   have h4 : 18446744073709551616 ^ m * 1 ≤ 18446744073709551616 ^ m * 2 ^ r := Nat.mul_le_mul_left _ (Nat.pow_pos (by decide))
   omega
  rw [this]
  have g : (x.length : Int) ≤ m := by omega
  refine zs1 (an hqm <| g) ?_
  refine Holds.condT rfl ?_
  refine zs0 ?_
  exact Holds.ret ⟨_, [], rfl, ⟨rfl, trivial⟩, by simp [R.names, R.mems, R.blks], by simp, rfl⟩
 have g : ¬ (x.length : Int) ≤ m := by omega
 have hcut : val x / (18446744073709551616 ^ m * 2 ^ r) = val (shrL r (x.drop m)) := by
  rw [shrL_val hrl (okW_dropN ox m), ← Nat.div_div_eq_div_mul]
  congr 1
  have e : val x = val (x.take m) + 18446744073709551616 ^ m * val (x.drop m) := by
   have := val_append (x.take m) (x.drop m)
   rw [List.take_append_drop, List.length_take, Nat.min_eq_left (by omega)] at this
   exact this
  have h2 := val_lt (okW_take ox m)
  rw [List.length_take, Nat.min_eq_left (by omega)] at h2
  rw [e, Nat.add_comm, Nat.mul_add_div (Nat.pow_pos (by decide)), Nat.div_eq_of_lt h2, Nat.add_zero]
 rw [hcut]
 have oY := okW_dropN ox m
 have lY : (x.drop m).length = x.length - m := List.length_drop
 have hW := WRight_ok (x.drop m) r hrl (by omega) oY
 obtain ⟨oR, lR, _⟩ := shrL_ok hrl oY
 have hT := rTrim_ok (shrL r (x.drop m)) (by omega) oR
 have hdr : List.drop m (List.map (fun n => V.int .u64 n) x) = List.map (fun n => V.int .u64 n) (x.drop m) := List.map_drop.symm
 have htk0 : List.take x.length (List.map (fun n => V.int .u64 n) x) = List.map (fun n => V.int .u64 n) x := List.take_of_length_le (by rw [List.length_map]; exact Nat.le_refl _)
 have gm : (0 : Int) ≤ m := by omega
 have gm2 : (m : Int) ≤ x.length := by omega
 obtain ⟨Y, hY⟩ : ∃ Y, Y = x.drop m := ⟨_, rfl⟩
 rw [← hY] at hW hdr hT ⊢
 obtain ⟨S, hS⟩ : ∃ S, S = shrL r Y := ⟨_, rfl⟩
 rw [← hS] at hW hT ⊢
 obtain ⟨D, hD⟩ : ∃ D, D = digs (val S) := ⟨_, rfl⟩
 rw [← hD] at hT ⊢
 obtain ⟨F, hF⟩ : ∃ F, F = rfN r (Y.getD 0 0).toNat := ⟨_, rfl⟩
 rw [← hF] at hW
 clear hcut oY lY lR oR hF hY hS hD
 refine zs1 (an hqm <| g) ?_
 refine Holds.condF rfl (Holds.skip ?_)
 refine zs3 (ρ := fun _ => [.v true (words S), .v true (.int .u64 F)]) (an hqm <| an hrm <| an gm <| an gm2 <| an hdr <| htk0) (o := by repeat' first|exact hW|trivial|constructor) (k := ?_)
 refine zs2 (ρ := fun _ => [.v true (words D)]) (o := by repeat' first|exact hT|trivial|constructor) (k := ?_)
 exact Holds.ret (RetOk.vs rfl (by exact ⟨⟨rfl, fun h => h⟩, trivial⟩) rfl)
theorem cntS_top (u : Nat) : ∀ j, u % 2 ^ j ≠ 0 → (cntS u j).1 = 64 - (blN (u % 2 ^ j) : Int)
 | 0, h => absurd (Nat.mod_one u) h
 | j + 1, h => by
   have hm : u % 2 ^ (j + 1) = u % 2 ^ j + 2 ^ j * (u / 2 ^ j % 2) := by rw [Nat.pow_succ, Nat.mod_mul]
   rw [cntS]
   by_cases hb : u / 2 ^ j % 2 = 1
   ·rw [if_pos hb]
    have hlt := Nat.mod_lt u (Nat.pow_pos (a := 2) (n := j) (by decide))
    have : blN (u % 2 ^ (j + 1)) = j + 1 := by
     refine bl_of ?_ (Nat.mod_lt _ (Nat.pow_pos (by decide)))
     rw [hm, hb]; omega
    rw [this]
    show 63 - (j : Int) = _
    omega
   ·rw [if_neg hb]
    have e : u % 2 ^ (j + 1) = u % 2 ^ j := by rw [hm, show u / 2 ^ j % 2 = 0 from by omega, Nat.mul_zero, Nat.add_zero]
    rw [e] at h ⊢
    exact cntS_top u j h
theorem lenR_eq {x : List Int} (ox : okW x) : lenR x = (blN (val x) : Nat) := by
 rw [lenR]
 cases h : trimW x x.length with
 | zero =>
   have : val x = 0 := by rw [← val_trim x, trimL, h]; simp [val]
   rw [this]
   rfl
 | succ m =>
   obtain ⟨h1, h2⟩ := trimW_last x _ _ h
   obtain ⟨u, hu, hu64⟩ := natW (okW_getD ox m)
   have hu0 : 0 < u := by rw [hu] at h1; omega
   have hc := cntS_top u 64 (by rw [Nat.mod_eq_of_lt (show u < 2 ^ 64 from hu64)]; omega)
   rw [Nat.mod_eq_of_lt (show u < 2 ^ 64 from hu64)] at hc
   obtain ⟨b1, b2⟩ := bl_le hu0
   have hb := bl_words (Y := x.take (m + 1)) (n := m) (top := u) (l := blN u) (okW_take ox _) (by rw [List.length_take]; omega) (by
    rw [← hu, List.getD_eq_getElem?_getD, List.getD_eq_getElem?_getD, List.getElem?_take, if_pos (by omega)]) b2 b1 (by
    unfold blN; rw [if_neg (by omega)]; exact Nat.lt_log2_self)
   have hv : val (x.take (m + 1)) = val x := by rw [← val_trim x, trimL, h]
   rw [hv] at hb
   show 64 * (m : Int) + 64 - (cntS (x.getD m 0).toNat 64).1 = _
   rw [hu, Int.toNat_natCast, hc, hb]
   omega
set_option maxRecDepth 100000 in
set_option maxHeartbeats 2000000 in
theorem rDigits_ok (x : List Int) (D : Nat) (hx : x.length < 10000) (ox : okW x) (hD : HasD (val x) D) (hb : blN (val x) ≤ 2200) (hDl : D < 3000) : FnOk Tryz.prog 68 [.v (words x)] [.v true (.int .i64 D)] := by
 have hpos : 0 < val x := by
  have := Nat.pow_pos (a := 10) (n := D - 1) (by decide)
  have := hD.2.1
  omega
 have hL := rLen_ok x (by omega) ox
 rw [lenR_eq ox] at hL
 obtain ⟨b1, b2⟩ := bl_le hpos
 obtain ⟨B, hB⟩ : ∃ B, B = blN (val x) := ⟨_, rfl⟩
 rw [← hB] at hL b1 b2 hb
 have hs := dig_start (m := B - 1) (by omega)
 have hn0 : (B - 1) * 30103 / 100000 < D := hasD_lt hD (Nat.le_trans hs b1)
 have hcmp : ∀ n : Nat, n ≤ D → FnOk Tryz.prog 124 [.v (words x), .v (words (digs (10 ^ n)))] [.v true (.int .i64 (cmpN (val x) (10 ^ n)))] := fun n hn => by
  have hTl := ten_len (k := n)
  have hC := rCmp_ok x (digs (10 ^ n)) (by omega) (by omega) ox (digs_ok _).1
  rw [(digs_ok (10 ^ n)).2.2] at hC
  exact hC
 refine FnOk.of Tryz.func68 rfl rfl fun cx w0 => ?_
 rw [show Tryz.f68.ntmps = 30 from rfl]
 obtain ⟨n0, hn0'⟩ : ∃ n0, n0 = (B - 1) * 30103 / 100000 := ⟨_, rfl⟩
 rw [← hn0'] at hn0
 have w1 : (B : Int) - 1 = ((B - 1 : Nat) : Int) := by omega
 have w2 : IntKind.i64.wrap (((B - 1 : Nat) : Int) * 30103) = (((B - 1) * 30103 : Nat) : Int) := by rw [wrap_i64] <;> omega
 have w3 : (((B - 1) * 30103 : Nat) : Int).tdiv 100000 = (n0 : Int) := by rw [hn0']; exact quoN _ 100000
 have w4 : IntKind.i64.wrap (n0 : Int) = (n0 : Int) := by rw [wrap_i64] <;> omega
 have w5 : IntKind.i64.wrap ((n0 : Int) + 1) = ((n0 + 1 : Nat) : Int) := by rw [wrap_i64] <;> omega
 obtain ⟨B1, hB1⟩ : ∃ B1, B1 = B - 1 := ⟨_, rfl⟩
 rw [← hB1] at w1 w2 w3
 obtain ⟨p, hp⟩ : ∃ p, p = B1 * 30103 := ⟨_, rfl⟩
 rw [← hp] at w2 w3
 clear hs b1 hn0' hp hB1 hB
 refine zs0 ?_
 refine zs3 (ρ := fun _ => [.v true (.int .i64 (B : Nat))]) (an w1 <| an w2 <| an w3 <| an w4 <| w5) (o := by repeat' first|exact hL|trivial|constructor) (k := ?_)
 refine Holds.next (fun σ => ∀ a w, Rel cx w0 σ a w → Rel cx w0 { nt := 30, env := [(3, .v true (.int .i64 D)), (0, .v false (words x))], mem := [] } a w) ?_ ?_
 ·refine Holds.loopB (fun n : Nat => { nt := 30, env := [(3, .v true (.int .i64 (n : Nat))), (0, .v false (words x))], mem := [] }) (fun n => n ≤ D) (fun n => D - n) (n0 + 1) hn0 (fun a w h => Rel.keep [3, 0] [] h) ?_
  intro n hn
  have hT := rTen_ok n (by omega)
  have hC := hcmp n hn
  obtain ⟨T, hT'⟩ : ∃ T, T = digs (10 ^ n) := ⟨_, rfl⟩
  obtain ⟨c, hc⟩ : ∃ c, c = cmpN (val x) (10 ^ n) := ⟨_, rfl⟩
  rw [← hT'] at hT hC
  rw [← hc] at hC
  refine Holds.seq ?_
  rcases Nat.lt_or_ge (val x) (10 ^ n) with h | h
  ·have hDn : n = D := Nat.le_antisymm hn (hasD_le hD h)
   have g : ¬ 0 ≤ c := by rw [hc, cmpN, if_pos h]; omega
   refine zs3 (ρ := fun d => if d = 12 then [.v true (words T)] else [.v true (.int .i64 c)]) g (o := by repeat' first|exact hT|exact hC|trivial|constructor) (k := ?_)
   refine Holds.condF rfl (Holds.exit ⟨rfl, fun a w h => ?_⟩)
   have := Rel.keep [3, 0] [] h
   rw [hDn] at this
   exact this
  ·have hlt := hasD_lt hD h
   have g : 0 ≤ c := by rw [hc, cmpN, if_neg (by omega)]; split <;> omega
   have wk : IntKind.i64.wrap ((n : Int) + 1) = ((n + 1 : Nat) : Int) := by rw [wrap_i64] <;> omega
   refine zs3 (ρ := fun d => if d = 12 then [.v true (words T)] else [.v true (.int .i64 c)]) g (o := by repeat' first|exact hT|exact hC|trivial|constructor) (k := ?_)
   refine Holds.condT rfl (Holds.skip ?_)
   refine Holds.block ?_
   refine zr1 wk ?_
   exact ⟨n + 1, (by show n + 1 ≤ D; omega), (show D - (n + 1) < D - n by omega), fun a w h => Rel.keep [3, 0] [] h⟩
 ·intro σ hσ
  refine Holds.from hσ ?_
  refine Holds.next (fun σ => ∀ a w, Rel cx w0 σ a w → Rel cx w0 { nt := 30, env := [(3, .v true (.int .i64 D))], mem := [] } a w) ?_ ?_
  ·refine Holds.loopB (fun _ : Nat => { nt := 30, env := [(3, .v true (.int .i64 (D : Nat))), (0, .v false (words x))], mem := [] }) (fun _ => True) (fun n => n) 0 trivial (fun a w h => Rel.keep [3, 0] [] h) ?_
   intro n _
   refine Holds.seq ?_
   by_cases h1 : 1 < D
   ·have g1 : (1 : Int) < (D : Int) := by omega
    have hT := rTen_ok (D - 1) (by omega)
    have hC := hcmp (D - 1) (by omega)
    have w6 : (D : Int) - 1 = ((D - 1 : Nat) : Int) := by omega
    have g2 : ¬ cmpN (val x) (10 ^ (D - 1)) < 0 := by
     rw [cmpN, if_neg (by have := hD.2.1; omega)]; split <;> omega
    obtain ⟨T, hT'⟩ : ∃ T, T = digs (10 ^ (D - 1)) := ⟨_, rfl⟩
    obtain ⟨c, hc⟩ : ∃ c, c = cmpN (val x) (10 ^ (D - 1)) := ⟨_, rfl⟩
    rw [← hT'] at hT hC
    rw [← hc] at hC g2
    refine zs3 (ρ := fun d => if d = 23 then [.v true (words T)] else [.v true (.int .i64 c)]) (an g1 <| an g2 <| w6) (o := by repeat' first|exact hT|exact hC|trivial|constructor) (k := ?_)
    exact Holds.condF rfl (Holds.exit ⟨rfl, fun a w h => Rel.keep [3] [] h⟩)
   ·have g1 : ¬ (1 : Int) < (D : Int) := by omega
    refine zs1 g1 ?_
    exact Holds.condF rfl (Holds.exit ⟨rfl, fun a w h => Rel.keep [3] [] h⟩)
  ·intro σ hσ
   refine Holds.from hσ ?_
   refine zs0 ?_
   exact Holds.ret (RetOk.vs rfl (by exact ⟨⟨rfl, fun h => h⟩, trivial⟩) rfl)
theorem floor1_ok (a : Int) (ha : -4611686018427387904 < a ∧ a < 4611686018427387904) : FnOk Tryz.prog 167 [.v (.int .i64 a), .v (.int .i64 1)] [.v true (.int .i64 a)] := by
 have h1 : a.tdiv 1 = a := Int.tdiv_one a
 have h2 : a.tmod 1 = 0 := Int.tmod_one a
 have w1 : IntKind.i64.wrap a = a := by rw [wrap_i64] <;> omega
 refine FnOk.of Tryz.func167 rfl rfl fun cx w0 => ?_
 rw [show Tryz.f167.ntmps = 16 from rfl]
 refine zs0 ?_
 refine zs1 (an h1 <| w1) ?_
 refine Holds.seq ?_
 refine zs1 h2 ?_
 refine Holds.condF rfl (Holds.skip ?_)
 refine zs0 ?_
 exact Holds.ret (RetOk.vs rfl (by exact ⟨⟨rfl, fun h => h⟩, trivial⟩) rfl)
def realV (neg : Bool) (m : Nat) (e : Int) : V := .agg [.bool neg, words (digs m), words [1], .int .i64 e, .int .i64 1]
theorem hasD_one : HasD 1 1 := ⟨by omega, by decide, by decide⟩
set_option maxRecDepth 100000 in
set_option maxHeartbeats 2000000 in
theorem rLog_ok (neg : Bool) (m D : Nat) (e : Int) (hD : HasD m D) (hDl : D < 500) (he : -4611686018427387900 < e ∧ e < 4611686018427387000) : FnOk Tryz.prog 117 [.v (realV neg m e)] [.v true (.int .i64 (e + D - 1))] := by
 have hml : (digs m).length < 1000 := by have := digs_mono (Nat.le_of_lt hD.2.2); have := ten_len (k := D); omega
 have hD1 := rDigits_ok (digs m) D (by omega) (digs_ok _).1 (by rw [(digs_ok _).2.2]; exact hD) (by rw [(digs_ok _).2.2]; exact hasD_bl hD.2.2 (by omega)) (by omega)
 have o1 : okW [(1 : Int)] := by intro n hn; simp at hn; omega
 have v1 : val [(1 : Int)] = 1 := by decide
 have hD2 := rDigits_ok [1] 1 (by simp) o1 (by rw [v1]; exact hasD_one) (by rw [v1]; decide) (by omega)
 have hd1 := hD.1
 have wE : IntKind.i64.wrap (((D : Int) - 1) + e) = e + D - 1 := by rw [wrap_i64] <;> omega
 have hF := floor1_ok (e + D - 1) (by omega)
 obtain ⟨ev, hev⟩ : ∃ ev, ev = e + (D : Int) - 1 := ⟨_, rfl⟩
 rw [← hev] at wE hF ⊢
 unfold realV
 by_cases h1 : 1 < D
 ·have hT := rTen_ok (D - 1) (by omega)
  have hTl := ten_len (k := D - 1)
  have hM := rMul_ok [1] (digs (10 ^ (D - 1))) (by simp) (by omega) o1 (digs_ok _).1
  rw [v1, (digs_ok (10 ^ (D - 1))).2.2, Nat.one_mul] at hM
  have hC := rCmp_ok (digs m) (digs (10 ^ (D - 1))) (by omega) (by omega) (digs_ok _).1 (digs_ok _).1
  rw [(digs_ok _).2.2, (digs_ok (10 ^ (D - 1))).2.2] at hC
  have g2 : ¬ cmpN m (10 ^ (D - 1)) < 0 := by rw [cmpN, if_neg (by have := hD.2.1; omega)]; split <;> omega
  have w6 : (D : Int) - 1 = ((D - 1 : Nat) : Int) := by omega
  have g1 : (0 : Int) < ((D - 1 : Nat) : Int) := by omega
  rw [w6] at wE
  obtain ⟨T, hT'⟩ : ∃ T, T = digs (10 ^ (D - 1)) := ⟨_, rfl⟩
  obtain ⟨c, hc⟩ : ∃ c, c = cmpN m (10 ^ (D - 1)) := ⟨_, rfl⟩
  obtain ⟨L, hL⟩ : ∃ L, L = digs m := ⟨_, rfl⟩
  obtain ⟨O, hO⟩ : ∃ O, O = [(1 : Int)] := ⟨_, rfl⟩
  rw [← hT'] at hT hM hC
  rw [← hc] at hC g2
  rw [← hL] at hD1 hC ⊢
  rw [← hO] at hD2 hM ⊢
  refine FnOk.of Tryz.func117 rfl rfl fun cx w0 => ?_
  rw [show Tryz.f117.ntmps = 41 from rfl]
  refine zs0 ?_
  refine zd3 [] (ρ := fun d => if d = 8 then [.v true (.int .i64 (D : Nat))] else [.v true (.int .i64 (1 : Nat))]) w6 (o := by repeat' first|exact hD1|exact hD2|trivial|constructor) (k := ?_)
  refine zd0 [] ?_
  refine Holds.seq ?_
  refine zs1 g1 ?_
  refine Holds.condT rfl ?_
  refine zr2 (ρ := fun d => if d = 21 then [.v true (words T)] else [.v true (words T)]) (o := by repeat' first|exact hT|exact hM|trivial|constructor) (k := ?_)
  refine Holds.seq ?_
  refine zs3 (ρ := fun _ => [.v true (.int .i64 c)]) g2 (o := by repeat' first|exact hC|trivial|constructor) (k := ?_)
  refine Holds.condF rfl (Holds.skip ?_)
  refine zs3 (ρ := fun _ => [.v true (.int .i64 ev)]) wE (o := by repeat' first|exact hF|trivial|constructor) (k := ?_)
  exact Holds.ret (RetOk.vs rfl (by exact ⟨⟨rfl, fun h => h⟩, trivial⟩) rfl)
 ·have hD1' : D = 1 := by omega
  subst hD1'
  have hT := rTen_ok 0 (by omega)
  have hM := rMul_ok (digs m) (digs (10 ^ 0)) (by omega) (by decide) (digs_ok _).1 (digs_ok _).1
  rw [(digs_ok _).2.2, (digs_ok (10 ^ 0)).2.2, Nat.pow_zero, Nat.mul_one] at hM
  rw [Nat.pow_zero] at hT
  have hC := rCmp_ok (digs m) [1] (by omega) (by simp) (digs_ok _).1 o1
  rw [(digs_ok _).2.2, v1] at hC
  have g2 : ¬ cmpN m 1 < 0 := by rw [cmpN, if_neg (by have := hD.2.1; rw [Nat.sub_self, Nat.pow_zero] at this; omega)]; split <;> omega
  have hT : FnOk Tryz.prog 110 [.v (.int .i64 0)] [.v true (words (digs 1))] := hT
  have wE : IntKind.i64.wrap e = ev := by rw [hev, wrap_i64] <;> omega
  obtain ⟨T, hT'⟩ : ∃ T, T = digs 1 := ⟨_, rfl⟩
  obtain ⟨c, hc⟩ : ∃ c, c = cmpN m 1 := ⟨_, rfl⟩
  obtain ⟨L, hL⟩ : ∃ L, L = digs m := ⟨_, rfl⟩
  obtain ⟨O, hO⟩ : ∃ O, O = [(1 : Int)] := ⟨_, rfl⟩
  rw [← hT'] at hT hM
  rw [← hc] at hC g2
  rw [← hL] at hD1 hC hM ⊢
  rw [← hO] at hD2 hC ⊢
  have hD1 : FnOk Tryz.prog 68 [.v (words L)] [.v true (.int .i64 1)] := hD1
  have hD2 : FnOk Tryz.prog 68 [.v (words O)] [.v true (.int .i64 1)] := hD2
  refine FnOk.of Tryz.func117 rfl rfl fun cx w0 => ?_
  rw [show Tryz.f117.ntmps = 41 from rfl]
  refine zs0 ?_
  refine zd3 [] (ρ := fun d => if d = 8 then [.v true (.int .i64 1)] else [.v true (.int .i64 1)]) Int.sub_self (o := by repeat' first|exact hD1|exact hD2|trivial|constructor) (k := ?_)
  refine zd0 [] ?_
  refine Holds.seq ?_
  refine zs0 ?_
  refine Holds.condF rfl ?_
  refine zr2 (ρ := fun d => if d = 26 then [.v true (words T)] else [.v true (words L)]) (o := by repeat' first|exact hT|exact hM|trivial|constructor) (k := ?_)
  refine Holds.seq ?_
  refine zs3 (ρ := fun _ => [.v true (.int .i64 c)]) g2 (o := by repeat' first|exact hC|trivial|constructor) (k := ?_)
  refine Holds.condF rfl (Holds.skip ?_)
  refine zs3 (ρ := fun _ => [.v true (.int .i64 ev)]) (an wE <| Int.zero_add) (o := by repeat' first|exact hF|trivial|constructor) (k := ?_)
  exact Holds.ret (RetOk.vs rfl (by exact ⟨⟨rfl, fun h => h⟩, trivial⟩) rfl)
def partV (N : Nat) (h s : Bool) : V := .agg [words (digs N), .bool h, .bool s]
theorem digs_lenD {m D : Nat} (h : m < 10 ^ D) : (digs m).length ≤ D / 16 + 1 := Nat.le_trans (digs_mono (Nat.le_of_lt h)) ten_len
set_option maxRecDepth 100000 in
set_option maxHeartbeats 2000000 in
theorem rSteps_up (neg : Bool) (m D k : Nat) (e s : Int) (hD : HasD m D) (hDl : D < 500) (he : -4611686018427387000 < e ∧ e < 4611686018427387000) (hs : -100000 < s ∧ s < 100000) (hk : e - s = k) (hkl : k < 1000) :
 FnOk Tryz.prog 119 [.v (realV neg m e), .v (.int .i64 s)] [.v true (partV (m * 10 ^ k) false false)] := by
 have hml := digs_lenD hD.2.2
 have o1 : okW [(1 : Int)] := by intro n hn; simp at hn; omega
 have v1 : val [(1 : Int)] = 1 := by decide
 have hL := Left_ok (digs m) 1 (by omega) (by omega) (digs_ok _).1
 rw [(digs_ok _).2.2, Nat.pow_one] at hL
 have h2m : m * 2 < 10 ^ (D + 1) := by have := hD.2.2; rw [Nat.pow_succ]; omega
 have hml2 := digs_lenD h2m
 have hT := rTen_ok k (by omega)
 have hTl := ten_len (k := k)
 have hM := rMul_ok (digs (m * 2)) (digs (10 ^ k)) (by omega) (by omega) (digs_ok _).1 (digs_ok _).1
 rw [(digs_ok _).2.2, (digs_ok (10 ^ k)).2.2] at hM
 have hpl : m * 2 * 10 ^ k < 10 ^ (D + 1 + k) := by rw [Nat.pow_add]; exact (Nat.mul_lt_mul_right (Nat.pow_pos (by decide))).2 h2m
 have hpl2 := digs_lenD hpl
 have hDM := rDivMod_ok (digs (m * 2 * 10 ^ k)) [1] (by omega) (by simp) (digs_ok _).1 o1 (by rw [v1]; decide)
 rw [(digs_ok _).2.2, v1, Nat.div_one, Nat.mod_one] at hDM
 have hZ := IsZero_ok (digs 0) (by decide) (digs_ok _).1
 rw [show decide (val (digs 0) = 0) = true from rfl] at hZ
 have hR := rRight1_ok (digs (m * 2 * 10 ^ k)) 1 (by omega) (by omega) (digs_ok _).1
 rw [(digs_ok _).2.2, Nat.pow_one, show m * 2 * 10 ^ k / 2 = m * 10 ^ k from by rw [Nat.mul_right_comm, Nat.mul_div_cancel _ (by decide)]] at hR
 have hB := rBit_ok (digs (m * 2 * 10 ^ k)) 0 (by omega) (by omega) (digs_ok _).1
 rw [(digs_ok _).2.2, bit_zero, show m * 2 * 10 ^ k % 2 = 0 from by rw [Nat.mul_right_comm, Nat.mul_mod_left]] at hB
 have hL : FnOk Tryz.prog 158 [.v (words (digs m)), .v (.int .i64 1)] [.v true (words (digs (m * 2)))] := hL
 have hR : FnOk Tryz.prog 159 [.v (words (digs (m * 2 * 10 ^ k))), .v (.int .i64 1)] [.v true (words (digs (m * 10 ^ k)))] := hR
 have hB : FnOk Tryz.prog 157 [.v (words (digs (m * 2 * 10 ^ k))), .v (.int .i64 0)] [.v true (.bool false)] := hB
 unfold partV realV
 obtain ⟨M, hM'⟩ : ∃ M, M = digs m := ⟨_, rfl⟩
 obtain ⟨M2, hM2⟩ : ∃ M, M = digs (m * 2) := ⟨_, rfl⟩
 obtain ⟨T, hT'⟩ : ∃ T, T = digs (10 ^ k) := ⟨_, rfl⟩
 obtain ⟨P, hP⟩ : ∃ P, P = digs (m * 2 * 10 ^ k) := ⟨_, rfl⟩
 obtain ⟨N, hN⟩ : ∃ N, N = digs (m * 10 ^ k) := ⟨_, rfl⟩
 obtain ⟨O, hO⟩ : ∃ O, O = [(1 : Int)] := ⟨_, rfl⟩
 obtain ⟨Z, hZ'⟩ : ∃ Z, Z = digs 0 := ⟨_, rfl⟩
 rw [← hM', ← hM2] at hL
 rw [← hM2, ← hT', ← hP] at hM
 rw [← hT'] at hT
 rw [← hP, ← hO, ← hZ'] at hDM
 rw [← hP, ← hN] at hR
 rw [← hP] at hB
 rw [← hZ'] at hZ
 rw [← hM', ← hO, ← hN]
 have w1 : IntKind.i64.wrap (1 * s) = s := by rw [wrap_i64] <;> omega
 have w1' : IntKind.i64.wrap s = s := by rw [wrap_i64] <;> omega
 have w2 : IntKind.i64.wrap (e - s) = (k : Int) := by rw [wrap_i64] <;> omega
 clear hM' hM2 hT' hP hN hO hZ' hD hml hml2 h2m hpl hpl2 o1 v1
 refine FnOk.of Tryz.func119 rfl rfl fun cx w0 => ?_
 rw [show Tryz.f119.ntmps = 81 from rfl]
 refine zs0 ?_
 refine zs1 (an Int.one_mul <| an w1' <| w2) ?_
 refine zd2 [] (ρ := fun _ => [.v true (words M2)]) (o := by repeat' first|exact hL|trivial|constructor) (k := ?_)
 refine Holds.seq ?_
 refine Holds.block ?_
 refine zs0 ?_
 refine Holds.condT rfl ?_
 refine zr2 (ρ := fun d => if d = 36 then [.v true (words T)] else [.v true (words P)]) (o := by repeat' first|exact hT|exact hM|trivial|constructor) (k := ?_)
 show Holds _ _ _ _ _ _ _
 refine zs2 (ρ := fun _ => [.v true (words P), .v true (words Z)]) (o := by repeat' first|exact hDM|trivial|constructor) (k := ?_)
 refine zs2 (ρ := fun _ => [.v true (.bool true)]) (o := by repeat' first|exact hZ|trivial|constructor) (k := ?_)
 refine Holds.seq ?_
 refine zs0 ?_
 refine Holds.condF rfl (Holds.skip ?_)
 refine zs2 (ρ := fun d => if d = 75 then [.v true (words N)] else [.v true (.bool false)]) (o := by repeat' first|exact hR|exact hB|trivial|constructor) (k := ?_)
 exact Holds.ret (RetOk.vs rfl (by exact ⟨⟨rfl, fun h => h⟩, trivial⟩) rfl)
set_option maxRecDepth 100000 in
set_option maxHeartbeats 2000000 in
theorem rSteps_down (neg : Bool) (m D k : Nat) (e s : Int) (hD : HasD m D) (hDl : D < 500) (he : -4611686018427387000 < e ∧ e < 4611686018427387000) (hs : -100000 < s ∧ s < 100000) (hk : s - e = k) (hk0 : 0 < k) :
 FnOk Tryz.prog 119 [.v (realV neg m e), .v (.int .i64 s)] [.v true (partV (2 * m / 10 ^ k / 2) (decide (2 * m / 10 ^ k % 2 = 1)) (decide (2 * m % 10 ^ k ≠ 0)))] := by
 have hml := digs_lenD hD.2.2
 have hpos : 0 < m := Nat.lt_of_lt_of_le (Nat.pow_pos (by decide)) hD.2.1
 have o1 : okW [(1 : Int)] := by intro n hn; simp at hn; omega
 have v1 : val [(1 : Int)] = 1 := by decide
 have hL := Left_ok (digs m) 1 (by omega) (by omega) (digs_ok _).1
 rw [(digs_ok _).2.2, Nat.pow_one, Nat.mul_comm m 2] at hL
 have h2m : 2 * m < 10 ^ (D + 1) := by have := hD.2.2; rw [Nat.pow_succ]; omega
 have hml2 := digs_lenD h2m
 obtain ⟨D2, hD2⟩ := hasD_ex (2 * m) (by omega)
 have hD2l : D2 ≤ D + 1 := hasD_le hD2 h2m
 have hDg := rDigits_ok (digs (2 * m)) D2 (by omega) (digs_ok _).1 (by rw [(digs_ok _).2.2]; exact hD2) (by rw [(digs_ok _).2.2]; exact hasD_bl hD2.2.2 (by omega)) (by omega)
 have hDg1 := rDigits_ok [1] 1 (by simp) o1 (by rw [v1]; exact hasD_one) (by rw [v1]; decide) (by omega)
 have hDg1 : FnOk Tryz.prog 68 [.v (words [1])] [.v true (.int .i64 1)] := hDg1
 have hL : FnOk Tryz.prog 158 [.v (words (digs m)), .v (.int .i64 1)] [.v true (words (digs (2 * m)))] := hL
 have w1' : IntKind.i64.wrap s = s := by rw [wrap_i64] <;> omega
 have w2 : IntKind.i64.wrap (e - s) = -(k : Int) := by rw [wrap_i64] <;> omega
 have w3 : IntKind.i64.wrap (1 - -(k : Int)) = (k : Int) + 1 := by rw [wrap_i64] <;> omega
 have w4 : IntKind.i64.wrap ((k : Int) + 1 - 1) = (k : Int) := by rw [wrap_i64] <;> omega
 have w5 : IntKind.i64.wrap (0 - -(k : Int)) = (k : Int) := by rw [wrap_i64] <;> omega
 have g0 : ¬ (0 : Int) ≤ -(k : Int) := by omega
 by_cases hsm : D2 < k
 ·have hz : 2 * m < 10 ^ k := Nat.lt_of_lt_of_le hD2.2.2 (Nat.pow_le_pow_right (by decide) (by omega))
  rw [Nat.div_eq_of_lt hz, Nat.mod_eq_of_lt hz, decide_eq_true (show 2 * m ≠ 0 by omega)]
  rw [show partV (0 / 2) (decide (0 % 2 = 1)) true = .agg [.sl 1 [], .bool false, .bool true] from rfl]
  have g1 : (D2 : Int) < (k : Int) := by omega
  unfold realV
  obtain ⟨M, hM'⟩ : ∃ M, M = digs m := ⟨_, rfl⟩
  obtain ⟨M2, hM2⟩ : ∃ M, M = digs (2 * m) := ⟨_, rfl⟩
  obtain ⟨O, hO⟩ : ∃ O, O = [(1 : Int)] := ⟨_, rfl⟩
  rw [← hM', ← hM2] at hL
  rw [← hM2] at hDg
  rw [← hO] at hDg1
  rw [← hM', ← hO]
  clear hM' hM2 hO hD hml hml2 h2m o1 v1 hD2 hz
  refine FnOk.of Tryz.func119 rfl rfl fun cx w0 => ?_
  rw [show Tryz.f119.ntmps = 81 from rfl]
  refine zs0 ?_
  refine zs1 (an Int.one_mul <| an w1' <| w2) ?_
  refine zd2 [] (ρ := fun _ => [.v true (words M2)]) (o := by repeat' first|exact hL|trivial|constructor) (k := ?_)
  refine Holds.seq ?_
  refine Holds.block ?_
  refine zs1 g0 ?_
  refine Holds.condF rfl ?_
  refine zs3 (ρ := fun d => if d = 40 then [.v true (.int .i64 D2)] else [.v true (.int .i64 1)]) (an w3 <| an w4 <| g1) (o := by repeat' first|exact hDg|exact hDg1|trivial|constructor) (k := ?_)
  refine Holds.condT rfl ?_
  refine zs0 ?_
  exact Holds.ret (RetOk.vs rfl (by exact ⟨⟨rfl, fun h => h⟩, trivial⟩) rfl)
 ·have g1 : ¬ (D2 : Int) < (k : Int) := by omega
  have hT := rTen_ok k (by omega)
  have hTl := ten_len (k := k)
  have hp : 0 < 10 ^ k := Nat.pow_pos (by decide)
  have hM := rMul_ok [1] (digs (10 ^ k)) (by simp) (by omega) o1 (digs_ok _).1
  rw [v1, (digs_ok (10 ^ k)).2.2, Nat.one_mul] at hM
  have hDM := rDivMod_ok (digs (2 * m)) (digs (10 ^ k)) (by omega) (by omega) (digs_ok _).1 (digs_ok _).1 (by rw [(digs_ok _).2.2]; exact hp)
  rw [(digs_ok (2 * m)).2.2, (digs_ok (10 ^ k)).2.2] at hDM
  have hql := digs_mono (Nat.div_le_self (2 * m) (10 ^ k))
  have hrl := digs_mono (Nat.mod_le (2 * m) (10 ^ k))
  have hZ := IsZero_ok (digs (2 * m % 10 ^ k)) (by omega) (digs_ok _).1
  rw [(digs_ok _).2.2] at hZ
  have hR := rRight1_ok (digs (2 * m / 10 ^ k)) 1 (by omega) (by omega) (digs_ok _).1
  rw [(digs_ok _).2.2, Nat.pow_one] at hR
  have hB := rBit_ok (digs (2 * m / 10 ^ k)) 0 (by omega) (by omega) (digs_ok _).1
  rw [(digs_ok _).2.2, bit_zero] at hB
  have hR : FnOk Tryz.prog 159 [.v (words (digs (2 * m / 10 ^ k))), .v (.int .i64 1)] [.v true (words (digs (2 * m / 10 ^ k / 2)))] := hR
  have hB : FnOk Tryz.prog 157 [.v (words (digs (2 * m / 10 ^ k))), .v (.int .i64 0)] [.v true (.bool (decide (2 * m / 10 ^ k % 2 = 1)))] := hB
  have hzr : (!decide (2 * m % 10 ^ k = 0)) = decide (2 * m % 10 ^ k ≠ 0) := by by_cases h : 2 * m % 10 ^ k = 0 <;> simp [h]
  unfold partV realV
  rw [← hzr]
  obtain ⟨M, hM'⟩ : ∃ M, M = digs m := ⟨_, rfl⟩
  obtain ⟨M2, hM2⟩ : ∃ M, M = digs (2 * m) := ⟨_, rfl⟩
  obtain ⟨T, hT'⟩ : ∃ T, T = digs (10 ^ k) := ⟨_, rfl⟩
  obtain ⟨P, hP⟩ : ∃ P, P = digs (2 * m / 10 ^ k) := ⟨_, rfl⟩
  obtain ⟨Z, hZ'⟩ : ∃ Z, Z = digs (2 * m % 10 ^ k) := ⟨_, rfl⟩
  obtain ⟨N, hN⟩ : ∃ N, N = digs (2 * m / 10 ^ k / 2) := ⟨_, rfl⟩
  obtain ⟨O, hO⟩ : ∃ O, O = [(1 : Int)] := ⟨_, rfl⟩
  obtain ⟨b, hb⟩ : ∃ b, b = decide (2 * m / 10 ^ k % 2 = 1) := ⟨_, rfl⟩
  obtain ⟨z, hz⟩ : ∃ z, z = decide (2 * m % 10 ^ k = 0) := ⟨_, rfl⟩
  rw [← hM', ← hM2] at hL
  rw [← hM2] at hDg
  rw [← hO] at hDg1
  rw [← hO, ← hT'] at hM
  rw [← hT'] at hT
  rw [← hM2, ← hT', ← hP, ← hZ'] at hDM
  rw [← hZ', ← hz] at hZ
  rw [← hP, ← hN] at hR
  rw [← hP, ← hb] at hB
  rw [← hM', ← hO, ← hN, ← hb, ← hz]
  clear hM' hM2 hO hD hml hml2 h2m o1 v1 hD2 hT' hP hZ' hN hb hz hzr hql hrl hp
  refine FnOk.of Tryz.func119 rfl rfl fun cx w0 => ?_
  rw [show Tryz.f119.ntmps = 81 from rfl]
  refine zs0 ?_
  refine zs1 (an Int.one_mul <| an w1' <| w2) ?_
  refine zd2 [] (ρ := fun _ => [.v true (words M2)]) (o := by repeat' first|exact hL|trivial|constructor) (k := ?_)
  refine Holds.seq ?_
  refine Holds.block ?_
  refine zs1 g0 ?_
  refine Holds.condF rfl ?_
  refine zs3 (ρ := fun d => if d = 40 then [.v true (.int .i64 D2)] else [.v true (.int .i64 1)]) (an w3 <| an w4 <| g1) (o := by repeat' first|exact hDg|exact hDg1|trivial|constructor) (k := ?_)
  refine Holds.condF rfl ?_
  refine zr3 (ρ := fun d => if d = 29 then [.v true (words T)] else [.v true (words T)]) w5 (o := by repeat' first|exact hT|exact hM|trivial|constructor) (k := ?_)
  show Holds _ _ _ _ _ _ _
  refine zs2 (ρ := fun _ => [.v true (words P), .v true (words Z)]) (o := by repeat' first|exact hDM|trivial|constructor) (k := ?_)
  refine zs2 (ρ := fun _ => [.v true (.bool z)]) (o := by repeat' first|exact hZ|trivial|constructor) (k := ?_)
  refine Holds.seq ?_
  refine zs0 ?_
  refine Holds.condF rfl (Holds.skip ?_)
  refine zs2 (ρ := fun d => if d = 75 then [.v true (words N)] else [.v true (.bool b)]) (o := by repeat' first|exact hR|exact hB|trivial|constructor) (k := ?_)
  exact Holds.ret (RetOk.vs rfl (by exact ⟨⟨rfl, fun h => h⟩, trivial⟩) rfl)
set_option maxRecDepth 100000 in
set_option maxHeartbeats 4000000 in
theorem rRounded_ok (r : Nat) (hr : r ≤ 4) (neg : Bool) (N : Nat) (h s : Bool) (hN : (digs N).length < 30000) : FnOk Tryz.prog 107 [.v (.int .i64 r), .v (.bool neg), .v (partV N h s)] [.v false (words (digs (rrN r neg N h s))), .v true (.bool (decide (h = false ∧ s = false)))] := by
 have hB := rBit_ok (digs N) 0 (by omega) (by omega) (digs_ok _).1
 rw [(digs_ok _).2.2] at hB
 have hB : FnOk Tryz.prog 157 [.v (words (digs N)), .v (.int .i64 0)] [.v true (.bool (bitN N 0))] := hB
 have o1 : okW [(1 : Int)] := by intro n hn; simp at hn; omega
 have h1w : FnOk Tryz.prog 30 [.v (.int .u64 1)] [.v true (words [1])] := by
  have := FromWord_ok 1 (by decide)
  rw [show digs 1 = [1] from by decide] at this
  exact this
 have hA := rAdd_ok (digs N) [1] (by omega) (by simp) (digs_ok _).1 o1
 rw [(digs_ok _).2.2, show val [(1 : Int)] = 1 from by decide] at hA
 have hu : rrN r neg N h s = if h = false ∧ s = false then N else if rrU r neg N h s = true then N + 1 else N := rfl
 have hu2 : r = 0 → rrU r neg N h s = (h && (s || bitN N 0)) := fun e => by rw [e]; rfl
 have hu3 : r = 1 → rrU r neg N h s = h := fun e => by rw [e]; rfl
 have hu4 : r = 2 → rrU r neg N h s = false := fun e => by rw [e]; rfl
 have hu5 : r = 3 → rrU r neg N h s = !neg := fun e => by rw [e]; rfl
 have hu6 : r = 4 → rrU r neg N h s = neg := fun e => by rw [e]; rfl
 rw [hu]
 obtain ⟨u, hu'⟩ : ∃ u, u = rrU r neg N h s := ⟨_, rfl⟩
 rw [← hu'] at hu2 hu3 hu4 hu5 hu6 ⊢
 obtain ⟨O, hO⟩ : ∃ O, O = [(1 : Int)] := ⟨_, rfl⟩
 rw [← hO] at h1w hA
 obtain ⟨L, hL⟩ : ∃ L, L = digs N := ⟨_, rfl⟩
 obtain ⟨L1, hL1⟩ : ∃ L, L = digs (N + 1) := ⟨_, rfl⟩
 obtain ⟨b, hb⟩ : ∃ b, b = bitN N 0 := ⟨_, rfl⟩
 rw [← hb] at hu2
 rw [← hL, ← hb] at hB
 rw [← hL, ← hL1] at hA
 clear hu hu' hb hO o1 hN
 unfold partV
 rw [← hL]
 refine FnOk.of Tryz.func107 rfl rfl fun cx w0 => ?_
 rw [show Tryz.f107.ntmps = 51 from rfl]
 refine zs0 ?_
 refine zs0 ?_
 refine Holds.next (fun σ => ∀ a w, Rel cx w0 σ a w → Rel cx w0 { nt := 51, env := [(8, .v true (.bool u)), (5, .ptr 5 0 [] 0)], mem := [(5, .box 174 (.v false (.agg [words L, .bool h, .bool s])))] } a w) ?_ ?_
 ·refine zs0 ?_
  refine Holds.blockN ?_
  match r, hr with
  | 0, _ =>
    have hu2 := hu2 rfl
    refine zs0 ?_
    refine Holds.condT rfl ?_
    cases h with
    | false =>
      rw [Bool.false_and] at hu2
      subst hu2
      refine zr0 ?_
      exact fun a w h => Rel.keep [8, 5] [5] h
    | true =>
      cases s with
      | true =>
        rw [Bool.true_and, Bool.true_or] at hu2
        subst hu2
        refine zr0 ?_
        exact fun a w h => Rel.keep [8, 5] [5] h
      | false =>
        rw [Bool.true_and, Bool.false_or] at hu2
        subst hu2
        refine zr2 (ρ := fun _ => [.v true (.bool u)]) (o := by repeat' first|exact hB|trivial|constructor) (k := ?_)
        exact fun a w h => Rel.keep [8, 5] [5] h
  | 1, _ =>
    have hu3 := hu3 rfl
    subst hu3
    refine zs0 ?_
    refine Holds.condF rfl ?_
    refine zs0 ?_
    refine Holds.condT rfl ?_
    refine zr0 ?_
    exact fun a w h => Rel.keep [8, 5] [5] h
  | 2, _ =>
    have hu4 := hu4 rfl
    subst hu4
    refine zs0 ?_
    refine Holds.condF rfl ?_
    refine zs0 ?_
    refine Holds.condF rfl ?_
    refine zs0 ?_
    refine Holds.condF rfl ?_
    refine zs0 ?_
    exact Holds.condF rfl (Holds.skip fun a w h => Rel.keep [8, 5] [5] h)
  | 3, _ =>
    have hu5 := hu5 rfl
    subst hu5
    refine zs0 ?_
    refine Holds.condF rfl ?_
    refine zs0 ?_
    refine Holds.condF rfl ?_
    refine zs0 ?_
    refine Holds.condT rfl ?_
    refine zr0 ?_
    exact fun a w h => Rel.keep [8, 5] [5] h
  | 4, _ =>
    have hu6 := hu6 rfl
    subst hu6
    refine zs0 ?_
    refine Holds.condF rfl ?_
    refine zs0 ?_
    refine Holds.condF rfl ?_
    refine zs0 ?_
    refine Holds.condF rfl ?_
    refine zs0 ?_
    refine Holds.condT rfl ?_
    refine zr0 ?_
    exact fun a w h => Rel.keep [8, 5] [5] h
 ·intro σ hσ
  refine Holds.from hσ ?_
  have tail : (h = true ∨ s = true) → Holds Tryz.prog none cx w0 (codeAt Tryz.f107 [1, 1, 1]) { nt := 51, env := [(8, .v true (.bool u)), (5, .ptr 5 0 [] 0)], mem := [(5, .box 174 (.v false (.agg [words L, .bool h, .bool s])))] } (fnQ Tryz.prog Tryz.f107 [.v false (words (digs (if u = true then N + 1 else N))), .v true (.bool false)]) := fun hhs => by
   cases h with
   | true =>
     refine Holds.seq ?_
     refine zs0 ?_
     refine Holds.condF rfl (Holds.skip ?_)
     cases u with
     | true =>
       rw [if_pos rfl, ← hL1]
       refine Holds.seq ?_
       refine zs0 ?_
       refine Holds.condT rfl ?_
       refine zd2 [] (ρ := fun d => if d = 47 then [.v true (words O)] else [.v true (words L1)]) (o := by repeat' first|exact h1w|exact hA|trivial|constructor) (k := ?_)
       exact Holds.ret (RetOk.vs rfl (by exact ⟨⟨rfl, by simp⟩, ⟨rfl, fun h => h⟩, trivial⟩) rfl)
     | false =>
       rw [if_neg (by simp), ← hL]
       refine Holds.seq ?_
       refine zs0 ?_
       refine Holds.condF rfl (Holds.skip ?_)
       refine zs0 ?_
       exact Holds.ret (RetOk.vs rfl (by exact ⟨⟨rfl, by simp⟩, ⟨rfl, fun h => h⟩, trivial⟩) rfl)
   | false =>
     have hs : s = true := by rcases hhs with h | h; · cases h
                              ·exact h
     subst hs
     refine Holds.seq ?_
     refine zs0 ?_
     refine Holds.condF rfl (Holds.skip ?_)
     cases u with
     | true =>
       rw [if_pos rfl, ← hL1]
       refine Holds.seq ?_
       refine zs0 ?_
       refine Holds.condT rfl ?_
       refine zd2 [] (ρ := fun d => if d = 47 then [.v true (words O)] else [.v true (words L1)]) (o := by repeat' first|exact h1w|exact hA|trivial|constructor) (k := ?_)
       exact Holds.ret (RetOk.vs rfl (by exact ⟨⟨rfl, by simp⟩, ⟨rfl, fun h => h⟩, trivial⟩) rfl)
     | false =>
       rw [if_neg (by simp), ← hL]
       refine Holds.seq ?_
       refine zs0 ?_
       refine Holds.condF rfl (Holds.skip ?_)
       refine zs0 ?_
       exact Holds.ret (RetOk.vs rfl (by exact ⟨⟨rfl, by simp⟩, ⟨rfl, fun h => h⟩, trivial⟩) rfl)
  by_cases hhs : h = false ∧ s = false
  ·obtain ⟨e1, e2⟩ := hhs
   subst e1; subst e2
   rw [if_pos ⟨rfl, rfl⟩, decide_eq_true ⟨rfl, rfl⟩, ← hL]
   refine Holds.seq ?_
   refine zs0 ?_
   refine Holds.condT rfl ?_
   refine zs0 ?_
   exact Holds.ret (RetOk.vs rfl (by exact ⟨⟨rfl, by simp⟩, ⟨rfl, fun h => h⟩, trivial⟩) rfl)
  ·rw [if_neg hhs, decide_eq_false hhs]
   refine tail ?_
   cases h
   ·cases s
    ·exact absurd ⟨rfl, rfl⟩ hhs
    ·exact .inr rfl
   ·exact .inl rfl
def bydV (p g : Int) (r : Nat) (neg : Bool) : V := if grB r neg = true then decV 0 neg (10 ^ p.toNat - 1) (g - p + 1) else decV 1 neg 0 0
set_option maxRecDepth 100000 in
set_option maxHeartbeats 2000000 in
theorem beyond_ok (p g : Int) (r : Nat) (neg : Bool) (h : CtxOk p g r) : FnOk Tryz.prog 118 [.v (ctxV p g r), .v (.bool neg)] [.v true (bydV p g r neg), .v true (.int .i64 5)] := by
 obtain ⟨⟨h1, h2⟩, ⟨h3, h4⟩, h5, h6⟩ := h
 obtain ⟨P, rfl⟩ := Int.eq_ofNat_of_zero_le (show 0 ≤ p by omega)
 have hT := rTen_ok P (by omega)
 have hTl := ten_len (k := P)
 have o1 : okW [(1 : Int)] := by intro n hn; simp at hn; omega
 have h1w : FnOk Tryz.prog 30 [.v (.int .u64 1)] [.v true (words [1])] := by
  have := FromWord_ok 1 (by decide)
  rw [show digs 1 = [1] from by decide] at this
  exact this
 have hS := rSub_ok (digs (10 ^ P)) [1] (by omega) (by simp) (digs_ok _).1 o1 (by rw [(digs_ok _).2.2, show val [(1 : Int)] = 1 from by decide]; exact Nat.pow_pos (by decide))
 rw [(digs_ok _).2.2, show val [(1 : Int)] = 1 from by decide] at hS
 have hT : FnOk Tryz.prog 110 [.v (.int .i64 (P : Int))] [.v true (words (digs (10 ^ P)))] := hT
 have w1 : IntKind.i64.wrap (g - (P : Int)) = g - (P : Int) := by rw [wrap_i64] <;> omega
 have w2 : IntKind.i64.wrap (g - (P : Int) + 1) = g - (P : Int) + 1 := by rw [wrap_i64] <;> omega
 unfold bydV
 rw [Int.toNat_natCast]
 obtain ⟨T, hT'⟩ : ∃ T, T = digs (10 ^ P) := ⟨_, rfl⟩
 obtain ⟨U, hU⟩ : ∃ U, U = digs (10 ^ P - 1) := ⟨_, rfl⟩
 obtain ⟨O, hO⟩ : ∃ O, O = [(1 : Int)] := ⟨_, rfl⟩
 rw [← hT'] at hT hS
 rw [← hU, ← hO] at hS
 rw [← hO] at h1w
 rw [decV_zero, decV, ← hU]
 unfold ctxV
 clear hT' hU hO o1
 refine FnOk.of Tryz.func118 rfl rfl fun cx w0 => ?_
 rw [show Tryz.f118.ntmps = 44 from rfl]
 refine zs0 ?_
 refine zs0 ?_
 refine Holds.seq ?_
 match r, h6, neg with
 | 0, _, neg =>
   rw [show grB 0 neg = false from rfl, if_neg (by simp)]
   refine zs0 ?_
   refine Holds.condF rfl (Holds.skip ?_)
   refine zs0 ?_
   exact Holds.ret (RetOk.vs rfl (by exact ⟨⟨rfl, fun h => h⟩, ⟨rfl, fun h => h⟩, trivial⟩) rfl)
 | 1, _, neg =>
   rw [show grB 1 neg = false from rfl, if_neg (by simp)]
   refine zs0 ?_
   refine Holds.condF rfl (Holds.skip ?_)
   refine zs0 ?_
   exact Holds.ret (RetOk.vs rfl (by exact ⟨⟨rfl, fun h => h⟩, ⟨rfl, fun h => h⟩, trivial⟩) rfl)
 | 2, _, neg =>
   rw [show grB 2 neg = true from rfl, if_pos rfl]
   refine zs0 ?_
   refine Holds.condT rfl ?_
   refine zd3 [] (ρ := fun d => if d = 30 then [.v true (words T)] else if d = 31 then [.v true (words O)] else [.v true (words U)]) (an w1 <| w2) (o := by repeat' first|exact hT|exact h1w|exact hS|trivial|constructor) (k := ?_)
   exact Holds.ret (RetOk.vs rfl (by exact ⟨⟨rfl, fun h => h⟩, ⟨rfl, fun h => h⟩, trivial⟩) rfl)
 | 3, _, true =>
   rw [show grB 3 true = true from rfl, if_pos rfl]
   refine zs0 ?_
   refine Holds.condT rfl ?_
   refine zd3 [] (ρ := fun d => if d = 30 then [.v true (words T)] else if d = 31 then [.v true (words O)] else [.v true (words U)]) (an w1 <| w2) (o := by repeat' first|exact hT|exact h1w|exact hS|trivial|constructor) (k := ?_)
   exact Holds.ret (RetOk.vs rfl (by exact ⟨⟨rfl, fun h => h⟩, ⟨rfl, fun h => h⟩, trivial⟩) rfl)
 | 3, _, false =>
   rw [show grB 3 false = false from rfl, if_neg (by simp)]
   refine zs0 ?_
   refine Holds.condF rfl (Holds.skip ?_)
   refine zs0 ?_
   exact Holds.ret (RetOk.vs rfl (by exact ⟨⟨rfl, fun h => h⟩, ⟨rfl, fun h => h⟩, trivial⟩) rfl)
 | 4, _, true =>
   rw [show grB 4 true = false from rfl, if_neg (by simp)]
   refine zs0 ?_
   refine Holds.condF rfl (Holds.skip ?_)
   refine zs0 ?_
   exact Holds.ret (RetOk.vs rfl (by exact ⟨⟨rfl, fun h => h⟩, ⟨rfl, fun h => h⟩, trivial⟩) rfl)
 | 4, _, false =>
   rw [show grB 4 false = true from rfl, if_pos rfl]
   refine zs0 ?_
   refine Holds.condT rfl ?_
   refine zd3 [] (ρ := fun d => if d = 30 then [.v true (words T)] else if d = 31 then [.v true (words O)] else [.v true (words U)]) (an w1 <| w2) (o := by repeat' first|exact hT|exact h1w|exact hS|trivial|constructor) (k := ?_)
   exact Holds.ret (RetOk.vs rfl (by exact ⟨⟨rfl, fun h => h⟩, ⟨rfl, fun h => h⟩, trivial⟩) rfl)
set_option maxRecDepth 100000 in
theorem Nothing_ok (p g : Int) (r : Nat) (neg : Bool) (ideal : Int) (h : CtxOk p g r) : FnOk Tryz.prog 62 [.v (ctxV p g r), .v (.bool neg), .v (.int .i64 ideal)] [.v true (decV 0 neg 0 (zeroAt p g ideal))] := by
 have hT := rTiny_ok p g r h
 rw [decV_zero]
 have hz : zeroAt p g ideal = min (max ideal (1 - g - (p - 1))) g := rfl
 obtain ⟨z, hz'⟩ : ∃ z, z = zeroAt p g ideal := ⟨_, rfl⟩
 rw [← hz'] at hz ⊢
 unfold ctxV at hT ⊢
 refine FnOk.of Tryz.func62 rfl rfl fun cx w0 => ?_
 rw [show Tryz.f62.ntmps = 16 from rfl]
 refine zs0 ?_
 refine zd3 [] (ρ := fun _ => [.v true (.int .i64 (1 - g - (p - 1)))]) (an max2_eq <| an min2_eq <| hz.symm) (o := by repeat' first|exact hT|trivial|constructor) (k := ?_)
 exact Holds.ret (RetOk.vs rfl (by exact ⟨⟨rfl, fun h => h⟩, trivial⟩) rfl)
def dresR (neg : Bool) (d : DRes) : List R := [.v false (decV (dresK d) neg d.2.1 d.2.2.1), .v true (.int .i64 d.2.2.2)]
theorem dresR_ov (p g : Int) (r : Nat) (neg : Bool) : ∃ k m z, dresR neg (ovR p g r neg) = [.v false (decV k neg m z), .v true (.int .i64 5)] ∧ bydV p g r neg = decV k neg m z := by
 unfold dresR ovR bydV
 cases grB r neg with
 | true => exact ⟨0, _, _, rfl, rfl⟩
 | false => exact ⟨1, 0, 0, rfl, rfl⟩
def rfS (p g r : Int) (neg : Bool) (M : List V) (e a s : Int) (L : V) (ideal : Int) (b : Bool) : St := { nt := 115, env := [(2, .v true (.int .i64 ideal)), (3, .ptr 3 0 [] 0), (4, .ptr 4 0 [] 0), (6, .ptr 6 0 [] 0), (8, .v true (.int .i64 a)), (9, .v true (.int .i64 s)), (10, .v false L), (11, .v true (.bool b))], mem := [(3, .box 63 (.v false (.agg [.int .i64 p, .int .i64 g, .int .i64 r]))), (4, .box 125 (.v false (.agg [.bool neg, .sl 1 M, .sl 1 [.int .u64 1], .int .i64 e, .int .i64 1]))), (6, .box 59 (.v true (.agg [.int .i64 0, .bool false, .sl 1 [], .int .i64 0])))] }
set_option maxRecDepth 100000 in
set_option maxHeartbeats 4000000 in
theorem rf_inex {cx : Cx} {w0 : World} (p g : Int) (r : Nat) (neg : Bool) (M : List V) (e a s ideal : Int) (n : Nat) (b : Bool) (h : CtxOk p g r) (hn : n ≤ 10 ^ p.toNat) (hs : dTiny p g ≤ s ∧ s ≤ g) :
 Holds Tryz.prog none cx w0 (codeAt Tryz.f63 [1, 1, 1, 1, 1, 1]) (rfS p g r neg M e a s (words (digs n)) ideal b) (fnQ Tryz.prog Tryz.f63 (dresR neg (if 10 ^ (g + 1 - s).toNat ≤ n then ovR p g r neg
 else if n = 10 ^ p.toNat then (false, 10 ^ (p.toNat - 1), s + 1, if a < 1 - g then 3 else 1)
 else (false, n, s, if a < 1 - g then 3 else 1)))) := by
 have hB := beyond_ok p g r neg h
 have hLe := Least_ok p g r h
 obtain ⟨kb, mb, zb, e1, e2⟩ := dresR_ov p g r neg
 rw [e2, decV_eq] at hB
 rw [decV_eq] at e1
 obtain ⟨⟨h1, h2⟩, ⟨h3, h4⟩, h5, h6⟩ := h
 unfold dTiny at hs
 obtain ⟨P, rfl⟩ := Int.eq_ofNat_of_zero_le (show 0 ≤ p by omega)
 rw [Int.toNat_natCast] at hn ⊢
 obtain ⟨k, hk⟩ : ∃ k : Nat, g + 1 - s = k := ⟨(g + 1 - s).toNat, by omega⟩
 rw [hk, Int.toNat_natCast]
 have hTl := ten_len (k := P)
 have hnl : (digs n).length < 1000 := by have := digs_mono hn; omega
 have hZ := IsZero_ok (digs n) (by omega) (digs_ok _).1
 rw [(digs_ok n).2.2] at hZ
 obtain ⟨N, hN'⟩ : ∃ N, N = digs n := ⟨_, rfl⟩
 rw [← hN'] at hZ
 unfold ctxV at hB hLe
 have wg : IntKind.i64.wrap (g + 1) = g + 1 := by rw [wrap_i64] <;> omega
 have hfl : ∃ fl : Int, fl = (if a < 1 - g then 3 else 1) := ⟨_, rfl⟩
 obtain ⟨fl, hfl⟩ := hfl
 rw [← hfl]
 unfold rfS
 rw [← hN']
 have tail : Holds Tryz.prog none cx w0 (codeAt Tryz.f63 [1, 1, 1, 1, 1, 1, 1, 1]) { nt := 115, env := [(3, .ptr 3 0 [] 0), (4, .ptr 4 0 [] 0), (6, .ptr 6 0 [] 0), (9, .v true (.int .i64 s)), (10, .v false (words N)), (14, .v true (.int .i64 fl))], mem := [(3, .box 63 (.v false (.agg [.int .i64 (P : Int), .int .i64 g, .int .i64 r]))), (4, .box 125 (.v false (.agg [.bool neg, .sl 1 M, .sl 1 [.int .u64 1], .int .i64 e, .int .i64 1]))), (6, .box 59 (.v true (.agg [.int .i64 0, .bool false, .sl 1 [], .int .i64 0])))] } (fnQ Tryz.prog Tryz.f63 (dresR neg (if 10 ^ k ≤ n then ovR P g r neg
  else if n = 10 ^ P then (false, 10 ^ (P - 1), s + 1, fl) else (false, n, s, fl)))) := by
  rcases Nat.eq_zero_or_pos n with h0 | h0
  ·rw [decide_eq_true h0] at hZ
   have hp : 0 < 10 ^ k := Nat.pow_pos (by decide)
   have hp2 : 0 < 10 ^ P := Nat.pow_pos (by decide)
   rw [if_neg (by omega), if_neg (by omega)]
   unfold dresR dresK
   simp only
   rw [if_neg (by simp), h0, decV_zero]
   refine Holds.seq ?_
   refine zs2 (ρ := fun _ => [.v true (.bool true)]) (o := by repeat' first|exact hZ|trivial|constructor) (k := ?_)
   refine Holds.condT rfl ?_
   refine zs0 ?_
   exact Holds.ret (RetOk.vs rfl (by exact ⟨⟨rfl, by simp⟩, ⟨rfl, fun h => h⟩, trivial⟩) rfl)
  ·rw [decide_eq_false (by omega)] at hZ
   obtain ⟨d, hd⟩ := hasD_ex n h0
   have hdP : d ≤ P + 1 := hasD_le hd (by rw [Nat.pow_succ]; have := Nat.pow_pos (a := 10) (n := P) (by decide); omega)
   have hDg := rDigits_ok (digs n) d (by omega) (digs_ok _).1 (by rw [(digs_ok _).2.2]; exact hd) (by rw [(digs_ok _).2.2]; exact hasD_bl hd.2.2 (by omega)) (by omega)
   rw [← hN'] at hDg
   have hcond : (10 ^ k ≤ n) ↔ (g + 1 < (d : Int) + s) := by
    constructor
    ·intro h'; have := hasD_lt hd h'; omega
    ·intro h'
     rcases Nat.lt_or_ge n (10 ^ k) with h'' | h''
     ·have := hasD_le hd h''; omega
     ·exact h''
   have hcond2 : n = 10 ^ P ↔ (P : Int) < (d : Int) := by
    constructor
    ·intro h'; have := hasD_lt hd (n := P) (by omega); omega
    ·intro h'
     have : d = P + 1 := by omega
     have h4 := hd.2.1
     rw [this, Nat.add_sub_cancel] at h4
     omega
   have w1 : IntKind.i64.wrap ((d : Int) + s) = (d : Int) + s := by rw [wrap_i64] <;> omega
   by_cases hg : g + 1 < (d : Int) + s
   ·rw [if_pos (hcond.2 hg), e1]
    refine Holds.seq ?_
    refine zs2 (ρ := fun _ => [.v true (.bool false)]) (o := by repeat' first|exact hZ|trivial|constructor) (k := ?_)
    refine Holds.condF rfl (Holds.skip ?_)
    refine Holds.seq ?_
    refine zd3 [] (ρ := fun _ => [.v true (.int .i64 d)]) (an w1 <| an wg <| hg) (o := by repeat' first|exact hDg|trivial|constructor) (k := ?_)
    refine Holds.condT rfl ?_
    refine zs2 (ρ := fun _ => [.v true (.agg [.int .i64 (kb : Nat), .bool neg, .sl 1 ((digs mb).map fun n => .int .u64 n), .int .i64 zb]), .v true (.int .i64 5)]) (o := by repeat' first|exact hB|trivial|constructor) (k := ?_)
    exact Holds.ret (RetOk.vs rfl (by exact ⟨⟨rfl, by simp⟩, ⟨rfl, fun h => h⟩, trivial⟩) rfl)
   ·rw [if_neg (fun h => hg (hcond.1 h))]
    by_cases hc2 : (P : Int) < (d : Int)
    ·rw [if_pos (hcond2.2 hc2)]
     have wp : (P : Int) - 1 = ((P - 1 : Nat) : Int) := by omega
     have wu : IntKind.i64.wrap (s + 1) = s + 1 := by rw [wrap_i64] <;> omega
     have hT1 := rTen_ok (P - 1) (by omega)
     unfold dresR dresK decV
     simp only
     rw [if_neg (by simp)]
     obtain ⟨S, hS⟩ : ∃ S, S = digs (10 ^ (P - 1)) := ⟨_, rfl⟩
     rw [← hS] at hT1 ⊢
     refine Holds.seq ?_
     refine zs2 (ρ := fun _ => [.v true (.bool false)]) (o := by repeat' first|exact hZ|trivial|constructor) (k := ?_)
     refine Holds.condF rfl (Holds.skip ?_)
     refine Holds.seq ?_
     refine zd3 [] (ρ := fun _ => [.v true (.int .i64 d)]) (an w1 <| an wg <| hg) (o := by repeat' first|exact hDg|trivial|constructor) (k := ?_)
     refine Holds.condF rfl (Holds.skip ?_)
     refine Holds.seq ?_
     refine zd3 [] (ρ := fun _ => [.v true (.int .i64 d)]) hc2 (o := by repeat' first|exact hDg|trivial|constructor) (k := ?_)
     refine Holds.condT rfl ?_
     refine zd3 [] (ρ := fun _ => [.v true (words S)]) (an wp <| wu) (o := by repeat' first|exact hT1|trivial|constructor) (k := ?_)
     exact Holds.ret (RetOk.vs rfl (by exact ⟨⟨rfl, by simp⟩, ⟨rfl, fun h => h⟩, trivial⟩) rfl)
    ·rw [if_neg (fun h => hc2 (hcond2.1 h))]
     unfold dresR dresK decV
     simp only
     rw [if_neg (by simp), ← hN']
     refine Holds.seq ?_
     refine zs2 (ρ := fun _ => [.v true (.bool false)]) (o := by repeat' first|exact hZ|trivial|constructor) (k := ?_)
     refine Holds.condF rfl (Holds.skip ?_)
     refine Holds.seq ?_
     refine zd3 [] (ρ := fun _ => [.v true (.int .i64 d)]) (an w1 <| an wg <| hg) (o := by repeat' first|exact hDg|trivial|constructor) (k := ?_)
     refine Holds.condF rfl (Holds.skip ?_)
     refine Holds.seq ?_
     refine zd3 [] (ρ := fun _ => [.v true (.int .i64 d)]) hc2 (o := by repeat' first|exact hDg|trivial|constructor) (k := ?_)
     refine Holds.condF rfl (Holds.skip ?_)
     refine zs0 ?_
     exact Holds.ret (RetOk.vs rfl (by exact ⟨⟨rfl, by simp⟩, ⟨rfl, fun h => h⟩, trivial⟩) rfl)
 refine zs0 ?_
 refine Holds.seq ?_
 by_cases ha : a < 1 - g
 ·rw [if_pos ha] at hfl
  subst hfl
  refine zs3 (ρ := fun _ => [.v true (.int .i64 (1 - g))]) ha (o := by repeat' first|exact hLe|trivial|constructor) (k := ?_)
  refine Holds.condT rfl ?_
  refine zr0 ?_
  exact Holds.from (fun a w h => Rel.keep [3, 4, 6, 9, 10, 14] [3, 4, 6] h) tail
 ·rw [if_neg ha] at hfl
  subst hfl
  refine zs3 (ρ := fun _ => [.v true (.int .i64 (1 - g))]) ha (o := by repeat' first|exact hLe|trivial|constructor) (k := ?_)
  refine Holds.condF rfl (Holds.skip ?_)
  exact Holds.from (fun a w h => Rel.keep [3, 4, 6, 9, 10, 14] [3, 4, 6] h) tail
theorem Holds.brk {P : Program} {ro : Option Nat} {cx : Cx} {w0 : World} {σ : St} {y : Code} {id id' : Nat} {Q : Exit → St → Prop} (hn : id' ≠ id) (h : Q (.exit id') σ) : Holds P ro cx w0 (.exit id') σ (seqQ P ro cx w0 y (blockQ id Q)) :=
 Holds.exit (show blockQ id Q (.exit id') σ from blockQ_other hn h)
structure RfI (m' : Nat) (et s0 ideal s : Int) (n : Nat) : Prop where
 lo : s0 ≤ s
 hi : s ≤ et
 up : s ≤ max s0 ideal
 vl : n = m' * 10 ^ (et - s).toNat
theorem RfI.next {m' : Nat} {et s0 ideal s : Int} {n : Nat} (h : RfI m' et s0 ideal s n) (hi : s < ideal) (h0 : n % 10 = 0) (hm : m' % 10 ≠ 0) : RfI m' et s0 ideal (s + 1) (n / 10) ∧ s < et := by
 obtain ⟨h1, h2, h3, h4⟩ := h
 have hlt : s < et := by
  rcases Int.lt_or_le s et with h | h
  ·exact h
  ·have : (et - s).toNat = 0 := by omega
   rw [this, Nat.pow_zero, Nat.mul_one] at h4
   rw [h4] at h0
   exact absurd h0 hm
 obtain ⟨k, hk⟩ : ∃ k : Nat, (et - s).toNat = k + 1 := ⟨(et - s).toNat - 1, by omega⟩
 refine ⟨⟨by omega, by omega, by omega, ?_⟩, hlt⟩
 rw [show (et - (s + 1)).toNat = k from by omega, h4, hk, Nat.pow_succ, ← Nat.mul_assoc, Nat.mul_div_cancel _ (by decide)]
theorem RfI.end1 {m' : Nat} {et s0 ideal s : Int} {n : Nat} (h : RfI m' et s0 ideal s n) (hi : ¬ s < ideal) : s = min et (max ideal s0) := by
 obtain ⟨h1, h2, h3, h4⟩ := h
 omega
theorem RfI.end2 {m' : Nat} {et s0 ideal s : Int} {n : Nat} (h : RfI m' et s0 ideal s n) (hi : s < ideal) (h0 : n % 10 ≠ 0) : s = min et (max ideal s0) := by
 obtain ⟨h1, h2, h3, h4⟩ := h
 have : ¬ s < et := fun hlt => by
  obtain ⟨k, hk⟩ : ∃ k : Nat, (et - s).toNat = k + 1 := ⟨(et - s).toNat - 1, by omega⟩
  rw [h4, hk, Nat.pow_succ, ← Nat.mul_assoc, Nat.mul_mod_left] at h0
  exact h0 rfl
 omega
set_option maxRecDepth 100000 in
set_option maxHeartbeats 4000000 in
theorem rf_exact {cx : Cx} {w0 : World} (p g : Int) (r : Nat) (neg : Bool) (M : List V) (e a s0 et ideal : Int) (n0 m' : Nat) (hI0 : RfI m' et s0 ideal s0 n0) (hm : m' % 10 ≠ 0) (hl : (digs n0).length < 900) (hs : -100000 < s0 ∧ s0 < 100000) (het : et < 1000000) :
 Holds Tryz.prog none cx w0 (codeAt Tryz.f63 [1, 1, 1, 1, 1, 0, 1, 0]) (rfS p g r neg M e a s0 (words (digs n0)) ideal true) (NR (fun _ => False) fun σ => fnQ Tryz.prog Tryz.f63 [.v false (decV 0 neg (m' * 10 ^ (et - min et (max ideal s0)).toNat) (min et (max ideal s0))), .v true (.int .i64 0)] .ret σ) := by
 obtain ⟨z, hz⟩ : ∃ z, z = min et (max ideal s0) := ⟨_, rfl⟩
 rw [← hz]
 obtain ⟨nz, hnz⟩ : ∃ n, n = m' * 10 ^ (et - z).toNat := ⟨_, rfl⟩
 rw [← hnz]
 have e10 : digs 10 = [10] := by decide
 have h10 : FnOk Tryz.prog 30 [.v (.int .u64 10)] [.v true (words [10])] := by
  have := FromWord_ok 10 (by decide)
  rw [e10] at this
  exact this
 have o10 : okW [(10 : Int)] := by intro n hn; simp at hn; omega
 have v10 : val [(10 : Int)] = 10 := by decide
 obtain ⟨T, hT⟩ : ∃ T, T = [(10 : Int)] := ⟨_, rfl⟩
 have hnle : ∀ s n, RfI m' et s0 ideal s n → n ≤ n0 := fun s n h => by
  rw [h.vl, hI0.vl]
  exact Nat.mul_le_mul_left _ (Nat.pow_le_pow_right (by decide) (by have := h.lo; omega))
 refine Holds.next (fun σ => ∃ nb, ∀ a w, Rel cx w0 σ a w → Rel cx w0 { nt := 115, env := [(4, .ptr 4 0 [] 0), (6, .ptr 6 0 [] 0), (9, .v true (.int .i64 z)), (10, .v nb (words (digs nz)))], mem := [(4, .box 125 (.v false (.agg [.bool neg, .sl 1 M, .sl 1 [.int .u64 1], .int .i64 e, .int .i64 1]))), (6, .box 59 (.v true (.agg [.int .i64 0, .bool false, .sl 1 [], .int .i64 0])))] } a w) ?_ ?_
 ·refine Holds.loopB (fun q : Int × Nat × Bool => { nt := 115, env := [(2, .v true (.int .i64 ideal)), (4, .ptr 4 0 [] 0), (6, .ptr 6 0 [] 0), (9, .v true (.int .i64 q.1)), (10, .v q.2.2 (words (digs q.2.1)))], mem := [(4, .box 125 (.v false (.agg [.bool neg, .sl 1 M, .sl 1 [.int .u64 1], .int .i64 e, .int .i64 1]))), (6, .box 59 (.v true (.agg [.int .i64 0, .bool false, .sl 1 [], .int .i64 0])))] })
   (fun q => RfI m' et s0 ideal q.1 q.2.1) (fun q => (et - q.1).toNat) (s0, n0, false) hI0 (fun a w h => Rel.keep [2, 4, 6, 9, 10] [4, 6] h) ?_
  rintro ⟨s, n, nb⟩ hI
  simp only at hI ⊢
  have hnl := digs_mono (hnle s n hI)
  refine Holds.seq ?_
  by_cases hlt : s < ideal
  ·have hDM := rDivMod_ok (digs n) [10] (by omega) (by simp) (digs_ok _).1 o10 (by rw [v10]; decide)
   rw [(digs_ok _).2.2, v10] at hDM
   have hZ := IsZero_ok (digs (n % 10)) (by have := digs_mono (Nat.mod_le n 10); omega) (digs_ok _).1
   rw [(digs_ok _).2.2] at hZ
   obtain ⟨Q, hQ⟩ : ∃ Q, Q = digs (n / 10) := ⟨_, rfl⟩
   obtain ⟨R, hR⟩ : ∃ R, R = digs (n % 10) := ⟨_, rfl⟩
   obtain ⟨L, hL⟩ : ∃ L, L = digs n := ⟨_, rfl⟩
   rw [← hQ, ← hR, ← hL, ← hT] at hDM
   rw [← hR] at hZ
   rw [← hT] at h10
   rw [← hL]
   refine zs1 hlt ?_
   refine Holds.condT rfl (Holds.skip ?_)
   refine Holds.block ?_
   refine zs2 (ρ := fun d => if d = 52 then [.v true (words T)] else [.v true (words Q), .v true (words R)]) (o := by repeat' first|exact h10|exact hDM|trivial|constructor) (k := ?_)
   refine Holds.seq ?_
   by_cases h0 : n % 10 = 0
   ·rw [decide_eq_true h0] at hZ
    obtain ⟨hI', hlt2⟩ := hI.next hlt h0 hm
    have wk : IntKind.i64.wrap (s + 1) = s + 1 := by have := hI.lo; rw [wrap_i64] <;> omega
    refine zs2 (ρ := fun _ => [.v true (.bool true)]) (o := by repeat' first|exact hZ|trivial|constructor) (k := ?_)
    refine Holds.condF rfl (Holds.skip ?_)
    refine zr1 wk ?_
    refine ⟨(s + 1, n / 10, true), hI', (show (et - (s + 1)).toNat < (et - s).toNat by omega), fun a w h => ?_⟩
    have := Rel.keep [2, 4, 6, 9, 10] [4, 6] h
    simp only
    rw [← hQ]
    exact this
   ·rw [decide_eq_false h0] at hZ
    have hend := hI.end2 hlt h0
    refine zs2 (ρ := fun _ => [.v true (.bool false)]) (o := by repeat' first|exact hZ|trivial|constructor) (k := ?_)
    refine Holds.condT rfl (Holds.brk (by decide) ⟨rfl, nb, fun a w h => ?_⟩)
    have := Rel.keep [4, 6, 9, 10] [4, 6] h
    rw [hz, ← hend, hnz, hz, ← hend, ← hI.vl, ← hL]
    exact this
  ·have hend := hI.end1 hlt
   refine zs1 hlt ?_
   refine Holds.condF rfl (Holds.exit ⟨rfl, nb, fun a w h => ?_⟩)
   have := Rel.keep [4, 6, 9, 10] [4, 6] h
   rw [hz, ← hend, hnz, hz, ← hend, ← hI.vl]
   exact this
 ·rintro σ ⟨nb, hσ⟩
  refine Holds.from hσ ?_
  unfold decV
  obtain ⟨L, hL⟩ : ∃ L, L = digs nz := ⟨_, rfl⟩
  rw [← hL]
  refine zs0 ?_
  exact Holds.ret (RetOk.vs rfl (by exact ⟨⟨rfl, by simp⟩, ⟨rfl, fun h => h⟩, trivial⟩) rfl)
theorem dAt_eq (p g : Int) (D t : Nat) (e ideal : Int) (h : t < D) : dAt p g D t e ideal = min (e + t) (max ideal (dU p g D e)) := by
 unfold dAt dU
 omega
theorem dU_bd (p g : Int) (D : Nat) (e : Int) (hp : 1 ≤ p ∧ p ≤ 400) (hg : 1 ≤ g ∧ g ≤ 6000) (ha : ¬ g < e + D - 1) : dTiny p g ≤ dU p g D e ∧ dU p g D e ≤ g := by
 unfold dU dTiny
 omega
theorem dExact_iff (p g : Int) (D t : Nat) (e : Int) (h : t < D) : (((D - t : Nat) : Int) ≤ p ∧ dTiny p g ≤ e + t) ↔ dU p g D e ≤ e + t := by
 unfold dU
 omega
set_option maxRecDepth 100000 in
set_option maxHeartbeats 4000000 in
theorem rFinish_ok (p g : Int) (r : Nat) (neg : Bool) (m D t : Nat) (e ideal : Int) (h : CtxOk p g r) (hD : HasD m D) (hT : HasT m t) (hDl : D < 500) (he : -4611686018427380000 < e ∧ e < 4611686018427380000) :
 FnOk Tryz.prog 63 [.v (ctxV p g r), .v (realV neg m e), .v (.int .i64 ideal)] (dresR neg (dFin p g r neg m D t e ideal)) := by
 have htD := hasT_le hT hD
 have hLg := rLog_ok neg m D e hD hDl (by omega)
 have hB := beyond_ok p g r neg h
 have hTi := rTiny_ok p g r h
 obtain ⟨kb, mb, zb, e1, e2⟩ := dresR_ov p g r neg
 rw [e2, decV_eq] at hB
 rw [decV_eq] at e1
 have hh := h
 obtain ⟨⟨h1, h2⟩, ⟨h3, h4⟩, h5, h6⟩ := h
 have hrv : realV neg m e = .agg [.bool neg, .sl 1 ((digs m).map fun n => .int .u64 n), .sl 1 [.int .u64 1], .int .i64 e, .int .i64 1] := rfl
 by_cases hag : g < e + D - 1
 ·unfold dFin
  rw [if_pos hag, e1]
  rw [hrv] at hLg ⊢
  unfold ctxV at hB ⊢
  obtain ⟨M, hM⟩ : ∃ M, M = (digs m).map fun n => V.int .u64 n := ⟨_, rfl⟩
  rw [← hM] at hLg ⊢
  obtain ⟨a, ha⟩ : ∃ a, a = e + (D : Int) - 1 := ⟨_, rfl⟩
  rw [← ha] at hLg hag
  clear hM ha e1 e2 hD hT
  refine FnOk.of Tryz.func63 rfl rfl fun cx w0 => ?_
  rw [show Tryz.f63.ntmps = 115 from rfl]
  refine zs0 ?_
  refine zs2 (ρ := fun _ => [.v true (.int .i64 a)]) (o := by repeat' first|exact hLg|trivial|constructor) (k := ?_)
  refine Holds.seq ?_
  refine zs1 hag ?_
  refine Holds.condT rfl ?_
  refine zs2 (ρ := fun _ => [.v true (.agg [.int .i64 (kb : Nat), .bool neg, .sl 1 ((digs mb).map fun n => .int .u64 n), .int .i64 zb]), .v true (.int .i64 5)]) (o := by repeat' first|exact hB|trivial|constructor) (k := ?_)
  exact Holds.ret (RetOk.vs rfl (by exact ⟨⟨rfl, by simp⟩, ⟨rfl, fun h => h⟩, trivial⟩) rfl)
 obtain ⟨hub1, hub2⟩ := dU_bd p g D e ⟨h1, h2⟩ ⟨h3, h4⟩ hag
 have hati : dTiny p g = 1 - g - (p - 1) := rfl
 obtain ⟨N, hh1, ss, hRn, hSt, hfin, hNl⟩ : ∃ (N : Nat) (hb sb : Bool), True ∧ FnOk Tryz.prog 119 [.v (realV neg m e), .v (.int .i64 (dU p g D e))] [.v true (partV N hb sb)] ∧
  ((hb = false ∧ sb = false ∧ dU p g D e ≤ e + t ∧ N = m / 10 ^ t * 10 ^ (e + t - dU p g D e).toNat) ∨
   (¬ (hb = false ∧ sb = false) ∧ ¬ dU p g D e ≤ e + t ∧ rrN r neg N hb sb = dN r neg m (dU p g D e - e).toNat ∧ e < dU p g D e)) ∧ (digs N).length < 900 := by
  obtain ⟨c, hc, hcn⟩ := hT
  have hpt : 0 < 10 ^ t := Nat.pow_pos (by decide)
  have hmt : m / 10 ^ t = c := by rw [hc, Nat.mul_div_cancel _ hpt]
  rcases Int.lt_or_le e (dU p g D e) with hlt | hle
  ·obtain ⟨k, hk⟩ : ∃ k : Nat, dU p g D e - e = k := ⟨(dU p g D e - e).toNat, by omega⟩
   have hS := rSteps_down neg m D k e (dU p g D e) hD hDl (by omega) (by unfold dTiny at hub1; omega) hk (by omega)
   have hpk : 0 < 10 ^ k := Nat.pow_pos (by decide)
   obtain ⟨r1, r2⟩ := rr_eq (r := r) (neg := neg) (m := m) hpk
   have hlN : (digs (2 * m / 10 ^ k / 2)).length < 900 := by
    rw [(half_split m (10 ^ k) hpk).1]
    have := digs_mono (Nat.div_le_self m (10 ^ k))
    have := digs_lenD hD.2.2
    omega
   refine ⟨_, _, _, trivial, hS, ?_, hlN⟩
   rw [hk, Int.toNat_natCast]
   by_cases hkt : k ≤ t
   ·have hex := r2.2 (hasT_dvd ⟨c, hc, hcn⟩ hkt)
    refine .inl ⟨hex.1, hex.2, by omega, ?_⟩
    rw [(half_split m (10 ^ k) hpk).1, hmt, hc, show (e + (t : Int) - dU p g D e).toNat = t - k from by omega]
    rw [show t = t - k + k from by omega, Nat.pow_add, ← Nat.mul_assoc, Nat.mul_div_cancel _ hpk, Nat.add_sub_cancel]
   ·refine .inr ⟨fun h => hasT_not ⟨c, hc, hcn⟩ (show t < k by omega) (r2.1 h), by omega, r1, hlt⟩
  ·obtain ⟨k, hk⟩ : ∃ k : Nat, e - dU p g D e = k := ⟨(e - dU p g D e).toNat, by omega⟩
   have hU1 : e + D - 1 - p + 1 ≤ dU p g D e := Int.le_max_left _ _
   have hS := rSteps_up neg m D k e (dU p g D e) hD hDl (by omega) (by unfold dTiny at hub1; omega) hk (by omega)
   have hlN : (digs (m * 10 ^ k)).length < 900 := by
    have hpl : m * 10 ^ k < 10 ^ (D + k) := by rw [Nat.pow_add]; exact (Nat.mul_lt_mul_right (Nat.pow_pos (by decide))).2 hD.2.2
    have := digs_lenD hpl
    omega
   refine ⟨_, _, _, trivial, hS, .inl ⟨rfl, rfl, by omega, ?_⟩, hlN⟩
   rw [hmt, show (e + (t : Int) - dU p g D e).toNat = t + k from by omega, Nat.pow_add, ← Nat.mul_assoc, ← hc]
 have hRo := rRounded_ok r (by omega) neg N hh1 ss (by omega)
 have hu : max (e + (D : Int) - 1 - p + 1) (1 - g - (p - 1)) = dU p g D e := rfl
 have wa : IntKind.i64.wrap (e + (D : Int) - 1 - p) = e + D - 1 - p := by unfold dU at hub2; rw [wrap_i64] <;> omega
 have wa1 : IntKind.i64.wrap (e + (D : Int) - 1 - p + 1) = e + D - 1 - p + 1 := by unfold dU at hub2; rw [wrap_i64] <;> omega
 rw [hrv] at hLg hSt ⊢
 unfold ctxV at hTi ⊢
 obtain ⟨M, hM⟩ : ∃ M, M = (digs m).map fun n => V.int .u64 n := ⟨_, rfl⟩
 rw [← hM] at hLg hSt ⊢
 obtain ⟨PV, hPV⟩ : ∃ L : List Int, L = digs N := ⟨_, rfl⟩
 have hSt : FnOk Tryz.prog 119 [.v (.agg [.bool neg, .sl 1 M, .sl 1 [.int .u64 1], .int .i64 e, .int .i64 1]), .v (.int .i64 (dU p g D e))] [.v true (.agg [words PV, .bool hh1, .bool ss])] := by rw [hPV]; exact hSt
 have hRo : FnOk Tryz.prog 107 [.v (.int .i64 r), .v (.bool neg), .v (.agg [words PV, .bool hh1, .bool ss])] [.v false (words (digs (rrN r neg N hh1 ss))), .v true (.bool (decide (hh1 = false ∧ ss = false)))] := by rw [hPV]; exact hRo
 rcases hfin with ⟨x1, x2, x3, x4⟩ | ⟨x1, x3, x4, x5⟩
 ·-- exact
  subst x1; subst x2
  rw [decide_eq_true ⟨rfl, rfl⟩, show rrN r neg N false false = N from if_pos ⟨rfl, rfl⟩] at hRo
  unfold dFin
  rw [if_neg hag, if_pos ((dExact_iff p g D t e htD).2 x3), dAt_eq p g D t e ideal htD]
  have hm10 : m / 10 ^ t % 10 ≠ 0 := by
   obtain ⟨c, hc, hcn⟩ := hT
   rw [hc, Nat.mul_div_cancel _ (Nat.pow_pos (by decide))]
   exact hcn
  have hE := fun {cx w0} => rf_exact (cx := cx) (w0 := w0) p g r neg M e (e + D - 1) (dU p g D e) (e + t) ideal N (m / 10 ^ t) ⟨Int.le_refl _, x3, Int.le_max_left _ _, x4⟩ hm10 hNl (by unfold dTiny at hub1; omega) (by omega)
  unfold dresR dresK
  simp only
  rw [if_neg (by simp)]
  obtain ⟨u, hu'⟩ : ∃ u, u = dU p g D e := ⟨_, rfl⟩
  rw [← hu'] at hu hE hSt ⊢
  obtain ⟨res, hres⟩ : ∃ res, res = [R.v false (decV 0 neg (m / 10 ^ t * 10 ^ (e + (t : Int) - min (e + (t : Int)) (max ideal u)).toNat) (min (e + (t : Int)) (max ideal u))), R.v true (.int .i64 0)] := ⟨_, rfl⟩
  rw [← hres] at hE ⊢
  obtain ⟨a, ha⟩ : ∃ a, a = e + (D : Int) - 1 := ⟨_, rfl⟩
  rw [← ha] at hLg hag wa wa1 hu hE
  rw [← hPV] at hRo
  clear hres hM ha e1 e2 hD hT hB hrv hu' x3 x4 hm10 hNl hRn hub1 hub2
  refine FnOk.of Tryz.func63 rfl rfl fun cx w0 => ?_
  rw [show Tryz.f63.ntmps = 115 from rfl]
  refine zs0 ?_
  refine zs2 (ρ := fun _ => [.v true (.int .i64 a)]) (o := by repeat' first|exact hLg|trivial|constructor) (k := ?_)
  refine Holds.seq ?_
  refine zs1 hag ?_
  refine Holds.condF rfl (Holds.skip ?_)
  refine zd3 [] (ρ := fun _ => [.v true (.int .i64 (1 - g - (p - 1)))]) (an wa <| an wa1 <| an max2_eq <| hu) (o := by repeat' first|exact hTi|trivial|constructor) (k := ?_)
  refine zd2 [] (ρ := fun d => if d = 42 then [.v true (.agg [words PV, .bool false, .bool false])] else [.v false (words PV), .v true (.bool true)]) (o := by repeat' first|exact hSt|exact hRo|trivial|constructor) (k := ?_)
  refine Holds.seq ?_
  refine zs0 ?_
  refine Holds.condT rfl ?_
  refine Holds.from (σ' := rfS p g r neg M e a u (words (digs N)) ideal true) (fun a w h => by
   have := Rel.keep [2, 3, 4, 6, 8, 9, 10, 11] [3, 4, 6] h
   unfold rfS
   rw [← hPV]
   exact this) ?_
  exact hE.mono fun e σ hq => by
   cases e <;> first | exact hq | exact hq.elim
 ·have hle := dN_le (r := r) (neg := neg) h1 hD (show e ≤ dU p g D e by omega)
  have hE := fun {cx w0} => rf_inex (cx := cx) (w0 := w0) p g r neg M e (e + D - 1) (dU p g D e) ideal (dN r neg m (dU p g D e - e).toNat) false hh hle ⟨hub1, hub2⟩
  rw [decide_eq_false x1, x4] at hRo
  unfold dFin
  rw [if_neg hag, if_neg (fun h => x3 ((dExact_iff p g D t e htD).1 h))]
  unfold dInex dFl
  obtain ⟨u, hu'⟩ : ∃ u, u = dU p g D e := ⟨_, rfl⟩
  rw [← hu'] at hu hE hSt hRo ⊢
  obtain ⟨res, hres⟩ : ∃ res, res = dresR neg (if 10 ^ (g + 1 - u).toNat ≤ dN r neg m (u - e).toNat then ovR p g r neg
   else if dN r neg m (u - e).toNat = 10 ^ p.toNat then (false, 10 ^ (p.toNat - 1), u + 1, if e + (D : Int) - 1 < 1 - g then 3 else 1)
   else (false, dN r neg m (u - e).toNat, u, if e + (D : Int) - 1 < 1 - g then 3 else 1)) := ⟨_, rfl⟩
  rw [← hres] at hE ⊢
  obtain ⟨a, ha⟩ : ∃ a, a = e + (D : Int) - 1 := ⟨_, rfl⟩
  rw [← ha] at hLg hag wa wa1 hu hE
  obtain ⟨L, hL⟩ : ∃ L, L = digs (dN r neg m (u - e).toNat) := ⟨_, rfl⟩
  rw [← hL] at hRo
  clear hres hM ha e1 e2 hD hT hB hrv hu' x3 x4 hNl hRn hub1 hub2 hle
  refine FnOk.of Tryz.func63 rfl rfl fun cx w0 => ?_
  rw [show Tryz.f63.ntmps = 115 from rfl]
  refine zs0 ?_
  refine zs2 (ρ := fun _ => [.v true (.int .i64 a)]) (o := by repeat' first|exact hLg|trivial|constructor) (k := ?_)
  refine Holds.seq ?_
  refine zs1 hag ?_
  refine Holds.condF rfl (Holds.skip ?_)
  refine zd3 [] (ρ := fun _ => [.v true (.int .i64 (1 - g - (p - 1)))]) (an wa <| an wa1 <| an max2_eq <| hu) (o := by repeat' first|exact hTi|trivial|constructor) (k := ?_)
  refine zd2 [] (ρ := fun d => if d = 42 then [.v true (.agg [words PV, .bool hh1, .bool ss])] else [.v false (words L), .v true (.bool false)]) (o := by repeat' first|exact hSt|exact hRo|trivial|constructor) (k := ?_)
  refine Holds.seq ?_
  refine zs0 ?_
  refine Holds.condF rfl (Holds.skip ?_)
  exact Holds.from (σ' := rfS p g r neg M e a u (words (digs (dN r neg m (u - e).toNat))) ideal false) (fun a w h => by
   have := Rel.keep [2, 3, 4, 6, 8, 9, 10, 11] [3, 4, 6] h
   unfold rfS
   rw [← hL]
   exact this) hE
set_option maxRecDepth 100000 in
theorem rDec_spec (p g : Int) (r : Nat) (x : RNum) (hk : x.kind = 3 ∨ x.kind = 4) : FnOk Tryz.prog 22 [.v (ctxV p g r), .v x.v] [.v false (if x.kind = 3 then decV 1 x.neg 0 0 else decV 2 false 0 0), .v true (.int .i64 0)] := by
 obtain ⟨k, neg, num, e, fg⟩ := x
 unfold RNum.v ctxV
 simp only at hk ⊢
 obtain ⟨L, hL⟩ : ∃ L, L = digs num := ⟨_, rfl⟩
 rw [← hL]
 refine FnOk.of Tryz.func22 rfl rfl fun cx w0 => ?_
 rw [show Tryz.f22.ntmps = 42 from rfl]
 rcases hk with rfl | rfl
 ·rw [if_pos rfl, decV_zero]
  refine zs0 ?_
  refine Holds.seq ?_
  refine Holds.block ?_
  refine zs0 ?_
  refine Holds.condT rfl ?_
  refine zs0 ?_
  exact Holds.ret (RetOk.vs rfl (by exact ⟨⟨rfl, by simp⟩, ⟨rfl, fun h => h⟩, trivial⟩) rfl)
 ·rw [if_neg (by decide), decV_zero]
  refine zs0 ?_
  refine Holds.seq ?_
  refine Holds.block ?_
  refine zs0 ?_
  refine Holds.condF rfl ?_
  refine zs0 ?_
  refine Holds.condT rfl ?_
  refine zs0 ?_
  exact Holds.ret (RetOk.vs rfl (by exact ⟨⟨rfl, by simp⟩, ⟨rfl, fun h => h⟩, trivial⟩) rfl)
set_option maxRecDepth 100000 in
theorem rDec_zero (p g : Int) (r : Nat) (x : RNum) (h : CtxOk p g r) (hk : x.kind ≠ 3 ∧ x.kind ≠ 4) (h0 : x.num = 0) : FnOk Tryz.prog 22 [.v (ctxV p g r), .v x.v] [.v false (decV 0 x.neg 0 (zeroAt p g x.exp)), .v true (.int .i64 0)] := by
 obtain ⟨k, neg, num, e, fg⟩ := x
 simp only at hk h0 ⊢
 subst h0
 have hN := Nothing_ok p g r neg e h
 have hZ := IsZero_ok (digs 0) (by decide) (digs_ok _).1
 rw [show decide (val (digs 0) = 0) = true from rfl] at hZ
 rw [decV_zero] at hN ⊢
 unfold ctxV at hN ⊢
 unfold RNum.v
 have g3 : ¬ (k : Int) = 3 := by omega
 have g4 : ¬ (k : Int) = 4 := by omega
 obtain ⟨L, hL⟩ : ∃ L, L = digs 0 := ⟨_, rfl⟩
 simp only
 rw [← hL] at hZ ⊢
 refine FnOk.of Tryz.func22 rfl rfl fun cx w0 => ?_
 rw [show Tryz.f22.ntmps = 42 from rfl]
 refine zs0 ?_
 refine Holds.seq ?_
 refine Holds.block ?_
 refine zs1 g3 ?_
 refine Holds.condF rfl ?_
 refine zs1 g4 ?_
 refine Holds.condF rfl ?_
 refine zs2 (ρ := fun _ => [.v true (.bool true)]) (o := by repeat' first|exact hZ|trivial|constructor) (k := ?_)
 refine Holds.condT rfl ?_
 refine zs2 (ρ := fun _ => [.v true (.agg [.int .i64 (0 : Nat), .bool neg, .sl 1 [], .int .i64 (zeroAt p g e)])]) (o := by repeat' first|exact hN|trivial|constructor) (k := ?_)
 exact Holds.ret (RetOk.vs rfl (by exact ⟨⟨rfl, by simp⟩, ⟨rfl, fun h => h⟩, trivial⟩) rfl)
set_option maxRecDepth 100000 in
theorem rDec_num (p g : Int) (r : Nat) (x : RNum) (D t : Nat) (h : CtxOk p g r) (hk : x.kind ≠ 3 ∧ x.kind ≠ 4) (hD : HasD x.num D) (hT : HasT x.num t) (hDl : D < 500) (he : -4611686018427380000 < x.exp ∧ x.exp < 4611686018427380000) :
 FnOk Tryz.prog 22 [.v (ctxV p g r), .v x.v] (dresR x.neg (dFin p g r x.neg x.num D t x.exp x.exp)) := by
 obtain ⟨k, neg, num, e, fg⟩ := x
 simp only at hk hD hT he ⊢
 have hF := rFinish_ok p g r neg num D t e e h hD hT hDl he
 have hpos := hT.pos
 have hZ := IsZero_ok (digs num) (by have := digs_lenD hD.2.2; omega) (digs_ok _).1
 rw [(digs_ok _).2.2, decide_eq_false (by omega)] at hZ
 have h1w : FnOk Tryz.prog 30 [.v (.int .u64 1)] [.v true (words [1])] := by
  have := FromWord_ok 1 (by decide)
  rw [show digs 1 = [1] from by decide] at this
  exact this
 obtain ⟨res, hres⟩ : ∃ res, res = dFin p g r neg num D t e e := ⟨_, rfl⟩
 rw [← hres] at hF ⊢
 unfold dresR at hF ⊢
 rw [decV_eq] at hF ⊢
 obtain ⟨RL, hRL⟩ : ∃ RL, RL = (digs res.2.1).map fun n => V.int .u64 n := ⟨_, rfl⟩
 rw [← hRL] at hF ⊢
 obtain ⟨kk, hkk⟩ : ∃ kk, kk = dresK res := ⟨_, rfl⟩
 obtain ⟨ze, hze⟩ : ∃ z, z = res.2.2.1 := ⟨_, rfl⟩
 obtain ⟨fl, hfl⟩ : ∃ z, z = res.2.2.2 := ⟨_, rfl⟩
 rw [← hkk, ← hze, ← hfl] at hF ⊢
 unfold ctxV at hF ⊢
 unfold realV at hF
 unfold RNum.v
 have g3 : ¬ (k : Int) = 3 := by omega
 have g4 : ¬ (k : Int) = 4 := by omega
 obtain ⟨L, hL⟩ : ∃ L, L = digs num := ⟨_, rfl⟩
 obtain ⟨O, hO⟩ : ∃ O, O = [(1 : Int)] := ⟨_, rfl⟩
 simp only
 rw [← hL] at hZ hF ⊢
 rw [← hO] at h1w hF
 refine FnOk.of Tryz.func22 rfl rfl fun cx w0 => ?_
 rw [show Tryz.f22.ntmps = 42 from rfl]
 refine zs0 ?_
 refine Holds.seq ?_
 refine Holds.block ?_
 refine zs1 g3 ?_
 refine Holds.condF rfl ?_
 refine zs1 g4 ?_
 refine Holds.condF rfl ?_
 refine zs2 (ρ := fun _ => [.v true (.bool false)]) (o := by repeat' first|exact hZ|trivial|constructor) (k := ?_)
 refine Holds.condF rfl (Holds.skip ?_)
 refine zd2 [] (ρ := fun d => if d = 33 then [.v true (words O)] else [.v false (.agg [.int .i64 (kk : Nat), .bool neg, .sl 1 RL, .int .i64 ze]), .v true (.int .i64 fl)]) (o := by repeat' first|exact h1w|exact hF|trivial|constructor) (k := ?_)
 exact Holds.ret (RetOk.vs rfl (by exact ⟨⟨rfl, by simp⟩, ⟨rfl, fun h => h⟩, trivial⟩) rfl)
set_option maxRecDepth 100000 in
theorem dCheck0_ok (p g r : Int) : FnOk Tryz.prog 59 [.v (ctxV p g r), .v (.sl 4 [])] [.v true (.int .i64 (if (1 ≤ p ∧ p ≤ 400) ∧ (1 ≤ g ∧ g ≤ 6000) ∧ 0 ≤ r ∧ r ≤ 4 then 0 else 220))] := by
 have hR := rRight_ok p g r
 unfold ctxV at hR ⊢
 refine FnOk.of Tryz.func59 rfl rfl fun cx w0 => ?_
 rw [show Tryz.f59.ntmps = 43 from rfl]
 refine zs0 ?_
 refine Holds.next (fun σ => ∀ a w, Rel cx w0 σ a w → Rel cx w0 { nt := 43, env := [(1, .v false (.sl 4 [])), (2, .ptr 2 0 [] 0)], mem := [(2, .box 63 (.v false (.agg [.int .i64 p, .int .i64 g, .int .i64 r])))] } a w) ?_ ?_
 ·refine zs0 ?_
  refine Holds.loopB (fun _ : Nat => { nt := 43, env := [(5, .v true (.int .i64 0)), (1, .v false (.sl 4 [])), (2, .ptr 2 0 [] 0)], mem := [(2, .box 63 (.v false (.agg [.int .i64 p, .int .i64 g, .int .i64 r])))] }) (fun _ => True) (fun n => n) 0 trivial (fun a w h => Rel.keep [5, 1, 2] [2] h) ?_
  intro n _
  refine Holds.seq ?_
  refine zs0 ?_
  exact Holds.condF rfl (Holds.exit ⟨rfl, fun a w h => Rel.keep [1, 2] [2] h⟩)
 ·intro σ hσ
  refine Holds.from hσ ?_
  refine Holds.seq ?_
  by_cases h : (1 ≤ p ∧ p ≤ 400) ∧ (1 ≤ g ∧ g ≤ 6000) ∧ 0 ≤ r ∧ r ≤ 4
  ·rw [decide_eq_true h] at hR
   rw [if_pos h]
   refine zs2 (ρ := fun _ => [.v true (.bool true)]) (o := by repeat' first|exact hR|trivial|constructor) (k := ?_)
   refine Holds.condF rfl (Holds.skip ?_)
   refine Holds.next (fun σ => ∀ a w, Rel cx w0 σ a w → Rel cx w0 { nt := 43, env := [], mem := [] } a w) ?_ ?_
   ·refine zs0 ?_
    refine Holds.loopB (fun _ : Nat => { nt := 43, env := [(6, .v true (.int .i64 0)), (1, .v false (.sl 4 []))], mem := [] }) (fun _ => True) (fun n => n) 0 trivial (fun a w h => Rel.keep [6, 1] [] h) ?_
    intro n _
    refine Holds.seq ?_
    refine zs0 ?_
    exact Holds.condF rfl (Holds.exit ⟨rfl, fun a w h => Rel.keep [] [] h⟩)
   ·intro σ hσ
    refine Holds.from hσ ?_
    refine zs0 ?_
    exact Holds.ret (RetOk.vs rfl (by exact ⟨⟨rfl, fun h => h⟩, trivial⟩) rfl)
  ·rw [decide_eq_false h] at hR
   rw [if_neg h]
   refine zs2 (ρ := fun _ => [.v true (.bool false)]) (o := by repeat' first|exact hR|trivial|constructor) (k := ?_)
   refine Holds.condT rfl ?_
   refine zs0 ?_
   exact Holds.ret (RetOk.vs rfl (by exact ⟨⟨rfl, fun h => h⟩, trivial⟩) rfl)
set_option maxRecDepth 100000 in
theorem dArgs0_ok (p g r : Int) : FnOk Tryz.prog 20 [.v (ctxV p g r), .v (.sl 4 [])] [.v true (.int .i64 (if (1 ≤ p ∧ p ≤ 400) ∧ (1 ≤ g ∧ g ≤ 6000) ∧ 0 ≤ r ∧ r ≤ 4 then 0 else 220))] := by
 have hC := dCheck0_ok p g r
 have hX := Ctx_ok p g r
 obtain ⟨w, hw⟩ : ∃ w : Int, w = if (1 ≤ p ∧ p ≤ 400) ∧ (1 ≤ g ∧ g ≤ 6000) ∧ 0 ≤ r ∧ r ≤ 4 then 0 else 220 := ⟨_, rfl⟩
 rw [← hw] at hC ⊢
 unfold ctxV at hC hX ⊢
 refine FnOk.of Tryz.func20 rfl rfl fun cx w0 => ?_
 rw [show Tryz.f20.ntmps = 25 from rfl]
 refine zs0 ?_
 refine zs0 ?_
 refine Holds.next (fun σ => ∀ a w, Rel cx w0 σ a w → Rel cx w0 { nt := 25, env := [(2, .ptr 2 0 [] 0), (5, .nil)], mem := [(2, .box 50 (.v false (.agg [.int .i64 p, .int .i64 g, .int .i64 r])))] } a w) ?_ ?_
 ·refine zs0 ?_
  refine Holds.loopB (fun _ : Nat => { nt := 25, env := [(6, .v true (.int .i64 0)), (1, .v false (.sl 4 [])), (2, .ptr 2 0 [] 0), (5, .nil)], mem := [(2, .box 50 (.v false (.agg [.int .i64 p, .int .i64 g, .int .i64 r])))] }) (fun _ => True) (fun n => n) 0 trivial (fun a w h => Rel.keep [6, 1, 2, 5] [2] h) ?_
  intro n _
  refine Holds.seq ?_
  refine zs0 ?_
  exact Holds.condF rfl (Holds.exit ⟨rfl, fun a w h => Rel.keep [2, 5] [2] h⟩)
 ·intro σ hσ
  refine Holds.from hσ ?_
  refine zs2 (ρ := fun d => if d = 22 then [.v true (.agg [.int .i64 p, .int .i64 g, .int .i64 r])] else [.v true (.int .i64 w)]) (o := by repeat' first|exact hX|exact hC|trivial|constructor) (k := ?_)
  exact Holds.ret (RetOk.vs rfl (by exact ⟨⟨rfl, fun h => h⟩, trivial⟩) rfl)
theorem dFin_far (p g : Int) (r : Nat) (neg : Bool) (m D t : Nat) (e e' : Int) (h : CtxOk p g r) (hD : HasD m D) (hT : HasT m t) (hDl : D < 500) (hf : (20000 < e ∧ 20000 < e') ∨ (e < -20000 ∧ e' < -20000)) : dFin p g r neg m D t e e = dFin p g r neg m D t e' e' := by
 have htD := hasT_le hT hD
 obtain ⟨⟨h1, h2⟩, ⟨h3, h4⟩, h5, h6⟩ := h
 rcases hf with ⟨a, b⟩ | ⟨a, b⟩
 ·unfold dFin
  rw [if_pos (by omega), if_pos (by omega)]
 ·have key : ∀ x : Int, x < -20000 → dFin p g r neg m D t x x = (if 10 ^ (g + 1 - dTiny p g).toNat ≤ upN r neg 0 1 then ovR p g r neg else if upN r neg 0 1 = 10 ^ p.toNat then (false, 10 ^ (p.toNat - 1), dTiny p g + 1, 3) else (false, upN r neg 0 1, dTiny p g, 3)) := fun x hx => by
   have hu : dU p g D x = dTiny p g := by unfold dU dTiny; omega
   have hl : dFl g D x = 3 := by unfold dFl; rw [if_pos (by omega)]
   have hn : dN r neg m (dTiny p g - x).toNat = upN r neg 0 1 := by
    obtain ⟨s1, s2⟩ := dN_small (r := r) (neg := neg) hD (show D < (dTiny p g - x).toNat by unfold dTiny; omega)
    unfold dN
    rw [s1, s2]
   unfold dFin
   rw [if_neg (by omega), if_neg (by unfold dTiny; omega)]
   unfold dInex
   rw [hu, hl, hn]
  rw [key e a, key e' b]
theorem zeroAt_far (p g e e' : Int) (hp : 1 ≤ p ∧ p ≤ 400) (hg : 1 ≤ g ∧ g ≤ 6000) (hf : (20000 < e ∧ 20000 < e') ∨ (e < -20000 ∧ e' < -20000)) : zeroAt p g e = zeroAt p g e' := by
 unfold zeroAt dTiny
 omega
theorem num_digs {n : Nm} {N D : Nat} (h : NmOk n N) (hN : N ≤ 301) (hD : HasD n.num D) : D < 500 := by
 have h1 := num_lt h
 obtain ⟨K, hK⟩ : ∃ K, K = 61 := ⟨_, rfl⟩
 have h2 : 16 ^ n.digits.length ≤ 16 ^ (5 * K) := Nat.pow_le_pow_right (by decide) (by have := h.len; omega)
 have h3 : 16 ^ (5 * K) ≤ 10 ^ (7 * K) := by
  rw [Nat.pow_mul, Nat.pow_mul]
  exact Nat.pow_le_pow_left (by decide) K
 have := hasD_le hD (n := 7 * K) (by omega)
 omega
set_option maxRecDepth 100000 in
set_option maxHeartbeats 4000000 in
theorem PD_err (p g r : Int) (t : ByteArray) (ht : t.size ≤ 300) (W : Int) (hW : (W = 220 ∧ ¬ CtxOk p g r) ∨ (W = 6 ∧ CtxOk p g r ∧ ((rRead (lowS t)).kind = 0 ∨ (rRead (lowS t)).kind = 2)))
 (hX : FnOk Tryz.prog 19 [.v (ctxV p g r), .v (.str t)] [.v true (decV 0 false 0 0), .v true (.int .i64 0), .v true (.int .i64 W)]) :
 FnOk Tryz.prog 5 [.v (ctxV p g r), .v (.str t)] [.v true (.bool true)] := by
 have hR := rRead_ok t (by omega) (by rw [lowS_size]; omega)
 have hA := dArgs0_ok p g r
 have hF := dFits_err W (by omega) (decV 0 false 0 0) ⟨_, _, _, _, rfl⟩ 0
 obtain ⟨r', hr⟩ : ∃ r, r = rRead (lowS t) := ⟨_, rfl⟩
 rw [← hr] at hW hR
 rw [decV_zero] at hF hX
 clear hr
 obtain ⟨rk, rn, rm, re, rg⟩ := r'
 unfold RNum.v at hR
 simp only [words] at hR hW
 obtain ⟨lr, hlr⟩ : ∃ l, l = digs rm := ⟨_, rfl⟩
 rw [← hlr] at hR
 clear hlr
 unfold CtxOk at hW
 unfold ctxV at hA hX ⊢
 refine FnOk.of Tryz.func5 rfl rfl fun cx w0 => ?_
 rw [show Tryz.f5.ntmps = 66 from rfl]
 have g0 : ¬ (300 : Int) < t.size := by omega
 refine zs0 ?_
 refine Holds.seq ?_
 refine zs1 g0 ?_
 refine Holds.condF rfl (Holds.skip ?_)
 refine zs2 (ρ := fun _ => [.v true (.agg [.int .i64 (0 : Nat), .bool false, .sl 1 [], .int .i64 0]), .v true (.int .i64 0), .v true (.int .i64 W)]) (o := by repeat' first|exact hX|trivial|constructor) (k := ?_)
 rcases hW with ⟨e1, e2⟩ | ⟨e1, e2, e3⟩
 ·subst e1
  rw [if_neg e2] at hA
  refine zs2 (ρ := fun _ => [.v true (.int .i64 220)]) (o := by repeat' first|exact hA|trivial|constructor) (k := ?_)
  refine zs2 (ρ := fun _ => [.v true (.agg [.int .i64 (rk : Nat), .bool rn, .sl 1 (lr.map fun n => .int .u64 n), .int .i64 re, .bool rg])]) (o := by repeat' first|exact hR|trivial|constructor) (k := ?_)
  refine Holds.seq ?_
  refine zs0 ?_
  refine Holds.condF rfl (Holds.skip ?_)
  refine Holds.seq ?_
  refine zs0 ?_
  refine Holds.condT rfl ?_
  refine zs2 (ρ := fun _ => [.v true (.bool true)]) (o := by repeat' first|exact hF|exact awake_ok|trivial|constructor) (k := ?_)
  exact Holds.ret (RetOk.vs rfl (by exact ⟨⟨rfl, fun h => h⟩, trivial⟩) rfl)
 ·subst e1
  rw [if_pos e2] at hA
  refine zs2 (ρ := fun _ => [.v true (.int .i64 0)]) (o := by repeat' first|exact hA|trivial|constructor) (k := ?_)
  refine zs2 (ρ := fun _ => [.v true (.agg [.int .i64 (rk : Nat), .bool rn, .sl 1 (lr.map fun n => .int .u64 n), .int .i64 re, .bool rg])]) (o := by repeat' first|exact hR|trivial|constructor) (k := ?_)
  refine Holds.from (σ' := { nt := 66, env := [(2, .ptr 2 0 [] 0), (5, .ptr 5 0 [] 0), (6, .v true (.int .i64 0)), (7, .v true (.int .i64 6)), (8, .v true (.int .i64 0)), (9, .ptr 9 0 [] 0)], mem := [(2, .box 50 (.v false (.agg [.int .i64 p, .int .i64 g, .int .i64 r]))), (5, .box 53 (.v true (.agg [.int .i64 (0 : Nat), .bool false, .sl 1 [], .int .i64 0]))), (9, .box 39 (.v true (.agg [.int .i64 (rk : Nat), .bool rn, .sl 1 (lr.map fun n => .int .u64 n), .int .i64 re, .bool rg])))] }) (fun a w h => Rel.keep [2, 5, 6, 7, 8, 9] [2, 5, 9] h) ?_
  refine Holds.next (fun σ => ∀ a w, Rel cx w0 σ a w → Rel cx w0 { nt := 66, env := [(5, .ptr 5 0 [] 0), (6, .v true (.int .i64 0)), (7, .v true (.int .i64 6)), (8, .v true (.int .i64 6))], mem := [(5, .box 53 (.v true (.agg [.int .i64 (0 : Nat), .bool false, .sl 1 [], .int .i64 0])))] } a w) ?_ ?_
  ·rcases e3 with rfl | rfl
   ·refine zs0 ?_
    refine Holds.condT rfl ?_
    refine zr0 ?_
    exact fun a w h => Rel.keep [5, 6, 7, 8] [5] h
   ·refine zs0 ?_
    refine Holds.condT rfl ?_
    refine zr0 ?_
    exact fun a w h => Rel.keep [5, 6, 7, 8] [5] h
  ·intro σ hσ
   refine Holds.from hσ ?_
   refine Holds.seq ?_
   refine zs0 ?_
   refine Holds.condT rfl ?_
   refine zs2 (ρ := fun _ => [.v true (.bool true)]) (o := by repeat' first|exact hF|exact awake_ok|trivial|constructor) (k := ?_)
   exact Holds.ret (RetOk.vs rfl (by exact ⟨⟨rfl, fun h => h⟩, trivial⟩) rfl)
set_option maxRecDepth 100000 in
set_option maxHeartbeats 4000000 in
theorem PD_main (p g r : Int) (t : ByteArray) (ht : t.size ≤ 300) (hc : CtxOk p g r) (kx : Nat) (nx : Bool) (mx : Nat) (ex fx : Int) (hm : (digs mx).length < 100000) (hX : FnOk Tryz.prog 19 [.v (ctxV p g r), .v (.str t)] [.v true (decV kx nx mx ex), .v true (.int .i64 fx), .v true (.int .i64 0)])
 (hk : (rRead (lowS t)).kind ≠ 0 ∧ (rRead (lowS t)).kind ≠ 2) (hD : FnOk Tryz.prog 22 [.v (ctxV p g r), .v (rRead (lowS t)).v] [.v false (decV kx nx mx ex), .v true (.int .i64 fx)]) :
 FnOk Tryz.prog 5 [.v (ctxV p g r), .v (.str t)] [.v true (.bool true)] := by
 have hR := rRead_ok t (by omega) (by rw [lowS_size]; omega)
 have hA := dArgs0_ok p g r
 have hCx := Ctx_ok p g r
 have hF := dFits_ok kx nx mx ex hm fx
 unfold CtxOk at hc
 rw [if_pos hc] at hA
 obtain ⟨r', hr⟩ : ∃ r, r = rRead (lowS t) := ⟨_, rfl⟩
 rw [← hr] at hk hR hD
 rw [decV_eq] at hF hX hD
 obtain ⟨LX, hLX⟩ : ∃ L, L = (digs mx).map fun n => V.int .u64 n := ⟨_, rfl⟩
 rw [← hLX] at hF hX hD
 clear hr hLX hm
 obtain ⟨rk, rn, rm, re, rg⟩ := r'
 unfold RNum.v at hR hD
 simp only [words] at hR hk hD
 obtain ⟨lr, hlr⟩ : ∃ l, l = digs rm := ⟨_, rfl⟩
 rw [← hlr] at hR hD
 clear hlr
 unfold ctxV at hA hX hCx hD ⊢
 have k0 : ¬ (rk : Int) = 0 := by omega
 have k2 : ¬ (rk : Int) = 2 := by omega
 refine FnOk.of Tryz.func5 rfl rfl fun cx w0 => ?_
 rw [show Tryz.f5.ntmps = 66 from rfl]
 have g0 : ¬ (300 : Int) < t.size := by omega
 refine zs0 ?_
 refine Holds.seq ?_
 refine zs1 g0 ?_
 refine Holds.condF rfl (Holds.skip ?_)
 refine zs2 (ρ := fun _ => [.v true (.agg [.int .i64 (kx : Nat), .bool nx, .sl 1 LX, .int .i64 ex]), .v true (.int .i64 fx), .v true (.int .i64 0)]) (o := by repeat' first|exact hX|trivial|constructor) (k := ?_)
 refine zs2 (ρ := fun _ => [.v true (.int .i64 0)]) (o := by repeat' first|exact hA|trivial|constructor) (k := ?_)
 refine zs2 (ρ := fun _ => [.v true (.agg [.int .i64 (rk : Nat), .bool rn, .sl 1 (lr.map fun n => .int .u64 n), .int .i64 re, .bool rg])]) (o := by repeat' first|exact hR|trivial|constructor) (k := ?_)
 refine Holds.from (σ' := { nt := 66, env := [(2, .ptr 2 0 [] 0), (5, .ptr 5 0 [] 0), (6, .v true (.int .i64 fx)), (7, .v true (.int .i64 0)), (8, .v true (.int .i64 0)), (9, .ptr 9 0 [] 0)], mem := [(2, .box 50 (.v false (.agg [.int .i64 p, .int .i64 g, .int .i64 r]))), (5, .box 53 (.v true (.agg [.int .i64 (kx : Nat), .bool nx, .sl 1 LX, .int .i64 ex]))), (9, .box 39 (.v true (.agg [.int .i64 (rk : Nat), .bool rn, .sl 1 (lr.map fun n => .int .u64 n), .int .i64 re, .bool rg])))] }) (fun a w h => Rel.keep [2, 5, 6, 7, 8, 9] [2, 5, 9] h) ?_
 refine Holds.seq ?_
 refine zs1 (an k0 <| k2) ?_
 refine Holds.condF rfl (Holds.skip ?_)
 refine Holds.seq ?_
 refine zs0 ?_
 refine Holds.condF rfl (Holds.skip ?_)
 refine zd2 [] (ρ := fun d => if d = 52 then [.v true (.agg [.int .i64 p, .int .i64 g, .int .i64 r])] else [.v false (.agg [.int .i64 (kx : Nat), .bool nx, .sl 1 LX, .int .i64 ex]), .v true (.int .i64 fx)]) (o := by repeat' first|exact hCx|exact hD|trivial|constructor) (k := ?_)
 refine zs2 (ρ := fun _ => [.v true (.bool true)]) (o := by repeat' first|exact hF|exact awake_ok|trivial|constructor) (k := ?_)
 exact Holds.ret (RetOk.vs rfl (by exact ⟨⟨rfl, fun h => h⟩, trivial⟩) rfl)
set_option maxRecDepth 100000 in
theorem PD_awake (p g r : Int) (t : ByteArray) (ht : 300 < t.size) : FnOk Tryz.prog 5 [.v (ctxV p g r), .v (.str t)] [.v true (.bool true)] := by
 unfold ctxV
 refine FnOk.of Tryz.func5 rfl rfl fun cx w0 => ?_
 rw [show Tryz.f5.ntmps = 66 from rfl]
 have g : (300 : Int) < t.size := by omega
 refine zs0 ?_
 refine Holds.seq ?_
 refine zs1 g ?_
 refine Holds.condT rfl ?_
 refine zs2 (ρ := fun _ => [.v true (.bool true)]) (o := by repeat' first|exact awake_ok|trivial|constructor) (k := ?_)
 exact Holds.ret (RetOk.vs rfl (by exact ⟨⟨rfl, fun h => h⟩, trivial⟩) rfl)
theorem dFin_len (p g : Int) (r : Nat) (neg : Bool) (m D t : Nat) (e ideal : Int) (h : CtxOk p g r) (hD : HasD m D) (hT : HasT m t) (hDl : D < 500) : (digs (dFin p g r neg m D t e ideal).2.1).length < 100000 := by
 have htD := hasT_le hT hD
 obtain ⟨⟨h1, h2⟩, ⟨h3, h4⟩, h5, h6⟩ := h
 obtain ⟨K, hK⟩ : ∃ K, K = 500 := ⟨_, rfl⟩
 have tl : ∀ (v k : Nat), v ≤ 10 ^ k → k < 10000 → (digs v).length < 100000 := fun v k hv hk => by
  have := digs_mono hv
  have := ten_len (k := k)
  omega
 have hov : (digs (ovR p g r neg).2.1).length < 100000 := by
  unfold ovR
  split
  ·exact tl _ p.toNat (Nat.sub_le _ _) (by omega)
  ·exact tl _ 0 (by decide) (by omega)
 unfold dFin
 split
 ·exact hov
 ·next hag =>
  split
  ·next hex =>
   have hA2 : e + t - 400 ≤ dAt p g D t e ideal := by
    unfold dAt
    omega
   refine tl _ (K + K) ?_ (by omega)
   show m / 10 ^ t * 10 ^ (e + t - dAt p g D t e ideal).toNat ≤ _
   have h7 : m / 10 ^ t ≤ 10 ^ K := Nat.le_trans (Nat.div_le_self _ _) (Nat.le_trans (Nat.le_of_lt hD.2.2) (Nat.pow_le_pow_right (by decide) (by omega)))
   have h8 : 10 ^ (e + t - dAt p g D t e ideal).toNat ≤ 10 ^ (K - 100) := Nat.pow_le_pow_right (by decide) (by omega)
   refine Nat.le_trans (Nat.mul_le_mul h7 h8) ?_
   rw [← Nat.pow_add]
   exact Nat.pow_le_pow_right (by decide) (by omega)
  ·unfold dInex
   split
   ·exact hov
   ·split
    ·exact tl _ (p.toNat - 1) (Nat.le_refl _) (by omega)
    ·refine tl _ (K + 100) ?_ (by omega)
     show dN r neg m (dU p g D e - e).toNat ≤ _
     have := (upN_le r neg (m / 10 ^ (dU p g D e - e).toNat) (rstN (m % 10 ^ (dU p g D e - e).toNat) (10 ^ (dU p g D e - e).toNat))).2
     have h7 : m / 10 ^ (dU p g D e - e).toNat ≤ 10 ^ K := Nat.le_trans (Nat.div_le_self _ _) (Nat.le_trans (Nat.le_of_lt hD.2.2) (Nat.pow_le_pow_right (by decide) (by omega)))
     have h8 : (10 : Nat) ^ K * 10 ≤ 10 ^ (K + 100) := by rw [← Nat.pow_succ]; exact Nat.pow_le_pow_right (by decide) (by omega)
     have h9 : 0 < (10 : Nat) ^ K := Nat.pow_pos (by decide)
     unfold dN
     omega
theorem ParseDecimals_ok (p g r : Int) (t : ByteArray) : FnOk Tryz.prog 5 [.v (ctxV p g r), .v (.str t)] [.v true (.bool true)] := by
 by_cases ht : 300 < t.size
 ·exact PD_awake p g r t ht
 by_cases hc : CtxOk p g r
 ·obtain ⟨rn, rfl⟩ := Int.eq_ofNat_of_zero_le hc.2.2.1
  have hr4 := hc.2.2.2
  rcases whole t with ⟨h1, h2⟩ | ⟨n, h1, h2, h3, h4⟩
  ·exact PD_err p g rn t (by omega) 6 (.inr ⟨rfl, hc, .inl h2⟩) (Decimal_none p g rn t (by omega) hc (.inl h1))
  ·by_cases hk1 : n.kind = 1
   ·obtain ⟨q, hq⟩ := h4.num (by omega)
    have : (rRead (lowS t)).kind = 2 := by rw [hq]; show n.kind + 1 = 2; omega
    exact PD_err p g rn t (by omega) 6 (.inr ⟨rfl, hc, .inr this⟩) (Decimal_none p g rn t (by omega) hc (.inr ⟨n, h1, hk1⟩))
   ·by_cases hk0 : n.kind = 0
    ·obtain ⟨q, hq⟩ := h4.num (by omega)
     have e1 : n.each = 1 := by unfold Nm.each; rw [if_neg (by omega)]
     rw [hk0, e1, Nat.one_mul] at hq
     have hb := h3.beh
     have hlo := h3.lo
     have hhi := h3.hi
     have hkk : (rRead (lowS t)).kind ≠ 0 ∧ (rRead (lowS t)).kind ≠ 2 := by rw [hq]; exact ⟨by simp, by simp⟩
     have hcl : clampE n.exp - (n.behind : Nat) = n.exp - (n.behind : Nat) ∨ (20000 < n.exp - (n.behind : Nat) ∧ 20000 < clampE n.exp - (n.behind : Nat)) ∨ (n.exp - (n.behind : Nat) < -20000 ∧ clampE n.exp - (n.behind : Nat) < -20000) := by
      unfold clampE
      split
      ·right; right; omega
      ·split
       ·right; left; omega
       ·left; rfl
     rcases Nat.eq_zero_or_pos n.num with hz | hz
     ·have hX := Decimal_num p g rn t (by omega) hc h1 h2 h3 hk0 0 n.neg 0 (zeroAt p g (n.exp - (n.behind : Nat))) 0 (by
       rw [hz, e1, Nat.one_mul]
       exact Finish_zero p g rn n.neg _ _ hc)
      refine PD_main p g rn t (by omega) hc _ _ _ _ _ (by decide) hX hkk ?_
      have hD := rDec_zero p g rn (rRead (lowS t)) hc (by rw [hq]; exact ⟨by simp, by simp⟩) (by rw [hq]; exact hz)
      rw [hq] at hD ⊢
      have hez : zeroAt p g (clampE n.exp - (n.behind : Nat)) = zeroAt p g (n.exp - (n.behind : Nat)) := by
       rcases hcl with h | h
       ·rw [h]
       ·exact (zeroAt_far p g _ _ hc.1 hc.2.1 h).symm
      rw [← hez]
      exact hD
     ·obtain ⟨D, hD⟩ := hasD_ex n.num hz
      obtain ⟨tt, hT⟩ := hasT_ex n.num hz
      have hDl := num_digs h3 (by omega) hD
      have hw := num_words h3 (by omega)
      have hX := Decimal_num p g rn t (by omega) hc h1 h2 h3 hk0 _ _ _ _ _ (by
       rw [e1, Nat.one_mul]
       exact Finish_pos p g rn n.neg n.num D tt (n.exp - (n.behind : Nat)) (n.exp - (n.behind : Nat)) hc (by omega) hD hT hDl (by omega))
      refine PD_main p g rn t (by omega) hc _ _ _ _ _ (dFin_len p g rn n.neg n.num D tt _ _ hc hD hT hDl) hX hkk ?_
      have hE := rDec_num p g rn (rRead (lowS t)) D tt hc (by rw [hq]; exact ⟨by simp, by simp⟩) (by rw [hq]; exact hD) (by rw [hq]; exact hT) hDl (by
       rw [hq]
       show -4611686018427380000 < clampE n.exp - (n.behind : Nat) ∧ clampE n.exp - (n.behind : Nat) < 4611686018427380000
       unfold clampE
       split
       ·omega
       ·split <;> omega)
      rw [hq] at hE ⊢
      have hez : dFin p g rn n.neg n.num D tt (clampE n.exp - (n.behind : Nat)) (clampE n.exp - (n.behind : Nat)) = dFin p g rn n.neg n.num D tt (n.exp - (n.behind : Nat)) (n.exp - (n.behind : Nat)) := by
       rcases hcl with h | h
       ·rw [h]
       ·exact (dFin_far p g rn n.neg n.num D tt _ _ hc hD hT hDl h).symm
      rw [← hez]
      exact hE
    ·have hX := Decimal_spec p g rn t (by omega) hc h1 h2 (by have := h3.kd; omega)
     rcases h4 with ⟨k, _⟩ | ⟨k, _⟩ | ⟨k, hg⟩ | ⟨k, hn, hg⟩
     ·omega
     ·omega
     ·have hs : spV n = decV 1 n.neg 0 0 := by unfold spV; rw [if_neg (by omega), if_pos k]
      rw [hs] at hX
      refine PD_main p g rn t (by omega) hc _ _ _ _ _ (by decide) hX (by rw [hg]; exact ⟨by simp, by simp⟩) ?_
      have := rDec_spec p g rn (rRead (lowS t)) (.inl (by rw [hg]))
      rw [if_pos (by rw [hg])] at this
      rw [hg] at this ⊢
      exact this
     ·have hs : spV n = decV 2 false 0 0 := by unfold spV; rw [if_pos k]
      rw [hs] at hX
      refine PD_main p g rn t (by omega) hc _ _ _ _ _ (by decide) hX (by rw [hg]; exact ⟨by simp, by simp⟩) ?_
      have := rDec_spec p g rn (rRead (lowS t)) (.inr (by rw [hg]))
      rw [if_neg (by rw [hg]; simp)] at this
      rw [hg] at this ⊢
      exact this
 ·exact PD_err p g r t (by omega) 220 (.inl ⟨rfl, hc⟩) (Decimal_ctx p g r t (by omega) hc)
end Go.Proofs.YtobacemgcjnahaaGreatDoor.L
