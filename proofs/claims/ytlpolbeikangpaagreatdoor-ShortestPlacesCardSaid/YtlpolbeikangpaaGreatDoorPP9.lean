/-
  Xw Xx Ya Yb Yc Yd Za Zb Zc Zd Zf Ze Zg Zh Zi
-/
import Derived.Test.YtlpolbeikangpaaGreatDoorPP8
import Derived.Deep.RegionWith
import Derived.Test.YtlpolbeikangpaaGreatDoorPP4
import Derived.Test.YtlpolbeikangpaaGreatDoorPP7
set_option linter.unusedSimpArgs false
set_option linter.unusedVariables false
set_option maxRecDepth 100000
namespace Go.Proofs.YtlpolbeikangpaaGreatDoor.L
open Go Go.RowKit Go.Proofs
theorem rep_flt {w : World} {ok : Nat → Prop} {k : Int} {neg : Bool} {e : Int} {l : List Int} {cs : List Value} (h : Rep w ok (fltW k neg e l) cs) : ∃ sv, cs = [.int .i64 k, .bool neg, .int .i64 e, sv] ∧ ∃ ds, Rep w ok (words l) ds ∧ sv = (words l).toVal ds := by
 unfold fltW at h
 rw [Rep, RepL] at h
 obtain ⟨a1, r1, rfl, h1, h⟩ := h
 rw [RepL] at h
 obtain ⟨a2, r2, rfl, h2, h⟩ := h
 rw [RepL] at h
 obtain ⟨a3, r3, rfl, h3, h⟩ := h
 rw [RepL] at h
 obtain ⟨a4, r4, rfl, h4, h⟩ := h
 rw [RepL] at h
 subst h
 rw [Rep] at h1
 rw [Rep] at h2
 rw [Rep] at h3
 subst h1
 subst h2
 subst h3
 have hl := Rep.length h4
 have : ∃ x, a4 = [x] := by
  rw [show (words l).size = 1 from rfl] at hl
  exact List.length_eq_one_iff.1 hl
 obtain ⟨x, rfl⟩ := this
 exact ⟨x, rfl, [x], h4, rfl⟩
theorem rep_flt_of {w : World} {ok : Nat → Prop} {k : Int} {neg : Bool} {e : Int} {l : List Int} {ds : List Value} (h : Rep w ok (words l) ds) : Rep w ok (fltW k neg e l) [.int .i64 k, .bool neg, .int .i64 e, (words l).toVal ds] := by
 have hl := Rep.length h
 rw [show (words l).size = 1 from rfl] at hl
 obtain ⟨x, rfl⟩ := List.length_eq_one_iff.1 hl
 unfold fltW
 rw [Rep, RepL]
 refine ⟨[.int .i64 k], _, rfl, by rw [Rep], ?_⟩
 rw [RepL]
 refine ⟨[.bool neg], _, rfl, by rw [Rep], ?_⟩
 rw [RepL]
 refine ⟨[.int .i64 e], _, rfl, by rw [Rep], ?_⟩
 rw [RepL]
 exact ⟨[x], [], rfl, h, by rw [RepL]⟩
theorem args_flt {w : World} {k : Int} {neg : Bool} {e : Int} {l : List Int} {sv : Value} {al : List Arg} {vs : List Value} (h : WV w l sv) (hr : ArgsRep w (fun _ => True) al vs) : ArgsRep w (fun _ => True) (.v (fltW k neg e l) :: al) (.agg #[.int .i64 k, .bool neg, .int .i64 e, sv] :: vs) := by
 rw [ArgsRep]
 obtain ⟨ds, h1, rfl⟩ := h
 exact ⟨_, _, rfl, by rw [ArgRep]; exact ⟨_, rep_flt_of h1, rfl⟩, hr⟩
theorem args_b {w : World} {b : Bool} {al : List Arg} {vs : List Value} (hr : ArgsRep w (fun _ => True) al vs) : ArgsRep w (fun _ => True) (.v (.bool b) :: al) (.bool b :: vs) := by
 rw [ArgsRep]
 exact ⟨_, _, rfl, by rw [ArgRep]; exact ⟨[.bool b], by rw [Rep], rfl⟩, hr⟩
theorem args_s {w : World} {b : ByteArray} {al : List Arg} {vs : List Value} (hr : ArgsRep w (fun _ => True) al vs) : ArgsRep w (fun _ => True) (.v (.str b) :: al) (.string b :: vs) := by
 rw [ArgsRep]
 exact ⟨_, _, rfl, by rw [ArgRep]; exact ⟨[.string b], by rw [Rep], rfl⟩, hr⟩
theorem args_fmt {w : World} {k P : Int} {al : List Arg} {vs : List Value} (hr : ArgsRep w (fun _ => True) al vs) : ArgsRep w (fun _ => True) (.v (fmtV k P) :: al) (.agg #[.int .i64 k, .int .i64 P] :: vs) := by
 rw [ArgsRep]
 refine ⟨_, _, rfl, ?_, hr⟩
 rw [ArgRep]
 refine ⟨[.int .i64 k, .int .i64 P], ?_, rfl⟩
 unfold fmtV
 rw [Rep, RepL]
 refine ⟨[.int .i64 k], _, rfl, by rw [Rep], ?_⟩
 rw [RepL]
 exact ⟨[.int .i64 P], [], rfl, by rw [Rep], by rw [RepL]⟩
theorem WVB.kept {B : Nat} {w w' : World} {l : List Int} {v : Value} (h : WVB B w l v) (hb : Below w.heap.size w w') : WVB B w' l v := by
 obtain ⟨cs, h1, h2⟩ := h
 refine ⟨cs, Rep.mono (fun b o v hb' hv => ?_) (fun b hb' => ⟨hb'.1, Nat.lt_of_lt_of_le hb'.2 hb.size⟩) h1, h2⟩
 rw [← hv]
 exact World.cell?_of_block (w := w) (a := ⟨b, o, none⟩) (hb.block b hb'.2)
theorem WVB.wv {B : Nat} {w : World} {l : List Int} {v : Value} (h : WVB B w l v) : WV w l v := h.to (Nat.le_refl _) fun _ _ _ => rfl
structure HxW (w wx : World) (cs : List Value) (l : List Int) (sv : Value) : Prop where
 below : Below w.heap.size w wx
 blk : wx.heap[w.heap.size + 1]? = some (.cells cs.toArray 28 (0, 0))
 wv : WVB (w.heap.size + 2) wx l sv
theorem HxW.kept {w wx wy : World} {cs : List Value} {l : List Int} {sv : Value} (h : HxW w wx cs l sv) (hb : Below wx.heap.size wx wy) : HxW w wy cs l sv where
 below := h.below.trans ⟨hb.os, hb.tape, hb.output, hb.size, fun k hk => hb.block k (Nat.lt_of_lt_of_le hk h.below.size)⟩
 blk := by
  rw [← h.blk]
  refine hb.block _ ?_
  rcases Nat.lt_or_ge (w.heap.size + 1) wx.heap.size with h1 | h1
  ·exact h1
  ·have := h.blk; rw [Array.getElem?_eq_none h1] at this; cases this
 wv := h.wv.kept hb
def bitZ (m : Nat) (z : Int) : Bool := if 0 ≤ z then bitN m z.toNat else false
def hxP (m : Nat) (at_ : Int) : Nat → Nat
 | 0 => 0
 | i + 1 => 2 * hxP m at_ i + if bitZ m (at_ - i) then 1 else 0
theorem hxP_lt (m : Nat) (at_ : Int) : ∀ i, hxP m at_ i < 2 ^ i
 | 0 => by simp [hxP]
 | i + 1 => by rw [hxP, Nat.pow_succ]; have := hxP_lt m at_ i; split <;> omega
def hexC (d : Nat) : UInt8 := if d < 10 then UInt8.ofNat (48 + d) else UInt8.ofNat (87 + d)
def hxL (m : Nat) : Nat → Int → List UInt8
 | 0, _ => []
 | g + 1, at_ => hexC (hxP m at_ 4) :: hxL m g (at_ - 4)
theorem HxW.cells {w wx : World} {a b c d : Value} {l : List Int} {sv : Value} (h : HxW w wx [a, b, c, d] l sv) : wx.cell? ⟨w.heap.size + 1, 0, none⟩ = some a ∧ wx.cell? ⟨w.heap.size + 1, 1, none⟩ = some b ∧ wx.cell? ⟨w.heap.size + 1, 2, none⟩ = some c ∧ wx.cell? ⟨w.heap.size + 1, 3, none⟩ = some d := by
 have := h.blk
 exact ⟨by rw [Lib.cell_of_heap this]; rfl, by rw [Lib.cell_of_heap this]; rfl, by rw [Lib.cell_of_heap this]; rfl, by rw [Lib.cell_of_heap this]; rfl⟩
def hxD (m : Nat) : List UInt8 := hxL m ((blN m - 1 + 3) / 4) (((blN m - 1 : Nat) : Int) - 1)
def hxS (kd : Int) (ng : Bool) (ex : Int) (m : Nat) : List UInt8 := if kd = 3 ∨ kd = 2 then spL kd ng else if kd = 0 then smL ng [48, 120, 48, 112, 43, 48] else smL ng (48 :: 120 :: 49 :: (if hxD m = [] then [] else 46 :: hxD m) ++ 112 :: sgL (ex + (blN m - 1 : Nat)) 1)
def hxR (E kd : Int) (ng : Bool) (ex : Int) (m : Nat) : List UInt8 := if E = 0 then hxS kd ng ex m else []
theorem FnOk.calls2 {P : Program} {f : FuncId} {args : List Arg} {n1 n2 : Bool} {y1 y2 : V} {v1 v2 : Value} {w : World} (h : FnOk P f args [.v n1 y1, .v n2 y2]) (hent : ∀ vs w, (callFunc f vs).run P w = .ok (.enter f vs) w)
 (hy1 : ∀ w ok cs, Rep w ok y1 cs → y1.toVal cs = v1) (hy2 : ∀ w ok cs, Rep w ok y2 cs → y2.toVal cs = v2) {vs : List Value} (hG : GL w) (ha : ArgsRep w (fun _ => True) args vs) : Calls P f vs.toArray w fun e w' => e = .returned (.tuple #[v1, v2]) ∧ Below w.heap.size w w' := by
 refine (h.callsV hent hG ha).mono ?_
 rintro e w' ⟨val, μ', rfl, h1, h2⟩
 rw [show R.res [R.v n1 y1, R.v n2 y2] = .tup [.v n1 y1, .v n2 y2] from rfl, RepA] at h2
 obtain ⟨vs, rfl, h2⟩ := h2
 rw [RepAL] at h2
 obtain ⟨v1, vr, rfl, h3, h4⟩ := h2
 rw [RepAL] at h4
 obtain ⟨v2, vr, rfl, h5, h6⟩ := h4
 rw [RepAL] at h6
 subst h6
 rw [RepA] at h3 h5
 obtain ⟨cs, h7, rfl⟩ := h3
 obtain ⟨ds, h8, rfl⟩ := h5
 rw [hy1 _ _ _ h7, hy2 _ _ _ h8]
 exact ⟨rfl, h1⟩
theorem rep_s {s : ByteArray} : ∀ (w : World) ok cs, Rep w ok (.str s) cs → (V.str s).toVal cs = .string s := fun w ok cs h => by rw [Rep] at h; subst h; rfl
theorem rep_b {b : Bool} : ∀ (w : World) ok cs, Rep w ok (.bool b) cs → (V.bool b).toVal cs = .bool b := fun w ok cs h => by rw [Rep] at h; subst h; rfl
theorem rep_i {k : IntKind} {n : Int} : ∀ (w : World) ok cs, Rep w ok (.int k n) cs → (V.int k n).toVal cs = .int k n := fun w ok cs h => by rw [Rep] at h; subst h; rfl
theorem special_calls (kd ex : Int) (ng : Bool) (m : Nat) (v : Value) (w : World) (hG : GL w) (hv : WV w (digs m) v) : Calls Tryz.prog 50 #[.agg #[.int .i64 kd, .bool ng, .int .i64 ex, v]] w fun e w' => e = .returned (.tuple #[.string (bs (spL kd ng)), .bool (decide (kd = 3 ∨ kd = 2))]) ∧ Below w.heap.size w w' :=
 (sSpecial_ok kd ng ex 0 ((digs m).map fun n => .int .u64 n)).calls2 (enters_of Tryz.func50 (by kernel_rfl) rfl) rep_s rep_b hG (vs := [.agg #[.int .i64 kd, .bool ng, .int .i64 ex, v]]) (args_flt (l := digs m) hv args_0)
theorem minus_calls (ng : Bool) (l : List UInt8) (hl : l.length < 10000000) (w : World) (hG : GL w) : Calls Tryz.prog 51 #[.bool ng, .string (bs l)] w fun e w' => e = .returned (.string (bs (smL ng l))) ∧ Below w.heap.size w w' :=
 (sMinus_ok ng l hl).calls1 (enters_of Tryz.func51 (by kernel_rfl) rfl) rep_s hG (vs := [.bool ng, .string (bs l)]) (args_b (args_s args_0))
theorem len_calls (m : Nat) (hm : (digs m).length < 100000) (v : Value) (w : World) (hG : GL w) (hv : WV w (digs m) v) : Calls Tryz.prog 59 #[v] w fun e w' => e = .returned (.int .i64 (blN m : Nat)) ∧ Below w.heap.size w w' := by
 have := wLen_ok (digs m) hm (digs_ok m).1
 rw [(digs_ok m).2.2] at this
 exact this.calls1 (enters_of Tryz.func59 (by kernel_rfl) rfl) rep_i hG (vs := [v]) (args_wv hv args_0)
theorem signed_calls (n : Int) (hn : -4611686018427387904 < n ∧ n < 4611686018427387904) (w : World) (hG : GL w) : Calls Tryz.prog 64 #[.int .i64 n, .int .i64 1] w fun e w' => e = .returned (.string (bs (sgL n 1))) ∧ Below w.heap.size w w' :=
 (signed_ok n 1 hn (by decide)).calls1 (enters_of Tryz.func64 (by kernel_rfl) rfl) rep_s hG (vs := [.int .i64 n, .int .i64 1]) (args_i (args_i args_0))
theorem hex_get : ∀ (d : Nat) (h : d < (ByteArray.mk #[48, 49, 50, 51, 52, 53, 54, 55, 56, 57, 97, 98, 99, 100, 101, 102]).size), (ByteArray.mk #[48, 49, 50, 51, 52, 53, 54, 55, 56, 57, 97, 98, 99, 100, 101, 102])[d] = hexC d
 | 0, _ => rfl | 1, _ => rfl | 2, _ => rfl | 3, _ => rfl | 4, _ => rfl | 5, _ => rfl | 6, _ => rfl | 7, _ => rfl
 | 8, _ => rfl | 9, _ => rfl | 10, _ => rfl | 11, _ => rfl | 12, _ => rfl | 13, _ => rfl | 14, _ => rfl | 15, _ => rfl
 | n + 16, h => absurd h (by show ¬ n + 16 < 16; omega)
theorem bit_calls (m : Nat) (z : Int) (hm : (digs m).length < 100000) (hz : z < 1000000) (v : Value) (w : World) (hG : GL w) (hv : WV w (digs m) v) : Calls Tryz.prog 60 #[v, .int .i64 z] w fun e w' => e = .returned (.bool (bitZ m z)) ∧ Below w.heap.size w w' := by
 have h : FnOk Tryz.prog 60 [.v (words (digs m)), .v (.int .i64 z)] [.v true (.bool (bitZ m z))] := by
  unfold bitZ
  split
  ·have := wBit_ok (digs m) z.toNat hm (by omega) (digs_ok m).1
   rw [(digs_ok m).2.2, show ((z.toNat : Nat) : Int) = z from by omega] at this
   exact this
  ·exact wBitN_ok _ z (by omega)
 exact h.calls1 (enters_of Tryz.func60 (by kernel_rfl) rfl) (fun w ok cs h => by rw [Rep] at h; subst h; rfl) hG (vs := [v, .int .i64 z]) (args_wv hv (args_i args_0))
set_option maxHeartbeats 4000000 in
set_option maxRecDepth 1000000 in
theorem hex_calls (k P kd0 e0 kd ex E : Int) (n0 ng : Bool) (l : List Int) (m : Nat) (sv : Value) (w : World) (RS : List UInt8) (hRS : RS = hxR E kd ng ex m) (hG : GL w) (hv : WV w l sv)     (hm : m < 2 ^ 256) (hx : -1000000 < ex ∧ ex < 1000000) (hmk : kd ≠ 0 → ¬ (kd = 3 ∨ kd = 2) → 0 < m)
 (hN : FnOk Tryz.prog 49 [.v (fmtV k P), .v (.int .i64 0), .v (.bool false), .v (fltW kd0 n0 e0 l)] [.v true (fltW kd ng ex (digs m)), .v true (.int .i64 E)]) :
 Calls Tryz.prog 16 #[.agg #[.int .i64 k, .int .i64 P], .agg #[.int .i64 kd0, .bool n0, .int .i64 e0, sv]] w fun e w' => e = .returned (.tuple #[.string (bs RS), .int .i64 E]) ∧ Below w.heap.size w w' := by
 have cN : ∀ wx, GL wx → WV wx l sv → Calls Tryz.prog 49 #[.agg #[.int .i64 k, .int .i64 P], .int .i64 0, .bool false, .agg #[.int .i64 kd0, .bool n0, .int .i64 e0, sv]] wx fun e w' => ∃ sv', e = .returned (.tuple #[.agg #[.int .i64 kd, .bool ng, .int .i64 ex, sv'], .int .i64 E]) ∧ WVB wx.heap.size w' (digs m) sv' ∧ Below wx.heap.size wx w' := fun wx hg hv => by
  refine (hN.callsV (enters_of Tryz.func49 (by kernel_rfl) rfl) (vs := [_, _, _, _]) hg (args_fmt (args_i (args_b (args_flt hv args_0))))).mono ?_
  rintro e w' ⟨val, μ', rfl, h1, h2⟩
  rw [show R.res [R.v true (fltW kd ng ex (digs m)), R.v true (.int .i64 E)] = .tup [.v true (fltW kd ng ex (digs m)), .v true (.int .i64 E)] from rfl, RepA] at h2
  obtain ⟨vs, rfl, h2⟩ := h2
  rw [RepAL] at h2
  obtain ⟨v1, vr, rfl, h3, h4⟩ := h2
  rw [RepAL] at h4
  obtain ⟨v2, vr, rfl, h5, h6⟩ := h4
  rw [RepAL] at h6
  subst h6
  rw [repA_int.1 h5]
  rw [RepA] at h3
  obtain ⟨cs, h7, rfl⟩ := h3
  obtain ⟨x, rfl, ds, h8, rfl⟩ := rep_flt h7
  refine ⟨_, rfl, ⟨ds, Rep.mono (fun _ _ _ _ hv => hv) (fun b hb => ⟨?_, hb.1⟩) h8, rfl⟩, h1⟩
  rcases hb.2.2 with h | h
  ·exact h
  ·cases h.1
 have HRS : Hid (RS = hxR E kd ng ex m) := hRS
 clear hN hRS
 have hb0 : Below w.heap.size w ((w.alloc (Obj.cells #[Value.int IntKind.i64 k, Value.int IntKind.i64 P] 23)).alloc (Obj.cells #[Value.int IntKind.i64 kd0, Value.bool n0, Value.int IntKind.i64 e0, sv] 28)) := ((Below.refl _ _).alloc (Nat.le_refl _) _).alloc (by simp) _
 have cN1 := cN _ (hG.below hb0 (Nat.le_refl _)) (hv.below hb0)
 clear cN
 obtain ⟨w0, hw0⟩ : ∃ W, W = ((w.alloc (Obj.cells #[Value.int IntKind.i64 k, Value.int IntKind.i64 P] 23)).alloc (Obj.cells #[Value.int IntKind.i64 kd0, Value.bool n0, Value.int IntKind.i64 e0, sv] 28)) := ⟨_, rfl⟩
 have hblk : w0.heap[w.heap.size + 1]? = some (.cells #[.int .i64 kd0, .bool n0, .int .i64 e0, sv] 28 (0, 0)) := by
  rw [hw0]
  have := (MapKept.heap_alloc (w.alloc (Obj.cells #[Value.int IntKind.i64 k, Value.int IntKind.i64 P] 23)) (Obj.cells #[Value.int IntKind.i64 kd0, Value.bool n0, Value.int IntKind.i64 e0, sv] 28)).1
  simpa using this
 rw [← hw0] at hb0 cN1
 have hsz0 : w0.heap.size = w.heap.size + 2 := by rw [hw0]; simp
 obtain ⟨A0, cap0, rfl⟩ := hv.shape
 go_enter Tryz.func16, Tryz.ntmps16
 go_wp2_with fail
 rw [← hw0]
 clear hw0
 refine cN1.mono ?_
 rintro e w1 ⟨sv', rfl, hv', hb1⟩
 have hblk1 : w1.heap[w.heap.size + 1]? = some (.cells #[.int .i64 kd0, .bool n0, .int .i64 e0, .slice A0 l.length cap0] 28 (0, 0)) := (hb1.block _ (by omega)).trans hblk
 have c0 : w1.cell? ⟨w.heap.size + 1, 0, none⟩ = some (.int .i64 kd0) := by rw [Lib.cell_of_heap hblk1]; rfl
 have c1 : w1.cell? ⟨w.heap.size + 1, 1, none⟩ = some (.bool n0) := by rw [Lib.cell_of_heap hblk1]; rfl
 have c2 : w1.cell? ⟨w.heap.size + 1, 2, none⟩ = some (.int .i64 e0) := by rw [Lib.cell_of_heap hblk1]; rfl
 have c3 : w1.cell? ⟨w.heap.size + 1, 3, none⟩ = some (.slice A0 l.length cap0) := by rw [Lib.cell_of_heap hblk1]; rfl
 have f0 := Lib.frozen_of_heap hblk1 0
 have f1 := Lib.frozen_of_heap hblk1 1
 have f2 := Lib.frozen_of_heap hblk1 2
 have f3 := Lib.frozen_of_heap hblk1 3
 obtain ⟨A, c, rfl⟩ := hv'.wv.shape
 have HS : Hid (HxW w ((((w1.setCell ⟨w.heap.size + 1, 0, none⟩ (Value.int IntKind.i64 kd)).setCell ⟨w.heap.size + 1, 1, none⟩ (Value.bool ng)).setCell ⟨w.heap.size + 1, 2, none⟩ (Value.int IntKind.i64 ex)).setCell ⟨w.heap.size + 1, 3, none⟩ (Value.slice A (digs m).length c)) [.int .i64 kd, .bool ng, .int .i64 ex, .slice A (digs m).length c] (digs m) (.slice A (digs m).length c)) := by
  refine ⟨?_, ?_, ?_⟩
  ·have h1 : Below w.heap.size w w1 := hb0.trans ⟨hb1.os, hb1.tape, hb1.output, hb1.size, fun k hk => hb1.block k (by omega)⟩
   exact (((h1.setCell (p := ⟨w.heap.size + 1, 0, none⟩) (by simp) _).setCell (p := ⟨w.heap.size + 1, 1, none⟩) (by simp) _).setCell (p := ⟨w.heap.size + 1, 2, none⟩) (by simp) _).setCell (p := ⟨w.heap.size + 1, 3, none⟩) (by simp) _
  ·exact set_cells (cs := [.int .i64 kd, .bool ng, .int .i64 ex, .slice A0 l.length cap0]) (set_cells (cs := [.int .i64 kd, .bool ng, .int .i64 e0, .slice A0 l.length cap0]) (set_cells (cs := [.int .i64 kd, .bool n0, .int .i64 e0, .slice A0 l.length cap0]) (set_cells (cs := [.int .i64 kd0, .bool n0, .int .i64 e0, .slice A0 l.length cap0]) hblk1)))
  ·obtain ⟨cs, h1, h2⟩ := hv'
   rw [hsz0] at h1
   refine ⟨cs, Rep.mono (fun b o v hb' hv => ?_) (fun b hb' => ⟨hb'.1, by simpa using hb'.2⟩) h1, h2⟩
   rw [World.cell?_setCell_other _ _ _ _ (by simp), World.cell?_setCell_other _ _ _ _ (by simp), World.cell?_setCell_other _ _ _ _ (by simp), World.cell?_setCell_other _ _ _ _ (by simp)]
   exact hv
 clear hv' hb1 hb0 cN1 hv hblk hblk1
 by_cases hE : E = 0
 ·subst hE
  go_wp2_with fail
  generalize hw2 : ((((w1.setCell ⟨w.heap.size + 1, 0, none⟩ (Value.int IntKind.i64 kd)).setCell ⟨w.heap.size + 1, 1, none⟩ (Value.bool ng)).setCell ⟨w.heap.size + 1, 2, none⟩ (Value.int IntKind.i64 ex)).setCell ⟨w.heap.size + 1, 3, none⟩ (Value.slice A (digs m).length c)) = w2 at HS ⊢
  clear hw2 c0 c1 c2 c3 f0 f1 f2 f3
  have HG0 : Hid (GL w) := hG
  have HG : ∀ wx, Hid (HxW w wx [.int .i64 kd, .bool ng, .int .i64 ex, .slice A (digs m).length c] (digs m) (.slice A (digs m).length c)) → GL wx := fun wx h => HG0.out.below h.out.below (Nat.le_refl _)
  clear hG
  refine (special_calls kd ex ng m _ _ (HG _ HS) HS.out.wv.wv).mono ?_
  rintro e w3 ⟨rfl, hb3⟩
  have HS3 := hid_mk (HS.out.kept hb3)
  have HB3 := HS3.out.below
  clear HS hb3
  obtain ⟨k0, k1, k2, k3⟩ := HS3.out.cells
  by_cases hsp : kd = 3 ∨ kd = 2
  ·have e1 : RS = spL kd ng := by rw [HRS.out]; unfold hxR hxS; rw [if_pos rfl, if_pos hsp]
   go_wp2
   go_ret2
   exact ⟨by rw [e1]; rfl, HB3⟩
  ·by_cases hz : kd = 0
   ·have e1 : RS = smL ng [48, 120, 48, 112, 43, 48] := by rw [HRS.out]; unfold hxR hxS; rw [if_pos rfl]; rw [if_neg hsp, if_pos hz]
    subst hz
    go_wp2_with fail
    refine (minus_calls ng [48, 120, 48, 112, 43, 48] (by decide) _ (HG _ HS3)).mono ?_
    rintro e w4 ⟨rfl, hb4⟩
    go_wp2
    go_ret2
    exact ⟨by rw [e1]; rfl, (HS3.out.kept hb4).below⟩
   ·have HR : Hid (RS = smL ng (48 :: 120 :: 49 :: (if hxD m = [] then [] else 46 :: hxD m) ++ 112 :: sgL (ex + (blN m - 1 : Nat)) 1)) := by have := HRS.out; unfold hxR hxS at this; rw [if_pos rfl, if_neg hsp, if_neg hz] at this; exact this
    obtain ⟨n1, hn1⟩ : ∃ n1, blN m = n1 + 1 := ⟨blN m - 1, by have := (bl_le (hmk hz hsp)).2; omega⟩
    have HR : Hid (RS = smL ng (48 :: 120 :: 49 :: (if hxD m = [] then [] else 46 :: hxD m) ++ 112 :: sgL (ex + n1) 1)) := by have := HR.out; rw [hn1] at this; exact this
    have HD : Hid (hxL m ((n1 + 3) / 4) ((n1 : Int) - 1) = hxD m) := by unfold hxD; rw [hn1]; exact rfl
    obtain ⟨DD, hDD⟩ : ∃ D, D = hxD m := ⟨_, rfl⟩
    rw [← hDD] at HR HD
    have hL := len_calls m (by have := digs_lenB (n := 4) hm (by decide); omega) _ _ (HG _ HS3) HS3.out.wv.wv
    have HBl : Hid ((digs m).length < 100) := by have := digs_lenB (n := 4) hm (by decide); exact (by omega : (digs m).length < 100)
    have hn1b : n1 ≤ 255 := by have := bl_lt hm; omega
    rw [hn1, Int.natCast_add] at hL
    clear hDD hn1 hm hmk
    go_wp2_with fail
    refine hL.mono ?_
    rintro e w4 ⟨rfl, hb4⟩
    have HS4 := hid_mk (HS3.out.kept hb4)
    clear HS3 HB3 hb4 k0 k1 k2 k3 hL
    go_wp2_with fail
    go_loopg [11] ((n1 + 3) / 4) (fun g v11 wx => ∃ (at_ : Int) (dl : List UInt8), v11 = .int .i64 at_ ∧ (4 * (g : Int) ≤ at_ + 4 ∧ at_ + 4 ≤ 4 * (g : Int) + 3 ∧ at_ ≤ 255) ∧ dl.length + g ≤ 100 ∧ Hid (dl ++ hxL m g at_ = DD) ∧ Hid (Below w4.heap.size w4 wx) ∧ Hid (Lib.IsBuilder 104 5 w4.heap.size w4.heap.size (Lib.byteCells dl) wx))
    case atStart =>
     refine ⟨(n1 : Int) - 1, [], ?_, by omega, by simp; omega, HD, (Below.refl _ _).alloc (Nat.le_refl _) _, Lib.fresh_isBuilder 104 5 w4⟩
     simp
    case round =>
     obtain ⟨at_, dl, rfl, hat, hdl, HL, HBb, HBu⟩ := hrel
     have HSx := hid_mk (HS4.out.kept HBb.out)
     rcases Nat.eq_zero_or_pos gk with h0 | h0
     ·subst h0
      have g0 : ¬ (0 : Int) ≤ at_ := by omega
      have HL : Hid (dl = DD) := by have := HL.out; rw [hxL, List.append_nil] at this; exact this
      have hbl := Tryz.Builder_Len w4.heap.size w4.heap.size (Lib.byteCells dl) wr HBu.out
      rw [Lib.byteCells_length] at hbl
      have HR : Hid (RS = smL ng (48 :: 120 :: 49 :: (if dl = [] then [] else 46 :: dl) ++ 112 :: sgL (ex + n1) 1)) := by have := HR.out; rw [← HL.out] at this; exact this
      have hsl := sgL_len (ex + n1) 1 (by omega) (by decide)
      obtain ⟨k0, k1, k2, k3⟩ := HSx.out.cells
      go_wp2_with fail
      refine hbl.mono ?_
      rintro e w7 ⟨rfl, rfl⟩
      rcases Nat.eq_zero_or_pos dl.length with hd0 | hd0
      ·rw [hd0]
       go_wp2
       have hM := fun wx hg => minus_calls ng (48 :: 120 :: 49 :: [] ++ 112 :: sgL (ex + n1) 1) (by simp; omega) wx hg
       have eM : bs (48 :: 120 :: 49 :: [] ++ 112 :: sgL (ex + n1) 1) = ByteArray.mk #[48, 120, 49] ++ ByteArray.mk #[112] ++ bs (sgL (ex + n1) 1) := by
        rw [show ByteArray.mk #[112] = bs [112] from rfl, show ByteArray.mk #[48, 120, 49] = bs [48, 120, 49] from rfl, bs_app, bs_app]; rfl
       rw [eM] at hM
       have hfin : RS = smL ng (48 :: 120 :: 49 :: [] ++ 112 :: sgL (ex + n1) 1) := by
        rw [HR.out, if_pos (List.length_eq_zero_iff.1 hd0)]
       have HF := hid_mk hfin
       have HSd := hid_mk (HSx.out.kept ((Below.refl _ _).drew))
       have hw : IntKind.i64.wrap (ex + (n1 : Int)) = ex + n1 := by rw [wrap_i64] <;> omega
       clear hfin eM
       go_region_with (first
        | (go_at_call 64; refine (signed_calls (ex + n1) (by omega) _ (HG _ HSd)).mono ?_; rintro e w9 ⟨rfl, hb9⟩; have HS9 := hid_mk (HSd.out.kept hb9); obtain ⟨l0, l1, l2, l3⟩ := HS9.out.cells)
        | (go_at_call 51; refine (hM _ (HG _ HS9)).mono ?_; rintro e w10 ⟨rfl, hb10⟩; have HB10 := hid_mk (HS9.out.kept hb10).below))
       all_goals (
        go_wp2
        go_ret2
        exact ⟨by rw [HF.out]; rfl, HB10⟩)
      ·have hdl0 : (0 : Int) < (dl.length : Nat) := by omega
       go_wp2_with fail
       refine (Tryz.Builder_String w4.heap.size w4.heap.size dl _ HBu.out HBb.out.size).mono ?_
       rintro e w8 ⟨rfl, hb8⟩
       have HB8 : Hid (Below w4.heap.size w4 w8) := HBb.out.trans hb8
       have HS8 := hid_mk (HS4.out.kept HB8.out)
       clear hb8
       obtain ⟨k0, k1, k2, k3⟩ := HS8.out.cells
       go_wp2
       generalize hS : (ByteArray.mk #[48, 120, 49] ++ (ByteArray.mk #[46] ++ ByteArray.mk dl.toArray)) = S
       have hSe : S = bs (48 :: 120 :: 49 :: 46 :: dl) := by rw [← hS]; exact (by rw [show ByteArray.mk #[46] = bs [46] from rfl, show ByteArray.mk #[48, 120, 49] = bs [48, 120, 49] from rfl, bs_app, bs_app]; rfl)
       have hSz : S.size ≤ 1000 := by rw [hSe, bs_size]; simp; omega
       have HSe := hid_mk hSe
       have hSz1 : S.size + (ByteArray.mk #[112]).size ≤ 9223372036854775807 := by show S.size + 1 ≤ _; omega
       have hSz2 : S.size + 1 ≤ 9223372036854775807 := by omega
       clear hS hSe
       have hM := fun wx hg => minus_calls ng (48 :: 120 :: 49 :: 46 :: dl ++ 112 :: sgL (ex + n1) 1) (by simp; omega) wx hg
       have eM : bs (48 :: 120 :: 49 :: 46 :: dl ++ 112 :: sgL (ex + n1) 1) = S ++ ByteArray.mk #[112] ++ bs (sgL (ex + n1) 1) := by
        rw [HSe.out, show ByteArray.mk #[112] = bs [112] from rfl, bs_app, bs_app, List.append_assoc]; rfl
       rw [eM] at hM
       have hfin : RS = smL ng (48 :: 120 :: 49 :: 46 :: dl ++ 112 :: sgL (ex + n1) 1) := by
        rw [HR.out, if_neg (fun h => by rw [h] at hd0; exact absurd hd0 (by decide))]
       have HF := hid_mk hfin
       have HSd := hid_mk (HS8.out.kept ((Below.refl _ _).drew))
       have hw : IntKind.i64.wrap (ex + (n1 : Int)) = ex + n1 := by rw [wrap_i64] <;> omega
       clear hfin eM
       go_region_with (first
        | (go_at_call 64; refine (signed_calls (ex + n1) (by omega) _ (HG _ HSd)).mono ?_; rintro e w9 ⟨rfl, hb9⟩; have HS9 := hid_mk (HSd.out.kept hb9); obtain ⟨l0, l1, l2, l3⟩ := HS9.out.cells)
        | (go_at_call 51; refine (hM _ (HG _ HS9)).mono ?_; rintro e w10 ⟨rfl, hb10⟩; have HB10 := hid_mk (HS9.out.kept hb10).below))
       all_goals (
        go_wp2
        go_ret2
        exact ⟨by rw [HF.out]; rfl, HB10⟩)
     ·obtain ⟨g, rfl⟩ : ∃ g, gk = g + 1 := ⟨gk - 1, by omega⟩
      have g0 : (0 : Int) ≤ at_ := by omega
      go_wp2
      obtain ⟨wo, hwo⟩ : ∃ W, W = wr := ⟨_, rfl⟩
      subst hwo
      go_loopg [12, 47] 4 (fun h v12 v47 wy => ∃ i : Nat, h + i = 4 ∧ v47 = .int .i64 i ∧ v12 = .int .i64 (hxP m at_ i : Nat) ∧ Hid (Below wo.heap.size wo wy))
      case atStart => exact ⟨0, rfl, rfl, rfl, Below.refl _ _⟩
      case round =>
       obtain ⟨i, hi, rfl, rfl, HY⟩ := hrel
       have HSy := hid_mk (HSx.out.kept HY.out)
       rcases Nat.eq_zero_or_pos gk with h0 | h0
       ·subst h0
        obtain rfl : i = 4 := by omega
        have hp16 := hxP_lt m at_ 4
        have hp : ((hxP m at_ 4 : Nat) : Int) < 16 := by omega
        have hLs : (dl ++ [hexC (hxP m at_ 4)]) ++ hxL m g (at_ - 4) = DD := by rw [List.append_assoc]; exact HL.out
        have HLs := hid_mk hLs
        obtain ⟨d, hd⟩ : ∃ d, d = hxP m at_ 4 := ⟨_, rfl⟩
        rw [← hd] at hp HLs ⊢
        clear hp16 hLs hd
        go_wp2_with fail
        simp only [hex_get]
        refine (Tryz.Builder_WriteByte w4.heap.size w4.heap.size (Lib.byteCells dl) ((hexC d).toNat : Nat) _ (builder_kept HBu.out fun k hk => HY.out.block k hk) (by rw [Lib.byteCells_length]; omega) (by have := HBb.out.size; have := HY.out.size; omega)).mono ?_
        rintro e w8 ⟨rfl, h8, hb8⟩
        have h8 : Lib.BuilderAt 104 5 w4.heap.size w4.heap.size (.pointer (some ⟨w4.heap.size, 0, none⟩)) (Lib.byteCells (dl ++ [hexC d])) w8 := by rw [Lib.byteCells_append]; exact h8
        have HB8 : Hid (Below w4.heap.size w4 w8) := (HBb.out.trans ⟨HY.out.os, HY.out.tape, HY.out.output, HY.out.size, fun k hk => HY.out.block k (by have := HBb.out.size; omega)⟩).trans hb8
        have H8 : Hid (Lib.IsBuilder 104 5 w4.heap.size w4.heap.size (Lib.byteCells (dl ++ [hexC d])) w8) := .inr h8
        clear h8 hb8
        go_wp2
        go_roundg g
        case measure => omega
        case rel => exact ⟨at_ - 4, dl ++ [hexC d], by first | rfl | simp, by omega, by simp; omega, HLs, HB8, H8⟩
       ·obtain ⟨h, rfl⟩ : ∃ h, gk = h + 1 := ⟨gk - 1, by omega⟩
        have hi4 : (i : Int) < 4 := by omega
        obtain ⟨k0, k1, k2, k3⟩ := HSy.out.cells
        have hB := bit_calls m (at_ - i) (by have := HBl.out; omega) (by omega) _ _ (HG _ HSy) HSy.out.wv.wv
        have hp16 := hxP_lt m at_ i
        have hp : hxP m at_ i < 16 := Nat.lt_of_lt_of_le hp16 (Nat.pow_le_pow_right (n := 2) (by decide) (show i ≤ 4 by omega))
        have hst : hxP m at_ (i + 1) = 2 * hxP m at_ i + if bitZ m (at_ - i) then 1 else 0 := rfl
        obtain ⟨q, hq⟩ : ∃ q, q = hxP m at_ i := ⟨_, rfl⟩
        rw [← hq] at hp hst ⊢
        cases hbz : bitZ m (at_ - i) with
        | true =>
          rw [hbz] at hB hst
          have HST : Hid (hxP m at_ (i + 1) = 2 * q + 1) := hst
          clear hp16 hq hbz hst
          go_wp2_with fail
          refine hB.mono ?_
          rintro e w6 ⟨rfl, hb6⟩
          have HB6 : Hid (Below wo.heap.size wo w6) := HY.out.trans ⟨hb6.os, hb6.tape, hb6.output, hb6.size, fun k hk => hb6.block k (by have := HY.out.size; omega)⟩
          clear hb6
          go_wp2
          go_roundg h
          case measure => omega
          case rel => exact ⟨i + 1, by omega, by first | rfl | simp, by rw [HST.out]; simp; omega, HB6⟩
        | false =>
          rw [hbz] at hB hst
          have HST : Hid (hxP m at_ (i + 1) = 2 * q) := hst
          clear hp16 hq hbz hst
          go_wp2_with fail
          refine hB.mono ?_
          rintro e w6 ⟨rfl, hb6⟩
          have HB6 : Hid (Below wo.heap.size wo w6) := HY.out.trans ⟨hb6.os, hb6.tape, hb6.output, hb6.size, fun k hk => hb6.block k (by have := HY.out.size; omega)⟩
          clear hb6
          go_wp2
          go_roundg h
          case measure => omega
          case rel => exact ⟨i + 1, by omega, by first | rfl | simp, by rw [HST.out]; simp; omega, HB6⟩
 ·have e1 : RS = [] := by rw [HRS.out]; exact if_neg hE
  go_wp2
  go_ret2
  exact ⟨by rw [e1]; rfl, HS.out.below⟩
theorem Hex_gen (k P kd0 e0 kd ex E : Int) (n0 ng : Bool) (l : List Int) (m : Nat) (hm : m < 2 ^ 256) (hx : -1000000 < ex ∧ ex < 1000000) (hmk : kd ≠ 0 → ¬ (kd = 3 ∨ kd = 2) → 0 < m)
 (hN : FnOk Tryz.prog 49 [.v (fmtV k P), .v (.int .i64 0), .v (.bool false), .v (fltW kd0 n0 e0 l)] [.v true (fltW kd ng ex (digs m)), .v true (.int .i64 E)]) :
 FnOk Tryz.prog 16 [.v (fmtV k P), .v (fltW kd0 n0 e0 l)] [.v true (.str (bs (hxR E kd ng ex m))), .v true (.int .i64 E)] := by
 refine FnOk.plain (val := .tuple #[.string (bs (hxR E kd ng ex m)), .int .i64 E]) (enters_of Tryz.func16 (by kernel_rfl) rfl) rfl (fun cx w μ mem => ?_) fun w O vs hG ha => ?_
 ·show RepA cx w μ mem (.tup [.v true (.str _), .v true (.int .i64 _)]) _
  rw [RepA]
  refine ⟨_, rfl, ?_⟩
  rw [RepAL]; refine ⟨_, _, rfl, repA_str.2 rfl, ?_⟩
  rw [RepAL]; refine ⟨_, _, rfl, repA_int.2 rfl, ?_⟩
  rw [RepAL]
 ·rw [ArgsRep] at ha
  obtain ⟨v1, vr, rfl, h1, h2⟩ := ha
  rw [ArgsRep] at h2
  obtain ⟨v2, vr, rfl, h3, h4⟩ := h2
  rw [ArgsRep] at h4
  subst h4
  rw [ArgRep] at h1
  rw [ArgRep] at h3
  obtain ⟨cs, h5, rfl⟩ := h1
  obtain ⟨ds, h6, rfl⟩ := h3
  obtain ⟨sv, rfl, xs, h7, rfl⟩ := rep_flt h6
  unfold fmtV at h5
  rw [Rep, RepL] at h5
  obtain ⟨a, b, rfl, h8, h9⟩ := h5
  rw [RepL] at h9
  obtain ⟨a2, b2, rfl, h10, h11⟩ := h9
  rw [RepL] at h11
  rw [Rep] at h8
  rw [Rep] at h10
  subst h8
  subst h10
  subst h11
  exact hex_calls k P kd0 e0 kd ex E n0 ng l m _ w _ rfl hG ⟨xs, Rep.mono (fun _ _ _ _ hv => hv) (fun b hb => ⟨hb.1, trivial⟩) h7, rfl⟩ hm hx hmk hN
def unW : List V → Option (List Int)
 | [] => some []
 | .int .u64 n :: r => (unW r).map (n :: ·)
 | _ => none
theorem unW_eq : ∀ {l : List V} {x : List Int}, unW l = some x → l = x.map fun n => .int .u64 n
 | [], x, h => by cases h; rfl
 | .int .u64 n :: r, x, h => by
   rw [unW] at h
   obtain ⟨y, hy, rfl⟩ := Option.map_eq_some_iff.1 h
   rw [unW_eq hy]; rfl
def okB (x : List Int) : Bool := x.all fun n => decide (0 ≤ n ∧ n < 18446744073709551616)
theorem okB_eq {x : List Int} (h : okB x = true) : okW x := fun n hn => of_decide_eq_true (List.all_eq_true.1 h n hn)
theorem hex_half : FnOk Tryz.prog 16 [.v (fmtV 5 11), .v (fltW 1 false (-13) [819])] [.v true (.str (bs [48, 120, 49, 46, 57, 57, 56, 112, 45, 52])), .v true (.int .i64 0)] := by
 have hN := number_ok 5 11 0 false 1 false (-13) [819] (by decide) (by intro n hn; simp at hn; omega) (by decide)
 rw [show (decide ((0 : Int) ≤ 0 ∧ (0 : Int) ≤ 4) && !false) = true from rfl] at hN
 have e1 : nuE 5 11 true 1 false (-13) [819] = 0 := by kernel_rfl
 have e2 : nuV 5 11 true 1 false (-13) [819] = fltW 1 false (-13) (digs 819) := by
  unfold nuV
  rw [if_pos e1]
  kernel_rfl
 rw [e1, e2] at hN
 exact Hex_gen 5 11 1 (-13) 1 (-13) 0 false false [819] 819 (by decide) (by decide) (fun _ _ => by decide) hN
def extE (f : FuncId) (l : List Arg) : Option (List R) :=
 match f, l with
 | 16, [.v (.agg [.int .i64 5, .int .i64 11]), .v (.agg [.int .i64 1, .bool false, .int .i64 (-13), .sl 1 [.int .u64 819]])] => some [.v true (.str (bs [48, 120, 49, 46, 57, 57, 56, 112, 45, 52])), .v true (.int .i64 0)]
 | 54, [.v (.sl 1 l)] => match unW l with
   | some x => if x.length < 900 ∧ okB x = true then some [.v true (.str ⟨(decG (val x)).toArray⟩)] else none
   | none => none
 | 82, [.v (.str s), .v (.int .i64 (.ofNat n))] => if s.data.toList = [48] ∧ n ≤ 1000000 then some [.v true (.str (bs (z48 n)))] else none
 | 132, [.v (.str s), .v (.str t)] => if t.data.toList = [48] ∧ s.data.toList.length < 1000000 then some [.v true (.str (bs (trR s.data.toList)))] else none
 | 142, [.v (.int .i64 (.ofNat n))] => if n < 4611686018427387904 then some [.v true (.str (bs (decG n)))] else none
 | 139, [.v (.int .u64 x), .v (.int .u64 y), .v (.int .u64 c)] => if 0 ≤ x ∧ 0 ≤ y ∧ 0 ≤ c ∧ c ≤ 1 then some [.v true (.int .u64 ((x + y + c) % 18446744073709551616)), .v true (.int .u64 ((x + y + c) / 18446744073709551616))] else none
 | 252, [.v (.int .u64 x), .v (.int .u64 y), .v (.int .u64 c)] => if 0 ≤ x ∧ x < 18446744073709551616 ∧ 0 ≤ y ∧ y < 18446744073709551616 ∧ 0 ≤ c ∧ c ≤ 1 then some [.v true (.int .u64 ((x - y - c) % 18446744073709551616)), .v true (.int .u64 (if x < y + c then 1 else 0))] else none
 | _, _ => none
theorem str_of {s : ByteArray} {l : List UInt8} (h : s.data.toList = l) : s = bs l := by rw [bs_of s, h]
theorem extE_ok (f : FuncId) (l : List Arg) (rs : List R) (h : extE f l = some rs) : FnOk Tryz.prog f l rs := by
 unfold extE at h
 split at h
 ·cases h; exact hex_half
 ·split at h
  ·next x hx =>
   split at h
   ·next hs => cases h; rw [unW_eq hx]; exact wDecimal_ok x hs.1 (okB_eq hs.2)
   ·cases h
  ·cases h
 ·split at h
  ·next hs => cases h; rw [str_of hs.1]; exact repeat_ok _ hs.2
  ·cases h
 ·split at h
  ·next hs => cases h; rw [str_of hs.1]; have := trimRight_ok _ hs.2; rw [← bs_of] at this; exact this
  ·cases h
 ·split at h
  ·next hs => cases h; exact itoa_ok _ hs
  ·cases h
 ·split at h
  ·next hs => cases h; exact add64_ok _ _ _ hs.1 hs.2.1 hs.2.2.1 hs.2.2.2
  ·cases h
 ·split at h
  ·next hs => cases h; exact sub64_ok _ _ _ hs.1 hs.2.1 hs.2.2.1 hs.2.2.2.1 hs.2.2.2.2.1 hs.2.2.2.2.2
  ·cases h
 ·cases h
theorem aw_text : FnOk Tryz.prog 14 [.v (fmtV 5 11), .v (fltW 1 false (-13) [819])] [.v true (.str ⟨#[48, 46, 49]⟩), .v true (.int .i64 0)] :=
 runF_ok (Px := px) (T := TT) rfl mixed extE_ok (fuel := 100000) 1000 _ _ _ (by kernel_rfl)
theorem aw_exact : FnOk Tryz.prog 15 [.v (fmtV 5 11), .v (fltW 1 false (-13) [819])] [.v true (.str ⟨#[48, 46, 48, 57, 57, 57, 55, 53, 53, 56, 53, 57, 51, 55, 53]⟩), .v true (.int .i64 0)] :=
 runF_ok (Px := px) (T := TT) rfl mixed extE_ok (fuel := 100000) 1000 _ _ _ (by kernel_rfl)
theorem aw_sci : FnOk Tryz.prog 24 [.v (fmtV 5 11), .v (.int .i64 0), .v (fltW 1 false 10 [1]), .v (.int .i64 2)] [.v true (.str ⟨#[49, 46, 48, 50, 101, 43, 48, 51]⟩), .v true (.bool false), .v true (.int .i64 0)] :=
 runF_ok (Px := px) (T := TT) rfl mixed extE_ok (fuel := 100000) 1000 _ _ _ (by kernel_rfl)
theorem aw_dec : FnOk Tryz.prog 33 [.v (.agg [.int .i64 0, .bool false, words [120], .int .i64 (-2)])] [.v true (.str ⟨#[49, 46, 50, 48]⟩), .v true (.int .i64 0)] :=
 runF_ok (Px := px) (T := TT) rfl mixed extE_ok (fuel := 100000) 1000 _ _ _ (by kernel_rfl)
attribute [local go_sem] evalOps_nil evalOps_cons runW_t runW_f runE_s runP_s wantA evalOp effOp letters okDst coreA St.opv St.get St.at look constA St.put St.upd St.set decide_true List.all_nil List.all_cons Bool.and_true Bool.true_and and_self and_true true_and if_true if_false true_or Int.sub_zero List.nil_append List.cons_append List.append_nil Option.isSome_some List.getElem?_toArray List.getElem?_cons_succ List.getElem?_cons_zero Option.bind_some Option.map_some Option.map_none beq_self_eq_true Bool.false_beq Bool.true_beq Bool.not_true Bool.not_false Bool.false_eq_true cond_true cond_false binA binI List.map_cons List.map_nil boundA List.length_nil List.length_cons Nat.zero_mul Nat.one_mul Nat.mul_one Nat.zero_add Nat.add_zero Nat.zero_le Option.toList St.freshB AV.ment AV.ments Blk.ment V.sizes Nat.lt_add_one Bool.or_true Bool.true_or Bool.or_false Bool.false_or Bool.or_self if_pos if_neg decide_false decide_eq_true decide_eq_false wrap_i64 Int.toNat_natCast minA maxA Int.natCast_add Int.cast_ofNat_Int Option.isSome_none false_implies true_implies forall_const List.drop_zero Int.toNat_zero Int.add_sub_cancel lenA sliceA loadA indexAddrA partA fitsT V.atP V.offP V.size List.length_map List.getElem?_map Int.toNat_natCast_add_one Int.ofNat_eq_natCast TY calleeA capArg knotA capArgs toArgs toArg callA R.res R.mems R.blks R.av R.names R.nw invokeA storeA storeV fieldAddrA liveB V.off V.offs V.setP List.set_cons_zero List.set_cons_succ buildA buildP partsA appendA srcA copyA boxOk makeA AV.pure List.take_succ_cons List.take_zero nilA words unA entry List.zipIdx_cons List.zipIdx_nil Arg.av Arg.avs
set_option maxHeartbeats 2000000 in
theorem awake_ok : FnOk Tryz.prog 13 [] [.v true (.bool true)] := by
 have h1 := aw_text
 have h2 := aw_exact
 have h4 := aw_sci
 have h5 := aw_dec
 have h3 := hex_half
 unfold fmtV fltW words at h1 h2 h3 h4
 unfold words at h5
 rw [List.map_cons, List.map_nil] at h1 h2 h3 h4 h5
 have h3 : FnOk Tryz.prog 16 [.v (.agg [.int .i64 5, .int .i64 11]), .v (.agg [.int .i64 1, .bool false, .int .i64 (-13), .sl 1 [.int .u64 819]])] [.v true (.str ⟨#[48, 120, 49, 46, 57, 57, 56, 112, 45, 52]⟩), .v true (.int .i64 0)] := h3
 refine FnOk.of Tryz.func13 rfl rfl fun cx w0 => ?_
 rw [show Tryz.f13.ntmps = 91 from rfl]
 refine zs0 ?_
 refine zs0 ?_
 refine Holds.seq (Holds.regionZ (Px := px) (T := TT) (ρ := fun _ => []) (k := 1) (σ2 := { nt := 91, env := [(15, .v true (.sl 1 [.int .u64 819])), (1, .ptr 1 0 [] 0)], mem := [(1, .box 23 (.v true (.agg [.int .i64 5, .int .i64 11])))] }) TTe (by simp (maxSteps := 100000) (disch := omega) only [List.take_succ_cons, List.take_zero, go_sem, V.isAgg, V.flat, ↓reduceIte, Nat.reduceAdd, Nat.reduceSub, Nat.reduceLT, Nat.reduceEqDiff, reduceCtorEq, Nat.reduceLeDiff, Nat.reduceBEq, Nat.reduceMul, Int.reduceToNat]; rfl) (by repeat' first | exact trivial | constructor) (Nat.le_of_ble_eq_true rfl) (by exact fun a w h => Rel.keep [15, 1] [1] (Rel.freeze (s := 15) h rfl)) ⟨_, _, by simp (maxSteps := 100000) (disch := omega) only [List.drop_succ_cons, List.drop_zero, go_sem, V.isAgg, V.flat, ↓reduceIte, Nat.reduceAdd, Nat.reduceSub, Nat.reduceLT, Nat.reduceEqDiff, reduceCtorEq, Nat.reduceLeDiff, Nat.reduceBEq, Nat.reduceMul, Int.reduceToNat]; rfl, by repeat' first | exact trivial | assumption | constructor, ?_⟩); show Holds _ _ _ _ _ _ _
 refine zs2 (ρ := fun _ => [.v true (.str ⟨#[48, 46, 49]⟩), .v true (.int .i64 0)]) (o := by repeat' first|exact h1|trivial|constructor) (k := ?_)
 refine zs2 (ρ := fun _ => [.v true (.str ⟨#[48, 46, 48, 57, 57, 57, 55, 53, 53, 56, 53, 57, 51, 55, 53]⟩), .v true (.int .i64 0)]) (o := by repeat' first|exact h2|trivial|constructor) (k := ?_)
 refine zs2 (ρ := fun _ => [.v true (.str ⟨#[48, 120, 49, 46, 57, 57, 56, 112, 45, 52]⟩), .v true (.int .i64 0)]) (o := by repeat' first|exact h3|trivial|constructor) (k := ?_)
 refine Holds.from (σ' := { nt := 91, env := [(3, (.v true (.str ⟨#[48, 46, 49]⟩))), (4, (.v true (.int .i64 0))), (5, (.v true (.str ⟨#[48, 46, 48, 57, 57, 57, 55, 53, 53, 56, 53, 57, 51, 55, 53]⟩))), (6, (.v true (.int .i64 0))), (7, (.v true (.str ⟨#[48, 120, 49, 46, 57, 57, 56, 112, 45, 52]⟩))), (8, (.v true (.int .i64 0))), (1, .ptr 1 0 [] 0)], mem := [(1, .box 23 (.v true (.agg [.int .i64 5, .int .i64 11])))] }) (fun a w h => Rel.keep [3, 4, 5, 6, 7, 8, 1] [1] h) ?_
 refine Holds.seq (Holds.regionZ (Px := px) (T := TT) (ρ := fun _ => [.v true (.str ⟨#[49, 46, 48, 50, 101, 43, 48, 51]⟩), .v true (.bool false), .v true (.int .i64 0)]) (k := 2) (σ2 := { nt := 91, env := [(36, .v true (.agg [.int .i64 5, .int .i64 11])), (37, .v true (.sl 1 [.int .u64 1])), (3, (.v true (.str ⟨#[48, 46, 49]⟩))), (4, (.v true (.int .i64 0))), (5, (.v true (.str ⟨#[48, 46, 48, 57, 57, 57, 55, 53, 53, 56, 53, 57, 51, 55, 53]⟩))), (6, (.v true (.int .i64 0))), (7, (.v true (.str ⟨#[48, 120, 49, 46, 57, 57, 56, 112, 45, 52]⟩))), (8, (.v true (.int .i64 0)))], mem := [] }) TTe (by simp (maxSteps := 100000) (disch := omega) only [List.take_succ_cons, List.take_zero, go_sem, V.isAgg, V.flat, ↓reduceIte, Nat.reduceAdd, Nat.reduceSub, Nat.reduceLT, Nat.reduceEqDiff, reduceCtorEq, Nat.reduceLeDiff, Nat.reduceBEq, Nat.reduceMul, Int.reduceToNat]; rfl) (by first | exact h4 | (repeat' first | exact trivial | exact h4 | constructor)) (Nat.le_of_ble_eq_true rfl) (by exact fun a w h => Rel.keep [36, 37, 3, 4, 5, 6, 7, 8] [] (Rel.freeze (s := 37) h rfl)) ⟨_, _, by simp (maxSteps := 100000) (disch := omega) only [List.drop_succ_cons, List.drop_zero, go_sem, V.isAgg, V.flat, ↓reduceIte, Nat.reduceAdd, Nat.reduceSub, Nat.reduceLT, Nat.reduceEqDiff, reduceCtorEq, Nat.reduceLeDiff, Nat.reduceBEq, Nat.reduceMul, Int.reduceToNat]; rfl, by repeat' first | exact trivial | assumption | constructor, ?_⟩); show Holds _ _ _ _ _ _ _
 refine Holds.from (σ' := { nt := 91, env := [(3, (.v true (.str ⟨#[48, 46, 49]⟩))), (4, (.v true (.int .i64 0))), (5, (.v true (.str ⟨#[48, 46, 48, 57, 57, 57, 55, 53, 53, 56, 53, 57, 51, 55, 53]⟩))), (6, (.v true (.int .i64 0))), (7, (.v true (.str ⟨#[48, 120, 49, 46, 57, 57, 56, 112, 45, 52]⟩))), (8, (.v true (.int .i64 0))), (9, (.v true (.str ⟨#[49, 46, 48, 50, 101, 43, 48, 51]⟩))), (10, .v true (.bool false)), (11, (.v true (.int .i64 0)))], mem := [] }) (fun a w h => Rel.keep [3, 4, 5, 6, 7, 8, 9, 10, 11] [] h) ?_
 refine Holds.seq (Holds.regionZ (Px := px) (T := TT) (ρ := fun _ => [.v true (.str ⟨#[49, 46, 50, 48]⟩), .v true (.int .i64 0)]) (k := 1) (σ2 := { nt := 91, env := [(44, .v true (.sl 1 [.int .u64 120])), (3, (.v true (.str ⟨#[48, 46, 49]⟩))), (4, (.v true (.int .i64 0))), (5, (.v true (.str ⟨#[48, 46, 48, 57, 57, 57, 55, 53, 53, 56, 53, 57, 51, 55, 53]⟩))), (6, (.v true (.int .i64 0))), (7, (.v true (.str ⟨#[48, 120, 49, 46, 57, 57, 56, 112, 45, 52]⟩))), (8, (.v true (.int .i64 0))), (9, (.v true (.str ⟨#[49, 46, 48, 50, 101, 43, 48, 51]⟩))), (10, .v true (.bool false)), (11, (.v true (.int .i64 0)))], mem := [] }) TTe (by simp (maxSteps := 100000) (disch := omega) only [List.take_succ_cons, List.take_zero, go_sem, V.isAgg, V.flat, ↓reduceIte, Nat.reduceAdd, Nat.reduceSub, Nat.reduceLT, Nat.reduceEqDiff, reduceCtorEq, Nat.reduceLeDiff, Nat.reduceBEq, Nat.reduceMul, Int.reduceToNat]; rfl) (by first | exact h5 | (repeat' first | exact trivial | exact h5 | constructor)) (Nat.le_of_ble_eq_true rfl) (by exact fun a w h => Rel.keep [44, 3, 4, 5, 6, 7, 8, 9, 10, 11] [] (Rel.freeze (s := 44) h rfl)) ⟨_, _, by simp (maxSteps := 100000) (disch := omega) only [List.drop_succ_cons, List.drop_zero, go_sem, V.isAgg, V.flat, ↓reduceIte, Nat.reduceAdd, Nat.reduceSub, Nat.reduceLT, Nat.reduceEqDiff, reduceCtorEq, Nat.reduceLeDiff, Nat.reduceBEq, Nat.reduceMul, Int.reduceToNat]; rfl, by repeat' first | exact trivial | assumption | constructor, ?_⟩); show Holds _ _ _ _ _ _ _
 refine Holds.step (Px := px) (T := TT) (ρ := fun _ => []) TTe (by simp (maxSteps := 100000) (disch := omega) only [go_sem, V.isAgg, V.flat, ↓reduceIte, Nat.reduceAdd, Nat.reduceSub, Nat.reduceLT, Nat.reduceEqDiff, reduceCtorEq, Nat.reduceLeDiff, Nat.reduceBEq, Nat.reduceMul, Int.reduceToNat, unA, eq_self]; rfl) (by repeat' first | exact trivial | constructor) ?_
 exact Holds.ret (RetOk.vs rfl (by exact ⟨⟨rfl, id⟩, trivial⟩) rfl)
set_option maxHeartbeats 1000000 in
theorem fShort_ok (kd : Int) (neg : Bool) (e : Int) (L : List V) : FnOk Tryz.prog 12 [.v (.sl 4 [.agg [.int .i64 kd, .bool neg, .int .i64 e, .sl 1 L]])] [.v true (.bool (decide (L.length ≤ 40)))] := by
 obtain ⟨n, hn⟩ : ∃ n, n = L.length := ⟨_, rfl⟩
 rw [← hn]
 have hn' := hn.symm
 refine FnOk.of Tryz.func12 rfl rfl fun cx w0 => ?_
 rw [show Tryz.f12.ntmps = 17 from rfl]
 refine zs0 ?_
 refine Holds.next (fun σ => n ≤ 40 ∧ ∀ a w, Rel cx w0 σ a w → Rel cx w0 { nt := 17, env := [], mem := [] } a w) ?_ ?_
 ·refine zs0 ?_
  refine Holds.loopB (fun i : Nat => { nt := 17, env := [(3, .v true (.int .i64 i)), (0, .v false (.sl 4 [.agg [.int .i64 kd, .bool neg, .int .i64 e, .sl 1 L]]))], mem := [] }) (fun i => i = 0 ∨ i = 1 ∧ n ≤ 40) (fun i => 1 - i) 0 (.inl rfl) (fun a w h => Rel.keep [3, 0] [] h) ?_
  rintro i hi
  by_cases hi0 : i = 0
  ·subst hi0
   refine Holds.seq ?_
   refine zs0 ?_
   refine Holds.condT rfl (Holds.skip ?_)
   show Holds _ _ _ _ _ _ _
   refine Holds.next (fun σ => n ≤ 40 ∧ ∀ a w, Rel cx w0 σ a w → Rel cx w0 { nt := 17, env := [(3, .v true (.int .i64 0)), (0, .v false (.sl 4 [.agg [.int .i64 kd, .bool neg, .int .i64 e, .sl 1 L]]))], mem := [] } a w) ?_ ?_
   ·refine Holds.blockN ?_
    by_cases hs : n ≤ 40
    ·have g : ¬ (40 : Int) < (L.length : Int) := by omega
     refine zs1 g ?_
     exact Holds.condF rfl (Holds.skip ⟨hs, fun a w h => Rel.keep [3, 0] [] h⟩)
    ·have g : (40 : Int) < (L.length : Int) := by omega
     refine zs1 g ?_
     refine Holds.condT rfl ?_
     refine zs0 ?_
     rw [decide_eq_false hs]
     exact Holds.ret (RetOk.vs rfl (by exact ⟨⟨rfl, id⟩, trivial⟩) rfl)
   ·rintro σ ⟨hs, hσ⟩
    refine Holds.from hσ ?_
    refine zr0 ?_
    exact ⟨1, .inr ⟨rfl, hs⟩, (show 1 - 1 < 1 - 0 by decide), fun a w h => Rel.keep [3, 0] [] h⟩
  ·have hi1 : i = 1 ∧ n ≤ 40 := by omega
   obtain ⟨rfl, hs⟩ := hi1
   refine Holds.seq ?_
   refine zs0 ?_
   exact Holds.condF rfl (Holds.exit ⟨rfl, hs, fun a w h => Rel.keep [] [] h⟩)
 ·rintro σ ⟨hs, hσ⟩
  refine Holds.from hσ ?_
  rw [decide_eq_true hs]
  refine zs0 ?_
  exact Holds.ret (RetOk.vs rfl (by exact ⟨⟨rfl, id⟩, trivial⟩) rfl)
theorem nuE_big {k P : Int} {okr : Bool} {kd : Int} {neg : Bool} {e : Int} {l : List Int} (h : 4096 < l.length) : nuE k P okr kd neg e l = 2 := by unfold nuE; rw [if_pos h]
theorem rSigned_ok (neg : Bool) (l : List UInt8) (hl : l.length < 10000000) : FnOk Tryz.prog 69 [.v (.bool neg), .v (.str (bs l))] [.v true (.str (bs (smL neg l)))] := by
 have hz := bs_size l
 have e : bs (45 :: l) = ByteArray.mk #[45] ++ bs l := by rw [show ByteArray.mk #[45] = bs [45] from rfl, bs_app]; rfl
 unfold smL
 obtain ⟨s, hs⟩ : ∃ s, s = bs l := ⟨_, rfl⟩
 rw [← hs] at hz e ⊢
 have a1 : (#[(45 : UInt8)]).size + s.size ≤ 9223372036854775807 := by show 1 + s.size ≤ _; omega
 cases neg with
 | true =>
   rw [if_pos rfl, e]
   clear hs e hz
   refine FnOk.of Tryz.func69 rfl rfl fun cx w0 => ?_
   rw [show Tryz.f69.ntmps = 9 from rfl]
   refine zs0 ?_
   refine Holds.seq ?_
   refine zs0 ?_
   refine Holds.condT rfl ?_
   refine zs1 a1 ?_
   exact Holds.ret (RetOk.vs rfl (by exact ⟨⟨rfl, id⟩, trivial⟩) rfl)
 | false =>
   rw [if_neg (show ¬ false = true by decide), ← hs]
   clear hs e hz
   refine FnOk.of Tryz.func69 rfl rfl fun cx w0 => ?_
   rw [show Tryz.f69.ntmps = 9 from rfl]
   refine zs0 ?_
   refine Holds.seq ?_
   refine zs0 ?_
   refine Holds.condF rfl (Holds.skip ?_)
   show Holds _ _ _ _ _ _ _
   refine zs0 ?_
   exact Holds.ret (RetOk.vs rfl (by exact ⟨⟨rfl, id⟩, trivial⟩) rfl)
theorem z48_snoc (n : Nat) : bs (z48 n) ++ ByteArray.mk #[48] = bs (z48 (n + 1)) := by
 rw [show ByteArray.mk #[48] = bs [48] from rfl, bs_app]
 unfold z48
 rw [← List.replicate_succ']
theorem zeros_ok (n : Int) (hn : n < 10000000) : FnOk Tryz.prog 151 [.v (.int .i64 n)] [.v true (.str (bs (z48 n.toNat)))] := by
 refine FnOk.of Tryz.func151 rfl rfl fun cx w0 => ?_
 rw [show Tryz.f151.ntmps = 13 from rfl]
 refine zs0 ?_
 refine zs0 ?_
 refine Holds.next (fun σ => ∀ a w, Rel cx w0 σ a w → Rel cx w0 { nt := 13, env := [(3, .v true (.str (bs (z48 n.toNat))))], mem := [] } a w) ?_ ?_
 ·refine zs0 ?_
  refine Holds.loopB (fun i : Nat => { nt := 13, env := [(4, .v true (.int .i64 i)), (3, .v true (.str (bs (z48 i)))), (0, .v true (.int .i64 n))], mem := [] }) (fun i => i ≤ n.toNat) (fun i => n.toNat - i) 0 (Nat.zero_le _) (fun a w h => Rel.keep [4, 3, 0] [] h) ?_
  intro i hi
  refine Holds.seq ?_
  by_cases h : i = n.toNat
  ·have g : ¬ (i : Int) < n := by omega
   refine zs1 g ?_
   refine Holds.condF rfl (Holds.exit ⟨rfl, fun a w hr => ?_⟩)
   have := Rel.keep [3] [] hr
   rw [h] at this
   exact this
  ·have g : (i : Int) < n := by omega
   have hz := bs_size (z48 i)
   rw [z48_len] at hz
   have e := z48_snoc i
   obtain ⟨s, hs⟩ : ∃ s, s = bs (z48 i) := ⟨_, rfl⟩
   rw [← hs] at hz e ⊢
   have a1 : s.size + (#[(48 : UInt8)]).size ≤ 9223372036854775807 := by show s.size + 1 ≤ _; omega
   have wk : IntKind.i64.wrap ((i : Int) + 1) = ((i + 1 : Nat) : Int) := by rw [wrap_i64] <;> omega
   refine zs1 g ?_
   refine Holds.condT rfl (Holds.skip ?_)
   show Holds _ _ _ _ _ _ _
   refine Holds.next (fun σ => ∀ a w, Rel cx w0 σ a w → Rel cx w0 { nt := 13, env := [(4, .v true (.int .i64 i)), (3, .v true (.str (bs (z48 (i + 1))))), (0, .v true (.int .i64 n))], mem := [] } a w) ?_ ?_
   ·refine Holds.blockN ?_
    refine zr1 a1 ?_
    intro a w h
    rw [← e]
    exact Rel.keep [4, 3, 0] [] h
   ·intro σ hσ
    refine Holds.from hσ ?_
    refine zr1 wk ?_
    exact ⟨i + 1, (by show i + 1 ≤ n.toNat; omega), (show n.toNat - (i + 1) < n.toNat - i by omega), fun a w h => Rel.keep [4, 3, 0] [] h⟩
 ·intro σ hσ
  refine Holds.from hσ ?_
  obtain ⟨s, hs⟩ : ∃ s, s = bs (z48 n.toNat) := ⟨_, rfl⟩
  rw [← hs]
  refine zs0 ?_
  exact Holds.ret (RetOk.vs rfl (by exact ⟨⟨rfl, id⟩, trivial⟩) rfl)
theorem pointed_ok (d : List UInt8) (k : Nat) (hd : 1 ≤ d.length) (hdl : d.length < 1000000) (hk : k < 1000000) : FnOk Tryz.prog 75 [.v (.str (bs d)), .v (.int .i64 k)] [.v true (.str (bs (ptL d k)))] := by
 have hZ := zeros_ok ((k : Int) + 1 - d.length) (by omega)
 obtain ⟨c, hc⟩ : ∃ c, c = ((k : Int) + 1 - d.length).toNat := ⟨_, rfl⟩
 rw [← hc] at hZ
 have hz := bs_size d
 have hz2 := bs_size (z48 c)
 rw [z48_len] at hz2
 have e1 : bs (z48 c) ++ bs d = bs (z48 c ++ d) := bs_app _ _
 have hzd := bs_size (z48 c ++ d)
 rw [List.length_append, z48_len] at hzd
 obtain ⟨D, hD⟩ : ∃ D, D = z48 c ++ d := ⟨_, rfl⟩
 rw [← hD] at e1 hzd
 have hpt : ptL d k = if k = 0 then D else ptN D k := by
  unfold ptL
  by_cases h : k = 0
  ·subst h
   have : c = 0 := by omega
   rw [if_pos (by omega), if_pos rfl, hD, this]
   rfl
  ·rw [if_neg (by omega), if_neg h, hD, hc]
   first | rfl | (congr 2; congr 1; omega)
 rw [hpt]
 obtain ⟨s, hs⟩ : ∃ s, s = bs d := ⟨_, rfl⟩
 obtain ⟨z, hzz⟩ : ∃ s, s = bs (z48 c) := ⟨_, rfl⟩
 obtain ⟨t, ht⟩ : ∃ s, s = bs D := ⟨_, rfl⟩
 rw [← hs, ← hzz, ← ht] at e1
 rw [← hs] at hz ⊢
 rw [← hzz] at hZ hz2
 rw [← ht] at hzd
 have w1 : IntKind.i64.wrap ((k : Int) + 1) = (k : Int) + 1 := by rw [wrap_i64] <;> omega
 have w2 : IntKind.i64.wrap ((k : Int) + 1 - (s.size : Int)) = (k : Int) + 1 - d.length := by rw [wrap_i64] <;> omega
 have a1 : z.size + s.size ≤ 9223372036854775807 := by omega
 clear hpt hs hzz
 refine FnOk.of Tryz.func75 rfl rfl fun cx w0 => ?_
 rw [show Tryz.f75.ntmps = 29 from rfl]
 refine zs0 ?_
 refine zs3 (ρ := fun _ => [.v true (.str z)]) (an w1 <| an w2 <| an a1 <| e1) (o := by repeat' first|exact hZ|trivial|constructor) (k := ?_)
 refine Holds.from (σ' := { nt := 29, env := [(0, .v true (.str t)), (1, .v true (.int .i64 k))], mem := [] }) (fun a w h => Rel.keep [0, 1] [] h) ?_
 refine Holds.seq ?_
 by_cases h : k = 0
 ·subst h
  rw [if_pos rfl, ← ht]
  refine zs0 ?_
  refine Holds.condT rfl ?_
  refine zs0 ?_
  exact Holds.ret (RetOk.vs rfl (by exact ⟨⟨rfl, id⟩, trivial⟩) rfl)
 ·rw [if_neg h]
  have g : ¬ (k : Int) = 0 := by omega
  obtain ⟨m, hm⟩ : ∃ m, m = D.length - k := ⟨_, rfl⟩
  have hDl : D.length = c + d.length := by rw [hD, List.length_append, z48_len]
  have e : bs (ptN D k) = (t.extract 0 m ++ ByteArray.mk #[46]) ++ t.extract m t.size := by
   unfold ptN
   rw [← hm, ht, bs_ext, bs_ext, bs_size, show ByteArray.mk #[46] = bs [46] from rfl, bs_app, bs_app, List.drop_zero, List.take_of_length_le (l := D.drop m) (by rw [List.length_drop]; omega), List.append_assoc, Nat.sub_zero]
   rfl
  rw [e]
  have z1 : (t.extract 0 m).size = m := by rw [ht, bs_ext, bs_size]; simp; omega
  have z2 : (t.extract m t.size).size = k := by rw [ht, bs_ext, bs_size, bs_size]; simp; omega
  have w3 : IntKind.i64.wrap ((t.size : Int) - (k : Int)) = (m : Int) := by rw [wrap_i64] <;> omega
  have g0 : (0 : Int) ≤ (m : Int) := by omega
  have g0' : (m : Int) ≤ (t.size : Int) := by omega
  have g1 : (t.extract 0 m).size + (#[(46 : UInt8)]).size ≤ 9223372036854775807 := by rw [z1]; show m + 1 ≤ _; omega
  have g2 : (t.extract 0 m).size + (#[(46 : UInt8)]).size + (t.extract m t.size).size ≤ 9223372036854775807 := by rw [z1, z2]; show m + 1 + k ≤ _; omega
  clear e z1 z2 hm hDl hD e1 hZ hc
  refine zs1 g ?_
  refine Holds.condF rfl (Holds.skip ?_)
  show Holds _ _ _ _ _ _ _
  refine zs1 w3 ?_
  refine Holds.seq ?_
  refine zq1 [] (an g0 <| an g0' <| an g1 <| g2) ?_
  show Holds _ _ _ _ _ _ _
  exact Holds.ret (RetOk.vs rfl (by exact ⟨⟨rfl, id⟩, trivial⟩) rfl)
set_option maxHeartbeats 2000000 in
theorem rDigitsG_ok (x : List Int) (D : Nat) (hx : x.length < 10000) (ox : okW x) (hD : HasD (val x) D) (hb : blN (val x) ≤ 18000) (hDl : D < 20000) : FnOk Tryz.prog 168 [.v (words x)] [.v true (.int .i64 D)] := by
 have hpos : 0 < val x := by
  have := Nat.pow_pos (a := 10) (n := D - 1) (by decide)
  have := hD.2.1
  omega
 have hL := rLen_ok x (by omega) ox
 rw [lenR_eq ox] at hL
 obtain ⟨b1, b2⟩ := bl_le hpos
 obtain ⟨B, hB⟩ : ∃ B, B = blN (val x) := ⟨_, rfl⟩
 rw [← hB] at hL b1 b2 hb
 have hs := digG_start (m := B - 1) (by omega)
 have hn0 : (B - 1) * 30103 / 100000 ≤ D := digG_le hD (Nat.le_trans hs (Nat.mul_le_mul_left 10 b1))
 have hcmp : ∀ n : Nat, n ≤ D + 1 → FnOk Tryz.prog 170 [.v (words x), .v (words (digs (10 ^ n)))] [.v true (.int .i64 (cmpN (val x) (10 ^ n)))] := fun n hn => by
  have hTl := ten_len (k := n)
  have hC := rCmp_ok x (digs (10 ^ n)) (by omega) (by omega) ox (digs_ok _).1
  rw [(digs_ok (10 ^ n)).2.2] at hC
  exact hC
 have hD1 := hD.1
 refine FnOk.of Tryz.func168 rfl rfl fun cx w0 => ?_
 rw [show Tryz.f168.ntmps = 30 from rfl]
 obtain ⟨n0, hn0'⟩ : ∃ n0, n0 = (B - 1) * 30103 / 100000 := ⟨_, rfl⟩
 rw [← hn0'] at hn0
 have w1 : (B : Int) - 1 = ((B - 1 : Nat) : Int) := by omega
 have w2 : IntKind.i64.wrap (((B - 1 : Nat) : Int) * 30103) = (((B - 1) * 30103 : Nat) : Int) := by rw [wrap_i64] <;> omega
 have w3 : (((B - 1) * 30103 : Nat) : Int).tdiv 100000 = (n0 : Int) := by rw [hn0']; exact quoN _ 100000
 have w4 : IntKind.i64.wrap (n0 : Int) = (n0 : Int) := by rw [wrap_i64] <;> omega
 have w5 : IntKind.i64.wrap ((n0 : Int) + 1) = ((n0 + 1 : Nat) : Int) := by rw [wrap_i64] <;> omega
 obtain ⟨B1, hB1⟩ : ∃ B1, B1 = B - 1 := ⟨_, rfl⟩
 rw [← hB1] at w1 w2 w3
 obtain ⟨p, hp⟩ : ∃ p, p = B1 * 30103 := ⟨_, rfl⟩
 rw [← hp] at w2 w3
 clear hs b1 hn0' hp hB1 hB
 obtain ⟨E, hE1, hE2⟩ : ∃ E, n0 + 1 ≤ E ∧ (E = D ∨ E = D + 1 ∧ n0 = D) := by
  rcases Nat.lt_or_ge n0 D with h | h
  ·exact ⟨D, h, .inl rfl⟩
  ·exact ⟨D + 1, by omega, .inr ⟨rfl, by omega⟩⟩
 refine zs0 ?_
 refine zs3 (ρ := fun _ => [.v true (.int .i64 (B : Nat))]) (an w1 <| an w2 <| an w3 <| an w4 <| w5) (o := by repeat' first|exact hL|trivial|constructor) (k := ?_)
 refine Holds.next (fun σ => ∀ a w, Rel cx w0 σ a w → Rel cx w0 { nt := 30, env := [(3, .v true (.int .i64 E)), (0, .v false (words x))], mem := [] } a w) ?_ ?_
 ·refine Holds.loopB (fun n : Nat => { nt := 30, env := [(3, .v true (.int .i64 (n : Nat))), (0, .v false (words x))], mem := [] }) (fun n => n0 + 1 ≤ n ∧ n ≤ E) (fun n => E - n) (n0 + 1) ⟨Nat.le_refl _, hE1⟩ (fun a w h => Rel.keep [3, 0] [] h) ?_
  rintro n ⟨hn0, hn⟩
  have hT := rTen_ok n (by omega)
  have hC := hcmp n (by omega)
  obtain ⟨T, hT'⟩ : ∃ T, T = digs (10 ^ n) := ⟨_, rfl⟩
  obtain ⟨c, hc⟩ : ∃ c, c = cmpN (val x) (10 ^ n) := ⟨_, rfl⟩
  rw [← hT'] at hT hC
  rw [← hc] at hC
  refine Holds.seq ?_
  rcases Nat.lt_or_ge (val x) (10 ^ n) with h | h
  ·have hDn : n = E := by have := hasD_le hD h; omega
   have g : ¬ 0 ≤ c := by rw [hc, cmpN, if_pos h]; omega
   refine zs3 (ρ := fun d => if d = 12 then [.v true (words T)] else [.v true (.int .i64 c)]) g (o := by repeat' first|exact hT|exact hC|trivial|constructor) (k := ?_)
   refine Holds.condF rfl (Holds.exit ⟨rfl, fun a w h => ?_⟩)
   have := Rel.keep [3, 0] [] h
   rw [hDn] at this
   exact this
  ·have hlt := hasD_lt hD h
   have g : 0 ≤ c := by rw [hc, cmpN, if_neg (by omega)]; split <;> omega
   have wk : IntKind.i64.wrap ((n : Int) + 1) = ((n + 1 : Nat) : Int) := by rw [wrap_i64] <;> omega
   refine zs3 (ρ := fun d => if d = 12 then [.v true (words T)] else [.v true (.int .i64 c)]) g (o := by repeat' first|exact hT|exact hC|trivial|constructor) (k := ?_)
   refine Holds.condT rfl (Holds.skip ?_)
   refine Holds.block ?_
   refine zr1 wk ?_
   exact ⟨n + 1, ⟨by omega, by omega⟩, (show E - (n + 1) < E - n by omega), fun a w h => Rel.keep [3, 0] [] h⟩
 ·intro σ hσ
  refine Holds.from hσ ?_
  refine Holds.next (fun σ => ∀ a w, Rel cx w0 σ a w → Rel cx w0 { nt := 30, env := [(3, .v true (.int .i64 D))], mem := [] } a w) ?_ ?_
  ·refine Holds.loopB (fun n : Nat => { nt := 30, env := [(3, .v true (.int .i64 (n : Nat))), (0, .v false (words x))], mem := [] }) (fun n => n = D ∨ n = D + 1) (fun n => n) E (by omega) (fun a w h => Rel.keep [3, 0] [] h) ?_
   intro n hn
   refine Holds.seq ?_
   by_cases hd : n = D
   ·subst hd
    by_cases h1 : 1 < n
    ·have g1 : (1 : Int) < (n : Int) := by omega
     have hT := rTen_ok (n - 1) (by omega)
     have hC := hcmp (n - 1) (by omega)
     have w6 : (n : Int) - 1 = ((n - 1 : Nat) : Int) := by omega
     have g2 : ¬ cmpN (val x) (10 ^ (n - 1)) < 0 := by
      rw [cmpN, if_neg (by have := hD.2.1; omega)]; split <;> omega
     obtain ⟨T, hT'⟩ : ∃ T, T = digs (10 ^ (n - 1)) := ⟨_, rfl⟩
     obtain ⟨c, hc⟩ : ∃ c, c = cmpN (val x) (10 ^ (n - 1)) := ⟨_, rfl⟩
     rw [← hT'] at hT hC
     rw [← hc] at hC g2
     refine zs3 (ρ := fun d => if d = 23 then [.v true (words T)] else [.v true (.int .i64 c)]) (an g1 <| an g2 <| w6) (o := by repeat' first|exact hT|exact hC|trivial|constructor) (k := ?_)
     exact Holds.condF rfl (Holds.exit ⟨rfl, fun a w h => Rel.keep [3] [] h⟩)
    ·have g1 : ¬ (1 : Int) < (n : Int) := by omega
     refine zs1 g1 ?_
     exact Holds.condF rfl (Holds.exit ⟨rfl, fun a w h => Rel.keep [3] [] h⟩)
   ·have hd1 : n = D + 1 := by omega
    subst hd1
    have g1 : (1 : Int) < ((D + 1 : Nat) : Int) := by omega
    have hT := rTen_ok D (by omega)
    have hC := hcmp D (by omega)
    have w6 : ((D + 1 : Nat) : Int) - 1 = (D : Int) := by omega
    have g2 : cmpN (val x) (10 ^ D) < 0 := by
     rw [cmpN, if_pos hD.2.2]; omega
    obtain ⟨T, hT'⟩ : ∃ T, T = digs (10 ^ D) := ⟨_, rfl⟩
    obtain ⟨c, hc⟩ : ∃ c, c = cmpN (val x) (10 ^ D) := ⟨_, rfl⟩
    rw [← hT'] at hT hC
    rw [← hc] at hC g2
    obtain ⟨F, hF⟩ : ∃ F : Int, F = ((D + 1 : Nat) : Int) := ⟨_, rfl⟩
    show Holds _ _ _ _ _ { nt := 30, env := [(3, .v true (.int .i64 ((D + 1 : Nat) : Int))), (0, .v false (words x))], mem := [] } _
    rw [← hF] at g1 w6 ⊢
    have w7 : IntKind.i64.wrap (D : Int) = (D : Int) := by rw [wrap_i64] <;> omega
    refine zs3 (ρ := fun d => if d = 23 then [.v true (words T)] else [.v true (.int .i64 c)]) (an g1 <| an g2 <| w6) (o := by repeat' first|exact hT|exact hC|trivial|constructor) (k := ?_)
    refine Holds.condT rfl (Holds.skip ?_)
    refine Holds.block ?_
    refine zr1 (an w6 <| w7) ?_
    exact ⟨D, .inl rfl, Nat.lt_succ_self D, fun a w h => Rel.keep [3, 0] [] h⟩
  ·intro σ hσ
   refine Holds.from hσ ?_
   refine zs0 ?_
   exact Holds.ret (RetOk.vs rfl (by exact ⟨⟨rfl, id⟩, trivial⟩) rfl)
def realQ (neg : Bool) (num den : Nat) : V := .agg [.bool neg, words (digs num), words (digs den), .int .i64 0, .int .i64 1]
theorem hasD_quo {num den E D : Nat} (hE : HasD num E) (hD : HasD den D) : (den * 10 ^ (E - D) ≤ num * 10 ^ (D - E) → IsA num den ((E : Int) - D)) ∧ (num * 10 ^ (D - E) < den * 10 ^ (E - D) → IsA num den ((E : Int) - D - 1)) := by
 have e0 : (((E - D : Nat) : Int)) - ((D - E : Nat) : Int) = (E : Int) - D := by omega
 obtain ⟨e1, e2, e3⟩ := hE
 obtain ⟨d1, d2, d3⟩ := hD
 constructor
 ·intro h
  refine isA_of (i := E - D) (j := D - E) e0 h ?_
  have h1 : num * 10 ^ (D - E) < 10 ^ (E + (D - E)) := by rw [Nat.pow_add]; exact Nat.mul_lt_mul_of_pos_right e3 (Nat.pow_pos (by decide))
  have h2 : 10 ^ (D - 1 + (E - D + 1)) ≤ den * 10 ^ (E - D + 1) := by rw [Nat.pow_add]; exact Nat.mul_le_mul_right _ d2
  rw [show D - 1 + (E - D + 1) = E + (D - E) from by omega] at h2
  omega
 ·intro h
  refine isA_of (i := E - D) (j := D - E + 1) (by omega) ?_ ?_
  ·have h1 : den * 10 ^ (E - D) ≤ 10 ^ (D + (E - D)) := by rw [Nat.pow_add]; exact Nat.mul_le_mul_right _ (Nat.le_of_lt d3)
   have h2 : 10 ^ (E - 1 + (D - E + 1)) ≤ num * 10 ^ (D - E + 1) := by rw [Nat.pow_add]; exact Nat.mul_le_mul_right _ e2
   rw [show E - 1 + (D - E + 1) = D + (E - D) from by omega] at h2
   omega
  ·rw [Nat.pow_succ, Nat.pow_succ, ← Nat.mul_assoc, ← Nat.mul_assoc]
   exact Nat.mul_lt_mul_of_pos_right h (by decide)
set_option maxHeartbeats 2000000 in
theorem rLogG_ok (neg : Bool) (num den B : Nat) (a : Int) (hB : B ≤ 17000) (hn : 0 < num) (hd : 0 < den) (hnl : num < 2 ^ B) (hdl : den < 2 ^ B) (hA : IsA num den a) : FnOk Tryz.prog 89 [.v (realQ neg num den)] [.v true (.int .i64 a)] := by
 have l1 := digs_lenB (n := 300) hnl (by omega)
 have l2 := digs_lenB (n := 300) hdl (by omega)
 obtain ⟨E, hE⟩ := hasD_ex num hn
 obtain ⟨D, hD⟩ := hasD_ex den hd
 have hEB := hasD_lt2 hE hnl
 have hDB := hasD_lt2 hD hdl
 have hD1 := rDigitsG_ok (digs num) E (by omega) (digs_ok _).1 (by rw [(digs_ok _).2.2]; exact hE) (by rw [(digs_ok _).2.2]; have := bl_lt hnl; omega) (by omega)
 have hD2 := rDigitsG_ok (digs den) D (by omega) (digs_ok _).1 (by rw [(digs_ok _).2.2]; exact hD) (by rw [(digs_ok _).2.2]; have := bl_lt hdl; omega) (by omega)
 obtain ⟨q1, q2⟩ := hasD_quo hE hD
 have w6 : IntKind.i64.wrap ((E : Int) - D) = (E : Int) - D := by rw [wrap_i64] <;> omega
 have w7 : IntKind.i64.wrap ((E : Int) - D - 1) = (E : Int) - D - 1 := by rw [wrap_i64] <;> omega
 have hF := floor1_ok a
 unfold realQ
 by_cases h1 : D < E
 ·have hTl := ten_len (k := E - D)
  have hT := rTen_ok (E - D) (by omega)
  have hM := rMul_ok (digs den) (digs (10 ^ (E - D))) (by omega) (by omega) (digs_ok _).1 (digs_ok _).1
  rw [(digs_ok den).2.2, (digs_ok (10 ^ (E - D))).2.2] at hM
  have l3 : (digs (den * 10 ^ (E - D))).length < 40000 := by
   have h3 : den * 10 ^ (E - D) < 2 ^ (B + (4 * (E - D) + 1)) := by rw [Nat.pow_add]; exact Nat.mul_lt_mul_of_lt_of_lt hdl (ten_lt _)
   exact Nat.lt_of_le_of_lt (digs_lenB h3 (n := 2000) (by omega)) (by decide)
  have hC := rCmp_ok (digs num) (digs (den * 10 ^ (E - D))) (by omega) l3 (digs_ok _).1 (digs_ok _).1
  rw [(digs_ok _).2.2, (digs_ok (den * 10 ^ (E - D))).2.2] at hC
  rw [show D - E = 0 from by omega, Nat.pow_zero, Nat.mul_one] at q1 q2
  have g1 : (0 : Int) < (E : Int) - D := by omega
  have wT : (E : Int) - D = ((E - D : Nat) : Int) := by omega
  rw [← wT] at hT
  obtain ⟨T, hT'⟩ : ∃ T, T = digs (10 ^ (E - D)) := ⟨_, rfl⟩
  obtain ⟨M, hM'⟩ : ∃ T, T = digs (den * 10 ^ (E - D)) := ⟨_, rfl⟩
  obtain ⟨c, hc⟩ : ∃ c, c = cmpN num (den * 10 ^ (E - D)) := ⟨_, rfl⟩
  obtain ⟨N, hN⟩ : ∃ L, L = digs num := ⟨_, rfl⟩
  obtain ⟨O, hO⟩ : ∃ O, O = digs den := ⟨_, rfl⟩
  rw [← hT'] at hT hM
  rw [← hM'] at hM hC
  rw [← hc] at hC
  rw [← hN] at hD1 hC ⊢
  rw [← hO] at hD2 hM ⊢
  obtain ⟨dd, hdd⟩ : ∃ dd : Int, dd = (E : Int) - D := ⟨_, rfl⟩
  rw [← hdd] at w6 w7 g1 hT q1 q2
  refine FnOk.of Tryz.func89 rfl rfl fun cx w0 => ?_
  rw [show Tryz.f89.ntmps = 41 from rfl]
  refine zs0 ?_
  refine zd3 [] (ρ := fun d => if d = 8 then [.v true (.int .i64 (E : Nat))] else [.v true (.int .i64 (D : Nat))]) (an w6 <| hdd.symm) (o := by repeat' first|exact hD1|exact hD2|trivial|constructor) (k := ?_)
  refine zd0 [] ?_
  refine Holds.seq ?_
  refine zs1 g1 ?_
  refine Holds.condT rfl ?_
  refine zr2 (ρ := fun d => if d = 21 then [.v true (words T)] else [.v true (words M)]) (o := by repeat' first|exact hT|exact hM|trivial|constructor) (k := ?_)
  refine Holds.seq ?_
  rcases Nat.lt_or_ge num (den * 10 ^ (E - D)) with h | h
  ·have ha := isA_uniq hA (q2 h)
   subst ha
   have g2 : c < 0 := by rw [hc, cmpN, if_pos h]; omega
   have hF := hF (by omega)
   obtain ⟨ev, hev⟩ : ∃ ev, ev = dd - 1 := ⟨_, rfl⟩
   rw [← hev] at hF ⊢
   have w8 : dd - 1 + 0 = ev := by omega
   refine zs3 (ρ := fun _ => [.v true (.int .i64 c)]) g2 (o := by repeat' first|exact hC|trivial|constructor) (k := ?_)
   refine Holds.condT rfl ?_
   refine zr1 w7 ?_
   show Holds _ _ _ _ _ _ _
   refine zs3 (ρ := fun _ => [.v true (.int .i64 ev)]) w8 (o := by repeat' first|exact hF|trivial|constructor) (k := ?_)
   exact Holds.ret (RetOk.vs rfl (by exact ⟨⟨rfl, id⟩, trivial⟩) rfl)
  ·have ha := isA_uniq hA (q1 h)
   subst ha
   have g2 : ¬ c < 0 := by rw [hc, cmpN, if_neg (by omega)]; split <;> omega
   have hF := hF (by omega)
   have w8 : IntKind.i64.wrap (a + 0) = a := by rw [wrap_i64] <;> omega
   refine zs3 (ρ := fun _ => [.v true (.int .i64 c)]) g2 (o := by repeat' first|exact hC|trivial|constructor) (k := ?_)
   refine Holds.condF rfl (Holds.skip ?_)
   show Holds _ _ _ _ _ _ _
   refine zs3 (ρ := fun _ => [.v true (.int .i64 a)]) w8 (o := by repeat' first|exact hF|trivial|constructor) (k := ?_)
   exact Holds.ret (RetOk.vs rfl (by exact ⟨⟨rfl, id⟩, trivial⟩) rfl)
 ·have hTl := ten_len (k := D - E)
  have hT := rTen_ok (D - E) (by omega)
  have hM := rMul_ok (digs num) (digs (10 ^ (D - E))) (by omega) (by omega) (digs_ok _).1 (digs_ok _).1
  rw [(digs_ok num).2.2, (digs_ok (10 ^ (D - E))).2.2] at hM
  have l3 : (digs (num * 10 ^ (D - E))).length < 40000 := by
   have h3 : num * 10 ^ (D - E) < 2 ^ (B + (4 * (D - E) + 1)) := by rw [Nat.pow_add]; exact Nat.mul_lt_mul_of_lt_of_lt hnl (ten_lt _)
   exact Nat.lt_of_le_of_lt (digs_lenB h3 (n := 2000) (by omega)) (by decide)
  have hC := rCmp_ok (digs (num * 10 ^ (D - E))) (digs den) l3 (by omega) (digs_ok _).1 (digs_ok _).1
  rw [(digs_ok den).2.2, (digs_ok (num * 10 ^ (D - E))).2.2] at hC
  rw [show E - D = 0 from by omega, Nat.pow_zero, Nat.mul_one] at q1 q2
  have g1 : ¬ (0 : Int) < (E : Int) - D := by omega
  have wT : IntKind.i64.wrap (0 - ((E : Int) - D)) = ((D - E : Nat) : Int) := by rw [wrap_i64] <;> omega
  obtain ⟨T, hT'⟩ : ∃ T, T = digs (10 ^ (D - E)) := ⟨_, rfl⟩
  obtain ⟨M, hM'⟩ : ∃ T, T = digs (num * 10 ^ (D - E)) := ⟨_, rfl⟩
  obtain ⟨c, hc⟩ : ∃ c, c = cmpN (num * 10 ^ (D - E)) den := ⟨_, rfl⟩
  obtain ⟨N, hN⟩ : ∃ L, L = digs num := ⟨_, rfl⟩
  obtain ⟨O, hO⟩ : ∃ O, O = digs den := ⟨_, rfl⟩
  rw [← hT'] at hT hM
  rw [← hM'] at hM hC
  rw [← hc] at hC
  rw [← hN] at hD1 hM ⊢
  rw [← hO] at hD2 hC ⊢
  obtain ⟨tt, htt⟩ : ∃ tt : Int, tt = ((D - E : Nat) : Int) := ⟨_, rfl⟩
  rw [← htt] at wT hT
  obtain ⟨dd, hdd⟩ : ∃ dd : Int, dd = (E : Int) - D := ⟨_, rfl⟩
  rw [← hdd] at w6 w7 g1 wT q1 q2
  refine FnOk.of Tryz.func89 rfl rfl fun cx w0 => ?_
  rw [show Tryz.f89.ntmps = 41 from rfl]
  refine zs0 ?_
  refine zd3 [] (ρ := fun d => if d = 8 then [.v true (.int .i64 (E : Nat))] else [.v true (.int .i64 (D : Nat))]) (an w6 <| hdd.symm) (o := by repeat' first|exact hD1|exact hD2|trivial|constructor) (k := ?_)
  refine zd0 [] ?_
  refine Holds.seq ?_
  refine zs1 g1 ?_
  refine Holds.condF rfl ?_
  refine zr3 (ρ := fun d => if d = 26 then [.v true (words T)] else [.v true (words M)]) wT (o := by repeat' first|exact hT|exact hM|trivial|constructor) (k := ?_)
  refine Holds.seq ?_
  rcases Nat.lt_or_ge (num * 10 ^ (D - E)) den with h | h
  ·have ha := isA_uniq hA (q2 h)
   subst ha
   have g2 : c < 0 := by rw [hc, cmpN, if_pos h]; omega
   have hF := hF (by omega)
   obtain ⟨ev, hev⟩ : ∃ ev, ev = dd - 1 := ⟨_, rfl⟩
   rw [← hev] at hF ⊢
   have w8 : dd - 1 + 0 = ev := by omega
   refine zs3 (ρ := fun _ => [.v true (.int .i64 c)]) g2 (o := by repeat' first|exact hC|trivial|constructor) (k := ?_)
   refine Holds.condT rfl ?_
   refine zr1 w7 ?_
   show Holds _ _ _ _ _ _ _
   refine zs3 (ρ := fun _ => [.v true (.int .i64 ev)]) w8 (o := by repeat' first|exact hF|trivial|constructor) (k := ?_)
   exact Holds.ret (RetOk.vs rfl (by exact ⟨⟨rfl, id⟩, trivial⟩) rfl)
  ·have ha := isA_uniq hA (q1 h)
   subst ha
   have g2 : ¬ c < 0 := by rw [hc, cmpN, if_neg (by omega)]; split <;> omega
   have hF := hF (by omega)
   have w8 : IntKind.i64.wrap (a + 0) = a := by rw [wrap_i64] <;> omega
   refine zs3 (ρ := fun _ => [.v true (.int .i64 c)]) g2 (o := by repeat' first|exact hC|trivial|constructor) (k := ?_)
   refine Holds.condF rfl (Holds.skip ?_)
   show Holds _ _ _ _ _ _ _
   refine zs3 (ρ := fun _ => [.v true (.int .i64 a)]) w8 (o := by repeat' first|exact hF|trivial|constructor) (k := ?_)
   exact Holds.ret (RetOk.vs rfl (by exact ⟨⟨rfl, id⟩, trivial⟩) rfl)
def stM (num : Nat) (s : Int) : Nat := num * 10 ^ (-s).toNat
def stD (den : Nat) (s : Int) : Nat := den * 10 ^ s.toNat
def stV (num den : Nat) (s : Int) : V := partV (2 * stM num s / stD den s / 2) (decide (2 * stM num s / stD den s % 2 = 1)) (decide (2 * stM num s % stD den s ≠ 0))
set_option maxHeartbeats 2000000 in
theorem rStepsG_ok (neg : Bool) (num den B : Nat) (s : Int) (hB : B ≤ 17000) (hn : 0 < num) (hd : 0 < den) (hnl : num < 2 ^ B) (hdl : den < 2 ^ B) (hs : -8000 < s ∧ s < 8000) :
 FnOk Tryz.prog 90 [.v (realQ neg num den), .v (.int .i64 s)] [.v true (stV num den s)] := by
 have l1 := digs_lenB (n := 300) hnl (by omega)
 have l2 := digs_lenB (n := 300) hdl (by omega)
 have hL := Left_ok (digs num) 1 (by omega) (by omega) (digs_ok _).1
 rw [(digs_ok _).2.2, Nat.pow_one, Nat.mul_comm num 2] at hL
 have h2m : 2 * num < 2 ^ (B + 1) := by rw [Nat.pow_succ]; omega
 have l3 := digs_lenB (n := 300) h2m (by omega)
 have hL : FnOk Tryz.prog 74 [.v (words (digs num)), .v (.int .i64 1)] [.v true (words (digs (2 * num)))] := hL
 have w1 : IntKind.i64.wrap (1 * s) = s := by rw [wrap_i64] <;> omega
 have w1' : IntKind.i64.wrap s = s := by rw [wrap_i64] <;> omega
 have w2 : IntKind.i64.wrap (0 - s) = -s := by rw [wrap_i64] <;> omega
 have tail : ∀ (M D C : Nat), C ≤ 33000 → 0 < D → M < 2 ^ (B + C) → (digs D).length ≤ 900 → ∃ (P Z N : List Int) (b z : Bool), FnOk Tryz.prog 147 [.v (words (digs M)), .v (words (digs D))] [.v true (words P), .v true (words Z)] ∧ FnOk Tryz.prog 95 [.v (words Z)] [.v true (.bool z)] ∧
  FnOk Tryz.prog 158 [.v (words P), .v (.int .i64 1)] [.v true (words N)] ∧ FnOk Tryz.prog 173 [.v (words P), .v (.int .i64 0)] [.v true (.bool b)] ∧ N = digs (M / D / 2) ∧ b = decide (M / D % 2 = 1) ∧ (!z) = decide (M % D ≠ 0) := fun M D C hC hD hM hDl => by
  have lM := digs_lenB (n := 900) hM (by omega)
  have hDM := rDivMod_ok (digs M) (digs D) (by omega) (by omega) (digs_ok _).1 (digs_ok _).1 (by rw [(digs_ok _).2.2]; exact hD)
  rw [(digs_ok M).2.2, (digs_ok D).2.2] at hDM
  have hql := digs_mono (Nat.div_le_self M D)
  have hrl := digs_mono (Nat.mod_le M D)
  have hZ := IsZero_ok (digs (M % D)) (by omega) (digs_ok _).1
  rw [(digs_ok _).2.2] at hZ
  have hR := rRight1_ok (digs (M / D)) 1 (by omega) (by omega) (digs_ok _).1
  rw [(digs_ok _).2.2, Nat.pow_one] at hR
  have hBt := rBit_ok (digs (M / D)) 0 (by omega) (by omega) (digs_ok _).1
  rw [(digs_ok _).2.2, bit_zero] at hBt
  exact ⟨_, _, _, _, _, hDM, hZ, hR, hBt, rfl, rfl, by by_cases h : M % D = 0 <;> simp [h]⟩
 unfold stV
 by_cases h0 : s ≤ 0
 ·-- a power of 10 to the numerator
  have eD : stD den s = den := by unfold stD; rw [show s.toNat = 0 from by omega, Nat.pow_zero, Nat.mul_one]
  have hT := rTen_ok (-s).toNat (by omega)
  have hTl := ten_len (k := (-s).toNat)
  have hM := rMul_ok (digs (2 * num)) (digs (10 ^ (-s).toNat)) (by omega) (by omega) (digs_ok _).1 (digs_ok _).1
  rw [(digs_ok _).2.2, (digs_ok (10 ^ (-s).toNat)).2.2, show 2 * num * 10 ^ (-s).toNat = 2 * stM num s from Nat.mul_assoc _ _ _] at hM
  have hMl : 2 * stM num s < 2 ^ (B + (1 + (4 * (-s).toNat + 1))) := by
   have h1 : 2 * num * 10 ^ (-s).toNat < 2 ^ (B + 1 + (4 * (-s).toNat + 1)) := by rw [Nat.pow_add _ (B + 1)]; exact Nat.mul_lt_mul_of_lt_of_lt h2m (ten_lt _)
   rw [show 2 * num * 10 ^ (-s).toNat = 2 * stM num s from Nat.mul_assoc _ _ _] at h1
   rw [Nat.add_assoc] at h1
   exact h1
  rw [eD]
  obtain ⟨P, Z, N, b, z, c1, c2, c3, c4, c5, c6, c7⟩ := tail (2 * stM num s) den _ (by omega) hd hMl (by omega)
  rw [← c6, ← c7]
  unfold partV realQ
  rw [← c5]
  rw [show (((-s).toNat : Nat) : Int) = -s from by omega] at hT
  obtain ⟨A, hA⟩ : ∃ M, M = digs num := ⟨_, rfl⟩
  obtain ⟨A2, hA2⟩ : ∃ M, M = digs (2 * num) := ⟨_, rfl⟩
  obtain ⟨T, hT'⟩ : ∃ T, T = digs (10 ^ (-s).toNat) := ⟨_, rfl⟩
  obtain ⟨M, hM'⟩ : ∃ T, T = digs (2 * stM num s) := ⟨_, rfl⟩
  obtain ⟨O, hO⟩ : ∃ O, O = digs den := ⟨_, rfl⟩
  rw [← hA, ← hA2] at hL
  rw [← hA2, ← hT', ← hM'] at hM
  rw [← hT'] at hT
  rw [← hM', ← hO] at c1
  rw [← hA, ← hO]
  obtain ⟨k, hk⟩ : ∃ k : Int, k = -s := ⟨_, rfl⟩
  rw [← hk] at w2 hT
  have g0 : (0 : Int) ≤ k := by omega
  clear hA hA2 hT' hM' hO tail c5 c6 c7
  refine FnOk.of Tryz.func90 rfl rfl fun cx w0 => ?_
  rw [show Tryz.f90.ntmps = 81 from rfl]
  refine zs0 ?_
  refine zs1 (an Int.one_mul <| an w1' <| w2) ?_
  refine zd2 [] (ρ := fun _ => [.v true (words A2)]) (o := by repeat' first|exact hL|trivial|constructor) (k := ?_)
  refine Holds.seq ?_
  refine Holds.block ?_
  refine zs1 g0 ?_
  refine Holds.condT rfl ?_
  refine zr2 (ρ := fun d => if d = 36 then [.v true (words T)] else [.v true (words M)]) (o := by repeat' first|exact hT|exact hM|trivial|constructor) (k := ?_)
  show Holds _ _ _ _ _ _ _
  refine zs2 (ρ := fun _ => [.v true (words P), .v true (words Z)]) (o := by repeat' first|exact c1|trivial|constructor) (k := ?_)
  refine zs2 (ρ := fun _ => [.v true (.bool z)]) (o := by repeat' first|exact c2|trivial|constructor) (k := ?_)
  refine Holds.seq ?_
  refine zs0 ?_
  refine Holds.condF rfl (Holds.skip ?_)
  refine zs2 (ρ := fun d => if d = 75 then [.v true (words N)] else [.v true (.bool b)]) (o := by repeat' first|exact c3|exact c4|trivial|constructor) (k := ?_)
  exact Holds.ret (RetOk.vs rfl (by exact ⟨⟨rfl, id⟩, trivial⟩) rfl)
 ·have eM : stM num s = num := by unfold stM; rw [show (-s).toNat = 0 from by omega, Nat.pow_zero, Nat.mul_one]
  obtain ⟨k, hk⟩ : ∃ k : Nat, s = k := ⟨s.toNat, by omega⟩
  have eD : stD den s = den * 10 ^ k := by unfold stD; rw [show s.toNat = k from by omega]
  rw [eM, eD]
  obtain ⟨E, hE⟩ := hasD_ex (2 * num) (by omega)
  obtain ⟨D, hD⟩ := hasD_ex den hd
  have hEB := hasD_lt2 hE h2m
  have hDB := hasD_lt2 hD hdl
  have hD1 := rDigitsG_ok (digs (2 * num)) E (by omega) (digs_ok _).1 (by rw [(digs_ok _).2.2]; exact hE) (by rw [(digs_ok _).2.2]; have := bl_lt h2m; omega) (by omega)
  have hD2 := rDigitsG_ok (digs den) D (by omega) (digs_ok _).1 (by rw [(digs_ok _).2.2]; exact hD) (by rw [(digs_ok _).2.2]; have := bl_lt hdl; omega) (by omega)
  have g0 : ¬ (0 : Int) ≤ -s := by omega
  have w3 : IntKind.i64.wrap ((D : Int) - -s) = (D : Int) + k := by rw [wrap_i64] <;> omega
  have w4 : IntKind.i64.wrap ((D : Int) + k - 1) = (D : Int) + k - 1 := by rw [wrap_i64] <;> omega
  have w5 : IntKind.i64.wrap (0 - -s) = (k : Int) := by rw [wrap_i64] <;> omega
  have hp : 0 < 10 ^ k := Nat.pow_pos (by decide)
  by_cases hsm : (E : Int) < (D : Int) + k - 1
  ·have hz : 2 * num < den * 10 ^ k := by
    have h1 : 10 ^ (D - 1 + k) ≤ den * 10 ^ k := by rw [Nat.pow_add]; exact Nat.mul_le_mul_right _ hD.2.1
    have h2 : 10 ^ E ≤ 10 ^ (D - 1 + k) := Nat.pow_le_pow_right (by decide) (by have := hD.1; omega)
    have := hE.2.2
    omega
   rw [Nat.div_eq_of_lt hz, Nat.mod_eq_of_lt hz, decide_eq_true (show 2 * num ≠ 0 by omega)]
   rw [show partV (0 / 2) (decide (0 % 2 = 1)) true = .agg [.sl 1 [], .bool false, .bool true] from rfl]
   unfold realQ
   obtain ⟨A, hA⟩ : ∃ M, M = digs num := ⟨_, rfl⟩
   obtain ⟨A2, hA2⟩ : ∃ M, M = digs (2 * num) := ⟨_, rfl⟩
   obtain ⟨O, hO⟩ : ∃ O, O = digs den := ⟨_, rfl⟩
   rw [← hA, ← hA2] at hL
   rw [← hA2] at hD1
   rw [← hO] at hD2
   rw [← hA, ← hO]
   obtain ⟨q, hq⟩ : ∃ q : Int, q = -s := ⟨_, rfl⟩
   rw [← hq] at w2 w3 w5 g0
   clear hA hA2 hO tail hz hp w5 eM eD
   refine FnOk.of Tryz.func90 rfl rfl fun cx w0 => ?_
   rw [show Tryz.f90.ntmps = 81 from rfl]
   refine zs0 ?_
   refine zs1 (an Int.one_mul <| an w1' <| w2) ?_
   refine zd2 [] (ρ := fun _ => [.v true (words A2)]) (o := by repeat' first|exact hL|trivial|constructor) (k := ?_)
   refine Holds.seq ?_
   refine Holds.block ?_
   refine zs1 g0 ?_
   refine Holds.condF rfl ?_
   refine zs3 (ρ := fun d => if d = 40 then [.v true (.int .i64 E)] else [.v true (.int .i64 D)]) (an w3 <| an w4 <| hsm) (o := by repeat' first|exact hD1|exact hD2|trivial|constructor) (k := ?_)
   refine Holds.condT rfl ?_
   refine zs0 ?_
   exact Holds.ret (RetOk.vs rfl (by exact ⟨⟨rfl, id⟩, trivial⟩) rfl)
  ·have hT := rTen_ok k (by omega)
   have hTl := ten_len (k := k)
   have hM := rMul_ok (digs den) (digs (10 ^ k)) (by omega) (by omega) (digs_ok _).1 (digs_ok _).1
   rw [(digs_ok den).2.2, (digs_ok (10 ^ k)).2.2] at hM
   have hDl : (digs (den * 10 ^ k)).length ≤ 900 := by
    have h3 : den * 10 ^ k < 2 ^ (B + (4 * k + 1)) := by rw [Nat.pow_add]; exact Nat.mul_lt_mul_of_lt_of_lt hdl (ten_lt _)
    exact digs_lenB h3 (by omega)
   obtain ⟨P, Z, N, b, z, c1, c2, c3, c4, c5, c6, c7⟩ := tail (2 * num) (den * 10 ^ k) 1 (by omega) (Nat.mul_pos hd hp) h2m hDl
   rw [← c6, ← c7]
   unfold partV realQ
   rw [← c5]
   obtain ⟨A, hA⟩ : ∃ M, M = digs num := ⟨_, rfl⟩
   obtain ⟨A2, hA2⟩ : ∃ M, M = digs (2 * num) := ⟨_, rfl⟩
   obtain ⟨T, hT'⟩ : ∃ T, T = digs (10 ^ k) := ⟨_, rfl⟩
   obtain ⟨M, hM'⟩ : ∃ T, T = digs (den * 10 ^ k) := ⟨_, rfl⟩
   obtain ⟨O, hO⟩ : ∃ O, O = digs den := ⟨_, rfl⟩
   rw [← hA, ← hA2] at hL
   rw [← hO, ← hT', ← hM'] at hM
   rw [← hT'] at hT
   rw [← hA2] at hD1
   rw [← hO] at hD2
   rw [← hA2, ← hM'] at c1
   rw [← hA, ← hO]
   obtain ⟨q, hq⟩ : ∃ q : Int, q = -s := ⟨_, rfl⟩
   rw [← hq] at w2 w3 w5 g0
   clear hA hA2 hT' hM' hO tail c5 c6 c7 eM eD
   refine FnOk.of Tryz.func90 rfl rfl fun cx w0 => ?_
   rw [show Tryz.f90.ntmps = 81 from rfl]
   refine zs0 ?_
   refine zs1 (an Int.one_mul <| an w1' <| w2) ?_
   refine zd2 [] (ρ := fun _ => [.v true (words A2)]) (o := by repeat' first|exact hL|trivial|constructor) (k := ?_)
   refine Holds.seq ?_
   refine Holds.block ?_
   refine zs1 g0 ?_
   refine Holds.condF rfl ?_
   refine zs3 (ρ := fun d => if d = 40 then [.v true (.int .i64 E)] else [.v true (.int .i64 D)]) (an w3 <| an w4 <| hsm) (o := by repeat' first|exact hD1|exact hD2|trivial|constructor) (k := ?_)
   refine Holds.condF rfl ?_
   refine zr3 (ρ := fun d => if d = 29 then [.v true (words T)] else [.v true (words M)]) w5 (o := by repeat' first|exact hT|exact hM|trivial|constructor) (k := ?_)
   show Holds _ _ _ _ _ _ _
   refine zs2 (ρ := fun _ => [.v true (words P), .v true (words Z)]) (o := by repeat' first|exact c1|trivial|constructor) (k := ?_)
   refine zs2 (ρ := fun _ => [.v true (.bool z)]) (o := by repeat' first|exact c2|trivial|constructor) (k := ?_)
   refine Holds.seq ?_
   refine zs0 ?_
   refine Holds.condF rfl (Holds.skip ?_)
   refine zs2 (ρ := fun d => if d = 75 then [.v true (words N)] else [.v true (.bool b)]) (o := by repeat' first|exact c3|exact c4|trivial|constructor) (k := ?_)
   exact Holds.ret (RetOk.vs rfl (by exact ⟨⟨rfl, id⟩, trivial⟩) rfl)
theorem st_round {r : Nat} {neg : Bool} {num den : Nat} {s : Int} (hd : 0 < den) : rrN r neg (2 * stM num s / stD den s / 2) (decide (2 * stM num s / stD den s % 2 = 1)) (decide (2 * stM num s % stD den s ≠ 0)) = upN r neg (ctA num den s) (cxA num den s) ∧
 (decide (2 * stM num s / stD den s % 2 = 1) = false ∧ decide (2 * stM num s % stD den s ≠ 0) = false ↔ cxA num den s = 0) := by
 have h := rr_eq (r := r) (neg := neg) (m := stM num s) (d := stD den s) (Nat.mul_pos hd (Nat.pow_pos (by decide)))
 refine ⟨h.1, h.2.trans ?_⟩
 unfold cxA
 exact rstN_zero.symm
structure FlOne (k P : Int) (neg : Bool) (e : Int) (l : List Int) (K p : Nat) (m : Nat) (ex u : Int) (n : Nat) (a : Int) : Prop where
 hk : k = ((K + 1 : Nat) : Int)
 hp : P = (p : Int)
 cn : cnV 1 neg e (val l) = fltV 1 neg ex m
 sh : ShH K p m ex u n a
 tr : trN m = 0
 ho : hoI K p ex m = true
theorem flOne {k P : Int} {okr neg : Bool} {e : Int} {l : List Int} (h : nuE k P okr 1 neg e l = 0) : ∃ K p m ex u n a, FlOne k P neg e l K p m ex u n a := by
 obtain ⟨hf, _, _, hc, hh⟩ := nu_one h
 have hh := hh rfl
 obtain ⟨h1, _, h3⟩ := cn_one hc
 obtain ⟨v0, e1, e2, e3⟩ := h3 rfl
 obtain ⟨⟨f1, f2⟩, f3, f4⟩ := hf
 have hm : 0 < cnM 1 e (val l) := by
  rw [e2]
  obtain ⟨c, hc⟩ := trN_ok v0
  exact Nat.div_pos (by
   have : 2 ^ trN (val l) * 1 ≤ val l := by
    conv => rhs; rw [hc]
    rw [Nat.mul_comm]
    exact Nat.mul_le_mul_right _ (by omega)
   omega) (Nat.pow_pos (by decide))
 obtain ⟨u, n, a, hs⟩ := hoI_sh (K := (k - 1).toNat) (p := P.toNat) (by omega) (by omega) hh hm
 refine ⟨(k - 1).toNat, P.toNat, cnM 1 e (val l), cnE 1 e (val l), u, n, a, by omega, by omega, ?_, hs, ?_, hh⟩
 ·unfold cnV
  rw [← h1.1 rfl, e3]
 ·rw [e2]
  obtain ⟨c, hc⟩ := trN_ok v0
  have hp : 0 < 2 ^ trN (val l) := Nat.pow_pos (by decide)
  exact trN_of (c := c) (by rw [Nat.div_eq_of_eq_mul_left hp hc, Nat.pow_zero, Nat.mul_one])
theorem okr_of {r n lo hi : Int} (h : (decide (0 ≤ r ∧ r ≤ 4) && !outB n lo hi) = true) : (0 ≤ r ∧ r ≤ 4) ∧ lo ≤ n ∧ n ≤ hi := by
 rw [Bool.and_eq_true, decide_eq_true_eq, Bool.not_eq_true'] at h
 obtain ⟨h1, h2⟩ := h
 have := of_decide_eq_false h2
 exact ⟨h1, by omega, by omega⟩
structure FlAny (k P : Int) (kd : Int) (neg : Bool) (e : Int) (l : List Int) (m : Nat) (ex : Int) : Prop where
 kd3 : 0 ≤ kd ∧ kd ≤ 3
 nan : kd = 3 → neg = false
 cn : cnV kd neg e (val l) = fltW kd neg ex (digs m)
 mB : m < 2 ^ 256
 ex' : -16640 ≤ ex ∧ ex ≤ 16384
 z : kd ≠ 1 → ex = 0 ∧ m = 0
theorem flAny {k P : Int} {okr neg : Bool} {kd e : Int} {l : List Int} (h : nuE k P okr kd neg e l = 0) : ∃ m ex, FlAny k P kd neg e l m ex ∧ (kd = 1 → ∃ K p u n a, FlOne k P neg e l K p m ex u n a) := by
 by_cases h1 : kd = 1
 ·subst h1
  obtain ⟨K, p, m, ex, u, n, a, hf⟩ := flOne h
  exact ⟨m, ex, ⟨by omega, fun h => by omega, hf.cn, hf.sh.fl.mB, ⟨hf.sh.fl.lo, hf.sh.fl.hi⟩, fun h => absurd rfl h⟩, fun _ => ⟨K, p, u, n, a, hf⟩⟩
 ·refine ⟨0, 0, ?_, fun h => absurd h h1⟩
  obtain ⟨_, _, _, hc, _⟩ := nu_one h
  have hc' := hc
  unfold cnB at hc'
  have hkd : 0 ≤ kd ∧ kd ≤ 3 := by
   by_cases a1 : kd = 0 ∨ kd = 2
   ·omega
   ·rw [if_neg a1] at hc'
    by_cases a2 : kd = 3
    ·omega
    ·rw [if_neg a2, if_neg h1] at hc'
     cases hc'
  have hnan : kd = 3 → neg = false := fun h3 => by
   rw [if_neg (by omega), if_pos h3] at hc'
   cases neg
   ·rfl
   ·cases hc'
  refine ⟨hkd, hnan, ?_, by decide, by omega, fun _ => ⟨rfl, rfl⟩⟩
  have k1 : cnE kd e (val l) = 0 := if_neg (fun h => h1 h.1)
  have k2 : cnM kd e (val l) = 0 := if_neg (fun h => h1 h.1)
  unfold cnV
  rw [k1, k2, fltW_eq]
  unfold cnK cnN
  by_cases a1 : kd = 0 ∨ kd = 2
  ·rw [if_pos a1, if_pos a1, show ((kd.toNat : Nat) : Int) = kd from by omega]
  ·rw [if_neg a1, if_neg a1]
   have a2 : kd = 3 := by omega
   rw [if_pos a2, if_pos a2, hnan a2, a2]
   rfl
def plK (r : Nat) (neg : Bool) (m : Nat) (ex : Int) (n : Nat) : Nat := upN r neg (ctA (fNum m ex) (fDen ex) (-(n : Int))) (cxA (fNum m ex) (fDen ex) (-(n : Int)))
def plL (r : Nat) (neg : Bool) (kd : Int) (m : Nat) (ex : Int) (n : Nat) : List UInt8 := if kd = 3 ∨ kd = 2 then spL kd neg else smL neg (ptL (decG (plK r neg m ex n)) n)
def plB (kd : Int) (m : Nat) (ex : Int) (n : Nat) : Bool := if kd = 3 ∨ kd = 2 then true else decide (cxA (fNum m ex) (fDen ex) (-(n : Int)) = 0)
theorem ctA_lt {num den B : Nat} {s : Int} (h : num < 2 ^ B) : ctA num den s < 2 ^ (B + (4 * (-s).toNat + 1)) := by
 unfold ctA
 refine Nat.lt_of_le_of_lt (Nat.div_le_self _ _) ?_
 rw [Nat.pow_add]
 exact Nat.mul_lt_mul_of_lt_of_lt h (ten_lt _)
theorem upN_digs {r : Nat} {neg : Bool} {q B n : Nat} {x : Int} (h : q < 2 ^ B) (hn : B + 1 ≤ 64 * n) : upN r neg q x < 2 ^ (B + 1) ∧ (digs (upN r neg q x)).length ≤ n := by
 have h1 := (upN_le r neg q x).2
 have h2 : 2 ^ (B + 1) = 2 * 2 ^ B := by rw [Nat.pow_succ, Nat.mul_comm]
 have h3 : upN r neg q x < 2 ^ (B + 1) := by omega
 exact ⟨h3, digs_lenB h3 hn⟩
theorem dec_len {k B : Nat} (h : k < 2 ^ B) (hB : 1 ≤ B) : (decG k).length ≤ B := by
 rcases Nat.eq_zero_or_pos k with h0 | h0
 ·rw [h0]; exact hB
 ·obtain ⟨D, hD⟩ := hasD_ex k h0
  rw [decG_len hD]
  exact hasD_lt2 hD h
theorem pl_bd {k P kd : Int} {neg : Bool} {e : Int} {l : List Int} {m : Nat} {ex : Int} (h : FlAny k P kd neg e l m ex) (r : Nat) (ng : Bool) {n : Nat} (hn : n ≤ 1200) : (digs (plK r ng m ex n)).length ≤ 340 ∧ (decG (plK r ng m ex n)).length ≤ 21452 := by
 obtain ⟨B, hB⟩ : ∃ B, B = 16641 := ⟨_, rfl⟩
 have h1 := ctA_lt (den := fDen ex) (s := -(n : Int)) (fNum_lt (B := B) h.mB h.ex'.2 (by omega))
 have h2 : ctA (fNum m ex) (fDen ex) (-(n : Int)) < 2 ^ (B + 4810) := Nat.lt_of_lt_of_le h1 (Nat.pow_le_pow_right (by decide) (by omega))
 obtain ⟨h3, h4⟩ := upN_digs (r := r) (neg := ng) (x := cxA (fNum m ex) (fDen ex) (-(n : Int))) h2 (n := 340) (by omega)
 have h5 := dec_len h3 (by omega)
 exact ⟨h4, by unfold plK; omega⟩
theorem pPlaces_err (k P r kd e n : Int) (neg : Bool) (l : List Int) (hl : l.length < 5000) (ol : okW l) (he : -9223372036854775808 ≤ e ∧ e < 9223372036854775808) (hE : nuE k P (decide (0 ≤ r ∧ r ≤ 4) && !outB n 0 1200) kd neg e l ≠ 0) :
 FnOk Tryz.prog 23 [.v (fmtV k P), .v (.int .i64 r), .v (fltW kd neg e l), .v (.int .i64 n)] [.v true (.str ⟨#[]⟩), .v true (.bool false), .v true (.int .i64 (nuE k P (decide (0 ≤ r ∧ r ≤ 4) && !outB n 0 1200) kd neg e l))] := by
 have hN := number_ok k P r (outB n 0 1200) kd neg e l hl ol he
 unfold nuV at hN
 rw [if_neg hE] at hN
 exact Places_gen k P r kd e 0 0 _ n neg false false _ [] _ hN (fun _ => ⟨rfl, rfl⟩) (fun h => absurd h hE) (fun h => absurd h hE)
theorem pPlaces_ok (k P kd : Int) (r n : Nat) (e : Int) (neg : Bool) (l : List Int) (hl : l.length < 5000) (ol : okW l) (he : -9223372036854775808 ≤ e ∧ e < 9223372036854775808) {m : Nat} {ex : Int} (hr : r ≤ 4) (hn : n ≤ 1200)
 (hE : nuE k P (decide ((0 : Int) ≤ r ∧ (r : Int) ≤ 4) && !outB n 0 1200) kd neg e l = 0) (h1 : FlAny k P kd neg e l m ex) :
 FnOk Tryz.prog 23 [.v (fmtV k P), .v (.int .i64 r), .v (fltW kd neg e l), .v (.int .i64 n)] [.v true (.str (bs (plL r neg kd m ex n))), .v true (.bool (plB kd m ex n)), .v true (.int .i64 0)] := by
 have hN := number_ok k P r (outB n 0 1200) kd neg e l hl ol he
 unfold nuV at hN
 rw [if_pos hE, hE, h1.cn] at hN
 refine Places_gen k P r kd e kd ex 0 n neg neg _ _ _ _ hN (fun h => absurd rfl h) (fun _ h => ?_) (fun _ h => ?_)
 ·unfold plL plB
  rw [if_pos h, if_pos h]
  exact ⟨rfl, rfl⟩
 ·unfold plL plB
  rw [if_neg h, if_neg h]
  obtain ⟨b1, b2⟩ := pl_bd h1 r neg hn
  obtain ⟨B, hBe⟩ : ∃ B, B = 16641 := ⟨_, rfl⟩
  have hnl := fNum_lt (B := B) h1.mB h1.ex'.2 (by omega)
  have hdl := fDen_lt (B := B) h1.ex'.1 (by omega)
  have hR := ratio_ok kd neg ex m n h1.mB (by have := h1.ex'; omega) (by omega)
  have cut := cutA_eq (num := fNum m ex) (den := fDen ex) (i := ((n : Int)).toNat) (j := (-(n : Int)).toNat) (s := -(n : Int)) (by omega)
  have hmB : ∀ {v t}, v < 2 ^ B → t ≤ 7000 → (digs (v * 10 ^ t)).length < 1000 := fun {v t} hv ht => by
   have h1 : v * 10 ^ t < 2 ^ (B + (4 * t + 1)) := by rw [Nat.pow_add]; exact Nat.mul_lt_mul_of_lt_of_lt hv (ten_lt t)
   exact Nat.lt_of_le_of_lt (digs_lenB h1 (n := 900) (by omega)) (by decide)
  have hQ := Quotient_ok r hr neg _ _ (hmB hnl (t := ((n : Int)).toNat) (by omega)) (hmB hdl (t := (-(n : Int)).toNat) (by omega)) (Nat.mul_pos (fDen_pos ex) (Nat.pow_pos (by decide)))
  rw [cut.1, cut.2] at hQ
  have hD := wDecimal_ok (digs (plK r neg m ex n)) (by omega) (digs_ok _).1
  rw [(digs_ok (plK r neg m ex n)).2.2] at hD
  have hP := sPoint_ok (decG (plK r neg m ex n)) n (by omega) (by omega)
  have hl := ptL_len (decG (plK r neg m ex n)) n
  have hM := sMinus_ok neg (ptL (decG (plK r neg m ex n)) n) (by omega)
  exact ⟨_, _, _, _, _, hR, hQ, hD, hP, hM⟩
def scL (r : Nat) (neg : Bool) (kd : Int) (m : Nat) (ex a : Int) (n : Nat) : List UInt8 :=
 if kd = 3 ∨ kd = 2 then spL kd neg else if kd = 1 then smL neg (oneL (rdL r neg m ex a (n + 1)) ++ 101 :: sgL (rdE r neg m ex a (n + 1)) 2) else smL neg (oneL (z48 (n + 1)) ++ 101 :: sgL 0 2)
def scB (kd : Int) (m : Nat) (ex a : Int) (n : Nat) : Bool := if kd = 1 then decide (cxA (fNum m ex) (fDen ex) (a - (n + 1 : Nat) + 1) = 0) else true
theorem rdL_len {r : Nat} {neg : Bool} {m : Nat} {e a : Int} {n : Nat} (h : 1 ≤ n) (hA : IsA (fNum m e) (fDen e) a) : (rdL r neg m e a n).length = n := by
 have := (rd_len (r := r) (neg := neg) h hA).1
 unfold rdL
 rw [List.length_take]
 omega
theorem rdE_bd {r : Nat} {neg : Bool} {m : Nat} {e a : Int} {n : Nat} (h : 1 ≤ n) (hA : IsA (fNum m e) (fDen e) a) : a ≤ rdE r neg m e a n ∧ rdE r neg m e a n ≤ a + 1 := by
 have := (rd_len (r := r) (neg := neg) h hA).2
 unfold rdE
 omega
theorem pScience_err (k P r kd e n : Int) (neg : Bool) (l : List Int) (hl : l.length < 5000) (ol : okW l) (he : -9223372036854775808 ≤ e ∧ e < 9223372036854775808) (hE : nuE k P (decide (0 ≤ r ∧ r ≤ 4) && !outB n 0 1199) kd neg e l ≠ 0) :
 FnOk Tryz.prog 24 [.v (fmtV k P), .v (.int .i64 r), .v (fltW kd neg e l), .v (.int .i64 n)] [.v true (.str ⟨#[]⟩), .v true (.bool false), .v true (.int .i64 (nuE k P (decide (0 ≤ r ∧ r ≤ 4) && !outB n 0 1199) kd neg e l))] := by
 have hN := number_ok k P r (outB n 0 1199) kd neg e l hl ol he
 unfold nuV at hN
 rw [if_neg hE] at hN
 exact Scientific_gen k P r kd e 0 0 _ n neg false false _ [] _ hN (fun _ => ⟨rfl, rfl⟩) (fun h => absurd h hE) (fun h => absurd h hE)
theorem pScience_ok (k P kd : Int) (r n : Nat) (e : Int) (neg : Bool) (l : List Int) (hl : l.length < 5000) (ol : okW l) (he : -9223372036854775808 ≤ e ∧ e < 9223372036854775808) {m : Nat} {ex a : Int} (hr : r ≤ 4) (hn : n ≤ 1199)
 (hE : nuE k P (decide ((0 : Int) ≤ r ∧ (r : Int) ≤ 4) && !outB n 0 1199) kd neg e l = 0) (h1 : FlAny k P kd neg e l m ex) (h2 : kd = 1 → FlB m ex ∧ IsA (fNum m ex) (fDen ex) a) :
 FnOk Tryz.prog 24 [.v (fmtV k P), .v (.int .i64 r), .v (fltW kd neg e l), .v (.int .i64 n)] [.v true (.str (bs (scL r neg kd m ex a n))), .v true (.bool (scB kd m ex a n)), .v true (.int .i64 0)] := by
 have hN := number_ok k P r (outB n 0 1199) kd neg e l hl ol he
 unfold nuV at hN
 rw [if_pos hE, hE, h1.cn] at hN
 have fin : ∀ (d : List UInt8) (x : Int), d.length ≤ 1200 → (-6000 ≤ x ∧ x ≤ 6000) → ∃ t1 t2 : ByteArray, FnOk Tryz.prog 84 [.v (.str (bs d))] [.v true (.str t1)] ∧ t1.size ≤ 10000 ∧ FnOk Tryz.prog 64 [.v (.int .i64 x), .v (.int .i64 2)] [.v true (.str t2)] ∧ t2.size ≤ 10000 ∧ FnOk Tryz.prog 51 [.v (.bool neg), .v (.str ((t1 ++ ⟨#[101]⟩) ++ t2))] [.v true (.str (bs (smL neg (oneL d ++ 101 :: sgL x 2))))] := fun d x hd hx => by
  have l1 := oneL_len d
  have l2 := sgL_len x 2 (by omega) (by decide)
  refine ⟨_, _, sOne_ok d (by omega), by rw [bs_size]; omega, signed_ok x 2 (by omega) (by decide), by rw [bs_size]; omega, ?_⟩
  have hM := sMinus_ok neg (oneL d ++ 101 :: sgL x 2) (by simp only [List.length_append, List.length_cons]; omega)
  rw [show (⟨#[101]⟩ : ByteArray) = bs [101] from rfl, bs_app, bs_app, List.append_assoc]
  exact hM
 refine Scientific_gen k P r kd e kd ex 0 n neg neg _ _ _ _ hN (fun h => absurd rfl h) (fun _ h => ?_) (fun _ => ⟨by omega, fun h => ?_⟩)
 ·unfold scL scB
  rw [if_pos h, if_neg (by omega)]
  exact ⟨rfl, rfl⟩
 ·by_cases hk : kd = 1
  ·obtain ⟨hB, hA⟩ := h2 hk
   have hR := rounded_ok r hr neg m ex a (n + 1) hB (by omega) hA
   have hab := hB.isA_bd hA
   have he2 := rdE_bd (r := r) (neg := neg) (n := n + 1) (by omega) hA
   obtain ⟨t1, t2, c1, c2, c3, c4, c5⟩ := fin (rdL r neg m ex a (n + 1)) (rdE r neg m ex a (n + 1)) (by rw [rdL_len (by omega) hA]; omega) (by omega)
   refine ⟨_, _, t1, t2, fun _ => ?_, fun h => absurd hk h, c1, c2, c3, c4, ?_⟩
   ·unfold scB
    rw [if_pos hk, hk]
    exact hR
   ·unfold scL
    rw [if_neg h, if_pos hk]
    exact c5
  ·obtain ⟨t1, t2, c1, c2, c3, c4, c5⟩ := fin (z48 (n + 1)) 0 (by rw [z48_len]; omega) (by omega)
   refine ⟨_, _, t1, t2, fun h => absurd h hk, fun _ => ⟨?_, rfl, ?_⟩, c1, c2, c3, c4, ?_⟩
   ·rw [show (n : Int) + 1 = ((n + 1 : Nat) : Int) from by omega, Int.toNat_natCast]
   ·unfold scB; rw [if_neg hk]
   ·unfold scL
    rw [if_neg h, if_neg hk]
    exact c5
def txR (z : Bool) (k w : Nat) : List Nat := if z = true then tdL k w else fxL k w
theorem txR_0 (z : Bool) (w : Nat) : txR z 0 w = [] := by unfold txR; split <;> rfl
theorem txR_s {z : Bool} {k w : Nat} (hk : 0 < k) (h : z = true → w ≠ 0) : txR z k w = (48 + w % 10) :: txR z (k - 1) (w / 10) := by
 unfold txR
 cases z with
 | true => rw [if_pos rfl, if_pos rfl, tdL_s hk (h rfl)]
 | false =>
   obtain ⟨j, rfl⟩ : ∃ j, k = j + 1 := ⟨k - 1, by omega⟩
   rw [if_neg (by simp), if_neg (by simp), fxL]
   rfl
theorem txR_z (k : Nat) : txR true k 0 = [] := by unfold txR; rw [if_pos rfl, tdL_0]
set_option maxHeartbeats 1000000 in
theorem txt_body {cx : Cx} {w0 : World} {i w : Nat} {Q T : List Int} {l : List Nat} (hi : i < 19) (hw : w < 10000000000000000000) (hll : l.length < 900000) {Q' : Exit → St → Prop}
 (hq : ∀ σ, (∀ a w', Rel cx w0 σ a w' → Rel cx w0 { nt := 73, env := [(8, .v true (.int .i64 (i + 1 : Nat))), (7, .v true (.int .u64 (w / 10 : Nat))), (5, .v true (words Q)), (4, .v true (words T)), (3, dsA (l ++ [48 + w % 10]))], mem := dsB (l ++ [48 + w % 10]) } a w') → Q' .normal σ) :
 Holds Tryz.prog none cx w0 (codeAt Tryz.f73 [1, 1, 1, 1, 0, 0, 0, 0, 1, 1, 0, 1, 0, 0, 1]) { nt := 73, env := [(8, .v true (.int .i64 i)), (7, .v true (.int .u64 w)), (5, .v true (words Q)), (4, .v true (words T)), (3, dsA l)], mem := dsB l } Q' := by
 have r1 : (w : Int).tmod 10 = ((w % 10 : Nat) : Int) := remN w 10
 have q1 : (w : Int).tdiv 10 = ((w / 10 : Nat) : Int) := quoN w 10
 have q2 : IntKind.u64.wrap ((w / 10 : Nat) : Int) = ((w / 10 : Nat) : Int) := by rw [wrap_u64]; omega
 have r2 : IntKind.u8.wrap ((w % 10 : Nat) : Int) = ((w % 10 : Nat) : Int) := by rw [wrap_u8]; omega
 have r3 : IntKind.u8.wrap (48 + ((w % 10 : Nat) : Int)) = ((48 + w % 10 : Nat) : Int) := by rw [wrap_u8]; omega
 have wk : IntKind.i64.wrap ((i : Int) + 1) = ((i + 1 : Nat) : Int) := by rw [wrap_i64] <;> omega
 have hXs := dsV_s l (48 + w % 10)
 obtain ⟨m1, hm1⟩ : ∃ m1, m1 = w / 10 := ⟨_, rfl⟩
 rw [← hm1] at q1 q2 hq
 obtain ⟨d, hd⟩ : ∃ d, d = 48 + w % 10 := ⟨_, rfl⟩
 rw [← hd] at r3 hXs hq
 obtain ⟨c, hc⟩ : ∃ c, c = w % 10 := ⟨_, rfl⟩
 rw [← hc] at r1 r2 r3
 have hXl := dsV_len l
 clear hm1 hd hc
 refine Holds.next (fun σ => ∀ a w', Rel cx w0 σ a w' → Rel cx w0 { nt := 73, env := [(8, .v true (.int .i64 i)), (7, .v true (.int .u64 m1)), (5, .v true (words Q)), (4, .v true (words T)), (3, dsA (l ++ [d]))], mem := dsB (l ++ [d]) } a w') ?_ ?_
 ·refine Holds.blockN ?_
  have hA : dsA (l ++ [d]) = .own 300 0 (l.length + 1) := by rw [dsA_c (by simp)]; simp
  have hBb : dsB (l ++ [d]) = [(300, .buf 5 1 true (dsV l ++ [.int .u8 d]))] := by rw [dsB_c (by simp), hXs]
  rw [hA, hBb]
  clear hq
  by_cases hne : l = []
  ·subst hne
   rw [dsA_n, dsB_n]
   refine zs1 (an r1 <| an r2 <| r3) ?_
   refine zr1 (an q1 <| q2) ?_
   intro a w h
   exact Rel.ren (s := 41) (s' := 300) (Rel.keep [8, 7, 5, 4, 3] [41] h) (by decide) rfl rfl
  ·rw [dsA_c hne, dsB_c hne]
   refine zs1 (an r1 <| an r2 <| an r3 <| hXl) ?_
   refine zr1 (an q1 <| q2) ?_
   intro a w h
   exact Rel.ren (s := 41) (s' := 300) (Rel.keep [8, 7, 5, 4, 3] [41] h) (by decide) rfl rfl
 ·intro σ hσ
  refine Holds.from hσ ?_
  clear hXs hXl r1 r2 r3 q1 q2 hσ
  refine zr1 wk ?_
  exact hq _ (fun a w h => Rel.less [8, 7, 5, 4, 3] (fun _ => rfl) h)
set_option maxHeartbeats 1000000 in
theorem txt_inner {cx : Cx} {w0 : World} {z : Bool} {Q T : List Int} {l : List Nat} {w : Nat} (hw : w < 10 ^ 19) (hll : l.length < 800000) (hZ : FnOk Tryz.prog 95 [.v (words Q)] [.v true (.bool z)]) {N' : St → Prop} :
 Holds Tryz.prog none cx w0 (codeAt Tryz.f73 [1, 1, 1, 1, 0, 0, 0, 0, 1, 1, 0, 1]) { nt := 73, env := [(8, .v true (.int .i64 0)), (7, .v true (.int .u64 w)), (5, .v true (words Q)), (4, .v true (words T)), (3, dsA l)], mem := dsB l }
  (NR (fun σ => ∀ a w', Rel cx w0 σ a w' → Rel cx w0 { nt := 73, env := [(5, .v true (words Q)), (4, .v true (words T)), (3, dsA (l ++ txR z 19 w))], mem := dsB (l ++ txR z 19 w) } a w') N') := by
 obtain ⟨L, hL⟩ : ∃ L, L = l ++ txR z 19 w := ⟨_, rfl⟩
 rw [← hL]
 refine Holds.loopB (fun q : Nat × Nat × List Nat => { nt := 73, env := [(8, .v true (.int .i64 q.1)), (7, .v true (.int .u64 q.2.1)), (5, .v true (words Q)), (4, .v true (words T)), (3, dsA q.2.2)], mem := dsB q.2.2 }) (fun q => q.1 ≤ 19 ∧ q.2.1 < 10 ^ (19 - q.1) ∧ q.2.2 ++ txR z (19 - q.1) q.2.1 = L ∧ q.2.2.length = l.length + q.1) (fun q => 19 - q.1) (0, w, l) ⟨Nat.zero_le _, hw, hL.symm, rfl⟩ (fun a w h => Rel.less [8, 7, 5, 4, 3] (fun _ => rfl) h) ?_
 rintro ⟨i, v, k⟩ ⟨hi, hv, hk, hlen⟩
 simp only at hi hv hk hlen
 show Holds _ _ _ _ _ { nt := 73, env := [(8, .v true (.int .i64 i)), (7, .v true (.int .u64 v)), (5, .v true (words Q)), (4, .v true (words T)), (3, dsA k)], mem := dsB k } _
 by_cases h19 : i = 19
 ·subst h19
  rw [Nat.sub_self, txR_0, List.append_nil] at hk
  have g : ¬ ((19 : Nat) : Int) < 19 := by omega
  refine Holds.seq ?_
  refine zs0 ?_
  refine Holds.condF rfl (Holds.exit ⟨rfl, fun a w h => ?_⟩)
  rw [← hk]
  exact Rel.less [5, 4, 3] (fun _ => rfl) h
 have g : (i : Int) < 19 := by omega
 have hvb : v < 10000000000000000000 := Nat.lt_of_lt_of_le hv (Nat.pow_le_pow_right (by decide) (Nat.sub_le 19 i))
 have next : (z = true → v ≠ 0) → ∀ σ, (∀ a w', Rel cx w0 σ a w' → Rel cx w0 { nt := 73, env := [(8, .v true (.int .i64 (i + 1 : Nat))), (7, .v true (.int .u64 (v / 10 : Nat))), (5, .v true (words Q)), (4, .v true (words T)), (3, dsA (k ++ [48 + v % 10]))], mem := dsB (k ++ [48 + v % 10]) } a w') →
  roundQ (fun q : Nat × Nat × List Nat => { nt := 73, env := [(8, .v true (.int .i64 q.1)), (7, .v true (.int .u64 q.2.1)), (5, .v true (words Q)), (4, .v true (words T)), (3, dsA q.2.2)], mem := dsB q.2.2 }) (fun q => q.1 ≤ 19 ∧ q.2.1 < 10 ^ (19 - q.1) ∧ q.2.2 ++ txR z (19 - q.1) q.2.1 = L ∧ q.2.2.length = l.length + q.1) (fun q => 19 - q.1) (i, v, k) cx w0 2 (fun σ => ∀ a w', Rel cx w0 σ a w' → Rel cx w0 { nt := 73, env := [(5, .v true (words Q)), (4, .v true (words T)), (3, dsA L)], mem := dsB L } a w') N' .normal σ := fun h0 σ hσ => by
  refine ⟨(i + 1, v / 10, k ++ [48 + v % 10]), ⟨by show i + 1 ≤ 19; omega, ?_, ?_, ?_⟩, (show 19 - (i + 1) < 19 - i by omega), hσ⟩
  ·show v / 10 < 10 ^ (19 - (i + 1))
   rw [show 19 - i = (19 - (i + 1)) + 1 from by omega, Nat.pow_succ] at hv
   exact Nat.div_lt_of_lt_mul (by omega)
  ·show (k ++ [48 + v % 10]) ++ txR z (19 - (i + 1)) (v / 10) = L
   rw [← hk, txR_s (by omega) h0, List.append_assoc]
   rfl
  ·show (k ++ [48 + v % 10]).length = l.length + (i + 1)
   simp only [List.length_append, List.length_cons, List.length_nil]
   omega
 rcases Nat.eq_zero_or_pos v with h0 | h0
 ·cases z with
  | true =>
    subst h0
    rw [txR_z, List.append_nil] at hk
    clear next
    refine Holds.seq ?_
    refine zs3 (ρ := fun _ => [.v true (.bool true)]) g (o := by repeat' first|exact hZ|trivial|constructor) (k := ?_)
    refine Holds.condF rfl (Holds.exit ⟨rfl, fun a w h => ?_⟩)
    rw [← hk]
    exact Rel.less [5, 4, 3] (fun _ => rfl) h
  | false =>
    have g2 : ¬ (0 : Int) < v := by omega
    have hb := txt_body (cx := cx) (w0 := w0) (Q := Q) (T := T) (show i < 19 by omega) hvb (show k.length < 900000 by omega) (next (fun h => by cases h))
    clear next hk hv
    refine Holds.seq ?_
    refine zs3 (ρ := fun _ => [.v true (.bool false)]) (an g <| g2) (o := by repeat' first|exact hZ|trivial|constructor) (k := ?_)
    refine Holds.condT rfl (Holds.skip ?_)
    exact Holds.from (fun a w h => Rel.less [8, 7, 5, 4, 3] (fun _ => rfl) h) hb
 ·have g2 : (0 : Int) < v := by omega
  have hb := txt_body (cx := cx) (w0 := w0) (Q := Q) (T := T) (show i < 19 by omega) hvb (show k.length < 900000 by omega) (next (fun _ => by omega))
  clear next hk hv
  refine Holds.seq ?_
  refine zs1 (an g <| g2) ?_
  refine Holds.condT rfl (Holds.skip ?_)
  exact Holds.from (fun a w h => Rel.less [8, 7, 5, 4, 3] (fun _ => rfl) h) hb
theorem IsZero_digs (n : Nat) (h : (digs n).length < 100000) : FnOk Tryz.prog 95 [.v (words (digs n))] [.v true (.bool (decide (n = 0)))] := by
 have := IsZero_ok (digs n) (by omega) (digs_ok n).1
 rw [(digs_ok n).2.2] at this
 exact this
set_option maxHeartbeats 2000000 in
theorem nTextG_ok (n : Nat) (hn : (digs n).length ≤ 1000) : FnOk Tryz.prog 73 [.v (words (digs n))] [.v true (.str (bs (decG n)))] := by
 have hu : u8T Tryz.prog 102 = true := by kernel_rfl
 have hZ := IsZero_digs n (by omega)
 by_cases hn0 : n = 0
 ·rw [decide_eq_true hn0] at hZ
  have e : bs (decG n) = ⟨#[48]⟩ := by rw [hn0]; rfl
  rw [e]
  obtain ⟨X, hX⟩ : ∃ X, X = digs n := ⟨_, rfl⟩
  rw [← hX] at hZ ⊢
  refine FnOk.of Tryz.func73 rfl rfl fun cx w0 => ?_
  rw [show Tryz.f73.ntmps = 73 from rfl]
  refine zs0 ?_
  refine Holds.seq ?_
  refine zs2 (ρ := fun _ => [.v true (.bool true)]) (o := by repeat' first|exact hZ|trivial|constructor) (k := ?_)
  refine Holds.condT rfl ?_
  refine zs0 ?_
  exact Holds.ret (RetOk.vs rfl (by exact ⟨⟨rfl, id⟩, trivial⟩) rfl)
 rw [decide_eq_false hn0] at hZ
 have hLen : (decG n).length ≤ 64000 := by
  have h1 := val_lt (digs_ok n).1
  rw [(digs_ok n).2.2, B_pow] at h1
  obtain ⟨c, hc⟩ : ∃ c, c = 64000 := ⟨_, rfl⟩
  rw [← hc]
  exact dec_len (Nat.lt_of_lt_of_le h1 (Nat.pow_le_pow_right (by decide) (by omega))) (by omega)
 have e : decG n = (tdL n n).reverse.map UInt8.ofNat := if_neg hn0
 have hLl : (tdL n n).length ≤ 64000 := by rw [e] at hLen; simpa using hLen
 have hdg := tdL_dg n n
 have hLne : tdL n n ≠ [] := by rw [tdL_s (by omega) hn0]; simp
 rw [show bs (decG n) = ⟨((tdL n n).reverse.map UInt8.ofNat).toArray⟩ from by rw [e]]
 obtain ⟨L, hL⟩ : ∃ L, L = tdL n n := ⟨_, rfl⟩
 rw [← hL] at hdg hLne hLl ⊢
 have hW := FromWord_ok 10000000000000000000 (by decide)
 have hlen2 := digs_len (v := 10000000000000000000) (m := 1) (by decide)
 have hT1 : (10000000000000000000 : Nat) = 10 ^ 19 := by decide
 have hDM : ∀ x, x ≤ n → FnOk Tryz.prog 147 [.v (words (digs x)), .v (words (digs 10000000000000000000))] [.v true (words (digs (x / 10 ^ 19))), .v true (words (digs (x % 10 ^ 19)))] := fun x hx => by
  have := digs_mono hx
  have := rDivMod_ok (digs x) (digs 10000000000000000000) (by omega) (by omega) (digs_ok _).1 (digs_ok _).1 (by rw [(digs_ok _).2.2]; decide)
  rw [(digs_ok _).2.2, (digs_ok _).2.2, hT1] at this
  rw [hT1]
  exact this
 obtain ⟨T, hT⟩ : ∃ T, T = digs 10000000000000000000 := ⟨_, rfl⟩
 rw [← hT] at hW hDM
 clear hT hlen2 e hLen
 have hsmall : ∀ x, x ≤ n → (digs x).length ≤ 1000 := fun x hx => Nat.le_trans (digs_mono hx) hn
 have hstart : [] ++ tdL n n = L := hL.symm
 have hnx : n < 10 ^ n := lt_ten_pow n
 refine FnOk.of Tryz.func73 rfl rfl fun cx w0 => ?_
 rw [show Tryz.f73.ntmps = 73 from rfl]
 obtain ⟨X, hX⟩ : ∃ X, X = digs n := ⟨_, rfl⟩
 have hXe : words X = words (digs n) := by rw [hX]
 rw [← hX] at hZ ⊢
 refine zs0 ?_
 refine Holds.seq ?_
 refine zs2 (ρ := fun _ => [.v true (.bool false)]) (o := by repeat' first|exact hZ|trivial|constructor) (k := ?_)
 refine Holds.condF rfl (Holds.skip ?_)
 refine zs0 ?_
 refine zs2 (ρ := fun _ => [.v true (words T)]) (o := by repeat' first|exact hW|trivial|constructor) (k := ?_)
 refine Holds.next (fun σ => ∀ a w, Rel cx w0 σ a w → Rel cx w0 { nt := 73, env := [(3, dsA L)], mem := dsB L } a w) ?_ ?_
 ·refine Holds.loopB (fun q : Bool × Nat × List Nat => { nt := 73, env := [(4, .v true (words T)), (3, dsA q.2.2), (0, .v q.1 (words (digs q.2.1)))], mem := dsB q.2.2 }) (fun q => q.2.1 ≠ 0 ∧ q.2.1 ≤ n ∧ q.2.2 ++ tdL n q.2.1 = L) (fun q => q.2.1) (false, n, []) ⟨hn0, Nat.le_refl _, hstart⟩ (fun a w h => by rw [← hXe]; exact Rel.keep [4, 3, 0] [] h) ?_
  rintro ⟨b, x, l⟩ ⟨hx0, hxn, hl⟩
  simp only at hx0 hxn hl
  show Holds _ _ _ _ _ { nt := 73, env := [(4, .v true (words T)), (3, dsA l), (0, .v b (words (digs x)))], mem := dsB l } _
  have hD := hDM x hxn
  have hr : x % 10 ^ 19 < 10 ^ 19 := Nat.mod_lt _ (by decide)
  have hWd := word0_ok (x % 10 ^ 19) (by omega)
  have hql : x / 10 ^ 19 ≤ n := Nat.le_trans (Nat.div_le_self _ _) hxn
  have hZq := IsZero_digs (x / 10 ^ 19) (by have := hsmall _ hql; omega)
  have hll : l.length ≤ 64000 := by
   have := congrArg List.length hl
   rw [List.length_append] at this
   omega
  have hlt : x / 10 ^ 19 < x := Nat.div_lt_self (by omega) (by decide)
  have hin := txt_inner (cx := cx) (w0 := w0) (z := decide (x / 10 ^ 19 = 0)) (Q := digs (x / 10 ^ 19)) (T := T) (l := l) hr (by omega) hZq (N' := fun _ => False)
  have hfin : (x / 10 ^ 19 = 0 → l ++ txR (decide (x / 10 ^ 19 = 0)) 19 (x % 10 ^ 19) = L) ∧ (x / 10 ^ 19 ≠ 0 → (l ++ txR (decide (x / 10 ^ 19 = 0)) 19 (x % 10 ^ 19)) ++ tdL n (x / 10 ^ 19) = L) := by
   constructor
   ·intro h
    have hx19 : x < 10 ^ 19 := by
     rcases Nat.lt_or_ge x (10 ^ 19) with h1 | h1
     ·exact h1
     ·have := Nat.div_pos h1 (by decide); omega
    rw [decide_eq_true h, txR, if_pos rfl, Nat.mod_eq_of_lt hx19, tdL_any hx19 (Nat.lt_of_le_of_lt hxn hnx)]
    exact hl
   ·intro h
    have hx19 : 10 ^ 19 ≤ x := by
     rcases Nat.lt_or_ge x (10 ^ 19) with h1 | h1
     ·exact absurd (Nat.div_eq_of_lt h1) h
     ·exact h1
    rw [decide_eq_false h, txR, if_neg (by simp), List.append_assoc]
    have h2 := tdL_split 19 n x hx19
    rw [fxL_mod] at h2 ⊢
    rw [← h2, ← hl]
    congr 1
    exact tdL_any (Nat.lt_of_lt_of_le (Nat.lt_of_le_of_lt hxn hnx) (Nat.pow_le_pow_right (by decide) (by omega))) (Nat.lt_of_le_of_lt hxn hnx)
  obtain ⟨l', hl'⟩ : ∃ l', l' = l ++ txR (decide (x / 10 ^ 19 = 0)) 19 (x % 10 ^ 19) := ⟨_, rfl⟩
  rw [← hl'] at hin hfin
  obtain ⟨q, hq⟩ : ∃ q, q = x / 10 ^ 19 := ⟨_, rfl⟩
  rw [← hq] at hD hZq hin hfin hlt hql
  obtain ⟨r, hrr⟩ : ∃ q, q = x % 10 ^ 19 := ⟨_, rfl⟩
  rw [← hrr] at hD hWd hin
  obtain ⟨A, hA⟩ : ∃ A, A = digs x := ⟨_, rfl⟩
  obtain ⟨R, hR⟩ : ∃ A, A = digs r := ⟨_, rfl⟩
  rw [← hA, ← hR] at hD
  rw [← hR] at hWd
  rw [← hA]
  have hback : ∀ (a : Act) (w : World) (σ : St), Rel cx w0 σ a w → Rel cx w0 σ a w := fun _ _ _ h => h
  obtain ⟨Q, hQ⟩ : ∃ A, A = digs q := ⟨_, rfl⟩
  rw [← hQ] at hD hZq hin
  clear hl' hl hrr hr hA hR hback
  refine Holds.block ?_
  refine zs2 (ρ := fun _ => [.v true (words Q), .v true (words R)]) (o := by repeat' first|exact hD|trivial|constructor) (k := ?_)
  refine zs2 (ρ := fun _ => [.v true (.int .u64 r)]) (o := by repeat' first|exact hWd|trivial|constructor) (k := ?_)
  refine Holds.next (fun σ => ∀ a w, Rel cx w0 σ a w → Rel cx w0 { nt := 73, env := [(5, .v true (words Q)), (4, .v true (words T)), (3, dsA l')], mem := dsB l' } a w) ?_ ?_
  ·refine zs0 ?_
   refine Holds.from (σ' := { nt := 73, env := [(8, .v true (.int .i64 0)), (7, .v true (.int .u64 r)), (5, .v true (words Q)), (4, .v true (words T)), (3, dsA l)], mem := dsB l }) (fun a w h => Rel.less [8, 7, 5, 4, 3] (fun _ => rfl) h) (hin.mono fun x σ hx => ?_)
   cases x <;> first | exact hx | exact hx.elim
  ·intro σ hσ
   refine Holds.from hσ ?_
   clear hin hσ
   by_cases hq0 : q = 0
   ·rw [decide_eq_true hq0] at hZq
    refine zs0 ?_
    refine zs2 (ρ := fun _ => [.v true (.bool true)]) (o := by repeat' first|exact hZq|trivial|constructor) (k := ?_)
    refine Holds.condT rfl (Holds.exit (blockQ_other (by decide) ⟨rfl, fun a w h => ?_⟩))
    rw [← hfin.1 hq0]
    exact Rel.less [3] (fun _ => rfl) h
   ·rw [decide_eq_false hq0] at hZq
    refine zs0 ?_
    refine zs2 (ρ := fun _ => [.v true (.bool false)]) (o := by repeat' first|exact hZq|trivial|constructor) (k := ?_)
    refine Holds.condF rfl (Holds.skip ⟨(true, q, l'), ⟨hq0, hql, hfin.2 hq0⟩, hlt, fun a w h => ?_⟩)
    show Rel cx w0 { nt := 73, env := [(4, .v true (words T)), (3, dsA l'), (0, .v true (words (digs q)))], mem := dsB l' } a w
    rw [← hQ]
    exact Rel.less [4, 3, 0] (fun _ => rfl) h
 ·intro σ hσ
  refine Holds.from hσ ?_
  clear hDM hsmall hW hZ hXe hX
  rw [dsA_c hLne, dsB_c hLne]
  have hLp : 0 < L.length := List.length_pos_iff.2 hLne
  clear hL hstart hnx
  obtain ⟨N, hN⟩ : ∃ N, N = L.length := ⟨_, rfl⟩
  rw [← hN] at hLl hLp ⊢
  refine Holds.next (fun σ => ∀ a w, Rel cx w0 σ a w → Rel cx w0 { nt := 73, env := [(3, .own 300 0 N)], mem := [(300, .buf 5 1 true (dsV L.reverse))] } a w) ?_ ?_
  ·have wN : IntKind.i64.wrap ((N : Int) - 1) = ((N - 1 : Nat) : Int) := by rw [wrap_i64] <;> omega
   refine zs1 wN ?_
   refine Holds.loopB (fun i : Nat => { nt := 73, env := [(10, .v true (.int .i64 (N - 1 - i : Nat))), (9, .v true (.int .i64 i)), (3, .own 300 0 N)], mem := [(300, .buf 5 1 true (dsV (rvI L i)))] }) (fun i => 2 * i ≤ N) (fun i => N - i) 0 (Nat.zero_le _) (fun a w h => ?_) ?_
   ·rw [rvI_0]
    exact Rel.keep [10, 9, 3] [300] h
   intro i hi
   by_cases hend : N ≤ 2 * i + 1
   ·have g : ¬ (i : Int) < ((N - 1 - i : Nat) : Int) := by omega
    rw [← rvI_end L i (by omega)]
    obtain ⟨j, hj⟩ : ∃ j, j = N - 1 - i := ⟨_, rfl⟩
    show Holds _ _ _ _ _ { nt := 73, env := [(10, .v true (.int .i64 (N - 1 - i : Nat))), (9, .v true (.int .i64 i)), (3, .own 300 0 N)], mem := [(300, .buf 5 1 true (dsV (rvI L i)))] } _
    rw [← hj] at g ⊢
    refine Holds.seq ?_
    refine zs1 g ?_
    exact Holds.condF rfl (Holds.exit ⟨rfl, fun a w h => Rel.keep [3] [300] h⟩)
   obtain ⟨j, hj⟩ : ∃ j, j = N - 1 - i := ⟨_, rfl⟩
   have hij : i < j := by omega
   have hNj : L.length = i + j + 1 := by omega
   show Holds _ _ _ _ _ { nt := 73, env := [(10, .v true (.int .i64 (N - 1 - i : Nat))), (9, .v true (.int .i64 i)), (3, .own 300 0 N)], mem := [(300, .buf 5 1 true (dsV (rvI L i)))] } _
   have hsw := rvI_s L i j hNj hij
   have h1 : (rvI L i)[i]? = some (L.getD i 0) := by rw [rvI_get L i i (by omega), if_neg (by omega)]
   have h2 : (rvI L i)[j]? = some (L.getD j 0) := by rw [rvI_get L i j (by omega), if_neg (by omega)]
   have h1 := dsV_get h1
   have h2 := dsV_get h2
   have hXl := dsV_len (rvI L i)
   rw [rvI_len] at hXl
   have hY : ((dsV (rvI L i)).set i (.int .u8 (L.getD j 0))).set j (.int .u8 (L.getD i 0)) = dsV (rvI L (i + 1)) := by rw [dsV_set, dsV_set, hsw]
   obtain ⟨x, hx⟩ : ∃ x, x = L.getD i 0 := ⟨_, rfl⟩
   obtain ⟨y, hy⟩ : ∃ y, y = L.getD j 0 := ⟨_, rfl⟩
   rw [← hx] at h1 hY
   rw [← hy] at h2 hY
   obtain ⟨Z, hZ⟩ : ∃ Z, Z = dsV (rvI L i) := ⟨_, rfl⟩
   rw [← hZ] at h1 h2 hXl hY ⊢
   have h3 : (Z.set i (.int .u8 y))[j]? = some (V.int .u8 y) := by rw [List.getElem?_set_ne (by omega)]; exact h2
   have hj' : N - 1 - (i + 1) = j - 1 := by omega
   rw [← hj]
   have g : (i : Int) < (j : Int) := by omega
   have gi : (i : Int) < (N : Int) := by omega
   have gj : (j : Int) < (N : Int) := by omega
   have wj : IntKind.i64.wrap ((j : Int) - 1) = ((j - 1 : Nat) : Int) := by rw [wrap_i64] <;> omega
   refine Holds.seq ?_
   refine zs1 g ?_
   refine Holds.condT rfl (Holds.skip ?_)
   refine Holds.next (fun σ => ∀ a w, Rel cx w0 σ a w → Rel cx w0 { nt := 73, env := [(10, .v true (.int .i64 j)), (9, .v true (.int .i64 i)), (3, .own 300 0 N)], mem := [(300, .buf 5 1 true (dsV (rvI L (i + 1))))] } a w) ?_ ?_
   ·refine Holds.blockN ?_
    rw [← hY]
    refine Holds.dregionM (Px := px) (T := TT) (ρ := fun _ => []) [] mixed (by kernel_rfl) TTe (by simp (maxSteps := 100000) (disch := omega) only [go_sem, V.isAgg, V.flat, ↓reduceIte, Nat.reduceAdd, Nat.reduceSub, Nat.reduceLT, Nat.reduceEqDiff, reduceCtorEq, Nat.reduceLeDiff, Nat.reduceBEq, Nat.reduceMul, Int.reduceToNat, h1, h2, h3, gi, gj, hXl, List.length_set, Nat.zero_add]; rfl) (by repeat' first | exact trivial | constructor) (by rfl) (by rfl) (by rfl) ?_
    exact fun a w h => Rel.keep [10, 9, 3] [300] h
   ·intro σ hσ
    refine Holds.from hσ ?_
    refine zr1 wj ?_
    refine ⟨i + 1, (by show 2 * (i + 1) ≤ N; omega), (show N - (i + 1) < N - i by omega), fun a w h => ?_⟩
    show Rel cx w0 { nt := 73, env := [(10, .v true (.int .i64 (N - 1 - (i + 1) : Nat))), (9, .v true (.int .i64 (i + 1 : Nat))), (3, .own 300 0 N)], mem := [(300, .buf 5 1 true (dsV (rvI L (i + 1))))] } a w
    rw [hj']
    exact Rel.keep [10, 9, 3] [300] h
  ·intro σ hσ
   refine Holds.from hσ ?_
   have hXr := dsV_len L.reverse
   rw [List.length_reverse] at hXr
   have hbv : bytesV (List.take N (dsV L.reverse)) = some (L.reverse.map UInt8.ofNat) := by
    rw [List.take_of_length_le (by rw [dsV_len, List.length_reverse]; omega)]
    exact bytesV_map (fun n hn => by have := hdg n (List.mem_reverse.1 hn); omega)
   refine Holds.step (Px := px) (T := TT) (ρ := fun _ => []) TTe (by simp (maxSteps := 100000) (disch := omega) only [go_sem, V.isAgg, V.flat, ↓reduceIte, Nat.reduceAdd, Nat.reduceSub, Nat.reduceLT, Nat.reduceEqDiff, reduceCtorEq, Nat.reduceLeDiff, Nat.reduceBEq, Nat.reduceMul, Int.reduceToNat, strA, hu, hbv]; rfl) (by repeat' first | exact trivial | constructor) ?_
   exact Holds.ret (RetOk.vs rfl (by exact ⟨⟨rfl, id⟩, trivial⟩) rfl)
theorem oddL_ok (neg : Bool) (e : Int) (l : List Int) (hl : l.length < 9000) (ol : okW l) (he : -4611686018427380000 < e ∧ e < 4611686018427380000) : FnOk Tryz.prog 115 [.v (fltW 1 neg e l)] [.v true (words (digs (val l / 2 ^ trN (val l)))), .v true (.int .i64 (e + trN (val l)))] := by
 obtain ⟨o, hB⟩ := Bits_ok l (by omega) ol
 have htl : trN (val l) ≤ 64 * l.length := by
  rcases Nat.eq_zero_or_pos (val l) with h0 | h0
  ·rw [h0]; exact Nat.zero_le _
  ·have := trN_le (v := val l) (k := 64 * l.length) h0 (val_bl ol)
   omega
 have hR := rRight1_ok l (trN (val l)) (by omega) (by omega) ol
 unfold fltW
 obtain ⟨t, ht⟩ : ∃ t, t = trN (val l) := ⟨_, rfl⟩
 rw [← ht] at hB hR htl ⊢
 obtain ⟨Q, hQ⟩ : ∃ Q, Q = digs (val l / 2 ^ t) := ⟨_, rfl⟩
 rw [← hQ] at hR ⊢
 have w1 : IntKind.i64.wrap (e + (t : Int)) = e + t := by rw [wrap_i64] <;> omega
 clear hQ ht
 refine FnOk.of Tryz.func115 rfl rfl fun cx w0 => ?_
 rw [show Tryz.f115.ntmps = 20 from rfl]
 refine zs0 ?_
 refine zs2 (ρ := fun _ => [.v true (.int .i64 t), .v true (.int .i64 o)]) (o := by repeat' first|exact hB|trivial|constructor) (k := ?_)
 refine zd3 [] (ρ := fun _ => [.v true (words Q)]) w1 (o := by repeat' first|exact hR|trivial|constructor) (k := ?_)
 exact Holds.ret (RetOk.vs rfl (by exact ⟨⟨rfl, id⟩, ⟨rfl, id⟩, trivial⟩) rfl)
theorem fCanonL_ok (neg : Bool) (e : Int) (l : List Int) (hl : l.length < 9000) (ol : okW l) (he : -4611686018427380000 < e ∧ e < 4611686018427380000) : FnOk Tryz.prog 72 [.v (fltW 1 neg e l)] [.v true (fltV 1 neg (e + trN (val l)) (val l / 2 ^ trN (val l)))] := by
 have hO := oddL_ok neg e l hl ol he
 unfold fltV
 unfold fltW at hO ⊢
 obtain ⟨t, ht⟩ : ∃ t, t = e + (trN (val l) : Int) := ⟨_, rfl⟩
 obtain ⟨Q, hQ⟩ : ∃ Q, Q = digs (val l / 2 ^ trN (val l)) := ⟨_, rfl⟩
 rw [← ht, ← hQ] at hO
 rw [← ht, ← hQ]
 clear ht hQ
 refine FnOk.of Tryz.func72 rfl rfl fun cx w0 => ?_
 rw [show Tryz.f72.ntmps = 23 from rfl]
 refine zs0 ?_
 refine Holds.seq ?_
 refine zs0 ?_
 refine Holds.condF rfl (Holds.skip ?_)
 refine zs2 (ρ := fun _ => [.v true (words Q), .v true (.int .i64 t)]) (o := by repeat' first|exact hO|trivial|constructor) (k := ?_)
 refine zs0 ?_
 exact Holds.ret (RetOk.vs rfl (by exact ⟨⟨rfl, id⟩, trivial⟩) rfl)
structure Raw (e : Int) (l : List Int) (m : Nat) (ex : Int) : Prop where
 ll : l.length < 5000
 ol : okW l
 he : -9223372036854775808 ≤ e ∧ e < 9223372036854775808
 em : m = val l / 2 ^ trN (val l)
 ee : ex = e + trN (val l)
theorem Raw.bd {e : Int} {l : List Int} {m : Nat} {ex : Int} (h : Raw e l m ex) (hx : -20000 ≤ ex ∧ ex ≤ 20000) : -4611686018427380000 < e ∧ e < 4611686018427380000 := by
 have h1 := h.ee
 have h2 : trN (val l) ≤ 64 * l.length := by
  rcases Nat.eq_zero_or_pos (val l) with h0 | h0
  ·rw [h0]; exact Nat.zero_le _
  ·have := trN_le (v := val l) (k := 64 * l.length) h0 (val_bl h.ol)
   omega
 have := h.ll
 omega
theorem FlOne.raw {k P : Int} {neg : Bool} {e : Int} {l : List Int} {K p m n : Nat} {ex u a : Int} {okr : Bool} (hE : nuE k P okr 1 neg e l = 0) (h : FlOne k P neg e l K p m ex u n a) (hl : l.length < 5000) (ol : okW l) (he : -9223372036854775808 ≤ e ∧ e < 9223372036854775808) : Raw e l m ex := by
 obtain ⟨_, _, _, hc, _⟩ := nu_one hE
 obtain ⟨_, _, h3⟩ := cn_one hc
 obtain ⟨v0, e1, e2, e3⟩ := h3 rfl
 have hcn := h.cn
 unfold cnV fltV at hcn
 have hinj := V.agg.inj hcn
 simp only [List.cons.injEq] at hinj
 obtain ⟨_, _, h5, h6, _⟩ := hinj
 have hex : cnE 1 e (val l) = ex := by injection h5
 have hmm : cnM 1 e (val l) = m := by
  unfold words at h6
  have h7 := (V.sl.inj h6).2
  have h8 : digs (cnM 1 e (val l)) = digs m := (List.map_inj_right (fun a b hab => by injection hab)).1 h7
  have h9 := congrArg val h8
  rw [(digs_ok _).2.2, (digs_ok _).2.2] at h9
  exact h9
 exact ⟨hl, ol, he, by rw [← hmm, e2], by rw [← hex, e1]⟩
set_option maxHeartbeats 1000000 in
theorem real_ok (neg : Bool) (e : Int) (l : List Int) (m : Nat) (ex : Int) (h : Raw e l m ex) (hB : FlB m ex) : FnOk Tryz.prog 88 [.v (fltW 1 neg e l)] [.v false (realQ false (fNum m ex) (fDen ex))] := by
 have lo := hB.lo
 have hi := hB.hi
 have hC := fCanonL_ok neg e l (by have := h.ll; omega) h.ol (h.bd (by omega))
 rw [← h.em, ← h.ee] at hC
 have lm : (digs m).length ≤ 5 := digs_lenB hB.mB (by omega)
 have d1 : digs 1 = [1] := by decide
 have hW := FromWord_ok 1 (by decide)
 rw [d1] at hW
 have hL1 := Left_ok (digs m) ex.toNat (by omega) (by omega) (digs_ok _).1
 rw [(digs_ok _).2.2] at hL1
 have hL2 := Left_ok (digs 1) (-ex).toNat (by rw [d1]; decide) (by omega) (digs_ok _).1
 rw [(digs_ok _).2.2, Nat.one_mul, d1] at hL2
 have hW : FnOk Tryz.prog 78 [.v (.int .u64 1)] [.v true (words [1])] := hW
 unfold realQ fNum fDen
 unfold fltV fltW words at hC
 unfold fltW
 by_cases h0 : ex < 0
 ·rw [show ex.toNat = 0 from by omega, Nat.pow_zero, Nat.mul_one]
  rw [show (((-ex).toNat : Nat) : Int) = -ex from by omega] at hL2
  obtain ⟨M, hM⟩ : ∃ M, M = digs m := ⟨_, rfl⟩
  obtain ⟨D, hD⟩ : ∃ M, M = digs (2 ^ (-ex).toNat) := ⟨_, rfl⟩
  obtain ⟨O, hO⟩ : ∃ O, O = [(1 : Int)] := ⟨_, rfl⟩
  rw [← hM] at hC
  rw [← hD, ← hO] at hL2
  rw [← hO] at hW
  rw [← hM, ← hD]
  have wn : IntKind.i64.wrap (0 - ex) = -ex := by rw [wrap_i64] <;> omega
  clear hM hD hO h hB
  refine FnOk.of Tryz.func88 rfl rfl fun cx w0 => ?_
  rw [show Tryz.f88.ntmps = 25 from rfl]
  refine zs0 ?_
  refine zs2 (ρ := fun _ => [.v true (.agg [.int .i64 1, .bool neg, .int .i64 ex, .sl 1 (M.map fun n => .int .u64 n)])]) (o := by repeat' first|exact hC|trivial|constructor) (k := ?_)
  refine zs2 (ρ := fun _ => [.v true (words O)]) (o := by repeat' first|exact hW|trivial|constructor) (k := ?_)
  refine Holds.seq ?_
  refine zs1 h0 ?_
  refine Holds.condT rfl ?_
  refine zd3 [] (ρ := fun _ => [.v true (words D)]) wn (o := by repeat' first|exact hL2|trivial|constructor) (k := ?_)
  exact Holds.ret (RetOk.vs rfl (by exact ⟨⟨rfl, by simp⟩, trivial⟩) rfl)
 ·rw [show (-ex).toNat = 0 from by omega, Nat.pow_zero, d1]
  rw [show ((ex.toNat : Nat) : Int) = ex from by omega] at hL1
  obtain ⟨M, hM⟩ : ∃ M, M = digs m := ⟨_, rfl⟩
  obtain ⟨D, hD⟩ : ∃ M, M = digs (m * 2 ^ ex.toNat) := ⟨_, rfl⟩
  obtain ⟨O, hO⟩ : ∃ O, O = [(1 : Int)] := ⟨_, rfl⟩
  rw [← hM] at hC
  rw [← hM, ← hD] at hL1
  rw [← hO] at hW
  rw [← hD, ← hO]
  clear hM hD hO h hB
  refine FnOk.of Tryz.func88 rfl rfl fun cx w0 => ?_
  rw [show Tryz.f88.ntmps = 25 from rfl]
  refine zs0 ?_
  refine zs2 (ρ := fun _ => [.v true (.agg [.int .i64 1, .bool neg, .int .i64 ex, .sl 1 (M.map fun n => .int .u64 n)])]) (o := by repeat' first|exact hC|trivial|constructor) (k := ?_)
  refine zs2 (ρ := fun _ => [.v true (words O)]) (o := by repeat' first|exact hW|trivial|constructor) (k := ?_)
  refine Holds.seq ?_
  refine zs1 h0 ?_
  refine Holds.condF rfl (Holds.skip ?_)
  show Holds _ _ _ _ _ _ _
  refine zs2 (ρ := fun _ => [.v true (words D)]) (o := by repeat' first|exact hL1|trivial|constructor) (k := ?_)
  exact Holds.ret (RetOk.vs rfl (by exact ⟨⟨rfl, by simp⟩, trivial⟩) rfl)
theorem st_rounded (r : Nat) (hr : r ≤ 4) (neg : Bool) (num den : Nat) (s : Int) (hd : 0 < den) (hl : (digs (ctA num den s)).length < 30000) :
 FnOk Tryz.prog 94 [.v (.int .i64 r), .v (.bool neg), .v (stV num den s)] [.v false (words (digs (upN r neg (ctA num den s) (cxA num den s)))), .v true (.bool (decide (cxA num den s = 0)))] := by
 obtain ⟨h1, h2⟩ := st_round (r := r) (neg := neg) (num := num) (s := s) hd
 have hN : 2 * stM num s / stD den s / 2 = ctA num den s := (half_split (stM num s) (stD den s) (Nat.mul_pos hd (Nat.pow_pos (by decide)))).1
 have := rRounded_ok r hr neg (2 * stM num s / stD den s / 2) (decide (2 * stM num s / stD den s % 2 = 1)) (decide (2 * stM num s % stD den s ≠ 0)) (by rw [hN]; exact hl)
 rw [h1, decide_eq_decide.2 h2] at this
 exact this
theorem FlB.real {m : Nat} {ex : Int} (h : FlB m ex) : ∃ B, B ≤ 17000 ∧ 0 < fNum m ex ∧ 0 < fDen ex ∧ fNum m ex < 2 ^ B ∧ fDen ex < 2 ^ B := by
 obtain ⟨B, hB⟩ : ∃ B, B = 16641 := ⟨_, rfl⟩
 exact ⟨B, by omega, fNum_pos h.m0, fDen_pos ex, fNum_lt h.mB h.hi (by omega), fDen_lt h.lo (by omega)⟩
set_option maxHeartbeats 1000000 in
theorem rDigitsT_ok (r n : Nat) (hr : r ≤ 4) (hn : 1 ≤ n ∧ n ≤ 1200) (neg : Bool) (e : Int) (l : List Int) (m : Nat) (ex a : Int) (h : Raw e l m ex) (hB : FlB m ex) (hA : IsA (fNum m ex) (fDen ex) a) :
 FnOk Tryz.prog 31 [.v (.int .i64 r), .v (fltW 1 neg e l), .v (.int .i64 n)] [.v true (.str (bs (rdL r neg m ex a n))), .v true (.int .i64 (rdE r neg m ex a n)), .v true (.bool (decide (cxA (fNum m ex) (fDen ex) (a - n + 1) = 0)))] := by
 have hab := hB.isA_bd hA
 obtain ⟨B, b1, b2, b3, b4, b5⟩ := hB.real
 have hR := real_ok neg e l m ex h hB
 have hL := rLogG_ok false (fNum m ex) (fDen ex) B a b1 b2 b3 b4 b5 hA
 have hS := rStepsG_ok false (fNum m ex) (fDen ex) B (a - n + 1) b1 b2 b3 b4 b5 (by omega)
 have hdg := ctA_digs (d := n - 1) b3 hA
 rw [show a - ((n - 1 : Nat) : Int) = a - n + 1 from by omega] at hdg
 have hcl : (digs (ctA (fNum m ex) (fDen ex) (a - n + 1))).length < 30000 := by
  have := digs_lenB (Nat.lt_trans hdg.2.2 (ten_lt (n - 1 + 1))) (n := 200) (by omega)
  omega
 have hRd := st_rounded r hr neg (fNum m ex) (fDen ex) (a - n + 1) b3 hcl
 obtain ⟨k1, k2⟩ := rdK_bd (r := r) (neg := neg) hn.1 hA
 have hlen := rd_len (r := r) (neg := neg) hn.1 hA
 have hK : upN r neg (ctA (fNum m ex) (fDen ex) (a - n + 1)) (cxA (fNum m ex) (fDen ex) (a - n + 1)) = rdK r neg m ex a n := rfl
 rw [hK] at hRd
 have hT := nTextG_ok (rdK r neg m ex a n) (by have := digs_lenB (Nat.lt_of_le_of_lt k2 (ten_lt n)) (n := 100) (by omega); omega)
 unfold rdE rdL
 obtain ⟨k, hk⟩ : ∃ k, k = rdK r neg m ex a n := ⟨_, rfl⟩
 rw [← hk] at hRd hlen hT ⊢
 obtain ⟨eb, heb⟩ : ∃ b, b = decide (cxA (fNum m ex) (fDen ex) (a - n + 1) = 0) := ⟨_, rfl⟩
 rw [← heb] at hRd ⊢
 obtain ⟨pv, hpv⟩ : ∃ P N h s, stV (fNum m ex) (fDen ex) (a - n + 1) = P ∧ P = .agg [.sl 1 N, .bool h, .bool s] := ⟨_, _, _, _, rfl, rfl⟩
 obtain ⟨Nv, hv, sv, hpv, hpe⟩ := hpv
 rw [hpv, hpe] at hS hRd
 unfold realQ words at hR hL hS
 obtain ⟨N1, hN1⟩ : ∃ x, x = (digs (fNum m ex)).map fun n => V.int .u64 n := ⟨_, rfl⟩
 obtain ⟨D1, hD1⟩ : ∃ x, x = (digs (fDen ex)).map fun n => V.int .u64 n := ⟨_, rfl⟩
 rw [← hN1, ← hD1] at hR hL hS
 obtain ⟨W, hW⟩ : ∃ x, x = digs k := ⟨_, rfl⟩
 rw [← hW] at hRd hT
 obtain ⟨s, hs⟩ : ∃ s, s = bs (decG k) := ⟨_, rfl⟩
 have hsz : s.size = (decG k).length := by rw [hs, bs_size]
 rw [← hs] at hT
 have ext : s.extract 0 n = bs ((decG k).take n) := by rw [hs, bs_ext, List.drop_zero, Nat.sub_zero]
 obtain ⟨T, hTT⟩ : ∃ T, T = bs ((decG k).take n) := ⟨_, rfl⟩
 rw [← hTT] at ext ⊢
 obtain ⟨dl, hdl⟩ : ∃ dl, dl = (decG k).length := ⟨_, rfl⟩
 rw [← hdl] at hsz hlen ⊢
 have w1 : IntKind.i64.wrap (a - (n : Int)) = a - n := by rw [wrap_i64] <;> omega
 have w2 : IntKind.i64.wrap (a - (n : Int) + 1) = a - n + 1 := by rw [wrap_i64] <;> omega
 have w3 : IntKind.i64.wrap (a + (s.size : Int)) = a + dl := by rw [wrap_i64] <;> omega
 have w4 : IntKind.i64.wrap (a + (dl : Int) - n) = a + (dl - n : Nat) := by rw [wrap_i64] <;> omega
 have hle : (n : Int) ≤ s.size := by omega
 unfold fltW words at hR ⊢
 obtain ⟨M, hM⟩ : ∃ M, M = l.map fun n => V.int .u64 n := ⟨_, rfl⟩
 rw [← hM] at hR ⊢
 clear hM hdl hTT hs hW hN1 hD1 hpv hpe heb hk hK k1 k2 hcl hdg h hB hA b1 b2 b3 b4 b5
 refine FnOk.of Tryz.func31 rfl rfl fun cx w0 => ?_
 rw [show Tryz.f31.ntmps = 43 from rfl]
 refine zs0 ?_
 refine zs2 (ρ := fun _ => [.v false (.agg [.bool false, .sl 1 N1, .sl 1 D1, .int .i64 0, .int .i64 1])]) (o := by repeat' first|exact hR|trivial|constructor) (k := ?_)
 refine zs2 (ρ := fun _ => [.v true (.int .i64 a)]) (o := by repeat' first|exact hL|trivial|constructor) (k := ?_)
 refine zd3 [] (ρ := fun d => if d = 27 then [.v true (.agg [.sl 1 Nv, .bool hv, .bool sv])] else [.v false (words W), .v true (.bool eb)]) (an w1 <| w2) (o := by repeat' first|exact hS|exact hRd|trivial|constructor) (k := ?_)
 refine zs2 (ρ := fun _ => [.v true (.str s)]) (o := by repeat' first|exact hT|trivial|constructor) (k := ?_)
 refine zs1 (an w3 <| an w4 <| an hle <| ext) ?_
 exact Holds.ret (RetOk.vs rfl (by exact ⟨⟨rfl, id⟩, ⟨rfl, id⟩, ⟨rfl, id⟩, trivial⟩) rfl)
theorem decG_pos (n : Nat) : 1 ≤ (decG n).length := List.length_pos_iff.2 (decG_ne n)
theorem rNumber_ok (n : Nat) (hn : n < 18446744073709551616) : FnOk Tryz.prog 159 [.v (.int .i64 n)] [.v true (.str (bs (decG n)))] := by
 have h1 := FromWord_ok n hn
 have h2 := nTextG_ok n (by have := digs_len (v := n) (m := 1) (by omega); omega)
 obtain ⟨X, hX⟩ : ∃ X, X = digs n := ⟨_, rfl⟩
 obtain ⟨s, hs⟩ : ∃ s, s = bs (decG n) := ⟨_, rfl⟩
 rw [← hX] at h1 h2
 rw [← hs] at h2 ⊢
 have w1 : IntKind.u64.wrap (n : Int) = (n : Int) := by rw [wrap_u64]; omega
 clear hX hs
 refine FnOk.of Tryz.func159 rfl rfl fun cx w0 => ?_
 rw [show Tryz.f159.ntmps = 7 from rfl]
 refine zs0 ?_
 refine zs3 (ρ := fun d => if d = 5 then [.v true (words X)] else [.v true (.str s)]) w1 (o := by repeat' first|exact h1|exact h2|trivial|constructor) (k := ?_)
 exact Holds.ret (RetOk.vs rfl (by exact ⟨⟨rfl, id⟩, trivial⟩) rfl)
set_option maxHeartbeats 1000000 in
theorem rRaised_ok (d : List UInt8) (e : Int) (c : Nat) (hd : 1 ≤ d.length) (hdl : d.length < 1000000) (he : -1000000000000 < e ∧ e < 1000000000000) (hc : c ≤ 100) : FnOk Tryz.prog 167 [.v (.str (bs d)), .v (.int .i64 e), .v (.int .i64 c)] [.v true (.str (bs (oneL d ++ 101 :: sgL e c)))] := by
 have hz := bs_size d
 obtain ⟨m, hm⟩ : ∃ m, m = e.natAbs := ⟨_, rfl⟩
 have hN := rNumber_ok m (by omega)
 have hlen : (decG m).length ≤ 13 := decG_len_of (by rw [show (10 : Nat) ^ 13 = 10000000000000 from rfl]; omega) (by decide)
 obtain ⟨z, hzz⟩ : ∃ z, z = ((c : Int) - (decG m).length).toNat := ⟨_, rfl⟩
 have hZ := zeros_ok ((c : Int) - (decG m).length) (by omega)
 rw [← hzz] at hZ
 obtain ⟨sg, hsg⟩ : ∃ sg : UInt8, sg = if e < 0 then 45 else 43 := ⟨_, rfl⟩
 have hfin : bs (oneL d ++ 101 :: sgL e c) = (((bs (oneL d) ++ ByteArray.mk #[101]) ++ bs [sg]) ++ bs (z48 z)) ++ bs (decG m) := by
  unfold sgL
  rw [← hm, ← hsg, show c - (decG m).length = z from by omega, show ByteArray.mk #[101] = bs [101] from rfl, bs_app, bs_app, bs_app, bs_app]
  simp only [List.append_assoc, List.cons_append, List.nil_append]
 rw [hfin]
 have hone : oneL d = if 1 < d.length then d.take 1 ++ 46 :: d.drop 1 else d := rfl
 have ho1 := oneL_len d
 have z1 := bs_size (oneL d)
 have z2 := bs_size [sg]
 have z3 := bs_size (z48 z)
 have z4 := bs_size (decG m)
 rw [z48_len] at z3
 have e1 : (bs d).extract 0 1 = bs (d.take 1) := by rw [bs_ext, List.drop_zero]
 have e2 : 1 < d.length → (bs d).extract 0 1 ++ (ByteArray.mk #[46] ++ (bs d).extract 1 (bs d).size) = bs (oneL d) := fun h => by
  rw [hone, if_pos h, bs_ext, bs_ext, bs_size, show ByteArray.mk #[46] = bs [46] from rfl, bs_app, bs_app, List.drop_zero, List.take_of_length_le (l := d.drop 1) (by rw [List.length_drop]; omega)]
  rfl
 have e3 : ¬ 1 < d.length → (bs d).extract 0 1 = bs (oneL d) := fun h => by
  rw [e1, hone, if_neg h, List.take_of_length_le (by omega)]
 have z5 : ((bs d).extract 0 1).size = 1 := by rw [e1, bs_size]; simp; omega
 have z6 : ((bs d).extract 1 (bs d).size).size = d.length - 1 := by rw [bs_ext, bs_size, bs_size]; simp
 obtain ⟨s, hs⟩ : ∃ s, s = bs d := ⟨_, rfl⟩
 obtain ⟨O, hO⟩ : ∃ s, s = bs (oneL d) := ⟨_, rfl⟩
 obtain ⟨G, hG⟩ : ∃ s, s = bs [sg] := ⟨_, rfl⟩
 obtain ⟨Z, hZe⟩ : ∃ s, s = bs (z48 z) := ⟨_, rfl⟩
 obtain ⟨T, hT⟩ : ∃ s, s = bs (decG m) := ⟨_, rfl⟩
 rw [← hs] at hz e2 e3 z5 z6 ⊢
 rw [← hO] at z1 e2 e3 ⊢
 rw [← hG] at z2 ⊢
 rw [← hZe] at hZ z3 ⊢
 rw [← hT] at hN z4 ⊢
 have z2' : G.size = 1 := z2
 have a1 : O.size + (#[(101 : UInt8)]).size ≤ 9223372036854775807 := by show O.size + 1 ≤ _; omega
 have a2 : O.size + (#[(101 : UInt8)]).size + G.size ≤ 9223372036854775807 := by show O.size + 1 + G.size ≤ _; omega
 have a3 : O.size + (#[(101 : UInt8)]).size + G.size + Z.size ≤ 9223372036854775807 := by show O.size + 1 + G.size + Z.size ≤ _; omega
 have a4 : O.size + (#[(101 : UInt8)]).size + G.size + Z.size + T.size ≤ 9223372036854775807 := by show O.size + 1 + G.size + Z.size + T.size ≤ _; omega
 have g1 : (1 : Int) ≤ (s.size : Int) := by omega
 have w1 : IntKind.i64.wrap ((c : Int) - (T.size : Int)) = (c : Int) - (decG m).length := by rw [z4, wrap_i64] <;> omega
 obtain ⟨cz, hcz⟩ : ∃ cz : Int, cz = (c : Int) - (decG m).length := ⟨_, rfl⟩
 rw [← hcz] at w1 hZ
 refine FnOk.of Tryz.func167 rfl rfl fun cx w0 => ?_
 rw [show Tryz.f167.ntmps = 38 from rfl]
 clear hfin hone e1 hs hO hZe hT hcz hzz
 refine zs0 ?_
 refine zs1 g1 ?_
 refine Holds.next (fun σ => ∀ a w, Rel cx w0 σ a w → Rel cx w0 { nt := 38, env := [(7, .v true (.str O)), (1, .v true (.int .i64 e)), (2, .v true (.int .i64 c))], mem := [] } a w) ?_ ?_
 ·by_cases h1 : 1 < d.length
  ·have e2 := e2 h1
   have g2 : (1 : Int) < (s.size : Int) := by omega
   have b1 : (#[(46 : UInt8)]).size + (s.extract 1 s.size).size ≤ 9223372036854775807 := by rw [z6]; show 1 + (d.length - 1) ≤ _; omega
   have b2 : (s.extract 0 1).size + ((#[(46 : UInt8)]).size + (s.extract 1 s.size).size) ≤ 9223372036854775807 := by rw [z5, z6]; show 1 + (1 + (d.length - 1)) ≤ _; omega
   clear e3 z6 z5
   refine zs1 g2 ?_
   refine Holds.condT rfl ?_
   refine zr1 (an g1 <| an b1 <| an b2 <| e2) ?_
   exact fun a w h => Rel.keep [7, 1, 2] [] h
  ·have e3 := e3 h1
   have g2 : ¬ (1 : Int) < (s.size : Int) := by omega
   rw [← e3]
   refine zs1 g2 ?_
   exact Holds.condF rfl (Holds.skip fun a w h => Rel.keep [7, 1, 2] [] h)
 ·intro σ hσ
  refine Holds.from hσ ?_
  clear hσ e2 e3
  refine zs0 ?_
  refine Holds.next (fun σ => ∀ a w, Rel cx w0 σ a w → Rel cx w0 { nt := 38, env := [(7, .v true (.str O)), (8, .v true (.str G)), (1, .v true (.int .i64 m)), (2, .v true (.int .i64 c))], mem := [] } a w) ?_ ?_
  ·by_cases h1 : e < 0
   ·rw [if_pos h1] at hsg
    rw [hG, hsg]
    have wn : IntKind.i64.wrap (0 - e) = (m : Int) := by rw [wrap_i64] <;> omega
    refine zs1 h1 ?_
    refine Holds.condT rfl ?_
    refine zr1 wn ?_
    exact fun a w h => Rel.keep [7, 8, 1, 2] [] h
   ·rw [if_neg h1] at hsg
    rw [hG, hsg]
    have en : e = (m : Int) := by omega
    rw [← en]
    refine zs1 h1 ?_
    exact Holds.condF rfl (Holds.skip fun a w h => Rel.keep [7, 8, 1, 2] [] h)
  ·intro σ hσ
   refine Holds.from hσ ?_
   clear hσ hsg
   refine zs2 (ρ := fun _ => [.v true (.str T)]) (o := by repeat' first|exact hN|trivial|constructor) (k := ?_)
   refine zs3 (ρ := fun _ => [.v true (.str Z)]) (an w1 <| an a1 <| an a2 <| an a3 <| a4) (o := by repeat' first|exact hZ|trivial|constructor) (k := ?_)
   exact Holds.ret (RetOk.vs rfl (by exact ⟨⟨rfl, id⟩, trivial⟩) rfl)
set_option maxHeartbeats 1000000 in
theorem rPlaced_ok (r n : Nat) (hr : r ≤ 4) (hn : n ≤ 1200) (neg : Bool) (m : Nat) (ex : Int) (hB : FlB m ex) :
 FnOk Tryz.prog 166 [.v (.int .i64 r), .v (realQ false (fNum m ex) (fDen ex)), .v (.bool false), .v (.bool neg), .v (.int .i64 n)] [.v true (.str (bs (ptL (decG (plK r neg m ex n)) n))), .v true (.bool (decide (cxA (fNum m ex) (fDen ex) (-(n : Int)) = 0)))] := by
 obtain ⟨B, b1, b2, b3, b4, b5⟩ := hB.real
 have hS := rStepsG_ok false (fNum m ex) (fDen ex) B (-(n : Int)) b1 b2 b3 b4 b5 (by omega)
 obtain ⟨B2, hB2⟩ : ∃ B, B = 16641 := ⟨_, rfl⟩
 have h1 := ctA_lt (den := fDen ex) (s := -(n : Int)) (fNum_lt (B := B2) hB.mB hB.hi (by omega))
 have h2 : ctA (fNum m ex) (fDen ex) (-(n : Int)) < 2 ^ (B2 + 4810) := Nat.lt_of_lt_of_le h1 (Nat.pow_le_pow_right (by decide) (by omega))
 have hcl := digs_lenB h2 (n := 340) (by omega)
 obtain ⟨h3, h4⟩ := upN_digs (r := r) (neg := neg) (x := cxA (fNum m ex) (fDen ex) (-(n : Int))) h2 (n := 340) (by omega)
 have h5 := dec_len h3 (by omega)
 have hRd := st_rounded r hr neg (fNum m ex) (fDen ex) (-(n : Int)) b3 (by omega)
 have hK : upN r neg (ctA (fNum m ex) (fDen ex) (-(n : Int))) (cxA (fNum m ex) (fDen ex) (-(n : Int))) = plK r neg m ex n := rfl
 rw [hK] at hRd h4 h5
 have hT := nTextG_ok (plK r neg m ex n) (by omega)
 have hP := pointed_ok (decG (plK r neg m ex n)) n (decG_pos _) (by omega) (by omega)
 obtain ⟨K, hKe⟩ : ∃ K, K = plK r neg m ex n := ⟨_, rfl⟩
 rw [← hKe] at hRd hT hP ⊢
 obtain ⟨W, hW⟩ : ∃ x, x = digs K := ⟨_, rfl⟩
 rw [← hW] at hRd hT
 obtain ⟨t, ht⟩ : ∃ s, s = bs (decG K) := ⟨_, rfl⟩
 rw [← ht] at hT hP
 obtain ⟨t2, ht2⟩ : ∃ s, s = bs (ptL (decG K) n) := ⟨_, rfl⟩
 rw [← ht2] at hP ⊢
 obtain ⟨eb, heb⟩ : ∃ b, b = decide (cxA (fNum m ex) (fDen ex) (-(n : Int)) = 0) := ⟨_, rfl⟩
 rw [← heb] at hRd ⊢
 obtain ⟨P, Nv, hv, sv, hpv, hpe⟩ : ∃ P N h s, stV (fNum m ex) (fDen ex) (-(n : Int)) = P ∧ P = .agg [.sl 1 N, .bool h, .bool s] := ⟨_, _, _, _, rfl, rfl⟩
 rw [hpv, hpe] at hS hRd
 unfold realQ words at hS ⊢
 obtain ⟨N1, hN1⟩ : ∃ x, x = (digs (fNum m ex)).map fun n => V.int .u64 n := ⟨_, rfl⟩
 obtain ⟨D1, hD1⟩ : ∃ x, x = (digs (fDen ex)).map fun n => V.int .u64 n := ⟨_, rfl⟩
 rw [← hN1, ← hD1] at hS ⊢
 have wn : IntKind.i64.wrap (0 - (n : Int)) = -(n : Int) := by rw [wrap_i64] <;> omega
 obtain ⟨st, hst⟩ : ∃ st, st = -(n : Int) := ⟨_, rfl⟩
 rw [← hst] at wn hS
 clear hst hN1 hD1 hpv hpe heb ht2 ht hW hKe hK h1 h2 h3 h4 h5 hcl hB b1 b2 b3 b4 b5
 refine FnOk.of Tryz.func166 rfl rfl fun cx w0 => ?_
 rw [show Tryz.f166.ntmps = 32 from rfl]
 refine zs0 ?_
 refine Holds.seq ?_
 refine zs0 ?_
 refine Holds.condF rfl (Holds.skip ?_)
 show Holds _ _ _ _ _ _ _
 refine zs3 (ρ := fun d => if d = 23 then [.v true (.agg [.sl 1 Nv, .bool hv, .bool sv])] else [.v false (words W), .v true (.bool eb)]) wn (o := by repeat' first|exact hS|exact hRd|trivial|constructor) (k := ?_)
 refine zs2 (ρ := fun d => if d = 28 then [.v true (.str t)] else [.v true (.str t2)]) (o := by repeat' first|exact hT|exact hP|trivial|constructor) (k := ?_)
 exact Holds.ret (RetOk.vs rfl (by exact ⟨⟨rfl, id⟩, ⟨rfl, id⟩, trivial⟩) rfl)
theorem upN_0 (r : Nat) (neg : Bool) (q : Nat) : upN r neg q 0 = q := by
 unfold upN mrN
 match r with
 | 0 => simp
 | 1 => simp
 | 2 => simp
 | 3 => simp
 | n + 4 => simp
theorem ctA_z (d : Nat) (s : Int) : ctA 0 d s = 0 ∧ cxA 0 d s = 0 := by
 unfold ctA cxA rstN
 rw [Nat.zero_mul, Nat.zero_div, Nat.zero_mod, if_pos rfl]
 exact ⟨rfl, rfl⟩
theorem plK_z (r : Nat) (neg : Bool) (ex : Int) (n : Nat) : plK r neg 0 ex n = 0 := by
 unfold plK fNum
 rw [Nat.zero_mul, (ctA_z _ _).1, (ctA_z _ _).2, upN_0]
def pbL (r : Nat) (neg : Bool) (kd : Int) (m : Nat) (ex : Int) (n : Nat) : List UInt8 := if kd = 3 then [110, 97, 110] else if kd = 2 then [105, 110, 102] else ptL (decG (plK r neg m ex n)) n
set_option maxHeartbeats 1000000 in
theorem rPlacesB_ok (r n : Nat) (hr : r ≤ 4) (hn : n ≤ 1200) (kd : Int) (neg : Bool) (e : Int) (l : List Int) (m : Nat) (ex : Int) (hk : 0 ≤ kd ∧ kd ≤ 3) (h1 : kd = 1 → Raw e l m ex ∧ FlB m ex) (h0 : kd ≠ 1 → ex = 0 ∧ m = 0) :
 FnOk Tryz.prog 85 [.v (.int .i64 r), .v (fltW kd neg e l), .v (.int .i64 n)] [.v true (.str (bs (pbL r neg kd m ex n))), .v true (.bool (plB kd m ex n))] := by
 unfold pbL plB
 by_cases hk1 : kd = 1
 ·obtain ⟨hR, hB⟩ := h1 hk1
  rw [if_neg (by omega), if_neg (by omega), if_neg (by omega)]
  have hr1 := real_ok neg e l m ex hR hB
  have hP := rPlaced_ok r n hr hn neg m ex hB
  obtain ⟨t2, ht2⟩ : ∃ s, s = bs (ptL (decG (plK r neg m ex n)) n) := ⟨_, rfl⟩
  rw [← ht2] at hP ⊢
  obtain ⟨eb, heb⟩ : ∃ b, b = decide (cxA (fNum m ex) (fDen ex) (-(n : Int)) = 0) := ⟨_, rfl⟩
  rw [← heb] at hP ⊢
  unfold realQ words at hr1 hP
  obtain ⟨N1, hN1⟩ : ∃ x, x = (digs (fNum m ex)).map fun n => V.int .u64 n := ⟨_, rfl⟩
  obtain ⟨D1, hD1⟩ : ∃ x, x = (digs (fDen ex)).map fun n => V.int .u64 n := ⟨_, rfl⟩
  rw [← hN1, ← hD1] at hr1 hP
  unfold fltW words at hr1 ⊢
  obtain ⟨M, hM⟩ : ∃ M, M = l.map fun n => V.int .u64 n := ⟨_, rfl⟩
  rw [← hM] at hr1 ⊢
  subst hk1
  clear hM hN1 hD1 heb ht2 hR hB h0 h1
  refine FnOk.of Tryz.func85 rfl rfl fun cx w0 => ?_
  rw [show Tryz.f85.ntmps = 27 from rfl]
  refine zs0 ?_
  refine Holds.seq ?_
  refine zs0 ?_
  refine Holds.block ?_
  refine zs0 ?_
  refine Holds.condF rfl ?_
  refine zs0 ?_
  refine Holds.condF rfl ?_
  refine zs0 ?_
  refine Holds.condF rfl (Holds.skip ?_)
  show Holds _ _ _ _ _ _ _
  refine zd2 [] (ρ := fun d => if d = 20 then [.v false (.agg [.bool false, .sl 1 N1, .sl 1 D1, .int .i64 0, .int .i64 1])] else [.v true (.str t2), .v true (.bool eb)]) (o := by repeat' first|exact hr1|exact hP|trivial|constructor) (k := ?_)
  exact Holds.ret (RetOk.vs rfl (by exact ⟨⟨rfl, id⟩, ⟨rfl, id⟩, trivial⟩) rfl)
 ·obtain ⟨rfl, rfl⟩ := h0 hk1
  rw [plK_z, show decG 0 = [48] from rfl]
  have hz : decide (cxA (fNum 0 0) (fDen 0) (-(n : Int)) = 0) = true := by
   unfold fNum
   rw [Nat.zero_mul]
   exact decide_eq_true (ctA_z _ _).2
  rw [hz]
  have hP := pointed_ok [48] n (by decide) (by decide) (by omega)
  obtain ⟨t2, ht2⟩ : ∃ s, s = bs (ptL [48] n) := ⟨_, rfl⟩
  rw [← ht2] at hP
  have hP : FnOk Tryz.prog 75 [.v (.str ⟨#[48]⟩), .v (.int .i64 n)] [.v true (.str t2)] := hP
  unfold fltW words
  obtain ⟨M, hM⟩ : ∃ M, M = l.map fun n => V.int .u64 n := ⟨_, rfl⟩
  rw [← hM]
  clear hM h1 h0 hz
  by_cases hk3 : kd = 3
  ·subst hk3
   rw [if_pos rfl, if_pos (.inl rfl)]
   refine FnOk.of Tryz.func85 rfl rfl fun cx w0 => ?_
   rw [show Tryz.f85.ntmps = 27 from rfl]
   refine zs0 ?_
   refine Holds.seq ?_
   refine zs0 ?_
   refine Holds.block ?_
   refine zs0 ?_
   refine Holds.condT rfl ?_
   refine zs0 ?_
   exact Holds.ret (RetOk.vs rfl (by exact ⟨⟨rfl, id⟩, ⟨rfl, id⟩, trivial⟩) rfl)
  ·rw [if_neg hk3]
   by_cases hk2 : kd = 2
   ·subst hk2
    rw [if_pos rfl, if_pos (.inr rfl)]
    refine FnOk.of Tryz.func85 rfl rfl fun cx w0 => ?_
    rw [show Tryz.f85.ntmps = 27 from rfl]
    refine zs0 ?_
    refine Holds.seq ?_
    refine zs0 ?_
    refine Holds.block ?_
    refine zs0 ?_
    refine Holds.condF rfl ?_
    refine zs0 ?_
    refine Holds.condT rfl ?_
    refine zs0 ?_
    exact Holds.ret (RetOk.vs rfl (by exact ⟨⟨rfl, id⟩, ⟨rfl, id⟩, trivial⟩) rfl)
   ·rw [if_neg hk2, if_neg (by omega), ← ht2]
    have hk0 : kd = 0 := by omega
    subst hk0
    clear ht2
    refine FnOk.of Tryz.func85 rfl rfl fun cx w0 => ?_
    rw [show Tryz.f85.ntmps = 27 from rfl]
    refine zs0 ?_
    refine Holds.seq ?_
    refine zs0 ?_
    refine Holds.block ?_
    refine zs0 ?_
    refine Holds.condF rfl ?_
    refine zs0 ?_
    refine Holds.condF rfl ?_
    refine zs0 ?_
    refine Holds.condT rfl ?_
    refine zs2 (ρ := fun _ => [.v true (.str t2)]) (o := by repeat' first|exact hP|trivial|constructor) (k := ?_)
    exact Holds.ret (RetOk.vs rfl (by exact ⟨⟨rfl, id⟩, ⟨rfl, id⟩, trivial⟩) rfl)
def sbL (r : Nat) (neg : Bool) (kd : Int) (m : Nat) (ex a : Int) (n : Nat) : List UInt8 := if kd = 3 then [110, 97, 110] else if kd = 2 then [105, 110, 102] else if kd = 1 then oneL (rdL r neg m ex a (n + 1)) ++ 101 :: sgL (rdE r neg m ex a (n + 1)) 2 else oneL (z48 (n + 1)) ++ 101 :: sgL 0 2
set_option maxHeartbeats 1000000 in
theorem rScienceB_ok (r n : Nat) (hr : r ≤ 4) (hn : n ≤ 1199) (kd : Int) (neg : Bool) (e : Int) (l : List Int) (m : Nat) (ex a : Int) (hk : 0 ≤ kd ∧ kd ≤ 3) (h1 : kd = 1 → Raw e l m ex ∧ FlB m ex ∧ IsA (fNum m ex) (fDen ex) a) :
 FnOk Tryz.prog 86 [.v (.int .i64 r), .v (fltW kd neg e l), .v (.int .i64 n)] [.v true (.str (bs (sbL r neg kd m ex a n))), .v true (.bool (scB kd m ex a n))] := by
 have wn : IntKind.i64.wrap ((n : Int) + 1) = ((n + 1 : Nat) : Int) := by rw [wrap_i64] <;> omega
 unfold sbL scB
 by_cases hk1 : kd = 1
 ·obtain ⟨hR, hB, hA⟩ := h1 hk1
  rw [if_neg (by omega), if_neg (by omega), if_pos hk1, if_pos hk1]
  have hab := hB.isA_bd hA
  have hD := rDigitsT_ok r (n + 1) hr (by omega) neg e l m ex a hR hB hA
  have hdl := rdL_len (r := r) (neg := neg) (n := n + 1) (by omega) hA
  have heb := rdE_bd (r := r) (neg := neg) (n := n + 1) (by omega) hA
  have hP := rRaised_ok (rdL r neg m ex a (n + 1)) (rdE r neg m ex a (n + 1)) 2 (by omega) (by omega) (by omega) (by decide)
  obtain ⟨d, hd⟩ : ∃ s, s = bs (rdL r neg m ex a (n + 1)) := ⟨_, rfl⟩
  obtain ⟨x, hx⟩ : ∃ s, s = rdE r neg m ex a (n + 1) := ⟨_, rfl⟩
  obtain ⟨t, ht⟩ : ∃ s, s = bs (oneL (rdL r neg m ex a (n + 1)) ++ 101 :: sgL (rdE r neg m ex a (n + 1)) 2) := ⟨_, rfl⟩
  obtain ⟨b, hb⟩ : ∃ b, b = decide (cxA (fNum m ex) (fDen ex) (a - (n + 1 : Nat) + 1) = 0) := ⟨_, rfl⟩
  rw [← hd, ← hx, ← hb] at hD
  rw [← hd, ← ht, ← hx] at hP
  rw [← ht, ← hb]
  obtain ⟨n1, hn1⟩ : ∃ n1, n1 = n + 1 := ⟨_, rfl⟩
  rw [← hn1] at wn hD
  unfold fltW words at hD ⊢
  obtain ⟨M, hM⟩ : ∃ M, M = l.map fun n => V.int .u64 n := ⟨_, rfl⟩
  rw [← hM] at hD ⊢
  subst hk1
  clear hM hb ht hx hd hR hB hA h1 hdl heb hab hn1
  have hP : FnOk Tryz.prog 167 [.v (.str d), .v (.int .i64 x), .v (.int .i64 2)] [.v true (.str t)] := hP
  refine FnOk.of Tryz.func86 rfl rfl fun cx w0 => ?_
  rw [show Tryz.f86.ntmps = 36 from rfl]
  refine zs0 ?_
  refine Holds.seq ?_
  refine zs0 ?_
  refine Holds.block ?_
  refine zs0 ?_
  refine Holds.condF rfl ?_
  refine zs0 ?_
  refine Holds.condF rfl ?_
  refine zs0 ?_
  refine Holds.condF rfl (Holds.skip ?_)
  show Holds _ _ _ _ _ _ _
  refine zs3 (ρ := fun _ => [.v true (.str d), .v true (.int .i64 x), .v true (.bool b)]) wn (o := by repeat' first|exact hD|trivial|constructor) (k := ?_)
  refine zs2 (ρ := fun _ => [.v true (.str t)]) (o := by repeat' first|exact hP|trivial|constructor) (k := ?_)
  exact Holds.ret (RetOk.vs rfl (by exact ⟨⟨rfl, id⟩, ⟨rfl, id⟩, trivial⟩) rfl)
 ·rw [if_neg hk1, if_neg hk1]
  have hZ := zeros_ok ((n + 1 : Nat) : Int) (by omega)
  rw [Int.toNat_natCast] at hZ
  have hP := rRaised_ok (z48 (n + 1)) 0 2 (by rw [z48_len]; omega) (by rw [z48_len]; omega) (by decide) (by decide)
  obtain ⟨d, hd⟩ : ∃ s, s = bs (z48 (n + 1)) := ⟨_, rfl⟩
  obtain ⟨t, ht⟩ : ∃ s, s = bs (oneL (z48 (n + 1)) ++ 101 :: sgL 0 2) := ⟨_, rfl⟩
  rw [← hd] at hZ
  rw [← hd, ← ht] at hP
  obtain ⟨n1, hn1⟩ : ∃ n1, n1 = n + 1 := ⟨_, rfl⟩
  have hP : FnOk Tryz.prog 167 [.v (.str d), .v (.int .i64 0), .v (.int .i64 2)] [.v true (.str t)] := hP
  rw [← hn1] at wn hZ
  unfold fltW words
  obtain ⟨M, hM⟩ : ∃ M, M = l.map fun n => V.int .u64 n := ⟨_, rfl⟩
  rw [← hM]
  clear hM h1 hd hn1
  by_cases hk3 : kd = 3
  ·subst hk3
   rw [if_pos rfl]
   refine FnOk.of Tryz.func86 rfl rfl fun cx w0 => ?_
   rw [show Tryz.f86.ntmps = 36 from rfl]
   refine zs0 ?_
   refine Holds.seq ?_
   refine zs0 ?_
   refine Holds.block ?_
   refine zs0 ?_
   refine Holds.condT rfl ?_
   refine zs0 ?_
   exact Holds.ret (RetOk.vs rfl (by exact ⟨⟨rfl, id⟩, ⟨rfl, id⟩, trivial⟩) rfl)
  ·rw [if_neg hk3]
   by_cases hk2 : kd = 2
   ·subst hk2
    rw [if_pos rfl]
    refine FnOk.of Tryz.func86 rfl rfl fun cx w0 => ?_
    rw [show Tryz.f86.ntmps = 36 from rfl]
    refine zs0 ?_
    refine Holds.seq ?_
    refine zs0 ?_
    refine Holds.block ?_
    refine zs0 ?_
    refine Holds.condF rfl ?_
    refine zs0 ?_
    refine Holds.condT rfl ?_
    refine zs0 ?_
    exact Holds.ret (RetOk.vs rfl (by exact ⟨⟨rfl, id⟩, ⟨rfl, id⟩, trivial⟩) rfl)
   ·rw [if_neg hk2, ← ht]
    have hk0 : kd = 0 := by omega
    subst hk0
    clear ht
    refine FnOk.of Tryz.func86 rfl rfl fun cx w0 => ?_
    rw [show Tryz.f86.ntmps = 36 from rfl]
    refine zs0 ?_
    refine Holds.seq ?_
    refine zs0 ?_
    refine Holds.block ?_
    refine zs0 ?_
    refine Holds.condF rfl ?_
    refine zs0 ?_
    refine Holds.condF rfl ?_
    refine zs0 ?_
    refine Holds.condT rfl ?_
    refine zs3 (ρ := fun x => if x = 21 then [.v true (.str d)] else [.v true (.str t)]) wn (o := by repeat' first|exact hZ|exact hP|trivial|constructor) (k := ?_)
    exact Holds.ret (RetOk.vs rfl (by exact ⟨⟨rfl, id⟩, ⟨rfl, id⟩, trivial⟩) rfl)
theorem rPlaces_gen (f : Nat) (r n : Int) (kd : Int) (neg : Bool) (e : Int) (l : List Int) (t : List UInt8) (b : Bool) (ht : t.length < 10000000) (h : FnOk Tryz.prog 85 [.v (.int .i64 r), .v (fltW kd neg e l), .v (.int .i64 n)] [.v true (.str (bs t)), .v true (.bool b)]) :
 FnOk Tryz.prog 26 [.v (.int .i64 r), .v (fltW kd neg e l), .v (.int .i64 n)] [.v true (.str (bs (smL neg t))), .v true (.bool b)] := by
 have hS := rSigned_ok neg t ht
 obtain ⟨s, hs⟩ : ∃ s, s = bs t := ⟨_, rfl⟩
 obtain ⟨s2, hs2⟩ : ∃ s, s = bs (smL neg t) := ⟨_, rfl⟩
 rw [← hs, ← hs2] at hS
 rw [← hs] at h
 rw [← hs2]
 unfold fltW words at h ⊢
 obtain ⟨M, hM⟩ : ∃ M, M = l.map fun n => V.int .u64 n := ⟨_, rfl⟩
 rw [← hM] at h ⊢
 clear hM hs hs2
 refine FnOk.of Tryz.func26 rfl rfl fun cx w0 => ?_
 rw [show Tryz.f26.ntmps = 22 from rfl]
 refine zs0 ?_
 refine zs2 (ρ := fun _ => [.v true (.str s), .v true (.bool b)]) (o := by repeat' first|exact h|trivial|constructor) (k := ?_)
 refine zs2 (ρ := fun _ => [.v true (.str s2)]) (o := by repeat' first|exact hS|trivial|constructor) (k := ?_)
 exact Holds.ret (RetOk.vs rfl (by exact ⟨⟨rfl, id⟩, ⟨rfl, id⟩, trivial⟩) rfl)
theorem rScience_gen (r n : Int) (kd : Int) (neg : Bool) (e : Int) (l : List Int) (t : List UInt8) (b : Bool) (ht : t.length < 10000000) (h : FnOk Tryz.prog 86 [.v (.int .i64 r), .v (fltW kd neg e l), .v (.int .i64 n)] [.v true (.str (bs t)), .v true (.bool b)]) :
 FnOk Tryz.prog 27 [.v (.int .i64 r), .v (fltW kd neg e l), .v (.int .i64 n)] [.v true (.str (bs (smL neg t))), .v true (.bool b)] := by
 have hS := rSigned_ok neg t ht
 obtain ⟨s, hs⟩ : ∃ s, s = bs t := ⟨_, rfl⟩
 obtain ⟨s2, hs2⟩ : ∃ s, s = bs (smL neg t) := ⟨_, rfl⟩
 rw [← hs, ← hs2] at hS
 rw [← hs] at h
 rw [← hs2]
 unfold fltW words at h ⊢
 obtain ⟨M, hM⟩ : ∃ M, M = l.map fun n => V.int .u64 n := ⟨_, rfl⟩
 rw [← hM] at h ⊢
 clear hM hs hs2
 refine FnOk.of Tryz.func27 rfl rfl fun cx w0 => ?_
 rw [show Tryz.f27.ntmps = 22 from rfl]
 refine zs0 ?_
 refine zs2 (ρ := fun _ => [.v true (.str s), .v true (.bool b)]) (o := by repeat' first|exact h|trivial|constructor) (k := ?_)
 refine zs2 (ρ := fun _ => [.v true (.str s2)]) (o := by repeat' first|exact hS|trivial|constructor) (k := ?_)
 exact Holds.ret (RetOk.vs rfl (by exact ⟨⟨rfl, id⟩, ⟨rfl, id⟩, trivial⟩) rfl)
theorem sp_signed {kd : Int} {neg : Bool} (h : kd = 3 ∨ kd = 2) (hn : kd = 3 → neg = false) : spL kd neg = smL neg (if kd = 3 then [110, 97, 110] else [105, 110, 102]) := by
 unfold spL
 rcases h with h | h
 ·rw [if_pos h, if_pos h, hn h]; rfl
 ·rw [if_neg (by omega), if_pos h, if_neg (by omega)]
theorem rPlaces_ok (r n : Nat) (hr : r ≤ 4) (hn : n ≤ 1200) (k P kd : Int) (neg : Bool) (e : Int) (l : List Int) (m : Nat) (ex : Int) (hf : FlAny k P kd neg e l m ex) (h1 : kd = 1 → Raw e l m ex ∧ FlB m ex) :
 FnOk Tryz.prog 26 [.v (.int .i64 r), .v (fltW kd neg e l), .v (.int .i64 n)] [.v true (.str (bs (plL r neg kd m ex n))), .v true (.bool (plB kd m ex n))] := by
 have b2 := (pl_bd hf r neg hn).2
 have hpl := ptL_len (decG (plK r neg m ex n)) n
 have hb : (pbL r neg kd m ex n).length < 10000000 := by
  unfold pbL
  split
  ·decide
  ·split
   ·decide
   ·omega
 have h := rPlaces_gen 0 r n kd neg e l _ _ hb (rPlacesB_ok r n hr hn kd neg e l m ex hf.kd3 h1 hf.z)
 have he : plL r neg kd m ex n = smL neg (pbL r neg kd m ex n) := by
  unfold plL pbL
  by_cases hk : kd = 3 ∨ kd = 2
  ·rw [if_pos hk, sp_signed hk hf.nan]
   by_cases h3 : kd = 3
   ·rw [if_pos h3, if_pos h3]
   ·rw [if_neg h3, if_neg h3, if_pos (by omega)]
  ·rw [if_neg hk, if_neg (by omega), if_neg (by omega)]
 rw [he]
 exact h
theorem rScience_ok (r n : Nat) (hr : r ≤ 4) (hn : n ≤ 1199) (k P kd : Int) (neg : Bool) (e : Int) (l : List Int) (m : Nat) (ex a : Int) (hf : FlAny k P kd neg e l m ex) (h1 : kd = 1 → Raw e l m ex ∧ FlB m ex ∧ IsA (fNum m ex) (fDen ex) a) :
 FnOk Tryz.prog 27 [.v (.int .i64 r), .v (fltW kd neg e l), .v (.int .i64 n)] [.v true (.str (bs (scL r neg kd m ex a n))), .v true (.bool (scB kd m ex a n))] := by
 have hb : (sbL r neg kd m ex a n).length < 10000000 := by
  unfold sbL
  split
  ·decide
  ·split
   ·decide
   ·split
    ·next hk =>
     obtain ⟨_, hB, hA⟩ := h1 hk
     have hab := hB.isA_bd hA
     have := oneL_len (rdL r neg m ex a (n + 1))
     have hdl := rdL_len (r := r) (neg := neg) (n := n + 1) (by omega) hA
     have heb := rdE_bd (r := r) (neg := neg) (n := n + 1) (by omega) hA
     have := sgL_len (rdE r neg m ex a (n + 1)) 2 (by omega) (by decide)
     simp only [List.length_append, List.length_cons]
     omega
    ·have := oneL_len (z48 (n + 1))
     rw [z48_len] at this
     have := sgL_len 0 2 (by decide) (by decide)
     simp only [List.length_append, List.length_cons]
     omega
 have h := rScience_gen r n kd neg e l _ _ hb (rScienceB_ok r n hr hn kd neg e l m ex a hf.kd3 h1)
 have he : scL r neg kd m ex a n = smL neg (sbL r neg kd m ex a n) := by
  unfold scL sbL
  by_cases hk : kd = 3 ∨ kd = 2
  ·rw [if_pos hk, sp_signed hk hf.nan]
   by_cases h3 : kd = 3
   ·rw [if_pos h3, if_pos h3]
   ·rw [if_neg h3, if_neg h3, if_pos (by omega)]
  ·have h3 : ¬ kd = 3 := by omega
   have h2 : ¬ kd = 2 := by omega
   rw [if_neg hk, if_neg h3, if_neg h2]
   by_cases h1 : kd = 1
   ·rw [if_pos h1, if_pos h1]
   ·rw [if_neg h1, if_neg h1]
 rw [he]
 exact h
theorem nLarge_ok (l : List Int) : FnOk Tryz.prog 102 [.v (words l)] [.v true (.bool (decide (4096 < l.length)))] := by
 unfold words
 have hd : decide ((4096 : Int) < (l.length : Int)) = decide (4096 < l.length) := decide_eq_decide.2 (by omega)
 refine FnOk.of Tryz.func102 rfl rfl fun cx w0 => ?_
 rw [show Tryz.f102.ntmps = 6 from rfl]
 refine zs0 ?_
 refine zs1 hd ?_
 exact Holds.ret (RetOk.vs rfl (by exact ⟨⟨rfl, id⟩, trivial⟩) rfl)
theorem fLarge_ok (kd : Int) (neg : Bool) (e : Int) (l : List Int) : FnOk Tryz.prog 65 [.v (fltW kd neg e l)] [.v true (.bool (decide (4096 < l.length)))] := by
 have h := nLarge_ok l
 obtain ⟨b, hb⟩ : ∃ b, b = decide (4096 < l.length) := ⟨_, rfl⟩
 rw [← hb] at h ⊢
 unfold fltW
 clear hb
 refine FnOk.of Tryz.func65 rfl rfl fun cx w0 => ?_
 rw [show Tryz.f65.ntmps = 6 from rfl]
 refine zs0 ?_
 refine zs2 (ρ := fun _ => [.v true (.bool b)]) (o := by repeat' first|exact h|trivial|constructor) (k := ?_)
 exact Holds.ret (RetOk.vs rfl (by exact ⟨⟨rfl, id⟩, trivial⟩) rfl)
set_option maxHeartbeats 1000000 in
theorem fGood_ok (kd : Int) (neg : Bool) (e : Int) (l : List Int) (hl : l.length < 5000) (ol : okW l) : FnOk Tryz.prog 67 [.v (fltW kd neg e l)] [.v true (.bool (cnB kd neg e (val l)))] := by
 have hZ := IsZero_ok l (by omega) ol
 have hO := oddL_ok neg e l (by omega) ol
 unfold cnB
 obtain ⟨v, hv⟩ : ∃ v, v = val l := ⟨_, rfl⟩
 rw [← hv] at hZ hO ⊢
 obtain ⟨t, ht⟩ : ∃ t, t = e + (trN v : Int) := ⟨_, rfl⟩
 obtain ⟨Q, hQ⟩ : ∃ Q, Q = digs (v / 2 ^ trN v) := ⟨_, rfl⟩
 rw [← ht, ← hQ] at hO
 rw [← ht]
 unfold fltW words at hO ⊢
 unfold words at hZ
 obtain ⟨L, hL⟩ : ∃ L, L = l.map fun n => V.int .u64 n := ⟨_, rfl⟩
 rw [← hL] at hZ hO ⊢
 clear hL hQ ht hv ol hl
 by_cases h02 : kd = 0 ∨ kd = 2
 ·rw [if_pos h02]
  clear hO
  obtain ⟨z, hz⟩ : ∃ z, z = decide (v = 0) := ⟨_, rfl⟩
  have hd : decide (e = 0 ∧ v = 0) = (decide (e = 0) && z) := by rw [hz]; simp
  rw [← hz] at hZ
  rw [hd]
  clear hz hd
  by_cases he0 : e = 0
  ·subst he0
   rw [decide_eq_true rfl, Bool.true_and]
   rcases h02 with rfl | rfl
   ·refine FnOk.of Tryz.func67 rfl rfl fun cx w0 => ?_
    rw [show Tryz.f67.ntmps = 55 from rfl]
    refine zs0 ?_
    refine Holds.seq ?_
    refine zs0 ?_
    refine Holds.block ?_
    refine Holds.seq ?_
    refine zs0 ?_
    refine Holds.condT rfl (Holds.skip ?_)
    refine Holds.condT rfl ?_
    refine zs2 (ρ := fun _ => [.v true (.bool z)]) (o := by repeat' first|exact hZ|trivial|constructor) (k := ?_)
    exact Holds.ret (RetOk.vs rfl (by exact ⟨⟨rfl, id⟩, trivial⟩) rfl)
   ·refine FnOk.of Tryz.func67 rfl rfl fun cx w0 => ?_
    rw [show Tryz.f67.ntmps = 55 from rfl]
    refine zs0 ?_
    refine Holds.seq ?_
    refine zs0 ?_
    refine Holds.block ?_
    refine Holds.seq ?_
    refine zs0 ?_
    refine Holds.condF rfl ?_
    refine zr0 ?_
    show Holds _ _ _ _ _ _ _
    refine Holds.condT rfl ?_
    refine zs2 (ρ := fun _ => [.v true (.bool z)]) (o := by repeat' first|exact hZ|trivial|constructor) (k := ?_)
    exact Holds.ret (RetOk.vs rfl (by exact ⟨⟨rfl, id⟩, trivial⟩) rfl)
  ·rw [decide_eq_false he0, Bool.false_and]
   rcases h02 with rfl | rfl
   ·refine FnOk.of Tryz.func67 rfl rfl fun cx w0 => ?_
    rw [show Tryz.f67.ntmps = 55 from rfl]
    refine zs0 ?_
    refine Holds.seq ?_
    refine zs0 ?_
    refine Holds.block ?_
    refine Holds.seq ?_
    refine zs0 ?_
    refine Holds.condT rfl (Holds.skip ?_)
    refine Holds.condT rfl ?_
    refine zs1 he0 ?_
    exact Holds.ret (RetOk.vs rfl (by exact ⟨⟨rfl, id⟩, trivial⟩) rfl)
   ·refine FnOk.of Tryz.func67 rfl rfl fun cx w0 => ?_
    rw [show Tryz.f67.ntmps = 55 from rfl]
    refine zs0 ?_
    refine Holds.seq ?_
    refine zs0 ?_
    refine Holds.block ?_
    refine Holds.seq ?_
    refine zs0 ?_
    refine Holds.condF rfl ?_
    refine zr0 ?_
    show Holds _ _ _ _ _ _ _
    refine Holds.condT rfl ?_
    refine zs1 he0 ?_
    exact Holds.ret (RetOk.vs rfl (by exact ⟨⟨rfl, id⟩, trivial⟩) rfl)
 ·rw [if_neg h02]
  have h0 : ¬ kd = 0 := fun h => h02 (.inl h)
  have h2 : ¬ kd = 2 := fun h => h02 (.inr h)
  have head : ∀ {rs : List R}, (∀ cx w0, Holds Tryz.prog none cx w0 (codeAt Tryz.f67 [1, 0, 1, 0, 1, 1]) { nt := 55, env := [(1, .ptr 1 0 [] 0), (6, .v true (.int .i64 kd))], mem := [(1, .box 38 (.v false (.agg [.int .i64 kd, .bool neg, .int .i64 e, .sl 1 L])))] } (NR (fun σ => False) (fnQ Tryz.prog Tryz.f67 rs .ret)) ∨ Holds Tryz.prog none cx w0 (codeAt Tryz.f67 [1, 0, 1, 0, 1, 1]) { nt := 55, env := [(1, .ptr 1 0 [] 0), (6, .v true (.int .i64 kd))], mem := [(1, .box 38 (.v false (.agg [.int .i64 kd, .bool neg, .int .i64 e, .sl 1 L])))] } (NR (fun σ => ∀ a w, Rel cx w0 σ a w → Rel cx w0 { nt := 55, env := [], mem := [] } a w) (fnQ Tryz.prog Tryz.f67 rs .ret)) ∧ rs = [.v true (.bool false)]) → FnOk Tryz.prog 67 [.v (.agg [.int .i64 kd, .bool neg, .int .i64 e, .sl 1 L])] rs := fun {rs} hh => by
   refine FnOk.of Tryz.func67 rfl rfl fun cx w0 => ?_
   rw [show Tryz.f67.ntmps = 55 from rfl]
   refine zs0 ?_
   refine Holds.next (fun σ => rs = [.v true (.bool false)] ∧ ∀ a w, Rel cx w0 σ a w → Rel cx w0 { nt := 55, env := [], mem := [] } a w) ?_ ?_
   ·refine zs0 ?_
    refine Holds.blockN ?_
    refine Holds.seq ?_
    refine zs1 h0 ?_
    refine Holds.condF rfl ?_
    refine zr1 h2 ?_
    show Holds _ _ _ _ _ _ _
    refine Holds.condF rfl ?_
    rcases hh cx w0 with h | ⟨h, hr⟩
    ·refine Holds.from (fun a w h => Rel.keep [1, 6] [1] h) (h.mono fun x σ hx => ?_)
     cases x <;> first | exact hx.elim | exact hx
    ·refine Holds.from (fun a w h => Rel.keep [1, 6] [1] h) (h.mono fun x σ hx => ?_)
     cases x <;> first | exact hx.elim | exact ⟨hr, hx⟩ | exact hx
   ·rintro σ ⟨hr, hσ⟩
    refine Holds.from hσ ?_
    rw [hr]
    refine zs0 ?_
    exact Holds.ret (RetOk.vs rfl (by exact ⟨⟨rfl, id⟩, trivial⟩) rfl)
  by_cases h3 : kd = 3
  ·rw [if_pos h3]
   subst h3
   clear hO
   obtain ⟨z, hz⟩ : ∃ z, z = decide (v = 0) := ⟨_, rfl⟩
   have hd : decide (e = 0 ∧ v = 0) = (decide (e = 0) && z) := by rw [hz]; simp
   rw [← hz] at hZ
   rw [hd]
   clear hz hd
   refine head fun cx w0 => .inl ?_
   refine zs0 ?_
   refine Holds.condT rfl ?_
   cases neg with
   | true =>
     rw [Bool.not_true, Bool.false_and]
     refine zs0 ?_
     exact Holds.ret (RetOk.vs rfl (by exact ⟨⟨rfl, id⟩, trivial⟩) rfl)
   | false =>
     rw [Bool.not_false, Bool.true_and]
     by_cases he0 : e = 0
     ·subst he0
      rw [decide_eq_true rfl, Bool.true_and]
      refine zs2 (ρ := fun _ => [.v true (.bool z)]) (o := by repeat' first|exact hZ|trivial|constructor) (k := ?_)
      exact Holds.ret (RetOk.vs rfl (by exact ⟨⟨rfl, id⟩, trivial⟩) rfl)
     ·rw [decide_eq_false he0, Bool.false_and]
      refine zs1 he0 ?_
      exact Holds.ret (RetOk.vs rfl (by exact ⟨⟨rfl, id⟩, trivial⟩) rfl)
  ·rw [if_neg h3]
   by_cases h1 : kd = 1
   ·rw [if_pos h1]
    subst h1
    refine head fun cx w0 => .inl ?_
    refine zs0 ?_
    refine Holds.condF rfl ?_
    refine zs0 ?_
    refine Holds.condT rfl ?_
    by_cases hin : v ≠ 0 ∧ -1048576 ≤ e ∧ e ≤ 1048576
    ·obtain ⟨hv0, hi1, hi2⟩ := hin
     rw [decide_eq_false hv0] at hZ
     have hO := hO (by omega)
     have hd : decide (v ≠ 0 ∧ -1048576 ≤ e ∧ e ≤ 1048576 ∧ t ≤ 1048576) = decide (t ≤ 1048576) := decide_eq_decide.2 (by constructor; exact fun h => h.2.2.2; exact fun h => ⟨hv0, hi1, hi2, h⟩)
     rw [hd]
     have g1 : ¬ e < -1048576 := by omega
     have g2 : ¬ (1048576 : Int) < e := by omega
     refine Holds.seq ?_
     refine zs3 (ρ := fun _ => [.v true (.bool false)]) (an g1 <| g2) (o := by repeat' first|exact hZ|trivial|constructor) (k := ?_)
     refine Holds.condF rfl (Holds.skip ?_)
     show Holds _ _ _ _ _ _ _
     refine zs2 (ρ := fun _ => [.v true (words Q), .v true (.int .i64 t)]) (o := by repeat' first|exact hO|trivial|constructor) (k := ?_)
     refine zs0 ?_
     exact Holds.ret (RetOk.vs rfl (by exact ⟨⟨rfl, id⟩, trivial⟩) rfl)
    ·rw [decide_eq_false (fun h => hin ⟨h.1, h.2.1, h.2.2.1⟩)]
     refine Holds.seq ?_
     by_cases hv0 : v = 0
     ·rw [decide_eq_true hv0] at hZ
      refine zs2 (ρ := fun _ => [.v true (.bool true)]) (o := by repeat' first|exact hZ|trivial|constructor) (k := ?_)
      refine Holds.condT rfl ?_
      refine zs0 ?_
      exact Holds.ret (RetOk.vs rfl (by exact ⟨⟨rfl, id⟩, trivial⟩) rfl)
     ·rw [decide_eq_false hv0] at hZ
      by_cases g1 : e < -1048576
      ·refine zs3 (ρ := fun _ => [.v true (.bool false)]) g1 (o := by repeat' first|exact hZ|trivial|constructor) (k := ?_)
       refine Holds.condT rfl ?_
       refine zs0 ?_
       exact Holds.ret (RetOk.vs rfl (by exact ⟨⟨rfl, id⟩, trivial⟩) rfl)
      ·have g2 : (1048576 : Int) < e := by omega
       refine zs3 (ρ := fun _ => [.v true (.bool false)]) (an g1 <| g2) (o := by repeat' first|exact hZ|trivial|constructor) (k := ?_)
       refine Holds.condT rfl ?_
       refine zs0 ?_
       exact Holds.ret (RetOk.vs rfl (by exact ⟨⟨rfl, id⟩, trivial⟩) rfl)
   ·rw [if_neg h1]
    refine head fun cx w0 => .inr ⟨?_, rfl⟩
    refine zs1 h3 ?_
    refine Holds.condF rfl ?_
    refine zs1 h1 ?_
    exact Holds.condF rfl (Holds.skip fun a w h => Rel.keep [] [] h)
theorem fTiny_ok (K p : Nat) (hK : 1 ≤ K ∧ K ≤ 14) (hP : 2 ≤ p ∧ p ≤ 256) : FnOk Tryz.prog 144 [.v (fmtV ((K + 1 : Nat) : Int) p)] [.v true (.int .i64 (1 - gK K - (p - 1)))] := by
 have h1 := fLeast_ok K p hK
 have hG := gK_bd hK
 obtain ⟨G, hG'⟩ : ∃ G, G = 1 - gK K := ⟨_, rfl⟩
 rw [← hG'] at h1 ⊢
 unfold fmtV at h1 ⊢
 have w1 : IntKind.i64.wrap ((p : Int) - 1) = (p : Int) - 1 := by rw [wrap_i64] <;> omega
 have w2 : IntKind.i64.wrap (G - ((p : Int) - 1)) = G - ((p : Int) - 1) := by rw [wrap_i64] <;> omega
 obtain ⟨F, hF⟩ : ∃ F : Int, F = ((K + 1 : Nat) : Int) := ⟨_, rfl⟩
 rw [← hF] at h1 ⊢
 refine FnOk.of Tryz.func144 rfl rfl fun cx w0 => ?_
 rw [show Tryz.f144.ntmps = 9 from rfl]
 refine zs0 ?_
 refine zd3 [] (ρ := fun _ => [.v true (.int .i64 G)]) (an w1 <| w2) (o := by repeat' first|exact h1|trivial|constructor) (k := ?_)
 exact Holds.ret (RetOk.vs rfl (by exact ⟨⟨rfl, id⟩, trivial⟩) rfl)
set_option maxHeartbeats 1000000 in
theorem fIn_ok (K p : Nat) (hK : 1 ≤ K ∧ K ≤ 14) (hP : 2 ≤ p ∧ p ≤ 256) (kd : Int) (neg : Bool) (e : Int) (l : List Int) (hl : l.length < 5000) (ol : okW l) (he : kd = 1 → -1048576 ≤ e ∧ e ≤ 1048576) :
 FnOk Tryz.prog 68 [.v (fmtV ((K + 1 : Nat) : Int) p), .v (fltW kd neg e l)] [.v true (.bool (decide (kd ≠ 1) || hoI K p (e + trN (val l)) (val l / 2 ^ trN (val l))))] := by
 by_cases h1 : kd = 1
 ·subst h1
  have he := he rfl
  rw [decide_eq_false (by simp), Bool.false_or]
  have hO := oddL_ok neg e l (by omega) ol (by omega)
  have hT := fTiny_ok K p hK hP
  have hGr := Greatest_ok K p hK
  have hG := gK_bd hK
  have hml : (digs (val l / 2 ^ trN (val l))).length < 6000 := by
   have h2 := digs_mono (Nat.div_le_self (val l) (2 ^ trN (val l)))
   have h3 := digs_len (val_lt ol)
   omega
  have hL := rLen_ok (digs (val l / 2 ^ trN (val l))) (by omega) (digs_ok _).1
  rw [lenR_eq (digs_ok _).1, (digs_ok _).2.2] at hL
  have hbl : blN (val l / 2 ^ trN (val l)) ≤ 64 * 6000 := by
   have := bl_lt (val_bl (digs_ok (val l / 2 ^ trN (val l))).1)
   rw [(digs_ok _).2.2] at this
   omega
  have htl : trN (val l) ≤ 64 * l.length := by
   rcases Nat.eq_zero_or_pos (val l) with h0 | h0
   ·rw [h0]; exact Nat.zero_le _
   ·have := trN_le (v := val l) (k := 64 * l.length) h0 (val_bl ol)
    omega
  unfold hoI
  obtain ⟨n, hn⟩ : ∃ n, n = blN (val l / 2 ^ trN (val l)) := ⟨_, rfl⟩
  rw [← hn] at hL hbl ⊢
  obtain ⟨x, hx⟩ : ∃ x, x = e + (trN (val l) : Int) := ⟨_, rfl⟩
  rw [← hx] at hO ⊢
  obtain ⟨Q, hQ⟩ : ∃ Q, Q = digs (val l / 2 ^ trN (val l)) := ⟨_, rfl⟩
  rw [← hQ] at hO hL
  obtain ⟨G, hG'⟩ : ∃ G, G = gK K := ⟨_, rfl⟩
  rw [← hG'] at hGr hT hG ⊢
  obtain ⟨F, hF⟩ : ∃ F : Int, F = ((K + 1 : Nat) : Int) := ⟨_, rfl⟩
  rw [← hF] at hGr hT ⊢
  unfold fmtV at hGr hT ⊢
  unfold fltW at hO ⊢
  obtain ⟨Ty, hTy⟩ : ∃ T, T = 1 - G - ((p : Int) - 1) := ⟨_, rfl⟩
  rw [← hTy] at hT ⊢
  have hxb : -1048576 ≤ x ∧ x ≤ 1400000 := by omega
  have w1 : IntKind.i64.wrap ((n : Int) + x) = (n : Int) + x := by rw [wrap_i64] <;> omega
  have w2 : IntKind.i64.wrap (G + 1) = G + 1 := by rw [wrap_i64] <;> omega
  clear hF hG' hQ hx hn hml ol
  refine FnOk.of Tryz.func68 rfl rfl fun cx w0 => ?_
  rw [show Tryz.f68.ntmps = 36 from rfl]
  refine zs0 ?_
  refine Holds.seq ?_
  refine zs0 ?_
  refine Holds.condF rfl (Holds.skip ?_)
  show Holds _ _ _ _ _ _ _
  refine zs2 (ρ := fun _ => [.v true (words Q), .v true (.int .i64 x)]) (o := by repeat' first|exact hO|trivial|constructor) (k := ?_)
  by_cases a1 : (n : Int) ≤ (p : Int)
  ·by_cases a2 : Ty ≤ x
   ·have hd : decide (n ≤ p ∧ Ty ≤ x ∧ x + (n : Int) - 1 ≤ G) = decide ((n : Int) + x ≤ G + 1) := decide_eq_decide.2 (by omega)
    rw [hd]
    refine zd3 [] (ρ := fun d => if d = 16 then [.v true (.int .i64 n)] else if d = 28 then [.v true (.int .i64 n)] else if d = 23 then [.v true (.int .i64 Ty)] else [.v true (.int .i64 G)]) (an a1 <| an a2 <| an w1 <| w2) (o := by repeat' first|exact hL|exact hT|exact hGr|trivial|constructor) (k := ?_)
    exact Holds.ret (RetOk.vs rfl (by exact ⟨⟨rfl, id⟩, trivial⟩) rfl)
   ·rw [decide_eq_false (fun h => a2 h.2.1)]
    refine zd3 [] (ρ := fun d => if d = 16 then [.v true (.int .i64 n)] else [.v true (.int .i64 Ty)]) (an a1 <| a2) (o := by repeat' first|exact hL|exact hT|trivial|constructor) (k := ?_)
    exact Holds.ret (RetOk.vs rfl (by exact ⟨⟨rfl, id⟩, trivial⟩) rfl)
  ·rw [decide_eq_false (fun h => a1 (by omega))]
   refine zd3 [] (ρ := fun d => [.v true (.int .i64 n)]) a1 (o := by repeat' first|exact hL|trivial|constructor) (k := ?_)
   exact Holds.ret (RetOk.vs rfl (by exact ⟨⟨rfl, id⟩, trivial⟩) rfl)
 ·rw [decide_eq_true h1, Bool.true_or]
  unfold fmtV fltW
  refine FnOk.of Tryz.func68 rfl rfl fun cx w0 => ?_
  rw [show Tryz.f68.ntmps = 36 from rfl]
  refine zs0 ?_
  refine Holds.seq ?_
  refine zs1 h1 ?_
  refine Holds.condT rfl ?_
  refine zs0 ?_
  exact Holds.ret (RetOk.vs rfl (by exact ⟨⟨rfl, id⟩, trivial⟩) rfl)
end Go.Proofs.YtlpolbeikangpaaGreatDoor.L
