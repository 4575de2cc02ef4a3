/-
  Ln Lo Lp Lq Lr
-/
import Derived.Test.YtlpolbeikangpaaGreatDoorPP1
set_option linter.unusedSimpArgs false
set_option linter.unusedVariables false
set_option maxRecDepth 100000
namespace Go.Proofs.YtlpolbeikangpaaGreatDoor.L
open Go Go.RowKit
inductive R where
 | v (nw : Bool) (x : V)
 | own (s : Nat) (e : TypeId) (sz : Nat) (nw : Bool) (xs : List V)
 | clo (f : FuncId) (caps : List (Nat × TypeId × Bool × V))
instance : Inhabited R := ⟨.v true .nfun⟩
def R.av : R → AV
 | .v nw x => .v nw x
 | .own s _ _ _ xs => .own s 0 xs.length
 | .clo f caps => .fn f (caps.map fun c => .ptr c.1 0 [] 0)
def R.blks : R → List (Nat × Blk)
 | .v _ _ => []
 | .own s e sz nw xs => [(s, .buf e sz nw xs)]
 | .clo _ caps => caps.map fun c => (c.1, .box c.2.1 (.v c.2.2.1 c.2.2.2))
def R.mems : List R → List (Nat × Blk)
 | [] => []
 | r :: q => r.blks ++ R.mems q
def R.names (rs : List R) : List Nat := (R.mems rs).map (·.1)
def R.nw : R → Bool
 | .v nw _ => nw
 | .own _ _ _ nw _ => nw
 | .clo _ caps => caps.all fun c => c.2.2.1
def R.res : List R → AV
 | [r] => r.av
 | rs => .tup (rs.map R.av)
inductive Arg where
 | v (x : V)
 | el (x : V)
 | fn (f : FuncId) (caps : List Arg)
 | knot (f : FuncId) (x : V)
mutual
def ArgRep (w : World) (O : Nat → Prop) : Arg → Value → Prop
 | .v x, val => ∃ cs, Rep w (fun b => b < w.heap.size ∧ O b) x cs ∧ val = x.toVal cs
 | .el x, val => ∃ b o cs, (b < w.heap.size ∧ O b) ∧ val = .pointer (some ⟨b, o, none⟩) ∧ Rep w (fun b => b < w.heap.size ∧ O b) x cs ∧ ∀ j, j < cs.length → w.cell? ⟨b, o + j, none⟩ = cs[j]?
 | .fn f xs, val => ∃ vs : List Value, val = .func (.func f) #[] vs.toArray ∧ ArgsRep w O xs vs
 | .knot f x, val => ∃ b o b' o' cs, (b < w.heap.size ∧ O b) ∧ val = .pointer (some ⟨b, o, none⟩) ∧ w.cell? ⟨b, o, none⟩ = some (.func (.func f) #[] #[.pointer (some ⟨b', o', none⟩), val]) ∧
    (b' < w.heap.size ∧ O b') ∧ Rep w (fun b => b < w.heap.size ∧ O b) x cs ∧ ∀ j, j < cs.length → w.cell? ⟨b', o' + j, none⟩ = cs[j]?
def ArgsRep (w : World) (O : Nat → Prop) : List Arg → List Value → Prop
 | [], vs => vs = []
 | x :: r, vs => ∃ v vr, vs = v :: vr ∧ ArgRep w O x v ∧ ArgsRep w O r vr
end
def ResOk (cx : Cx) (w' : World) (μ' : Sites) (rs : List R) (val : Value) : Prop :=
 SitesOk cx w' μ' ∧ (∀ s, RepB cx w' μ' (look (R.mems rs)) s (look (R.mems rs) s)) ∧ RepA cx w' μ' (look (R.mems rs)) (R.res rs) val
def CallsV (P : Program) (f : FuncId) (vs : Array Value) (w : World) (Q : Ending → World → Prop) : Prop :=
 ((callFunc f vs).run P w = .ok (.enter f vs) w ∧ Calls P f vs w Q) ∨ ∃ v w', (callFunc f vs).run P w = .ok (.value v) w' ∧ Q (.returned v) w'
def FnOk (P : Program) (f : FuncId) (args : List Arg) (rs : List R) : Prop :=
 ∀ (w : World) (O : Nat → Prop) (vs : List Value), GL w → ArgsRep w O args vs →
  CallsV P f vs.toArray w fun e w' => ∃ val μ', e = .returned val ∧ Below w.heap.size w w' ∧ ResOk { B := w.heap.size, O } w' μ' rs val
def knotA (at_ : Nat → Blk) (f : FuncId) : List AV → Option V
 | [.ptr s1 _ _ o1, .ptr s2 _ _ o2] => match at_ s1, at_ s2 with
   | .box _ (.v _ x), .box _ (.fn f' [.ptr s1' _ _ o1', .ptr s2' _ _ o2']) => if f' = f ∧ s1' = s1 ∧ s2' = s2 ∧ o1 = 0 ∧ o2 = 0 ∧ o1' = 0 ∧ o2' = 0 then some x else none
   | _, _ => none
 | _ => none
mutual
def capArg (at_ : Nat → Blk) : AV → Option (Arg × Bool)
 | .v _ x => some (.v x, false)
 | .own s off len => match at_ s with
   | .buf _ z _ xs => some (.v (.sl z ((xs.drop off).take len)), true)
   | _ => none
 | .el _ y => some (.el y, false)
 | .knot _ f x => some (.knot f x, false)
 | .fn f caps => match knotA at_ f caps with
   | some x => some (.fn f [.el x, .knot f x], true)
   | none => (capArgs at_ caps).map fun p => (.fn f p.1, p.2)
 | .ptr s _ path off => match at_ s with
   | .box _ (.v _ x) => match V.atP path x with
     | some y => if V.offP path x = off then some (.el y, true) else none
     | none => none
   | _ => none
 | .bsl s n => match at_ s with
   | .box _ (.v _ (.agg (y :: fs))) => if (y :: fs).length = n ∧ (fs.all fun x => x.size == y.size) = true then some (.v (.sl y.size (y :: fs)), true) else none
   | _ => none
 | _ => none
def capArgs (at_ : Nat → Blk) : List AV → Option (List Arg × Bool)
 | [] => some ([], false)
 | x :: r => match capArg at_ x, capArgs at_ r with
   | some (a, b), some (as, b') => some (a :: as, b || b')
   | _, _ => none
end
def toArg (P : Program) (at_ : Nat → Blk) (t : TypeId) : AV → Option (Arg × Bool)
 | .nil => (esz P t).map fun z => (.v (.sl z []), false)
 | .emp _ => (esz P t).map fun z => (.v (.sl z []), false)
 | X => capArg at_ X
def toArgs (P : Program) (at_ : Nat → Blk) (g : Operand → AV) : List Operand → List TypeId → Option (List Arg × Bool)
 | [], [] => some ([], false)
 | x :: r, t :: ts => match toArg P at_ t (g x), toArgs P at_ g r ts with
   | some (a, b), some (as, b') => some (a :: as, b || b')
   | _, _ => none
 | _, _ => none
section
variable {P : Program} {cx : Cx} {w0 w w' : World} {σ : St} {tmps : Array Value} {μ μ' : Sites} {e : Operand → Value} {o : Oper} {g : Operand → AV}
theorem Rep.any {nw : Bool} {x : V} {cs : List Value} (h : Rep w (okOf cx w.heap.size μ nw) x cs) : Rep w (fun b => b < w.heap.size ∧ True) x cs :=
 Rep.mono (fun _ _ _ _ hv => hv) (fun _ hb => ⟨hb.1, trivial⟩) h
theorem Rep.old {nw : Bool} {x : V} {cs : List Value} (h : Rep w (okOf cx w.heap.size μ nw) x cs) : Rep w (fun b => b < w.heap.size ∧ okOf cx w.heap.size μ false b) x cs :=
 Rep.mono (fun _ _ _ _ hv => hv) (fun _ hb => ⟨hb.1, okOf_weak (by simp) hb⟩) h
def seen (cx : Cx) (N : Nat) (μ : Sites) (own : Bool) : Nat → Prop := if own then fun _ => True else okOf cx N μ false
theorem Rep.seen {nw own : Bool} {x : V} {cs : List Value} (h : Rep w (okOf cx w.heap.size μ nw) x cs) : Rep w (fun b => b < w.heap.size ∧ L.seen cx w.heap.size μ own b) x cs := by
 cases own
 ·exact Rep.old h
 ·exact Rep.any h
theorem RepL.row {w : World} {ok : Nat → Prop} {sz b : Nat} : ∀ {xs : List V} {cs : List Value} {o : Nat}, (∀ x ∈ xs, x.size = sz) → RepL w ok xs cs → (∀ j, j < cs.length → w.cell? ⟨b, o + j, none⟩ = cs[j]?) → RepRow w ok b sz o xs
 | [], _, _, _, _, _ => by rw [RepRow]; trivial
 | x :: r, cs, o, hz, h, hc => by
   rw [RepL] at h
   obtain ⟨a, d, rfl, h2, h3⟩ := h
   have h1 : a.length = sz := (Rep.length h2).trans (hz x (by simp))
   rw [RepRow]
   refine ⟨⟨a, h1, fun j hj => ?_, h2⟩, RepL.row (fun y hy => hz y (by simp [hy])) h3 fun j hj => ?_⟩
   ·rw [hc j (by rw [List.length_append]; omega), List.getElem?_append_left (by omega)]
   ·have := hc (sz + j) (by rw [List.length_append]; omega)
    rw [List.getElem?_append_right (by omega), h1, Nat.add_sub_cancel_left] at this
    rw [← this, Nat.add_assoc]
theorem knotA_ok {f : FuncId} {caps : List AV} {x : V} {vs : List Value} (h : RelM cx w0 σ tmps w μ) (hk : knotA σ.at f caps = some x) (hx : RepAL cx w μ σ.at caps vs) : ArgsRep w (seen cx w.heap.size μ true) [.el x, .knot f x] vs := by
 unfold knotA at hk
 split at hk
 ·next s1 i1 p1 o1 s2 i2 p2 o2 =>
  split at hk
  ·next e1 nw x' e2 f' s1' i1' p1' o1' s2' i2' p2' o2' hat1 hat2 =>
   split at hk <;> cases hk
   rename_i hh
   obtain ⟨rfl, rfl, rfl, rfl, rfl, rfl, rfl⟩ := hh
   rw [RepAL] at hx
   obtain ⟨v1, vr1, rfl, q2, q3⟩ := hx
   rw [RepAL] at q3
   obtain ⟨v2, vr2, rfl, q4, q5⟩ := q3
   rw [RepAL] at q5
   subst q5
   rw [RepA, hat1] at q2
   obtain ⟨b1, c1, r1, rfl⟩ := q2
   rw [RepA, hat2] at q4
   obtain ⟨b2, c2, r2, rfl⟩ := q4
   have hm1 := h.mem s1'
   rw [hat1] at hm1
   obtain ⟨b1', cap1, cur1, val1, n1, n2, n3, n4, n5⟩ := hm1
   rw [r1] at n1
   cases n1
   rw [RepA] at n3
   obtain ⟨cs, f1, rfl⟩ := n3
   have hm := h.mem s2'
   rw [hat2] at hm
   obtain ⟨b2', cap2, cur2, val2, m1, m2, m3, m4, m5⟩ := hm
   rw [r2] at m1
   cases m1
   rw [RepA] at m3
   obtain ⟨us, rfl, t1⟩ := m3
   rw [RepAL] at t1
   obtain ⟨u1, ur1, rfl, t2, t3⟩ := t1
   rw [RepAL] at t3
   obtain ⟨u2, ur2, rfl, t4, t5⟩ := t3
   rw [RepAL] at t5
   subst t5
   rw [RepA, hat1] at t2
   obtain ⟨b3, c3, r3, rfl⟩ := t2
   rw [r1] at r3
   cases r3
   rw [RepA, hat2] at t4
   obtain ⟨b4, c4, r4, rfl⟩ := t4
   rw [r2] at r4
   cases r4
   have hcells : ∀ j, j < cs.length → w.cell? ⟨b1, 0 + j, none⟩ = cs[j]? := fun j hj => by
    have hcur : cur1.toList = cs := by rw [n4, toVal_cells f1]
    simp only [World.cell?, n2, Option.isSome_none, Bool.false_eq_true, if_false]
    rw [← Array.getElem?_toList, hcur, Nat.zero_add]
   have lo1 := (h.sites.lo s1' b1 c1 r1).2
   have lo2 := (h.sites.lo s2' b2 c2 r2).2
   rw [ArgsRep]
   refine ⟨_, _, rfl, ?_, ?_⟩
   ·rw [ArgRep]
    exact ⟨b1, 0, cs, ⟨lo1, trivial⟩, rfl, Rep.seen f1, hcells⟩
   ·rw [ArgsRep]
    refine ⟨_, [], rfl, ?_, by rw [ArgsRep]⟩
    rw [ArgRep]
    refine ⟨b2, 0, b1, 0, cs, ⟨lo2, trivial⟩, rfl, ?_, ⟨lo1, trivial⟩, Rep.seen f1, hcells⟩
    simp only [World.cell?, m2, Option.isSome_none, Bool.false_eq_true, if_false]
    rw [m4]
    rfl
  ·cases hk
 ·cases hk
mutual
theorem capArg_ok {own own' : Bool} (h : RelM cx w0 σ tmps w μ) (ho : own = true → own' = true) : ∀ {X : AV} {v : Value} {a : Arg}, capArg σ.at X = some (a, own) → RepA cx w μ σ.at X v → ArgRep w (seen cx w.heap.size μ own') a v
 | .v nw x, v, a, ha, hx => by
   rw [capArg] at ha
   cases ha
   rw [RepA] at hx
   obtain ⟨cs, h1, h2⟩ := hx
   rw [ArgRep]
   exact ⟨cs, Rep.seen h1, h2⟩
 | .nil, v, a, ha, hx => by rw [capArg] at ha; cases ha; all_goals simp
 | .own s off len, v, a, ha, hx => by
   rw [capArg] at ha
   split at ha
   ·next ety z nw xs hat =>
    cases ha
    have := ho rfl
    subst this
    rw [RepA, hat] at hx
    have hm := h.mem s
    rw [hat] at hm
    rw [ArgRep]
    refine ⟨[v], ?_, rfl⟩
    rw [Rep]
    rcases hx with ⟨b, cap, g1, g2, g3⟩ | ⟨g1, rfl, rfl, rfl, g3⟩
    ·rcases hm with ⟨q1, _⟩ | ⟨b', cap', cur, m1, m2, m3, m4, m5, m6⟩
     ·rw [g1] at q1; cases q1
     rw [g1] at m1
     cases m1
     have hlen : ((xs.drop off).take len).length = len := by simp; omega
     refine .inr ⟨b, off * z, cap - off, by omega, ⟨(h.sites.lo s b cap g1).2, trivial⟩, by rw [g3, hlen], ?_⟩
     have hr := RepRow.take (RepRow.drop m6 off) len
     rw [Nat.zero_add] at hr
     obtain ⟨cs, k1, k2⟩ := RepRow.flat hr
     exact RepF.row (RepF.map (fun h => Rep.any h) k1) k2
    ·exact .inl ⟨by simp, _, _, by rw [g3]⟩
   ·cases ha
 | .el nw y, v, a, ha, hx => by
   rw [capArg] at ha
   cases ha
   rw [RepA] at hx
   obtain ⟨b, o0, cs, h1, h2, h3, h4⟩ := hx
   rw [ArgRep]
   refine ⟨b, o0, cs, ⟨h1.1, ?_⟩, h2, Rep.seen h3, h4⟩
   cases own'
   ·exact okOf_weak (by simp) h1
   ·trivial
 | .knot nw f y, v, a, ha, hx => by
   rw [capArg] at ha
   cases ha
   rw [RepA] at hx
   obtain ⟨b, o0, b', o', cs, h1, h2, h3, h4, h5, h6⟩ := hx
   rw [ArgRep]
   refine ⟨b, o0, b', o', cs, ⟨h1.1, ?_⟩, h2, h3, ⟨h4.1, ?_⟩, Rep.seen h5, h6⟩
   ·cases own'
    ·exact okOf_weak (by simp) h1
    ·trivial
   ·cases own'
    ·exact okOf_weak (by simp) h4
    ·trivial
 | .fn f caps, v, a, ha, hx => by
   rw [capArg] at ha
   rw [RepA] at hx
   obtain ⟨vs, h3, h4⟩ := hx
   split at ha
   ·next x hk =>
    cases ha
    have := ho rfl
    subst this
    rw [ArgRep]
    exact ⟨vs, h3, knotA_ok h hk h4⟩
   ·simp only [Option.map_eq_some_iff] at ha
    obtain ⟨⟨as, ow⟩, h1, h2⟩ := ha
    cases h2
    rw [ArgRep]
    exact ⟨vs, h3, capArgs_ok h ho h1 h4⟩
 | .ptr s i path off, v, a, ha, hx => by
   rw [capArg] at ha
   split at ha
   ·next ety nw x hat =>
    split at ha
    ·next y hy =>
     split at ha <;> cases ha
     rename_i hoff
     have := ho rfl
     subst this
     rw [RepA, hat] at hx
     obtain ⟨b, cap, g1, g2⟩ := hx
     have hm := h.mem s
     rw [hat] at hm
     obtain ⟨b', cap', cur, val, m1, m2, m3, m4, m5⟩ := hm
     rw [g1] at m1
     cases m1
     rw [RepA] at m3
     obtain ⟨cs, f1, rfl⟩ := m3
     obtain ⟨p, c, q, rfl, d1, d2⟩ := Rep.atP f1 hy
     rw [ArgRep]
     refine ⟨b, off, c, ⟨(h.sites.lo s b cap g1).2, trivial⟩, g2, Rep.seen d2, fun j hj => ?_⟩
     have hcur : cur.toList = p ++ c ++ q := by rw [m4, toVal_cells f1]
     simp only [World.cell?, m2, Option.isSome_none, Bool.false_eq_true, if_false]
     rw [← Array.getElem?_toList, hcur, ← hoff, ← d1, List.append_assoc, List.getElem?_append_right (by omega), List.getElem?_append_left (by omega)]
     congr 1
     omega
    ·cases ha
   ·cases ha
 | .tup _, v, a, ha, hx => by rw [capArg] at ha; cases ha; all_goals simp
 | .yld _, v, a, ha, hx => by rw [capArg] at ha; cases ha; all_goals simp
 | .emp _, v, a, ha, hx => by rw [capArg] at ha; cases ha; all_goals simp
 | .bsl s n, v, a, ha, hx => by
   rw [capArg] at ha
   split at ha
   ·next ety nw y fs hat =>
    split at ha <;> cases ha
    rename_i hc
    obtain ⟨hn, hz⟩ := hc
    have := ho rfl
    subst this
    rw [RepA, hat] at hx
    obtain ⟨b, cap, g1, rfl⟩ := hx
    have hm := h.mem s
    rw [hat] at hm
    obtain ⟨b', cap', cur, val, m1, m2, m3, m4, m5⟩ := hm
    rw [g1] at m1
    cases m1
    rw [RepA] at m3
    obtain ⟨cs, f1, rfl⟩ := m3
    have hcur : cur.toList = cs := by rw [m4, toVal_cells f1]
    rw [Rep] at f1
    have hrow := RepL.row (sz := y.size) (b := b) (o := 0) (fun x hx => by
     rcases List.mem_cons.1 hx with rfl | hx
     ·rfl
     ·simpa using List.all_eq_true.1 hz x hx) f1 (fun j hj => by
      simp only [World.cell?, m2, Option.isSome_none, Bool.false_eq_true, if_false]
      rw [← Array.getElem?_toList, hcur, Nat.zero_add])
    rw [ArgRep]
    refine ⟨[.slice (some ⟨b, 0, none⟩) n n], ?_, rfl⟩
    rw [Rep]
    obtain ⟨ds, k1, k2⟩ := RepRow.flat hrow
    exact .inr ⟨b, 0, n, by omega, ⟨(h.sites.lo s b cap g1).2, trivial⟩, by rw [hn], RepF.row (RepF.map (fun h => Rep.any h) k1) k2⟩
   ·cases ha
 | .mth _ _, v, a, ha, hx => by rw [capArg] at ha; cases ha; all_goals simp
 | .undef, v, a, ha, hx => by rw [capArg] at ha; cases ha; all_goals simp
theorem capArgs_ok {own own' : Bool} (h : RelM cx w0 σ tmps w μ) (ho : own = true → own' = true) : ∀ {X : List AV} {vs : List Value} {as : List Arg}, capArgs σ.at X = some (as, own) → RepAL cx w μ σ.at X vs → ArgsRep w (seen cx w.heap.size μ own') as vs
 | [], vs, as, ha, hx => by
   rw [capArgs] at ha
   cases ha
   rw [RepAL] at hx
   rw [ArgsRep]
   exact hx
 | x :: r, vs, as, ha, hx => by
   rw [capArgs] at ha
   split at ha
   ·next a b as' b' h1 h2 =>
    cases ha
    rw [RepAL] at hx
    obtain ⟨v, vr, rfl, h3, h4⟩ := hx
    rw [ArgsRep]
    exact ⟨v, vr, rfl, capArg_ok h (fun hb => ho (by rw [hb, Bool.true_or])) h1 h3, capArgs_ok h (fun hb => ho (by rw [hb, Bool.or_true])) h2 h4⟩
   ·cases ha
end
theorem toArg_ok {t : TypeId} {X : AV} {v : Value} {a : Arg} {own own' : Bool} (h : RelM cx w0 σ tmps w μ) (ha : toArg P σ.at t X = some (a, own)) (ho : own = true → own' = true) (hx : RepA cx w μ σ.at X v) :
 ArgRep w (seen cx w.heap.size μ own') a v := by
 unfold toArg at ha
 split at ha
 ·simp only [Option.map_eq_some_iff] at ha
  obtain ⟨z, _, h1⟩ := ha
  cases h1
  rw [repA_nil] at hx
  rw [ArgRep]
  exact ⟨[.slice none 0 0], by rw [Rep]; exact .inl ⟨rfl, _, _, rfl⟩, hx⟩
 ·simp only [Option.map_eq_some_iff] at ha
  obtain ⟨z, _, h1⟩ := ha
  cases h1
  rw [RepA] at hx
  obtain ⟨A, c, hx, _⟩ := hx
  rw [ArgRep]
  exact ⟨[.slice A 0 c], by rw [Rep]; exact .inl ⟨rfl, _, _, rfl⟩, hx⟩
 ·exact capArg_ok h ho ha hx
theorem toArgs_ok : ∀ {xs : List Operand} {ts : List TypeId} {as : List Arg} {own own' : Bool}, RelM cx w0 σ tmps w μ → toArgs P σ.at g xs ts = some (as, own) → (own = true → own' = true) → (∀ x, RepA cx w μ σ.at (g x) (e x)) →
 ArgsRep w (seen cx w.heap.size μ own') as (xs.map e)
 | [], [], as, own, own', h, ha, ho, hg => by
   rw [toArgs] at ha
   cases ha
   rw [ArgsRep]
   rfl
 | x :: r, t :: ts, as, own, own', h, ha, ho, hg => by
   rw [toArgs] at ha
   split at ha
   ·next a b as' b' h1 h2 =>
    cases ha
    rw [List.map_cons, ArgsRep]
    exact ⟨e x, _, rfl, toArg_ok h h1 (fun hb => ho (by rw [hb, Bool.true_or])) (hg x), toArgs_ok h h2 (fun hb => ho (by rw [hb, Bool.or_true])) hg⟩
   ·cases ha
 | [], _ :: _, _, _, _, _, ha, _, _ => by rw [toArgs] at ha; cases ha; all_goals simp
 | _ :: _, [], _, _, _, _, ha, _, _ => by rw [toArgs] at ha; cases ha; all_goals simp
theorem look_none {l : List (Nat × Blk)} {s : Nat} (h : s ∉ l.map (·.1)) : look l s = .dead := by
 induction l with
 | nil => rfl
 | cons x r ih =>
   rw [List.map_cons, List.mem_cons, not_or] at h
   rw [look, if_neg (Ne.symm h.1), ih h.2]
theorem look_some {l : List (Nat × Blk)} {s : Nat} (h : s ∈ l.map (·.1)) : (s, look l s) ∈ l := by
 induction l with
 | nil => cases h
 | cons x r ih =>
   rw [look]
   split
   ·next he => subst he; simp
   ·next he =>
    rw [List.map_cons, List.mem_cons] at h
    exact List.mem_cons_of_mem _ (ih (h.resolve_left (Ne.symm he)))
theorem look_left {l l' : List (Nat × Blk)} {s : Nat} (h : s ∈ l.map (·.1)) : look (l ++ l') s = look l s := by
 induction l with
 | nil => cases h
 | cons x r ih =>
   rw [List.cons_append, look, look]
   split
   ·rfl
   ·next he =>
    rw [List.map_cons, List.mem_cons] at h
    exact ih (h.resolve_left (Ne.symm he))
theorem look_names {rs : List R} {s : Nat} (h : s ∉ R.names rs) : look (R.mems rs) s = .dead := look_none h
theorem look_mems {rs : List R} {s : Nat} {l : List (Nat × Blk)} (h : s ∈ R.names rs) : look (R.mems rs ++ l) s = look (R.mems rs) s := look_left h
theorem look_mems_out {rs : List R} {s : Nat} {l : List (Nat × Blk)} (h : s ∉ R.names rs) : look (R.mems rs ++ l) s = look l s :=
 look_append fun p hp he => h (List.mem_map.2 ⟨p, hp, he⟩)
theorem R.mem_blks {rs : List R} {q : Nat × Blk} (h : q ∈ R.mems rs) : ∃ r ∈ rs, q ∈ r.blks := by
 induction rs with
 | nil => cases h
 | cons x r ih =>
   rw [R.mems, List.mem_append] at h
   rcases h with h | h
   ·exact ⟨x, by simp, h⟩
   ·obtain ⟨y, h1, h2⟩ := ih h; exact ⟨y, by simp [h1], h2⟩
theorem R.blks_mem {rs : List R} {r : R} (hr : r ∈ rs) {q : Nat × Blk} (h : q ∈ r.blks) : q ∈ R.mems rs := by
 induction rs with
 | nil => cases hr
 | cons x l ih =>
   rw [R.mems, List.mem_append]
   rcases List.mem_cons.1 hr with rfl | hr
   ·exact .inl h
   ·exact .inr (ih hr)
theorem R.blks_form {r : R} {q : Nat × Blk} (h : q ∈ r.blks) : (∃ e sz xs, q.2 = .buf e sz r.nw xs) ∨ ∃ e nw x, q.2 = .box e (.v nw x) ∧ (r.nw = true → nw = true) := by
 cases r with
 | v _ _ => cases h
 | own s e sz nw xs =>
   simp only [R.blks, List.mem_cons, List.not_mem_nil, or_false] at h
   subst h
   exact .inl ⟨e, sz, xs, rfl⟩
 | clo f caps =>
   obtain ⟨c, hc, rfl⟩ := List.mem_map.1 h
   exact .inr ⟨_, _, _, rfl, fun hn => List.all_eq_true.1 hn c hc⟩
theorem RelM.called {rs : List R} {val : Value} {own : Bool} (h : RelM cx w0 σ tmps w μ) (hb : Below w.heap.size w w') (hr : ResOk { B := w.heap.size, O := seen cx w.heap.size μ own } w' μ' rs val)
 (hf : ∀ s ∈ R.names rs, σ.Fresh s) (hn : own = true → ∀ r ∈ rs, r.nw = true) :
 ∃ μ'', RelM cx w0 (σ.upd (R.mems rs)) tmps w' μ'' ∧ RepA cx w' μ'' (σ.upd (R.mems rs)).at (R.res rs) val := by
 classical
 obtain ⟨hs, hm, hv⟩ := hr
 obtain ⟨μ'', hμ⟩ : ∃ μ'' : Sites, μ'' = fun s => if s ∈ R.names rs then μ' s else μ s := ⟨_, rfl⟩
 have hB : cx.B ≤ w.heap.size := by rw [← h.hB]; exact h.below.size
 have hup : ∀ s b c, μ'' s = some (b, c) → (s ∈ R.names rs ∧ μ' s = some (b, c)) ∨ (s ∉ R.names rs ∧ μ s = some (b, c)) := by
  intro s b c hs
  rw [hμ] at hs
  simp only at hs
  split at hs
  ·next h1 => exact .inl ⟨h1, hs⟩
  ·next h1 => exact .inr ⟨h1, hs⟩
 have hout : ∀ s, s ∉ R.names rs → μ' s = none := fun s hs' => by
  have := hm s
  rw [look_names hs'] at this
  exact this
 have hcell : ∀ b o v, w.cell? ⟨b, o, none⟩ = some v → w'.cell? ⟨b, o, none⟩ = some v := fun b o v hc => by
  rw [← hc]
  have : b < w.heap.size := by
   have : w.heap[b]? ≠ none := fun hn => by simp [World.cell?, hn] at hc
   exact Nat.lt_of_not_le fun hle => this (Array.getElem?_eq_none hle)
  exact World.cell?_of_block (w := w) (a := ⟨b, o, none⟩) (hb.block b this)
 have hG : Goes w μ w' μ'' := ⟨hb.size, fun b o v _ hc => hcell b o v hc, fun s b c hs' => by
  rcases hup s b c hs' with ⟨_, h1⟩ | ⟨_, h1⟩
  ·exact .inr (hs.lo s b c h1).1
  ·exact .inl ⟨s, c, h1⟩, fun b o ho _ => (hb.block b (Array.getElem?_eq_some_iff.1 ho).1).trans ho⟩
 have hok : ∀ (nw : Bool) (b : Nat), (own = true → nw = true) → okOf { B := w.heap.size, O := seen cx w.heap.size μ own } w'.heap.size μ' nw b → okOf cx w'.heap.size μ'' nw b := by
  intro nw b hnw hb'
  obtain ⟨h1, h2, h3⟩ := hb'
  refine ⟨h1, fun s c hs' => ?_, ?_⟩
  ·rcases hup s b c hs' with ⟨_, h4⟩ | ⟨_, h4⟩
   ·exact h2 s c h4
   ·have h5 := (h.sites.lo s b c h4).2
    rcases h3 with h3 | ⟨h3, h6⟩
    ·simp only at h3; omega
    ·cases own
     ·rcases h6 with h6 | h6
      ·exact (show okOf cx w.heap.size μ false b from h6).2.1 s c h4
      ·have h7 := isG_lt h.gl h6; have h8 := (h.sites.lo s b c h4).1; rw [h.hB] at h7; omega
     ·have := hnw rfl; rw [h3] at this; cases this
  ·rcases h3 with h3 | ⟨h3, h6⟩
   ·left; simp only at h3; omega
   ·cases own
    ·rcases h6 with h6 | h6
     ·exact (show okOf cx w.heap.size μ false b from h6).2.2.imp id fun h7 => ⟨h3, h7.2⟩
     ·exact .inr ⟨h3, .inr h6⟩
    ·have := hnw rfl; rw [h3] at this; cases this
 have hrep : ∀ {nw : Bool} {x : V} {cs : List Value}, (own = true → nw = true) → Rep w' (okOf { B := w.heap.size, O := seen cx w.heap.size μ own } w'.heap.size μ' nw) x cs → Rep w' (okOf cx w'.heap.size μ'' nw) x cs :=
  fun hnw hr => Rep.mono (fun _ _ _ _ hv => hv) (fun b hb => hok _ b hnw hb) hr
 have hblk : ∀ s ∈ R.names rs, RepB cx w' μ'' (σ.upd (R.mems rs)).at s ((σ.upd (R.mems rs)).at s) := by
  intro s hs'
  have h1 := hm s
  have h2 : (σ.upd (R.mems rs)).at s = look (R.mems rs) s := look_mems hs'
  have h3 : μ'' s = μ' s := by rw [hμ]; simp only; rw [if_pos hs']
  rw [h2]
  obtain ⟨r, hr, hq⟩ := R.mem_blks (look_some hs')
  rcases R.blks_form hq with ⟨ety, sz, xs, hl⟩ | ⟨e, nw, x, hl, hnw⟩
  ·simp only at hl
   rw [hl] at h1 ⊢
   rcases h1 with ⟨k1, k2⟩ | ⟨b, cap, cur, k1, k2, k3, k4, k5, k6⟩
   ·exact .inl ⟨h3.trans k1, k2⟩
   ·obtain ⟨cs, f1, f2⟩ := RepRow.flat k6
    exact .inr ⟨b, cap, cur, h3.trans k1, k2, k3, k4, k5, RepF.row (RepF.map (fun h => hrep (fun ho => hn ho r hr) h) f1) f2⟩
  ·simp only at hl
   rw [hl] at h1 ⊢
   obtain ⟨b, cap, cur, val', k1, k2, k3, k4, k5⟩ := h1
   refine ⟨b, cap, cur, val', h3.trans k1, k2, ?_, k4, k5⟩
   rw [RepA] at k3 ⊢
   obtain ⟨cs, m1, m2⟩ := k3
   exact ⟨cs, hrep (fun ho => hnw (hn ho r hr)) m1, m2⟩
 refine ⟨μ'', h.next hG (h.below.trans (hb.mono h.below.size)) ⟨fun s b c hs' => ?_, fun s1 s2 b c c' h1 h2 => ?_⟩ (fun s => ?_) (fun s => ?_), ?_⟩
 ·rcases hup s b c hs' with ⟨_, h4⟩ | ⟨_, h4⟩
  ·have := hs.lo s b c h4; simp only at this; omega
  ·have := h.sites.lo s b c h4; have := hb.size; omega
 ·rcases hup s1 b c h1 with ⟨_, k1⟩ | ⟨_, k1⟩ <;> rcases hup s2 b c' h2 with ⟨_, k2⟩ | ⟨_, k2⟩
  ·exact hs.inj s1 s2 b c c' k1 k2
  ·have e1 := hs.lo s1 b c k1; have e2 := h.sites.lo s2 b c' k2; simp only at e1; omega
  ·have e1 := h.sites.lo s1 b c k1; have e2 := hs.lo s2 b c' k2; simp only at e2; omega
  ·exact h.sites.inj s1 s2 b c c' k1 k2
 ·by_cases hs' : s ∈ R.names rs
  ·exact .inr (hblk s hs')
  ·refine .inl ⟨look_mems_out hs', by rw [hμ]; simp only; rw [if_neg hs'], fun b c hb' => hb.block b (h.sites.lo s b c hb').2⟩
 ·by_cases hs' : s ∈ R.names rs
  ·exact .inr (.inr (hf s hs'))
  ·refine .inr (.inl ⟨by rw [hμ]; simp only; rw [if_neg hs'], ?_⟩)
   rw [show (σ.upd (R.mems rs)).at s = σ.at s from look_mems_out hs']
   exact Blk.fits_refl _
 ·-- the results
  have same : ∀ s ∈ R.names rs, (σ.upd (R.mems rs)).at s = look (R.mems rs) s ∧ μ'' s = μ' s := fun s hs' => ⟨look_mems hs', by rw [hμ]; simp only; rw [if_pos hs']⟩
  have one : ∀ (r : R) (v : Value), r ∈ rs → RepA { B := w.heap.size, O := seen cx w.heap.size μ own } w' μ' (look (R.mems rs)) r.av v → RepA cx w' μ'' (σ.upd (R.mems rs)).at r.av v := by
   intro r v hr hv
   cases r with
   | v nw x =>
     rw [R.av, RepA] at hv ⊢
     obtain ⟨cs, k1, k2⟩ := hv
     exact ⟨cs, hrep (fun ho => hn ho _ hr) k1, k2⟩
   | own s ety sz nw xs =>
     obtain ⟨h2, h3⟩ := same s (List.mem_map.2 ⟨_, R.blks_mem hr (by rw [R.blks]; exact List.mem_singleton.2 rfl), rfl⟩)
     rw [R.av, RepA] at hv ⊢
     rw [h2, h3]
     exact hv
   | clo f caps =>
     rw [R.av, RepA] at hv ⊢
     obtain ⟨vs, k1, k2⟩ := hv
     refine ⟨vs, k1, ?_⟩
     have : ∀ (l : List (Nat × TypeId × Bool × V)) (vs : List Value), (∀ c ∈ l, c ∈ caps) → RepAL { B := w.heap.size, O := seen cx w.heap.size μ own } w' μ' (look (R.mems rs)) (l.map fun c => .ptr c.1 0 [] 0) vs → RepAL cx w' μ'' (σ.upd (R.mems rs)).at (l.map fun c => .ptr c.1 0 [] 0) vs := by
      intro l
      induction l with
      | nil => intro vs _ hv; rw [List.map_nil, RepAL] at hv ⊢; exact hv
      | cons x q ih =>
        intro vs hsub hv
        rw [List.map_cons, RepAL] at hv ⊢
        obtain ⟨v, vr, rfl, m1, m2⟩ := hv
        refine ⟨v, vr, rfl, ?_, ih vr (fun y hy => hsub y (by simp [hy])) m2⟩
        obtain ⟨h2, h3⟩ := same x.1 (List.mem_map.2 ⟨_, R.blks_mem hr (by rw [R.blks]; exact List.mem_map.2 ⟨x, hsub x (by simp), rfl⟩), rfl⟩)
        rw [RepA] at m1 ⊢
        rw [h2, h3]
        exact m1
     exact this caps vs (fun _ h => h) k2
  have many : ∀ (rs' : List R) (vs : List Value), (∀ r ∈ rs', r ∈ rs) → RepAL { B := w.heap.size, O := seen cx w.heap.size μ own } w' μ' (look (R.mems rs)) (rs'.map R.av) vs → RepAL cx w' μ'' (σ.upd (R.mems rs)).at (rs'.map R.av) vs := by
   intro rs'
   induction rs' with
   | nil => intro vs _ hv; rw [List.map_nil, RepAL] at hv ⊢; exact hv
   | cons x q ih =>
     intro vs hsub hv
     rw [List.map_cons, RepAL] at hv ⊢
     obtain ⟨v, vr, rfl, k1, k2⟩ := hv
     exact ⟨v, vr, rfl, one x v (hsub x (by simp)) k1, ih vr (fun y hy => hsub y (by simp [hy])) k2⟩
  have tup : ∀ (xs : List R), (∀ r ∈ xs, r ∈ rs) → RepA { B := w.heap.size, O := seen cx w.heap.size μ own } w' μ' (look (R.mems rs)) (.tup (xs.map R.av)) val → RepA cx w' μ'' (σ.upd (R.mems rs)).at (.tup (xs.map R.av)) val := by
   intro xs hsub hv
   rw [RepA] at hv ⊢
   obtain ⟨vs, k1, k2⟩ := hv
   exact ⟨vs, k1, many xs vs hsub k2⟩
  match rs, hv, one, tup with
  | [], hv, _, tup => exact tup [] (by simp) hv
  | [r], hv, one, _ => exact one r val (by simp) hv
  | r1 :: r2 :: r3, hv, _, tup => exact tup (r1 :: r2 :: r3) (by simp) hv
end
def FF (ro : Option Nat) : Fence := { fn := fun _ => True, depth := none, alive := false, round := ro }
def AV.pure : AV → Bool
 | .v _ _ => true
 | .nil => true
 | .el _ _ => true
 | .knot _ _ _ => true
 | _ => false
theorem AV.pure_ment {X : AV} (h : X.pure = true) (s : Nat) : X.ment s = false := by cases X <;> simp_all [AV.pure, AV.ment]
structure Eff where
 X : AV
 ms : List (Nat × Blk)
 p : Prop
def letters (ρ : Nat → List R) (o : Oper) : List Nat :=
 match o.op with
 | .alloc _ => o.dst.toList
 | .box _ _ => o.dst.toList
 | .buildSlice _ _ _ => o.dst.toList
 | .makeSlice _ _ _ => o.dst.toList
 | .call c => match c.callee with
   | .builtin .append => o.dst.toList
   | .value _ => (match o.dst with
     | some d => R.names (ρ d)
     | none => [])
   | .invoke _ _ => (match o.dst with
     | some d => R.names (ρ d)
     | none => [])
   | _ => []
 | _ => []
def calleeA (T : Tab) (at_ : Nat → Blk) : AV → Option (FuncId × List Arg × List Arg × Bool)
 | .fn f caps => match capArg at_ (.fn f caps) with
   | some (.fn f' as, own) => some (f', [], as, own)
   | _ => none
 | .mth m (.v _ (.iface t y)) => (T.mt t m).map fun f => (f, [.v y], [], false)
 | .v _ (.fnv f) => some (f, [], [], false)
 | _ => none
def invokeA (T : Tab) (m : String) : AV → Option (FuncId × List Arg × List Arg × Bool)
 | .v _ (.iface t y) => (T.mt t m).map fun f => (f, [.v y], [], false)
 | _ => none
def callA (P : Program) (ρ : Nat → List R) (d : Nat) : Option (FuncId × List Arg × List Arg × Bool) → Option (List Arg × Bool) → Option Eff
 | some (f, fst, lst, own'), some (as, own) => if (own || own') = true → (ρ d).all R.nw = true then some ⟨R.res (ρ d), R.mems (ρ d), FnOk P f (fst ++ as ++ lst) (ρ d)⟩ else none
 | _, _ => none
def makeA (g : Operand → AV) : Fn → List Operand → List Operand → Option AV
 | .func f, [], caps => some (.fn f (caps.map g))
 | .method m, [x], [] => some (.mth m (g x))
 | _, _, _ => none
def effOp (P : Program) (T : Tab) (ρ : Nat → List R) (at_ : Nat → Blk) (g : Operand → AV) (o : Oper) : Option Eff :=
 match o.op with
 | .alloc t => match o.dst, T.zt t with
   | some d, some X => if X.pure = true then some ⟨.ptr d 0 [] 0, [(d, .box t X)], True⟩ else none
   | _, _ => none
 | .box t x => match o.dst with
   | some d => if boxOk at_ (g x) = true then some ⟨.ptr d 0 [] 0, [(d, .box t (g x))], True⟩ else none
   | none => none
 | .buildSlice t n parts => match o.dst, elt P t with
   | some d, some el => (match tsz P el, T.zt el with
     | some sz, some _ => (match partsA P el sz g 0 parts.toList with
       | some (nw, xs) => if xs.length = n ∧ 0 < sz ∧ n * sz ≤ 16777216 then (if T.fz d = true then some ⟨.v nw (.sl sz xs), [], True⟩ else some ⟨.own d 0 n, [(d, .buf el sz nw xs)], True⟩) else none
       | none => none)
     | _, _ => none)
   | _, _ => none
 | .makeSlice t l c => match o.dst, elt P t, g l, g c with
   | some d, some el, .v _ (.int _ nl), .v _ (.int _ nc) => (match tsz P el, tby P el, T.zt el with
     | some sz, some by_, some (.v true zx) => if 0 ≤ nl ∧ nl ≤ nc ∧ (by_ : Int) * nc ≤ 281474976710656 ∧ nc ≤ 9223372036854775807 then
        some ⟨.own d 0 nl.toNat, [(d, .buf el sz true (List.replicate nl.toNat zx))], True⟩ else none
     | _, _, _ => none)
   | _, _, _, _ => none
 | .store t p x => match o.dst, storeA P at_ t (g p) (g x) with
   | none, some (s, blk) => some ⟨.undef, [(s, blk)], True⟩
   | _, _ => none
 | .makeFunc fn fst caps => match o.dst, makeA g fn fst.toList caps.toList with
   | some _, some X => some ⟨X, [], True⟩
   | _, _ => none
 | .build t parts => match o.dst, buildA P T.zt g t parts.toList with
   | some _, some X => some ⟨X, [], True⟩
   | _, _ => none
 | .call c => match c.callee with
   | .builtin .append => (match o.dst, c.args.toList, c.argTypes.toList with
     | some d, [x, y], [t, t'] => (match appendA P at_ d t t' (g x) (g y), (elt P t).bind T.zt with
       | some (X, ms), some _ => some ⟨X, ms, True⟩
       | _, _ => none)
     | _, _, _ => none)
   | .builtin .copy => (match o.dst, c.args.toList, c.argTypes.toList with
     | some _, [x, y], [t, t'] => (match copyA P at_ t t' (g x) (g y) with
       | some (X, ms) => some ⟨X, ms, True⟩
       | none => none)
     | _, _, _ => none)
   | .value x => (match o.dst with
     | some d => callA P ρ d (calleeA T at_ (g x)) (toArgs P at_ g c.args.toList c.argTypes.toList)
     | none => none)
   | .invoke x m => (match o.dst with
     | some d => callA P ρ d (invokeA T m (g x)) (toArgs P at_ g c.args.toList c.argTypes.toList)
     | none => none)
   | _ => (match o.dst, coreA P at_ g o.op with
     | some _, some X => some ⟨X, [], True⟩
     | _, _ => none)
 | _ => match o.dst, coreA P at_ g o.op with
   | some _, some X => some ⟨X, [], True⟩
   | _, _ => none
def okDst (σ : St) : Option Nat → Bool
 | some d => decide (d < σ.nt)
 | none => true
def evalOp (P : Program) (T : Tab) (ρ : Nat → List R) (σ : St) (o : Oper) : Option (St × Prop) :=
 match effOp P T ρ σ.at σ.opv o with
 | some e => if okDst σ o.dst = true ∧ (letters ρ o).all σ.freshB = true then some ((σ.upd e.ms).put o.dst e.X, e.p) else none
 | none => none
section
variable {P : Program} {cx : Cx} {w0 w w' : World} {σ σ' : St} {a : Act} {μ : Sites} {o : Oper} {ro : Option Nat} {n : Nat} {next : Act → World → Prop} {Q : Exit → Act → World → Prop} {Px : Px P}
theorem opv_ok (h : RelM cx w0 σ a.tmps w μ) (x : Operand) : RepA cx w μ σ.at (σ.opv x) (a.eval x) := by
 cases x with
 | tmp t => exact h.env t
 | const v => exact constA_ok v
 | global g =>
   show RepA cx w μ σ.at (match lookG GLOB g with | some x => .el false x | none => .undef) _
   split
   ·next x hx =>
    have hm := lookG_mem hx
    obtain ⟨h1, cs, h2, tg, fg, hg3⟩ := h.glw _ hm
    have h3 : ∀ j, j < cs.length → w.cell? ⟨_, j, none⟩ = cs[j]? := fun j _ => gl_cell hg3 j
    have own : ∀ b, isG b → ∀ s c, μ s ≠ some (b, c) := fun b hb s c hs => by
     have h7 := isG_lt h.gl hb
     have h8 := (h.sites.lo s b c hs).1
     rw [h.hB] at h7
     omega
    rw [RepA]
    exact ⟨g, 0, cs, ⟨h1, own g ⟨x, hm⟩, .inr ⟨rfl, .inr ⟨x, hm⟩⟩⟩, rfl, Rep.mono (fun _ _ _ _ hv => hv) (fun b hb => ⟨hb.1, own b hb.2, .inr ⟨rfl, .inr hb.2⟩⟩) h2, fun j hj => by rw [Nat.zero_add]; exact h3 j hj⟩
   ·rw [RepA]; trivial
 | func f =>
   show RepA cx w μ σ.at (.fn f []) _
   rw [RepA]
   exact ⟨[], rfl, by rw [RepAL]⟩
theorem opv_fresh (x : Operand) {s : Nat} (h : σ.Fresh s) : (σ.opv x).ment s = false := by
 cases x with
 | tmp t => exact h.env t
 | const v => rw [St.opv]; unfold constA; split <;> rfl
 | global g =>
   show (match lookG GLOB g with | some x => AV.el false x | none => .undef).ment s = false
   split <;> rfl
 | func f => rfl
theorem wpIn_val (hd : ∀ c, o.op ≠ .defer c) {v : Value} (hr : (execOp a.eval o).run P w = .ok (.value v) w') (h : next (a.put o.dst v) w') : o.wpIn (FF ro) n P a w next Q :=
 ⟨fun _ _ => trivial, by rw [Oper.semAt_eq _ _ _ hd, hr]; exact h⟩
theorem wpIn_skp (hd : ∀ c, o.op ≠ .defer c) (hr : (execOp a.eval o).run P w = .ok .skip w') (h : next (a.put o.dst undef) w') : o.wpIn (FF ro) n P a w next Q :=
 ⟨fun _ _ => trivial, by rw [Oper.semAt_eq _ _ _ hd, hr]; exact h⟩
theorem rel_put {d : Nat} {X : AV} {v : Value} (hd : DefOk cx.B σ.fix σ.defs a.defers) (hd' : o.dst = some d) (hn : d < σ.nt) (h : RelM cx w0 σ a.tmps w μ) (hX : RepA cx w μ σ.at X v) : Rel cx w0 (σ.set d X) (a.put o.dst v) w := by
 rw [hd']
 exact ⟨hd, μ, h.put hn hX⟩
theorem wp_ends {d : Nat} {X : AV} {ms : List (Nat × Blk)} (hdf : DefOk cx.B σ.fix σ.defs a.defers) (hd : ∀ c, o.op ≠ .defer c) (hd' : o.dst = some d) (hn : d < σ.nt) (h : Ends cx w0 (σ.upd ms) a.tmps X P a.eval o w) (hk : ∀ a' w', Rel cx w0 ((σ.upd ms).set d X) a' w' → next a' w') :
 o.wpIn (FF ro) n P a w next Q := by
 obtain ⟨v, w', μ', h1, h2, h3⟩ := h
 exact wpIn_val hd h1 (hk _ _ (rel_put hdf hd' hn h2 h3))
theorem callsIn_of {f : FuncId} {vs : Array Value} {E : Ending → World → Prop} (h : Calls P f vs w E) : CallsIn (FF ro) n P f vs w E := by
 have h1 : CallsIn Fence.wide n P f vs w E := callsIn_wide.2 h
 exact h1
theorem FF_depth : (FF ro).depth.isSome = true → 1 ≤ n := by intro h; cases h
theorem ArgsRep.append {w : World} {O : Nat → Prop} : ∀ {xs ys : List Arg} {vs us : List Value}, ArgsRep w O xs vs → ArgsRep w O ys us → ArgsRep w O (xs ++ ys) (vs ++ us)
 | [], _, _, _, h, h' => by rw [ArgsRep] at h; subst h; exact h'
 | x :: r, ys, vs, us, h, h' => by
   rw [ArgsRep] at h
   obtain ⟨v, vr, rfl, h1, h2⟩ := h
   rw [List.cons_append, List.cons_append, ArgsRep]
   exact ⟨v, _, rfl, h1, ArgsRep.append h2 h'⟩
theorem call_ok {ρ : Nat → List R} {f : FuncId} {d : Nat} {fs as ls : List Arg} {own own' : Bool} {args : Array Operand} {ats : Array TypeId} {vs1 vs2 : List Value} (h : RelM cx w0 σ a.tmps w μ) (hdf : DefOk cx.B σ.fix σ.defs a.defers) (hd' : o.dst = some d) (hn : d < σ.nt)
 (hf : ∀ s ∈ R.names (ρ d), σ.Fresh s) (hnw : (own || own') = true → (ρ d).all R.nw = true) (ha : toArgs P σ.at σ.opv args.toList ats.toList = some (as, own))
 (h1 : ArgsRep w (seen cx w.heap.size μ (own || own')) fs vs1) (h2 : ArgsRep w (seen cx w.heap.size μ (own || own')) ls vs2) (hp : FnOk P f (fs ++ as ++ ls) (ρ d))
 (key : ∀ r : Result Next, (callFunc f (vs1 ++ args.toList.map a.eval ++ vs2).toArray).run P w = r → (execOp a.eval o).run P w = r) (hd : ∀ c, o.op ≠ .defer c)
 (hk : ∀ a' w', Rel cx w0 ((σ.upd (R.mems (ρ d))).put o.dst (R.res (ρ d))) a' w' → next a' w') : o.wpIn (FF ro) n P a w next Q := by
 have hargs := toArgs_ok (own' := own || own') h ha (fun h => by rw [h, Bool.true_or]) (fun x => opv_ok h x)
 have hcall := hp w (seen cx w.heap.size μ (own || own')) _ h.glw ((h1.append hargs).append h2)
 have hnw' : (own || own') = true → ∀ r ∈ ρ d, r.nw = true := fun ho r hr => List.all_eq_true.1 (hnw ho) r hr
 rw [hd'] at hk
 have fin : ∀ val w', (∃ μ', Below w.heap.size w w' ∧ ResOk { B := w.heap.size, O := seen cx w.heap.size μ (own || own') } w' μ' (ρ d) val) → next (a.put o.dst val) w' := by
  rintro val w' ⟨μ', hb, hr⟩
  obtain ⟨μ'', k1, k2⟩ := h.called hb hr hf hnw'
  exact hk _ _ (rel_put hdf hd' hn k1 k2)
 rcases hcall with ⟨h1, h2⟩ | ⟨v, w', h1, val, μ', h2, h3, h4⟩
 ·refine ⟨fun _ _ => trivial, ?_⟩
  rw [Oper.semAt_eq _ _ _ hd, key _ h1]
  rw [Oper.uponIn_enter]
  refine ⟨FF_depth, callsIn_of (h2.mono ?_)⟩
  rintro e w' ⟨val, μ', rfl, h3, h4⟩
  exact fin val w' ⟨μ', h3, h4⟩
 ·cases h2
  exact wpIn_val hd (key _ h1) (fin _ _ ⟨μ', h3, h4⟩)
theorem callA_some {ρ : Nat → List R} {d : Nat} {c : Option (FuncId × List Arg × List Arg × Bool)} {x : Option (List Arg × Bool)} {e : Eff} (h : callA P ρ d c x = some e) :
 ∃ f fs ls own' as own, c = some (f, fs, ls, own') ∧ x = some (as, own) ∧ ((own || own') = true → (ρ d).all R.nw = true) ∧ e = ⟨R.res (ρ d), R.mems (ρ d), FnOk P f (fs ++ as ++ ls) (ρ d)⟩ := by
 unfold callA at h
 split at h
 ·split at h <;> cases h
  next hc => exact ⟨_, _, _, _, _, _, rfl, rfl, hc, rfl⟩
 ·cases h
theorem key_method {f : FuncId} {m : String} {t : TypeId} {v : Value} {vs : List Value} {r : Result Next} (hm : (method (P.types.size + Made.depth) t v m).run P w = .ok (f, v) w)
 (hr : (callFunc f (v :: vs).toArray).run P w = r) : (invoke (.fn (.method m) #[]) (#[.iface t v] ++ vs.toArray)).run P w = r := by
 have e1 : (#[Value.iface t v] ++ vs.toArray)[0]? = some (.iface t v) := by simp
 have e2 : (#[Value.iface t v] ++ vs.toArray).extract 1 (#[Value.iface t v] ++ vs.toArray).size = vs.toArray := by
  apply Array.toList_inj.1
  simp
 have e3 : (#[v] ++ vs.toArray) = (v :: vs).toArray := by simp
 unfold invoke
 simp only [e1, e2, callMethod, Sem.run_bind, run_program, hm, Result.andThen_ok, e3, hr]
theorem eff_ok {T : Tab} (hzt : T = Px.tab) {ρ : Nat → List R} {ef : Eff} (h : Rel cx w0 σ a w) (he : effOp P T ρ σ.at σ.opv o = some ef) (hn : ∀ d, o.dst = some d → d < σ.nt) (hf : ∀ s ∈ letters ρ o, σ.Fresh s) (hp : ef.p)
 (hk : ∀ a' w', Rel cx w0 ((σ.upd ef.ms).put o.dst ef.X) a' w' → next a' w') : o.wpIn (FF ro) n P a w next Q := by
 subst hzt
 obtain ⟨hdf, μ, h⟩ := h
 have hg := fun x => opv_ok h x
 have core : ∀ (hd : ∀ c, o.op ≠ .defer c), (match o.dst, coreA P σ.at σ.opv o.op with
  | some _, some X => some (⟨X, [], True⟩ : Eff)
  | _, _ => none) = some ef → o.wpIn (FF ro) n P a w next Q := by
  intro hd he
  split at he
  ·next d X hd' hX =>
   cases he
   obtain ⟨v, h1, h2⟩ := coreA_ok (P := P) h.mem hg hX
   refine wpIn_val hd h1 (hk _ _ ?_)
   rw [show (σ.upd (Eff.mk X [] True).ms).put o.dst X = σ.set d X by rw [hd']; rfl]
   exact rel_put hdf hd' (hn _ hd') h h2
  ·cases he
 unfold effOp at he
 split at he
 ·next t ho =>
  split at he
  ·next d X hd' hX =>
   split at he <;> cases he
   rename_i hc
   rw [hd'] at hk
   exact wp_ends hdf (by rw [ho]; simp) hd' (hn _ hd') (x_alloc (Px := Px) h (hf d (by simp [letters, ho, hd'])) ho hX (AV.pure_ment hc)) hk
  ·cases he
 ·next t x ho =>
  split at he
  ·next d hd' =>
   split at he <;> cases he
   rename_i hc
   rw [hd'] at hk
   exact wp_ends hdf (by rw [ho]; simp) hd' (hn _ hd') (x_box (g := σ.opv) h (hf d (by simp [letters, ho, hd'])) ho (hg x) hc (fun s hs => opv_fresh x hs)) hk
  ·cases he
 ·next t m parts ho =>
  split at he
  ·next d el hd' hel =>
   split at he
   ·next sz zX hsz hz =>
    split at he
    ·next nw xs hps =>
     split at he
     case isFalse => cases he
     rename_i hc
     rw [hd'] at hk
     split at he <;> cases he
     ·exact wp_ends (ms := []) hdf (by rw [ho]; simp) hd' (hn _ hd') (x_buildSliceV (Px := Px) (g := σ.opv) h ho hel hsz hz hps hc.1 hc.2.1 hc.2.2 hg) hk
     ·exact wp_ends hdf (by rw [ho]; simp) hd' (hn _ hd') (x_buildSlice (Px := Px) (g := σ.opv) h (hf d (by simp [letters, ho, hd'])) ho hel hsz hz hps hc.1 hc.2.1 hc.2.2 hg) hk
    ·cases he
   ·cases he
  ·cases he
 ·next t l c ho =>
  split at he
  ·next d el n1 k1 nl n2 k2 nc hd' hel hl hc =>
   split at he
   ·next sz by_ zx hsz hby hz =>
    split at he <;> cases he
    rename_i hh
    rw [hd'] at hk
    exact wp_ends hdf (by rw [ho]; simp) hd' (hn _ hd') (x_makeSlice (Px := Px) (g := σ.opv) h (hf d (by simp [letters, ho, hd'])) ho hel hsz hby hz hl hc hh.1 hh.2.1 hh.2.2.1 hh.2.2.2 hg) hk
   ·cases he
  ·cases he
 ·next t p x ho =>
  split at he
  ·next s blk hd' hs =>
   cases he
   obtain ⟨w', μ', h1, h2⟩ := x_store (g := σ.opv) h ho hs hg
   refine wpIn_skp (by rw [ho]; simp) h1 (hk _ _ ?_)
   rw [hd']
   exact ⟨hdf, μ', h2⟩
  ·cases he
 ·next fn fst caps ho =>
  split at he
  ·next d X hd' hX =>
   cases he
   refine wpIn_val (v := .func fn (fst.map a.eval) (caps.map a.eval)) (w' := w) (by rw [ho]; simp) (by simp only [execOp, ho, Instr.makeFunc, Sem.run_bind, Sem.run_pure, Result.andThen_ok]) (hk _ _ ?_)
   rw [show (σ.upd (Eff.mk X [] True).ms).put o.dst X = σ.set d X by rw [hd']; rfl]
   refine rel_put hdf hd' (hn _ hd') h ?_
   obtain ⟨fst⟩ := fst
   obtain ⟨caps⟩ := caps
   clear ho
   cases fn with
   | func f =>
     rcases fst with _ | ⟨x, r⟩
     ·cases hX
      rw [RepA]
      refine ⟨caps.map a.eval, by simp, ?_⟩
      simp only
      generalize caps = l
      induction l with
      | nil => rw [List.map_nil, List.map_nil, RepAL]
      | cons x r ih => rw [List.map_cons, List.map_cons, RepAL]; exact ⟨_, _, rfl, hg x, ih⟩
     ·cases hX
   | method m =>
     rcases fst with _ | ⟨x, _ | ⟨y, r⟩⟩
     ·cases hX
     ·rcases caps with _ | ⟨z, q⟩
      ·cases hX
       rw [RepA]
       exact ⟨a.eval x, by simp, hg x⟩
      ·cases hX
     ·cases hX
   | _ => cases hX
  ·cases he
 ·next t parts ho =>
  split at he
  ·next d X hd' hX =>
   cases he
   obtain ⟨v, h1, h2⟩ := x_build (Px := Px) (σ := σ) ho hX hg
   refine wpIn_val (by rw [ho]; simp) h1 (hk _ _ ?_)
   rw [show (σ.upd (Eff.mk X [] True).ms).put o.dst X = σ.set d X by rw [hd']; rfl]
   exact rel_put hdf hd' (hn _ hd') h h2
  ·cases he
 ·next c ho =>
  obtain ⟨callee, args, ats⟩ := c
  split at he
  ·next hcal =>
   simp only at hcal
   subst hcal
   split at he
   ·next d x y t t' hd' ha ht =>
    simp only at ha ht
    split at he
    ·next X ms zX hX hz =>
     cases he
     obtain ⟨args⟩ := args
     obtain ⟨ats⟩ := ats
     simp only at ha ht
     subst ha; subst ht
     cases hel : elt P t with
     | none => rw [hel] at hz; cases hz
     | some el =>
       rw [hel] at hz
       rw [hd'] at hk
       exact wp_ends hdf (by rw [ho]; simp) hd' (hn _ hd') (x_append (Px := Px) (g := σ.opv) h (hf d (by simp [letters, ho, hd'])) ho hX hel hz hg) hk
    ·cases he
   ·cases he
  ·next hcal =>
   simp only at hcal
   subst hcal
   split at he
   ·next d x y t t' hd' ha ht =>
    simp only at ha ht
    split at he
    ·next X ms hX =>
     cases he
     obtain ⟨args⟩ := args
     obtain ⟨ats⟩ := ats
     simp only at ha ht
     subst ha; subst ht
     rw [hd'] at hk
     exact wp_ends hdf (by rw [ho]; simp) hd' (hn _ hd') (x_copy (g := σ.opv) h ho hX hg) hk
    ·cases he
   ·cases he
  ·next x hcal =>
   simp only at hcal
   subst hcal
   split at he
   ·next d hd' =>
    obtain ⟨f, fs, ls, own', as, own, hcl, has, hnw, rfl⟩ := callA_some he
    have hf' : ∀ s ∈ R.names (ρ d), σ.Fresh s := fun s hs => hf s (by simp only [letters, ho, hd']; exact hs)
    unfold calleeA at hcl
    split at hcl
    ·next f' caps hx =>
     split at hcl
     ·next f2 as' ow h1 =>
      cases hcl
      have hX := hg x
      rw [hx] at hX
      have hR := capArg_ok (own' := own || own') h (fun h => by rw [h, Bool.or_true]) h1 hX
      rw [ArgRep] at hR
      obtain ⟨vs, h3, h4⟩ := hR
      refine call_ok (d := d) (vs1 := []) (vs2 := vs) h hdf hd' (hn _ hd') hf' hnw has (by rw [ArgsRep]) h4 hp (fun r hr => ?_) (by rw [ho]; simp) hk
      have e1 : (args.toList.map a.eval).toArray = args.map a.eval := by rw [← Array.toList_map]
      have e2 : ([] ++ args.toList.map a.eval ++ vs).toArray = args.map a.eval ++ vs.toArray := by rw [List.nil_append, ← e1]; simp
      rw [e2] at hr
      simp only [execOp, ho, resolve, h3, Deferred.ofValue, invoke, Sem.run_bind, Sem.run_pure, Result.andThen_ok, Array.empty_append]
      exact hr
     ·cases hcl
    ·next m nw t y hx =>
     simp only [Option.map_eq_some_iff] at hcl
     obtain ⟨f', h1, h2⟩ := hcl
     cases h2
     have hX := hg x
     rw [hx, RepA] at hX
     obtain ⟨v, h3, h4⟩ := hX
     rw [RepA] at h4
     obtain ⟨cs, h5, rfl⟩ := h4
     rw [Rep] at h5
     obtain ⟨c, h6, rfl⟩ := h5
     refine call_ok (d := d) (vs1 := [y.toVal c]) (vs2 := []) h hdf hd' (hn _ hd') hf' hnw has ?_ (by rw [ArgsRep]) hp (fun r hr => ?_) (by rw [ho]; simp) hk
     ·rw [ArgsRep]
      refine ⟨_, [], rfl, ?_, by rw [ArgsRep]⟩
      rw [ArgRep]
      exact ⟨c, Rep.seen h6, rfl⟩
     ·have e1 : (args.toList.map a.eval).toArray = args.map a.eval := by rw [← Array.toList_map]
      have := key_method (r := r) (vs := args.toList.map a.eval) (Px.mok t m f h1 (y.toVal c) w) (by simpa using hr)
      rw [e1] at this
      simp only [execOp, ho, resolve, h3, V.toVal, List.headD_cons, Deferred.ofValue, Sem.run_bind, Sem.run_pure, Result.andThen_ok]
      exact this
    ·next nw f' hx =>
     cases hcl
     have hX := hg x
     rw [hx, RepA] at hX
     obtain ⟨cs, h3, h4⟩ := hX
     rw [Rep] at h3
     subst h3
     refine call_ok (d := d) (vs1 := []) (vs2 := []) h hdf hd' (hn _ hd') hf' hnw has (by rw [ArgsRep]) (by rw [ArgsRep]) hp (fun r hr => ?_) (by rw [ho]; simp) hk
     have e1 : (args.toList.map a.eval).toArray = args.map a.eval := by rw [← Array.toList_map]
     have e2 : ([] ++ args.toList.map a.eval ++ []).toArray = args.map a.eval := by rw [List.nil_append, List.append_nil, ← e1]
     rw [e2] at hr
     simp only [execOp, ho, resolve, h4, V.toVal, List.headD_cons, Deferred.ofValue, invoke, Sem.run_bind, Sem.run_pure, Result.andThen_ok, Array.empty_append, Array.append_empty]
     exact hr
    ·cases hcl
   ·cases he
  ·next x m hcal =>
   simp only at hcal
   subst hcal
   split at he
   ·next d hd' =>
    obtain ⟨f, fs, ls, own', as, own, hcl, has, hnw, rfl⟩ := callA_some he
    have hf' : ∀ s ∈ R.names (ρ d), σ.Fresh s := fun s hs => hf s (by simp only [letters, ho, hd']; exact hs)
    unfold invokeA at hcl
    split at hcl
    ·next nw t y hx =>
     simp only [Option.map_eq_some_iff] at hcl
     obtain ⟨f', h1, h2⟩ := hcl
     cases h2
     have h4 := hg x
     rw [hx, RepA] at h4
     obtain ⟨cs, h5, h3⟩ := h4
     rw [Rep] at h5
     obtain ⟨c, h6, rfl⟩ := h5
     refine call_ok (d := d) (vs1 := [y.toVal c]) (vs2 := []) h hdf hd' (hn _ hd') hf' hnw has ?_ (by rw [ArgsRep]) hp (fun r hr => ?_) (by rw [ho]; simp) hk
     ·rw [ArgsRep]
      refine ⟨_, [], rfl, ?_, by rw [ArgsRep]⟩
      rw [ArgRep]
      exact ⟨c, Rep.seen h6, rfl⟩
     ·have e1 : (args.toList.map a.eval).toArray = args.map a.eval := by rw [← Array.toList_map]
      have := key_method (r := r) (vs := args.toList.map a.eval) (Px.mok t m f h1 (y.toVal c) w) (by simpa using hr)
      rw [e1] at this
      simp only [execOp, ho, resolve, h3, V.toVal, List.headD_cons, Sem.run_bind, Sem.run_pure, Result.andThen_ok]
      exact this
    ·cases hcl
   ·cases he
  ·exact core (by rw [ho]; simp) he
 ·next ho1 ho2 ho3 ho4 ho5 ho6 ho7 =>
  refine core (fun c hc => ?_) he
  rw [hc] at he
  split at he
  ·next h1 h2 => simp [coreA] at h2
  ·cases he
theorem evalOp_ok {T : Tab} (hzt : T = Px.tab) {ρ : Nat → List R} {p : Prop} (h : Rel cx w0 σ a w) (he : evalOp P T ρ σ o = some (σ', p)) (hp : p) (hk : ∀ a' w', Rel cx w0 σ' a' w' → next a' w') :
 o.wpIn (FF ro) n P a w next Q := by
 unfold evalOp at he
 split at he
 ·next e hef =>
  split at he <;> cases he
  rename_i hc
  refine eff_ok hzt h hef (fun d hd => ?_) (fun s hs => St.fresh_of (List.all_eq_true.1 hc.2 s hs)) hp hk
  have h1 := hc.1
  rw [hd] at h1
  simpa [okDst] using h1
 ·cases he
end
def wantA (ops : Array Oper) (σ : St) (o : Oper) : Option Bool :=
 match o.guard with
 | none => some true
 | some (j, want) => match (ops[j]?).bind (·.dst) with
   | some d => match σ.get d with
     | .v _ (.bool b) => some (b == want)
     | .tup _ => some false
     | _ => none
   | none => none
def evalOps (P : Program) (T : Tab) (ρ : Nat → List R) (ops : Array Oper) : List Oper → St → Option (St × Prop)
 | [], σ => some (σ, True)
 | o :: r, σ => match wantA ops σ o with
   | some true => (match evalOp P T ρ σ o with
     | some (σ', p) => (match evalOps P T ρ ops r σ' with
       | some (σ'', q) => some (σ'', p ∧ q)
       | none => none)
     | none => none)
   | some false => evalOps P T ρ ops r (σ.put o.dst (.tup []))
   | none => none
def runP (p : Prop) : Option (St × Prop) → Option (St × Prop)
 | some (σ, q) => some (σ, p ∧ q)
 | none => none
def runE (P : Program) (T : Tab) (ρ : Nat → List R) (ops : Array Oper) : Option (St × Prop) → List Oper → Option (St × Prop)
 | some (σ, p), r => runP p (evalOps P T ρ ops r σ)
 | none, _ => none
def runW (P : Program) (T : Tab) (ρ : Nat → List R) (ops : Array Oper) : Option Bool → Oper → List Oper → St → Option (St × Prop)
 | some true, o, r, σ => runE P T ρ ops (evalOp P T ρ σ o) r
 | some false, o, r, σ => evalOps P T ρ ops r (σ.put o.dst (.tup []))
 | none, _, _, _ => none
theorem evalOps_nil (P : Program) (T : Tab) (ρ : Nat → List R) (ops : Array Oper) (σ : St) : evalOps P T ρ ops [] σ = some (σ, True) := rfl
theorem evalOps_cons (P : Program) (T : Tab) (ρ : Nat → List R) (ops : Array Oper) (o : Oper) (r : List Oper) (σ : St) : evalOps P T ρ ops (o :: r) σ = runW P T ρ ops (wantA ops σ o) o r σ := by
 rw [evalOps]
 cases wantA ops σ o with
 | none => rfl
 | some b =>
   cases b
   ·rfl
   ·simp only [runW]
    cases evalOp P T ρ σ o with
    | none => rfl
    | some x => obtain ⟨σ', p⟩ := x; rfl
section
variable {P : Program} {cx : Cx} {w0 w : World} {σ σ' : St} {a : Act} {μ : Sites} {ro : Option Nat} {n : Nat} {Px : Px P} {ops : Array Oper} {T : Tab} {ρ : Nat → List R}
theorem want_ok {o : Oper} {b : Bool} (h : Rel cx w0 σ a w) (hw : wantA ops σ o = some b) : Region.wanted o (yielded ops a.tmps) = b := by
 obtain ⟨_, μ, h⟩ := h
 unfold wantA at hw
 unfold Region.wanted
 split at hw
 ·next hg => rw [hg]; cases hw; rfl
 ·next j want hg =>
  rw [hg]
  split at hw
  ·next d hd =>
   split at hw
   ·next nw c hc =>
    cases hw
    have h1 := h.env d
    rw [hc, repA_bool] at h1
    have h2 : a.tmps[d]? = some (.bool c) := by
     rw [Array.getD_eq_getD_getElem?] at h1
     cases h3 : a.tmps[d]? with
     | none => rw [h3] at h1; cases h1
     | some v => rw [h3] at h1; simp at h1; rw [h1]
    simp only [yielded, hd, Option.bind_some, h2]
    cases c <;> cases want <;> rfl
   ·next xs hc =>
    cases hw
    have h1 := h.env d
    rw [hc, RepA] at h1
    obtain ⟨vs, h1, _⟩ := h1
    simp only [yielded, hd, Option.bind_some]
    rw [Array.getD_eq_getD_getElem?] at h1
    cases h3 : a.tmps[d]? with
    | none => rfl
    | some v => rw [h3] at h1; simp at h1; rw [h1]; rfl
   ·cases hw
  ·cases hw
theorem rel_undef {d : Option Nat} (h : Rel cx w0 σ a w) : Rel cx w0 (σ.put d (.tup [])) (a.put d undef) w := by
 obtain ⟨hdf, μ, h⟩ := h
 cases d with
 | none => exact ⟨hdf, μ, h⟩
 | some d =>
   refine ⟨hdf, μ, ⟨h.below, h.hB, h.gl, by show (a.tmps.setIfInBounds d undef).size = _; rw [Array.size_setIfInBounds]; exact h.size, h.sites, h.mem, fun t => ?_, h.roots, h.fix⟩⟩
   show RepA cx w μ σ.at (look ((d, .tup []) :: σ.env) t) ((a.tmps.setIfInBounds d undef).getD t undef)
   rw [look]
   by_cases ht : d = t
   ·subst ht
    rw [if_pos rfl, RepA]
    refine ⟨[], ?_, by rw [RepAL]⟩
    rw [Array.getD_eq_getD_getElem?, Array.getElem?_setIfInBounds_self]
    split <;> rfl
   ·rw [if_neg ht, Array.getD_eq_getD_getElem?, Array.getElem?_setIfInBounds_ne ht, ← Array.getD_eq_getD_getElem?]
    exact h.env t
theorem evalOps_ok (hzt : T = Px.tab) {Q : Exit → Act → World → Prop} : ∀ (k i : Nat) {σ σ' : St} {p : Prop} {a : Act} {w : World}, i + k = ops.size → Rel cx w0 σ a w → evalOps P T ρ ops (ops.toList.drop i) σ = some (σ', p) → p →
 (∀ a' w', Rel cx w0 σ' a' w' → Q .normal a' w') → wpOpsIn (FF ro) n P ops Q (List.range' i k) a w
 | 0, i, σ, σ', p, a, w, hk, h, he, hp, hQ => by
   rw [List.drop_of_length_le (by simp; omega), evalOps] at he
   cases he
   exact hQ a w h
 | k + 1, i, σ, σ', p, a, w, hk, h, he, hp, hQ => by
   have hi : i < ops.size := by omega
   have hd : ops.toList.drop i = ops[i] :: ops.toList.drop (i + 1) := by
    rw [List.drop_eq_getElem_cons (by simpa using hi)]
    rfl
   rw [hd, evalOps] at he
   rw [List.range'_succ]
   simp only [wpOpsIn, Array.getElem?_eq_getElem hi]
   split at he
   ·next hw =>
    rw [want_ok h hw, if_pos rfl]
    split at he
    ·next σ1 p1 h1 =>
     split at he
     ·next σ2 p2 h2 =>
      cases he
      exact evalOp_ok (Px := Px) hzt h h1 hp.1 fun a' w' hr => evalOps_ok hzt k (i + 1) (by omega) hr h2 hp.2 hQ
     ·cases he
    ·cases he
   ·next hw =>
    rw [want_ok h hw, if_neg (by simp)]
    exact ⟨fun _ _ => trivial, evalOps_ok hzt k (i + 1) (by omega) (rel_undef h) he hp hQ⟩
   ·cases he
def Holds (P : Program) (ro : Option Nat) (cx : Cx) (w0 : World) (c : Code) (σ : St) (Q : Exit → St → Prop) : Prop :=
 ∀ a w, Rel cx w0 σ a w → c.wpIn (FF ro) 0 P (fun e a' w' => ∃ σ', Q e σ' ∧ Rel cx w0 σ' a' w') a w
variable {Q Q' : Exit → St → Prop} {c x y : Code}
theorem Holds.mono (h : Holds P ro cx w0 c σ Q) (hq : ∀ e σ, Q e σ → Q' e σ) : Holds P ro cx w0 c σ Q' :=
 fun a w hr => wpIn_mono (h a w hr) fun e _ _ ⟨σ', h1, h2⟩ => ⟨σ', hq e σ' h1, h2⟩
theorem Holds.from (hr : ∀ a w, Rel cx w0 σ a w → Rel cx w0 σ' a w) (h : Holds P ro cx w0 c σ' Q) : Holds P ro cx w0 c σ Q := fun a w h' => h a w (hr a w h')
theorem Holds.region {id : Nat} {p : Prop} (hzt : T = Px.tab) (he : evalOps P T ρ ops ops.toList σ = some (σ', p)) (hp : p) (hQ : Q .normal σ') : Holds P ro cx w0 (.region id ops false) σ Q :=
 fun a w h => wpIn_region (by
  rw [List.range_eq_range']
  exact evalOps_ok (Px := Px) (T := T) (ρ := ρ) (p := p) hzt ops.size 0 (by omega) h (by rw [List.drop_zero]; exact he) hp fun a' w' hr => ⟨σ', hQ, hr⟩)
def seqQ (P : Program) (ro : Option Nat) (cx : Cx) (w0 : World) (y : Code) (Q : Exit → St → Prop) : Exit → St → Prop
 | .normal, σ => Holds P ro cx w0 y σ Q
 | e, σ => Q e σ
theorem Holds.seq (h : Holds P ro cx w0 x σ (seqQ P ro cx w0 y Q)) : Holds P ro cx w0 (x.seq y) σ Q := fun a w hr =>
 wpIn_seq (wpIn_mono (h a w hr) fun e a' w' ⟨σ', h1, h2⟩ => by
  cases e with
  | normal => exact h1 a' w' h2
  | exit id => exact ⟨σ', h1, h2⟩
  | goto l => exact ⟨σ', h1, h2⟩
  | ret => exact ⟨σ', h1, h2⟩
  | panic ch => exact ⟨σ', h1, h2⟩
  | outgrown => exact ⟨σ', h1, h2⟩)
theorem Holds.step {id : Nat} {p : Prop} (hzt : T = Px.tab) (he : evalOps P T ρ ops ops.toList σ = some (σ', p)) (hp : p) (h : Holds P ro cx w0 y σ' Q) : Holds P ro cx w0 ((Code.region id ops false).seq y) σ Q :=
 Holds.seq (Holds.region (Px := Px) hzt he hp h)
theorem Holds.cond {b : Operand} {nw t : Bool} (hb : σ.opv b = .v nw (.bool t)) (ht : t = true → Holds P ro cx w0 x σ Q) (hf : t = false → Holds P ro cx w0 y σ Q) : Holds P ro cx w0 (.cond b x y) σ Q := fun a w hr => by
 have h1 := opv_ok hr.2.choose_spec b
 rw [hb, repA_bool] at h1
 cases t
 ·exact wpIn_cond h1 (hf rfl a w hr)
 ·exact wpIn_cond h1 (ht rfl a w hr)
def blockQ (id : Nat) (Q : Exit → St → Prop) : Exit → St → Prop
 | .exit id', σ => if id' = id then Q .normal σ else Q (.exit id') σ
 | e, σ => Q e σ
theorem Holds.block {id : Nat} (h : Holds P ro cx w0 c σ (blockQ id Q)) : Holds P ro cx w0 (.block id c) σ Q := fun a w hr =>
 wpIn_block (wpIn_mono (h a w hr) fun e a' w' ⟨σ', h1, h2⟩ => by
  cases e with
  | exit id' =>
    simp only [blockQ] at h1
    simp only [Exit.inBlock]
    split
    ·next h => rw [if_pos h] at h1; exact ⟨σ', h1, h2⟩
    ·next h => rw [if_neg h] at h1; exact ⟨σ', h1, h2⟩
  | normal => exact ⟨σ', h1, h2⟩
  | goto l => exact ⟨σ', h1, h2⟩
  | ret => exact ⟨σ', h1, h2⟩
  | panic ch => exact ⟨σ', h1, h2⟩
  | outgrown => exact ⟨σ', h1, h2⟩)
theorem Holds.skip (h : Q .normal σ) : Holds P ro cx w0 .skip σ Q := fun _ _ hr => wpIn_skip ⟨σ, h, hr⟩
theorem Holds.exit {id : Nat} (h : Q (.exit id) σ) : Holds P ro cx w0 (.exit id) σ Q := fun _ _ hr => wpIn_exit ⟨σ, h, hr⟩
theorem Holds.ret (h : Q .ret σ) : Holds P ro cx w0 .ret σ Q := fun _ _ hr => wpIn_ret ⟨σ, h, hr⟩
def loopQ {ι : Type} (s : ι → St) (I : ι → Prop) (m : ι → Nat) (i : ι) (cx : Cx) (w0 : World) (Q : Exit → St → Prop) : Exit → St → Prop
 | .normal, σ => ∃ j, I j ∧ m j < m i ∧ ∀ a w, Rel cx w0 σ a w → Rel cx w0 (s j) a w
 | e, σ => Q e σ
theorem Holds.loop {ι : Type} (s : ι → St) (I : ι → Prop) (m : ι → Nat) (i0 : ι) (h0 : I i0) (hs : ∀ a w, Rel cx w0 σ a w → Rel cx w0 (s i0) a w)
 (round : ∀ i, I i → Holds P ro cx w0 c (s i) (loopQ s I m i cx w0 Q)) : Holds P ro cx w0 (.loop c) σ Q := fun a w hr => by
 intro b k cs hro hb hrm
 have key : ∀ (d : Nat) (i : ι) (a : Act) (w : World), m i = d → I i → Rel cx w0 (s i) a w →
  ∃ e a' w', (∃ σ', Q e σ' ∧ Rel cx w0 σ' a' w') ∧ ArrivesIn (Machine.fenced P (FF ro)) P (lone (b.atR a (.code c :: .inLoop c :: k)) cs w) b k cs e a' w' := by
  intro d
  induction d using Nat.strongRecOn with
  | _ d ih =>
    intro i a w hd hI hri
    obtain ⟨e, a₁, w₁, ⟨σ₁, hq, hr₁⟩, harr⟩ := round i hI a w hri b (.inLoop c :: k) cs hro hb hrm
    cases e with
    | normal =>
      obtain ⟨j, hj, hlt, hrel⟩ := hq
      obtain ⟨e₂, a₂, w₂, hq₂, harr₂⟩ := ih (m j) (by omega) j a₁ w₁ rfl hj (hrel a₁ w₁ hr₁)
      exact ⟨e₂, a₂, w₂, hq₂, .of_steps (StepsIn.trans harr (.one (fenced_calm hb hrm rfl) stepR_inLoop)) harr₂⟩
    | exit id => exact ⟨_, a₁, w₁, ⟨σ₁, hq, hr₁⟩, .pass (x := .inLoop c) rfl (fun _ _ => .inl (by simp)) harr⟩
    | goto l => exact ⟨_, a₁, w₁, ⟨σ₁, hq, hr₁⟩, .pass (x := .inLoop c) rfl (fun _ _ => .inl (by simp)) harr⟩
    | ret => exact ⟨_, a₁, w₁, ⟨σ₁, hq, hr₁⟩, .pass (x := .inLoop c) rfl (fun _ _ => .inl (by simp)) harr⟩
    | panic ch => exact ⟨_, a₁, w₁, ⟨σ₁, hq, hr₁⟩, .pass (x := .inLoop c) rfl (fun _ _ => .inl (by simp)) harr⟩
    | outgrown => exact ⟨_, a₁, w₁, ⟨σ₁, hq, hr₁⟩, .pass (x := .inLoop c) rfl (fun _ _ => .inl (by simp)) harr⟩
 obtain ⟨e, a', w', hq, harr⟩ := key _ i0 a w rfl h0 (hs a w hr)
 exact ⟨e, a', w', hq, .of_steps (.one (fenced_calm hb hrm rfl) stepR_loop) harr⟩
end
def St.keep (σ : St) (ts ss : List Nat) : St := { nt := σ.nt, env := ts.map fun t => (t, σ.get t), mem := ss.map fun s => (s, σ.at s), root := σ.root, fix := σ.fix, defs := σ.defs }
mutual
def AV.ren (s s' : Nat) : AV → AV
 | .own t o l => .own (if t = s then s' else t) o l
 | .ptr t i p o => .ptr (if t = s then s' else t) i p o
 | .tup xs => .tup (AV.rens s s' xs)
 | .v nw x => .v nw x
 | .nil => .nil
 | .el nw x => .el nw x
 | .fn f xs => .fn f (AV.rens s s' xs)
 | .knot nw f x => .knot nw f x
 | .yld b => .yld b
 | .emp b => .emp b
 | .bsl t n => .bsl (if t = s then s' else t) n
 | .mth m x => .mth m (x.ren s s')
 | .undef => .undef
def AV.rens (s s' : Nat) : List AV → List AV
 | [] => []
 | x :: r => x.ren s s' :: AV.rens s s' r
end
def Blk.ren (s s' : Nat) : Blk → Blk
 | .box e x => .box e (x.ren s s')
 | .buf e sz nw xs => .buf e sz nw xs
 | .dead => .dead
def St.ren (σ : St) (s s' : Nat) : St :=
 { nt := σ.nt, env := σ.env.map fun p => (p.1, p.2.ren s s'), mem := σ.mem.map fun p => (if p.1 = s then s' else p.1, p.2.ren s s'), root := σ.root.map fun p => (p.1.ren s s', p.2), fix := σ.fix, defs := σ.defs }
theorem look_map {α : Type} [Inhabited α] {f : Nat → α} : ∀ {l : List Nat} {t : Nat}, t ∈ l → look (l.map fun t => (t, f t)) t = f t
 | x :: r, t, h => by
   rw [List.map_cons, look]
   split
   ·next he => exact congrArg f he
   ·next hne =>
    rcases List.mem_cons.1 h with h | h
    ·exact absurd h.symm hne
    ·exact look_map h
theorem look_map_out {α : Type} [Inhabited α] {f : Nat → α} : ∀ {l : List Nat} {t : Nat}, t ∉ l → look (l.map fun t => (t, f t)) t = default
 | [], _, _ => rfl
 | x :: r, t, h => by
   rw [List.mem_cons, not_or] at h
   rw [List.map_cons, look, if_neg (Ne.symm h.1), look_map_out h.2]
section
variable {P : Program} {cx : Cx} {w0 w : World} {σ σ' : St} {a : Act} {μ : Sites}
theorem Rel.keep (ts ss : List Nat) (h : Rel cx w0 σ a w) : Rel cx w0 (σ.keep ts ss) a w := by
 classical
 obtain ⟨hdf, μ, h⟩ := h
 have hat : ∀ s, (σ.keep ts ss).at s = if s ∈ ss then σ.at s else .dead := fun s => by
  split
  ·next hs => exact look_map hs
  ·next hs => exact look_map_out hs
 have hget : ∀ t, (σ.keep ts ss).get t = if t ∈ ts then σ.get t else .undef := fun t => by
  split
  ·next ht => exact look_map ht
  ·next ht => exact look_map_out ht
 obtain ⟨μ', hμ⟩ : ∃ μ' : Sites, μ' = fun s => if s ∈ ss then μ s else none := ⟨_, rfl⟩
 have hup : ∀ s b c, μ' s = some (b, c) → μ s = some (b, c) := fun s b c hs => by
  rw [hμ] at hs
  simp only at hs
  split at hs
  ·exact hs
  ·cases hs
 have hG : Goes w μ w μ' := ⟨Nat.le_refl _, fun _ _ _ _ hv => hv, fun s b c hs => .inl ⟨s, c, hup s b c hs⟩, fun _ _ hv _ => hv⟩
 have hfit : ∀ s, (σ.keep ts ss).at s = .dead ∨ (μ' s = μ s ∧ (σ.at s).fits ((σ.keep ts ss).at s)) := fun s => by
  rw [hat]
  split
  ·next hs => exact .inr ⟨by rw [hμ]; simp only; rw [if_pos hs], Blk.fits_refl _⟩
  ·exact .inl rfl
 refine ⟨hdf, μ', h.below, h.hB, h.gl, h.size, ⟨fun s b c hs => h.sites.lo s b c (hup s b c hs), fun s1 s2 b c c' h1 h2 => h.sites.inj s1 s2 b c c' (hup _ _ _ h1) (hup _ _ _ h2)⟩, fun s => ?_, fun t => ?_, fun p hp => RepA.goes hG (fun s _ => hfit s) (h.roots p hp), h.fix⟩
 ·by_cases hs : s ∈ ss
  ·have := RepB.goes hG (mem' := (σ.keep ts ss).at) (fun t _ => hfit t) (s := s) (by rw [hμ]; simp only; rw [if_pos hs]) (fun _ _ _ => rfl) (h.mem s)
   rw [show (σ.keep ts ss).at s = σ.at s from by rw [hat, if_pos hs]]
   exact this
  ·rw [show (σ.keep ts ss).at s = .dead from by rw [hat, if_neg hs]]
   show μ' s = none
   rw [hμ]; simp only; rw [if_neg hs]
 ·rw [hget]
  split
  ·exact RepA.goes hG (fun s _ => hfit s) (h.env t)
  ·rw [RepA]; trivial
theorem Rel.ren {s s' : Nat} (h : Rel cx w0 σ a w) (hss : s ≠ s') (hf : σ.freshB s' = true) (hd : (σ.mem.all fun p => p.1 != s') = true) : Rel cx w0 (σ.ren s s') a w := by
 classical
 obtain ⟨hdf, μ, h⟩ := h
 have hF := St.fresh_of hf
 have hdead : σ.at s' = .dead := by
  show look σ.mem s' = .dead
  have : ∀ l : List (Nat × Blk), (l.all fun p => p.1 != s') = true → look l s' = .dead := by
   intro l
   induction l with
   | nil => intro _; rfl
   | cons p r ih =>
     intro hl
     rw [List.all_cons, Bool.and_eq_true] at hl
     rw [look, if_neg (by simpa using hl.1), ih hl.2]
  exact this _ hd
 have hμs' : μ s' = none := by have := h.mem s'; rw [hdead] at this; exact this
 have hat : ∀ t, (σ.ren s s').at t = if t = s' then (σ.at s).ren s s' else if t = s then .dead else (σ.at t).ren s s' := by
  intro t
  show look (σ.mem.map fun p => (if p.1 = s then s' else p.1, p.2.ren s s')) t = if t = s' then (look σ.mem s).ren s s' else if t = s then .dead else (look σ.mem t).ren s s'
  have : ∀ l : List (Nat × Blk), (l.all fun p => p.1 != s') = true → look (l.map fun p => (if p.1 = s then s' else p.1, p.2.ren s s')) t = if t = s' then (look l s).ren s s' else if t = s then .dead else (look l t).ren s s' := by
   intro l
   induction l with
   | nil => intro _; simp only [List.map_nil, look]; split <;> first | rfl | (split <;> rfl)
   | cons p r ih =>
     intro hl
     rw [List.all_cons, Bool.and_eq_true] at hl
     have hp : p.1 ≠ s' := by simpa using hl.1
     rw [List.map_cons, look, look, look, ih hl.2]
     by_cases hps : p.1 = s
     ·rw [if_pos hps, if_pos hps]
      by_cases ht : s' = t
      ·subst ht; simp
      ·rw [if_neg ht, if_neg (Ne.symm ht), if_neg (Ne.symm ht)]
       by_cases hts : t = s
       ·rw [if_pos hts, if_pos hts]
       ·rw [if_neg hts, if_neg hts, if_neg (fun h => hts (h.symm.trans hps))]
     ·rw [if_neg hps, if_neg hps]
      by_cases ht : p.1 = t
      ·subst ht; rw [if_pos rfl, if_neg hp, if_neg hps, if_pos rfl]
      ·rw [if_neg ht, if_neg ht]
  exact this _ hd
 obtain ⟨μ', hμ⟩ : ∃ μ' : Sites, μ' = fun t => if t = s' then μ s else if t = s then none else μ t := ⟨_, rfl⟩
 have hup : ∀ t b c, μ' t = some (b, c) → (t = s' ∧ μ s = some (b, c)) ∨ (t ≠ s' ∧ t ≠ s ∧ μ t = some (b, c)) := fun t b c ht => by
  rw [hμ] at ht
  simp only at ht
  split at ht
  ·next h1 => exact .inl ⟨h1, ht⟩
  ·next h1 =>
   split at ht
   ·cases ht
   ·next h2 => exact .inr ⟨h1, h2, ht⟩
 have hG : Goes w μ w μ' := ⟨Nat.le_refl _, fun _ _ _ _ hv => hv, fun t b c ht => by
  rcases hup t b c ht with ⟨_, h1⟩ | ⟨_, _, h1⟩
  ·exact .inl ⟨s, c, h1⟩
  ·exact .inl ⟨t, c, h1⟩, fun _ _ hv _ => hv⟩
 have hget : ∀ t, (σ.ren s s').get t = (σ.get t).ren s s' := by
  intro t
  show look (σ.env.map fun p => (p.1, p.2.ren s s')) t = (look σ.env t).ren s s'
  have : ∀ l : List (Nat × AV), look (l.map fun p => (p.1, p.2.ren s s')) t = (look l t).ren s s' := by
   intro l
   induction l with
   | nil => rfl
   | cons p r ih => rw [List.map_cons, look, look]; split <;> first | rfl | exact ih
  exact this _
 have hren : ∀ (t : Nat), t ≠ s' → (σ.ren s s').at (if t = s then s' else t) = (σ.at t).ren s s' ∧ μ' (if t = s then s' else t) = μ t := by
  intro t ht
  split
  ·next he => subst he; exact ⟨by rw [hat, if_pos rfl], by rw [hμ]; simp⟩
  ·next he => exact ⟨by rw [hat, if_neg ht, if_neg he], by rw [hμ]; simp [ht, he]⟩
 have hA : ∀ n (x : AV) (v : Value), SizeOf.sizeOf x ≤ n → x.ment s' = false → RepA cx w μ σ.at x v → RepA cx w μ' (σ.ren s s').at (x.ren s s') v := by
  intro n
  induction n with
  | zero => intro x v hx; cases x <;> simp at hx
  | succ n ih =>
    intro x v hx hm hr
    have hl : ∀ (xs : List AV) (vs : List Value), SizeOf.sizeOf xs ≤ n → AV.ments s' xs = false → RepAL cx w μ σ.at xs vs → RepAL cx w μ' (σ.ren s s').at (AV.rens s s' xs) vs := by
     intro xs
     induction xs with
     | nil => intro vs _ _ hr; rw [AV.rens]; rw [RepAL] at hr ⊢; exact hr
     | cons y r ihr =>
       intro vs hx hm hr
       simp at hx
       rw [AV.ments, Bool.or_eq_false_iff] at hm
       rw [AV.rens]
       rw [RepAL] at hr ⊢
       obtain ⟨v, vr, h0, h1, h2⟩ := hr
       exact ⟨v, vr, h0, ih y v (by omega) hm.1 h1, ihr vr (by omega) hm.2 h2⟩
    cases x with
    | v nw y =>
      rw [AV.ren]
      rw [RepA] at hr ⊢
      obtain ⟨cs, h1, h2⟩ := hr
      exact ⟨cs, Rep.goes hG h1, h2⟩
    | nil => rw [AV.ren]; rw [RepA] at hr ⊢; exact hr
    | own t o l =>
      have ht : t ≠ s' := by simpa [AV.ment] using hm
      obtain ⟨e1, e2⟩ := hren t ht
      rw [AV.ren]
      rw [RepA] at hr ⊢
      rw [e1, e2]
      cases hb : σ.at t <;> rw [hb] at hr <;> first | exact hr | (simp [Blk.ren])
    | ptr t i p o =>
      have ht : t ≠ s' := by simpa [AV.ment] using hm
      obtain ⟨e1, e2⟩ := hren t ht
      rw [AV.ren]
      rw [RepA] at hr ⊢
      rw [e1, e2]
      cases hb : σ.at t <;> rw [hb] at hr <;> first | exact hr | (simp [Blk.ren])
    | el nw y =>
      rw [AV.ren]
      rw [RepA] at hr ⊢
      obtain ⟨b, o0, cs, h1, h2, h3, h4⟩ := hr
      exact ⟨b, o0, cs, okOf_goes hG h1, h2, Rep.goes hG h3, h4⟩
    | tup xs =>
      rw [AV.ren]
      rw [RepA] at hr ⊢
      obtain ⟨vs, h1, h2⟩ := hr
      exact ⟨vs, h1, hl xs vs (by simp at hx; omega) (by rw [AV.ment] at hm; exact hm) h2⟩
    | fn f xs =>
      rw [AV.ren]
      rw [RepA] at hr ⊢
      obtain ⟨vs, h1, h2⟩ := hr
      exact ⟨vs, h1, hl xs vs (by simp at hx; omega) (by rw [AV.ment] at hm; exact hm) h2⟩
    | knot nw f y =>
      rw [AV.ren]
      rw [RepA] at hr ⊢
      obtain ⟨b, o, b', o', cs, h1, h2, h3, h4, h5, h6⟩ := hr
      exact ⟨b, o, b', o', cs, okOf_goes hG h1, h2, h3, okOf_goes hG h4, Rep.goes hG h5, h6⟩
    | yld b => rw [AV.ren]; rw [RepA] at hr ⊢; exact hr
    | emp b => rw [AV.ren]; rw [RepA] at hr ⊢; exact hr
    | bsl t n =>
      have ht : t ≠ s' := by simpa [AV.ment] using hm
      obtain ⟨e1, e2⟩ := hren t ht
      rw [AV.ren]
      rw [RepA] at hr ⊢
      rw [e1, e2]
      cases hb : σ.at t <;> rw [hb] at hr <;> first | exact hr | (simp [Blk.ren])
    | mth m y =>
      rw [AV.ren]
      rw [RepA] at hr ⊢
      obtain ⟨u, h1, h2⟩ := hr
      exact ⟨u, h1, ih y u (by simp at hx; omega) (by rw [AV.ment] at hm; exact hm) h2⟩
    | undef => rw [AV.ren, RepA]; trivial
 have hBk : ∀ t t', t ≠ s' → μ' t' = μ t → (σ.at t).ment s' = false → RepB cx w μ σ.at t (σ.at t) → RepB cx w μ' (σ.ren s s').at t' ((σ.at t).ren s s') := by
  intro t t' ht he hm hb
  cases hbk : σ.at t with
  | dead => rw [hbk] at hb; exact he.trans hb
  | buf e sz nw xs =>
    rw [hbk] at hb
    rcases hb with ⟨k1, k2⟩ | ⟨b, cap, cur, k1, k2, k3, k4, k5, k6⟩
    ·exact .inl ⟨he.trans k1, k2⟩
    ·exact .inr ⟨b, cap, cur, he.trans k1, k2, k3, k4, k5, RepRow.goes hG (fun _ _ hv => hv) k6⟩
  | box e x =>
    rw [hbk] at hb hm
    obtain ⟨b, cap, cur, val, k1, k2, k3, k4, k5⟩ := hb
    refine ⟨b, cap, cur, val, he.trans k1, k2, hA _ x val (Nat.le_refl _) hm k3, k4, fun hv => k5 ?_⟩
    cases x <;> first | rfl | (simp [AV.ren, AV.isV] at hv)
 refine ⟨hdf, μ', h.below, h.hB, h.gl, h.size, ⟨fun t b c ht => ?_, fun t1 t2 b c c' h1 h2 => ?_⟩, fun t => ?_, fun t => ?_, fun p hp => by obtain ⟨q, hq, rfl⟩ := List.mem_map.1 hp; exact hA _ _ _ (Nat.le_refl _) (hF.root q hq) (h.roots q hq), h.fix⟩
 ·rcases hup t b c ht with ⟨_, h1⟩ | ⟨_, _, h1⟩
  ·exact h.sites.lo s b c h1
  ·exact h.sites.lo t b c h1
 ·rcases hup t1 b c h1 with ⟨e1, k1⟩ | ⟨e1, e1', k1⟩ <;> rcases hup t2 b c' h2 with ⟨e2, k2⟩ | ⟨e2, e2', k2⟩
  ·rw [e1, e2]
  ·exact absurd (h.sites.inj s t2 b c c' k1 k2).symm e2'
  ·exact absurd (h.sites.inj t1 s b c c' k1 k2) e1'
  ·exact h.sites.inj t1 t2 b c c' k1 k2
 ·rw [hat]
  split
  ·next ht =>
   subst ht
   exact hBk s t hss (by rw [hμ]; simp) (hF.mem s) (h.mem s)
  ·next ht =>
   split
   ·next ht2 => show μ' t = none; rw [hμ]; simp only; rw [if_neg ht, if_pos ht2]
   ·next ht2 => exact hBk t t ht (by rw [hμ]; simp [ht, ht2]) (hF.mem t) (h.mem t)
 ·rw [hget]
  exact hA _ _ _ (Nat.le_refl _) (hF.env t) (h.env t)
mutual
def Arg.av : Arg → AV
 | .v x => .v x.flat x
 | .el x => .el false x
 | .fn f xs => .fn f (Arg.avs xs)
 | .knot f x => .knot false f x
def Arg.avs : List Arg → List AV
 | [] => []
 | x :: r => x.av :: Arg.avs r
end
def entry (n : Nat) (args : List Arg) : St := { nt := args.length + (n - args.length), env := args.zipIdx.map fun p => (p.2, p.1.av), mem := [] }
def resAVs (P : Program) (at_ : Nat → Blk) (g : Nat → AV) : List ResultVar → Option (List AV)
 | [] => some []
 | .tmp t :: r => (resAVs P at_ g r).map fun l => g t :: l
 | .cell a t :: r => if (g a).isPtr = true then (match loadA P at_ t (g a), resAVs P at_ g r with
   | some X, some l => some (X :: l)
   | _, _ => none) else none
def srcOf : List (Nat × Nat) → Nat → Option Nat
 | [], _ => none
 | p :: r, s => if p.1 = s then some p.2 else srcOf r s
def retCaps (at_ : Nat → Blk) (so : List (Nat × Nat)) : List AV → List (Nat × TypeId × Bool × V) → Prop
 | [], [] => True
 | .ptr s0 _ _ off :: l, (s, e, nw, x) :: r => srcOf so s = some s0 ∧ off = 0 ∧ (match at_ s0 with
   | .box e' (.v nw' y) => e' = e ∧ y = x ∧ (nw = true → nw' = true)
   | _ => False) ∧ retCaps at_ so l r
 | _, _ => False
def retOne (at_ : Nat → Blk) (so : List (Nat × Nat)) : AV → R → Prop
 | .v nw' y, .v nw x => y = x ∧ (nw = true → nw' = true)
 | .nil, .v _ (.sl _ xs) => xs = []
 | .emp _, .v _ (.sl _ xs) => xs = []
 | .own s0 off len, .v nw (.sl z xs) => match at_ s0 with
   | .buf _ z' nw' ys => z = z' ∧ xs = (ys.drop off).take len ∧ (nw = true → nw' = true) ∧ so.all (fun p => p.2 != s0) = true
   | _ => False
 | .own s0 off len, .own s e sz nw xs => srcOf so s = some s0 ∧ off = 0 ∧ len = xs.length ∧ (match at_ s0 with
   | .buf e' z nw' ys => e' = e ∧ z = sz ∧ ys = xs ∧ (nw = true → nw' = true)
   | _ => False)
 | .nil, .own s _ _ _ xs => xs = [] ∧ srcOf so s = none
 | .fn f' l, .clo f caps => f' = f ∧ retCaps at_ so l caps
 | _, _ => False
def retAll (at_ : Nat → Blk) (so : List (Nat × Nat)) : List AV → List R → Prop
 | [], [] => True
 | X :: l, r :: rs => retOne at_ so X r ∧ retAll at_ so l rs
 | _, _ => False
def RetOk (P : Program) (fn : Func) (σ : St) (rs : List R) : Prop :=
 ∃ Xs so, resAVs P σ.at σ.get fn.results.toList = some Xs ∧ retAll σ.at so Xs rs ∧ (R.names rs).Nodup ∧ (so.map (·.2)).Nodup ∧ (so.all fun p => (R.names rs).contains p.1) = true
mutual
theorem Arg.av_ok {w : World} {O : Nat → Prop} {mem : Nat → Blk} : ∀ {x : Arg} {u : Value}, ArgRep w O x u → RepA { B := w.heap.size, O } w (fun _ => none) mem x.av u
 | .v y, u, h1 => by
   rw [ArgRep] at h1
   obtain ⟨cs, k1, k2⟩ := h1
   rw [Arg.av, RepA]
   refine ⟨cs, ?_, k2⟩
   cases hf : y.flat with
   | true => exact V.flat_rep hf k1
   | false => exact Rep.mono (fun _ _ _ _ hv => hv) (fun b hb => ⟨hb.1, fun _ _ h => by simp at h, .inr ⟨rfl, .inl hb.2⟩⟩) k1
 | .el y, u, h1 => by
   rw [ArgRep] at h1
   obtain ⟨b, o, cs, k1, k2, k3, k4⟩ := h1
   rw [Arg.av, RepA]
   exact ⟨b, o, cs, ⟨k1.1, fun _ _ h => by simp at h, .inr ⟨rfl, .inl k1.2⟩⟩, k2, Rep.mono (fun _ _ _ _ hv => hv) (fun b hb => ⟨hb.1, fun _ _ h => by simp at h, .inr ⟨rfl, .inl hb.2⟩⟩) k3, k4⟩
 | .fn f xs, u, h1 => by
   rw [ArgRep] at h1
   obtain ⟨vs, k1, k2⟩ := h1
   rw [Arg.av, RepA]
   exact ⟨vs, k1, Arg.avs_ok k2⟩
 | .knot f y, u, h1 => by
   rw [ArgRep] at h1
   obtain ⟨b, o, b', o', cs, k1, k2, k3, k4, k5, k6⟩ := h1
   rw [Arg.av, RepA]
   exact ⟨b, o, b', o', cs, ⟨k1.1, fun _ _ h => by simp at h, .inr ⟨rfl, .inl k1.2⟩⟩, k2, k3, ⟨k4.1, fun _ _ h => by simp at h, .inr ⟨rfl, .inl k4.2⟩⟩, Rep.mono (fun _ _ _ _ hv => hv) (fun b hb => ⟨hb.1, fun _ _ h => by simp at h, .inr ⟨rfl, .inl hb.2⟩⟩) k5, k6⟩
theorem Arg.avs_ok {w : World} {O : Nat → Prop} {mem : Nat → Blk} : ∀ {x : List Arg} {us : List Value}, ArgsRep w O x us → RepAL { B := w.heap.size, O } w (fun _ => none) mem (Arg.avs x) us
 | [], u, h => by rw [ArgsRep] at h; rw [Arg.avs, RepAL]; exact h
 | x :: r, us, h => by
   rw [ArgsRep] at h
   obtain ⟨u, ur, rfl, h1, h2⟩ := h
   rw [Arg.avs, RepAL]
   exact ⟨u, ur, rfl, Arg.av_ok h1, Arg.avs_ok h2⟩
end
theorem entry_ok {n : Nat} {args : List Arg} {vs : List Value} {O : Nat → Prop} (hG : GL w) (h : ArgsRep w O args vs) :
 Rel { B := w.heap.size, O } w (entry n args) { tmps := vs.toArray ++ Array.replicate (n - vs.toArray.size) undef, defers := [] } w := by
 have hlen : ∀ {as : List Arg} {us : List Value}, ArgsRep w O as us → as.length = us.length := by
  intro as
  induction as with
  | nil => intro us h; rw [ArgsRep] at h; subst h; rfl
  | cons x r ih => intro us h; rw [ArgsRep] at h; obtain ⟨v, vr, rfl, _, h2⟩ := h; simp [ih h2]
 have hl := hlen h
 refine ⟨DefOk.nil, fun _ => none, Below.refl _ _, rfl, hG, by simp [entry, hl], ⟨fun s b c hs => by simp at hs, fun s1 s2 b c c' h1 => by simp at h1⟩, fun s => rfl, fun t => ?_, (fun p hp => by cases hp), (fun p hp => by cases hp)⟩
 have key : ∀ (as : List Arg) (us : List Value) (k : Nat), ArgsRep w O as us → k ≤ t →
  RepA { B := w.heap.size, O } w (fun _ => none) (entry n args).at (look ((as.zipIdx k).map fun p => (p.2, p.1.av)) t) ((us ++ List.replicate (n - vs.toArray.size) undef).getD (t - k) undef) := by
  intro as
  induction as with
  | nil =>
    intro us k _ _
    show RepA _ w _ _ .undef _
    rw [RepA]; trivial
  | cons x r ih =>
    intro us k h hk
    rw [ArgsRep] at h
    obtain ⟨v, vr, rfl, h1, h2⟩ := h
    rw [List.zipIdx_cons, List.map_cons, look]
    by_cases hkt : k = t
    ·rw [if_pos hkt]
     subst hkt
     simp only [Nat.sub_self, List.cons_append]
     exact Arg.av_ok h1
    ·rw [if_neg hkt]
     have := ih vr (k + 1) h2 (by omega)
     rw [show t - k = (t - (k + 1)) + 1 from by omega]
     exact this
 have := key args vs 0 h (Nat.zero_le _)
 rw [Nat.sub_zero] at this
 have e1 : (vs.toArray ++ Array.replicate (n - vs.toArray.size) undef).getD t undef = (vs ++ List.replicate (n - vs.toArray.size) undef).getD t undef := by
  rw [Array.getD_eq_getD_getElem?, List.getD_eq_getElem?_getD, ← Array.getElem?_toList]
  simp
 show RepA _ w _ _ _ ((vs.toArray ++ Array.replicate (n - vs.toArray.size) undef).getD t undef)
 rw [e1]
 exact this
end
section
variable {P : Program} {cx : Cx} {w0 w : World} {σ σ' : St} {a : Act} {μ : Sites}
theorem resAVs_ok {tmps : Array Value} {f : ResultVar → Sem Value} (f1 : ∀ t, f (.tmp t) = pure (tmps.getD t undef)) (f2 : ∀ b t, f (.cell b t) = (do loadVar t (← asAddr (tmps.getD b undef)))) (h : RelM cx w0 σ tmps w μ) :
 ∀ {l : List ResultVar} {Xs : List AV}, resAVs P σ.at σ.get l = some Xs → ∃ vs : List Value, (l.mapM f).run P w = .ok vs w ∧ RepAL cx w μ σ.at Xs vs
 | [], Xs, hr => by
   rw [resAVs] at hr
   cases hr
   exact ⟨[], rfl, by rw [RepAL]⟩
 | .tmp t :: r, Xs, hr => by
   rw [resAVs] at hr
   simp only [Option.map_eq_some_iff] at hr
   obtain ⟨l, h1, rfl⟩ := hr
   obtain ⟨vs, h2, h3⟩ := resAVs_ok f1 f2 h h1
   refine ⟨tmps.getD t undef :: vs, ?_, by rw [RepAL]; exact ⟨_, _, rfl, h.env t, h3⟩⟩
   rw [List.mapM_cons, f1]
   simp only [Sem.run_bind, Sem.run_pure, Result.andThen_ok, h2]
 | .cell b t :: r, Xs, hr => by
   rw [resAVs] at hr
   split at hr
   ·split at hr
    ·next X l hX hl =>
     cases hr
     obtain ⟨vs, h2, h3⟩ := resAVs_ok f1 f2 h hl
     obtain ⟨v, ⟨ad, k1, k2⟩, k3⟩ := r_loadA h.mem hX (h.env b)
     refine ⟨v :: vs, ?_, by rw [RepAL]; exact ⟨_, _, rfl, k3, h3⟩⟩
     have hA : (asAddr (tmps.getD b undef)).run P w = .ok ad w := by rw [k1]; rfl
     rw [List.mapM_cons, f2]
     simp only [Sem.run_bind, hA, Sem.run_pure, Result.andThen_ok, k2, h2]
    ·cases hr
   ·cases hr
def packed : List Value → Value
 | [v] => v
 | vs => .tuple vs.toArray
theorem results_ok {fn : Func} {tmps : Array Value} {Xs : List AV} (h : RelM cx w0 σ tmps w μ) (hr : resAVs P σ.at σ.get fn.results.toList = some Xs) :
 ∃ vs : List Value, (results fn tmps).run P w = .ok (packed vs) w ∧ RepAL cx w μ σ.at Xs vs := by
 unfold results
 rw [Sem.run_bind, Array.mapM_eq_mapM_toList]
 simp only [Sem.run_map]
 obtain ⟨vs, h1, h2⟩ := resAVs_ok (f := fun x => match x with
  | .tmp t => pure (tmps.getD t undef)
  | .cell a t => do loadVar t (← asAddr (tmps.getD a undef))) (fun _ => rfl) (fun _ _ => rfl) h hr
 refine ⟨vs, ?_, h2⟩
 erw [h1]
 simp only [Result.andThen_ok, Sem.run_pure]
 match vs with
 | [] => rfl
 | [v] => rfl
 | v1 :: v2 :: r => simp [packed]
def retSites (μ : Sites) (so : List (Nat × Nat)) : Sites := fun t => match srcOf so t with
 | some s0 => μ s0
 | none => none
theorem srcOf_mem {so : List (Nat × Nat)} {t s : Nat} (h : srcOf so t = some s) : (t, s) ∈ so := by
 induction so with
 | nil => cases h
 | cons p r ih =>
   rw [srcOf] at h
   split at h
   ·next he => cases h; subst he; simp
   ·exact List.mem_cons_of_mem _ (ih h)
theorem srcOf_inj {so : List (Nat × Nat)} (hn : (so.map (·.2)).Nodup) {t1 t2 s : Nat} (h1 : srcOf so t1 = some s) (h2 : srcOf so t2 = some s) : t1 = t2 := by
 have m1 := srcOf_mem h1
 have m2 := srcOf_mem h2
 induction so with
 | nil => cases m1
 | cons p r ih =>
   rw [List.map_cons, List.nodup_cons] at hn
   rw [srcOf] at h1 h2
   split at h1 <;> split at h2
   ·next e1 e2 => rw [← e1, ← e2]
   ·cases h1
    exact absurd (List.mem_map.2 ⟨_, srcOf_mem h2, rfl⟩) hn.1
   ·cases h2
    exact absurd (List.mem_map.2 ⟨_, srcOf_mem h1, rfl⟩) hn.1
   ·exact ih hn.2 h1 h2 (srcOf_mem h1) (srcOf_mem h2)
theorem look_nodup {l : List (Nat × Blk)} {q : Nat × Blk} (hn : (l.map (·.1)).Nodup) (h : q ∈ l) : look l q.1 = q.2 := by
 induction l with
 | nil => cases h
 | cons p r ih =>
   rw [List.map_cons, List.nodup_cons] at hn
   rw [look]
   rcases List.mem_cons.1 h with rfl | h
   ·rw [if_pos rfl]
   ·rw [if_neg (fun he => hn.1 (by rw [he]; exact List.mem_map.2 ⟨q, h, rfl⟩)), ih hn.2 h]
theorem retAll_ok {so : List (Nat × Nat)} {rs : List R} {tmps : Array Value} {Xs : List AV} (h : RelM cx w0 σ tmps w μ) (hr : retAll σ.at so Xs rs) (hn : (R.names rs).Nodup) (hs2 : (so.map (·.2)).Nodup) (hso : (so.all fun p => (R.names rs).contains p.1) = true)
 {vs : List Value} (hv : RepAL cx w μ σ.at Xs vs) : ∃ μ', ResOk cx w μ' rs (packed vs) := by
 classical
 obtain ⟨μ', hμ⟩ : ∃ μ' : Sites, μ' = retSites μ so := ⟨_, rfl⟩
 have hμs : ∀ {t s0}, srcOf so t = some s0 → μ' t = μ s0 := fun {t s0} ht => by rw [hμ]; simp only [retSites, ht]
 have hup : ∀ t b c, μ' t = some (b, c) → ∃ s0, srcOf so t = some s0 ∧ μ s0 = some (b, c) := by
  intro t b c ht
  rw [hμ] at ht
  simp only [retSites] at ht
  split at ht
  ·next s0 h1 => exact ⟨s0, h1, ht⟩
  ·cases ht
 have hG : Goes w μ w μ' := ⟨Nat.le_refl _, fun _ _ _ _ hv => hv, fun t b c ht => by obtain ⟨s0, _, h1⟩ := hup t b c ht; exact .inl ⟨s0, c, h1⟩, fun _ _ hv _ => hv⟩
 have hS : SitesOk cx w μ' := ⟨fun t b c ht => by obtain ⟨s0, _, h1⟩ := hup t b c ht; exact h.sites.lo s0 b c h1, fun t1 t2 b c c' h1 h2 => by
  obtain ⟨s1, k1, m1⟩ := hup t1 b c h1
  obtain ⟨s2, k2, m2⟩ := hup t2 b c' h2
  have := h.sites.inj s1 s2 b c c' m1 m2
  subst this
  exact srcOf_inj hs2 k1 k2⟩
 have hlook : ∀ {r : R} {q : Nat × Blk}, r ∈ rs → q ∈ r.blks → look (R.mems rs) q.1 = q.2 := fun hr hq => look_nodup hn (R.blks_mem hr hq)
 have caps1 : ∀ (l : List AV) (caps : List (Nat × TypeId × Bool × V)) (vs : List Value), (∀ c ∈ caps, look (R.mems rs) c.1 = .box c.2.1 (.v c.2.2.1 c.2.2.2)) → retCaps σ.at so l caps → RepAL cx w μ σ.at l vs → RepAL cx w μ' (look (R.mems rs)) (caps.map fun c => .ptr c.1 0 [] 0) vs := by
  intro l
  induction l with
  | nil =>
    intro caps vs _ hc hv
    cases caps with
    | nil => rw [List.map_nil]; rw [RepAL] at hv ⊢; exact hv
    | cons _ _ => exact absurd hc (by simp [retCaps])
  | cons X l ih =>
    intro caps vs hl hc hv
    cases caps with
    | nil => cases X <;> exact absurd hc (by simp [retCaps])
    | cons c caps =>
      obtain ⟨s, e, nw, x⟩ := c
      obtain ⟨s0, i, p, off, rfl⟩ : ∃ s0 i p off, X = .ptr s0 i p off := by
       cases X with
       | ptr s0 i p off => exact ⟨s0, i, p, off, rfl⟩
       | _ => exact absurd hc (by simp [retCaps])
      rw [retCaps] at hc
      obtain ⟨h1, rfl, h2, h3⟩ := hc
      rw [RepAL] at hv
      obtain ⟨v, vr, rfl, k1, k2⟩ := hv
      rw [List.map_cons, RepAL]
      refine ⟨v, vr, rfl, ?_, ih caps vr (fun c hc => hl c (by simp [hc])) h3 k2⟩
      split at h2
      ·next e' nw' y hat =>
       rw [RepA, hat] at k1
       obtain ⟨b, cap, m1, m2⟩ := k1
       rw [RepA, hl _ (by simp)]
       exact ⟨b, cap, (hμs h1).trans m1, m2⟩
      ·cases h2
 have one : ∀ X r v, retOne σ.at so X r → r ∈ rs → RepA cx w μ σ.at X v → RepA cx w μ' (look (R.mems rs)) r.av v := by
  intro X r v hr hin hv
  cases r with
  | v nw x =>
    rw [R.av]
    cases X <;> simp only [retOne] at hr
    ·next nw' y =>
     obtain ⟨rfl, h2⟩ := hr
     rw [RepA] at hv ⊢
     obtain ⟨cs, k1, k2⟩ := hv
     exact ⟨cs, Rep.goes hG (Rep.weak h2 k1), k2⟩
    ·cases x <;> simp only at hr
     subst hr
     rw [repA_nil] at hv
     rw [RepA]
     exact ⟨[.slice none 0 0], by rw [Rep]; exact .inl ⟨rfl, _, _, rfl⟩, hv⟩
    ·next s0 off len =>
     cases x <;> simp only at hr
     next z xs =>
     split at hr
     ·next e z' nw' ys hat =>
      obtain ⟨rfl, rfl, h3, h4⟩ := hr
      have hm := h.mem s0
      rw [hat] at hm
      rw [RepA, hat] at hv
      rw [RepA]
      refine ⟨[v], ?_, rfl⟩
      rw [Rep]
      rcases hv with ⟨b, cap, g1, g2, g3⟩ | ⟨g1, rfl, rfl, rfl, g3⟩
      ·rcases hm with ⟨q1, _⟩ | ⟨b', cap', cur, m1, m2, m3, m4, m5, m6⟩
       ·rw [g1] at q1; cases q1
       rw [g1] at m1
       cases m1
       have hlen : ((ys.drop off).take len).length = len := by simp; omega
       have hlo := h.sites.lo s0 b cap g1
       refine .inr ⟨b, off * z, cap - off, by omega, ⟨hlo.2, fun t c ht => ?_, .inl hlo.1⟩, by rw [g3, hlen], ?_⟩
       ·obtain ⟨s1, k1, k2⟩ := hup t b c ht
        have e1 := h.sites.inj s1 s0 b c cap k2 g1
        have e2 := List.all_eq_true.1 h4 _ (srcOf_mem k1)
        simp [e1] at e2
       ·have hr := RepRow.take (RepRow.drop m6 off) len
        rw [Nat.zero_add] at hr
        obtain ⟨cs, k1, k2⟩ := RepRow.flat hr
        exact RepF.row (RepF.map (fun h => Rep.goes hG (Rep.weak h3 h)) k1) k2
      ·exact .inl ⟨by simp, _, _, by rw [g3]⟩
     ·cases hr
    ·cases x <;> simp only at hr
     subst hr
     rw [RepA] at hv
     obtain ⟨a0, c0, hv, _⟩ := hv
     rw [RepA]
     exact ⟨[.slice a0 0 c0], by rw [Rep]; exact .inl ⟨rfl, _, _, rfl⟩, hv⟩
  | own s e sz nw xs =>
    rw [R.av]
    have hl := hlook hin (q := (s, .buf e sz nw xs)) (by rw [R.blks]; exact List.mem_singleton.2 rfl)
    simp only at hl
    cases X <;> simp only [retOne] at hr
    ·obtain ⟨rfl, h1⟩ := hr
     rw [repA_nil] at hv
     rw [RepA, hl]
     exact .inr ⟨by rw [hμ]; simp only [retSites, h1], rfl, rfl, rfl, hv⟩
    ·next s0 off len =>
     obtain ⟨h1, rfl, rfl, h2⟩ := hr
     split at h2
     ·next e' z nw' ys hat =>
      obtain ⟨rfl, rfl, rfl, h3⟩ := h2
      rw [RepA, hat] at hv
      rw [RepA, hl, hμs h1]
      exact hv
     ·cases h2
  | clo f caps =>
    rw [R.av]
    cases X <;> simp only [retOne] at hr
    next f' l =>
    obtain ⟨rfl, h1⟩ := hr
    rw [RepA] at hv ⊢
    obtain ⟨us, k1, k2⟩ := hv
    exact ⟨us, k1, caps1 l caps us (fun c hc => hlook hin (q := (c.1, .box c.2.1 (.v c.2.2.1 c.2.2.2))) (by rw [R.blks]; exact List.mem_map.2 ⟨c, hc, rfl⟩)) h1 k2⟩
 have all : ∀ (Xs : List AV) (q : List R) (vs : List Value), retAll σ.at so Xs q → (∀ r ∈ q, r ∈ rs) → RepAL cx w μ σ.at Xs vs → RepAL cx w μ' (look (R.mems rs)) (q.map R.av) vs := by
  intro Xs
  induction Xs with
  | nil =>
    intro q vs h1 h2 h3
    cases q with
    | nil => rw [List.map_nil]; rw [RepAL] at h3 ⊢; exact h3
    | cons _ _ => exact absurd h1 (by simp [retAll])
  | cons X l ih =>
    intro q vs h1 h2 h3
    cases q with
    | nil => exact absurd h1 (by simp [retAll])
    | cons r q =>
      rw [retAll] at h1
      rw [RepAL] at h3
      obtain ⟨v, vr, rfl, k1, k2⟩ := h3
      rw [List.map_cons, RepAL]
      exact ⟨v, vr, rfl, one X r v h1.1 (h2 r (by simp)) k1, ih q vr h1.2 (fun y hy => h2 y (by simp [hy])) k2⟩
 have hall := all Xs rs vs hr (fun _ h => h) hv
 have find : ∀ (Xs : List AV) (q : List R) (vs : List Value), retAll σ.at so Xs q → RepAL cx w μ σ.at Xs vs → ∀ r ∈ q, ∃ X v, retOne σ.at so X r ∧ RepA cx w μ σ.at X v := by
  intro Xs
  induction Xs with
  | nil =>
    intro q vs h1 _ r hr
    cases q with
    | nil => cases hr
    | cons _ _ => exact absurd h1 (by simp [retAll])
  | cons X l ih =>
    intro q vs h1 h3 r hr
    cases q with
    | nil => cases hr
    | cons y q =>
      rw [retAll] at h1
      rw [RepAL] at h3
      obtain ⟨v, vr, rfl, k1, k2⟩ := h3
      rcases List.mem_cons.1 hr with rfl | hr
      ·exact ⟨X, v, h1.1, k1⟩
      ·exact ih q vr h1.2 k2 r hr
 have caps2 : ∀ (l : List AV) (caps : List (Nat × TypeId × Bool × V)), retCaps σ.at so l caps → ∀ c ∈ caps, ∃ s0 nw', srcOf so c.1 = some s0 ∧ σ.at s0 = .box c.2.1 (.v nw' c.2.2.2) ∧ (c.2.2.1 = true → nw' = true) := by
  intro l
  induction l with
  | nil =>
    intro caps hc c hin
    cases caps with
    | nil => cases hin
    | cons _ _ => exact absurd hc (by simp [retCaps])
  | cons X l ih =>
    intro caps hc c hin
    cases caps with
    | nil => cases hin
    | cons c' caps =>
      obtain ⟨s, e, nw, x⟩ := c'
      obtain ⟨s0, i, p, off, rfl⟩ : ∃ s0 i p off, X = .ptr s0 i p off := by
       cases X with
       | ptr s0 i p off => exact ⟨s0, i, p, off, rfl⟩
       | _ => exact absurd hc (by simp [retCaps])
      rw [retCaps] at hc
      obtain ⟨h1, h0, h2, h3⟩ := hc
      rcases List.mem_cons.1 hin with rfl | hin
      ·split at h2
       ·next e' nw' y hat =>
        obtain ⟨rfl, rfl, h4⟩ := h2
        exact ⟨s0, nw', h1, hat, h4⟩
       ·cases h2
      ·exact ih caps h3 c hin
 have hblk : ∀ s, RepB cx w μ' (look (R.mems rs)) s (look (R.mems rs) s) := by
  intro s
  by_cases hs : s ∈ R.names rs
  ·obtain ⟨r, hr', hq⟩ := R.mem_blks (look_some hs)
   obtain ⟨X, v, k1, k2⟩ := find Xs rs vs hr hv r hr'
   cases r with
   | v _ _ => cases hq
   | own s2 e sz nw xs =>
     simp only [R.blks, List.mem_cons, List.not_mem_nil, or_false, Prod.mk.injEq] at hq
     obtain ⟨rfl, hq⟩ := hq
     rw [hq]
     cases X <;> simp only [retOne] at k1
     ·obtain ⟨rfl, k1⟩ := k1
      exact .inl ⟨by rw [hμ]; simp only [retSites, k1], rfl⟩
     ·next s0 off len =>
      obtain ⟨g1, rfl, rfl, g2⟩ := k1
      split at g2
      ·next e' z nw' ys hat =>
       obtain ⟨rfl, rfl, rfl, g3⟩ := g2
       have hm := h.mem s0
       rw [hat] at hm
       rcases hm with ⟨q1, q2⟩ | ⟨b', cap', cur, m1, m2, m3, m4, m5, m6⟩
       ·exact .inl ⟨(hμs g1).trans q1, q2⟩
       ·obtain ⟨cs, f1, f2⟩ := RepRow.flat m6
        exact .inr ⟨b', cap', cur, (hμs g1).trans m1, m2, m3, m4, m5, RepF.row (RepF.map (fun h => Rep.goes hG (Rep.weak g3 h)) f1) f2⟩
      ·cases g2
   | clo f caps =>
     cases X <;> simp only [retOne] at k1
     next f' l =>
     obtain ⟨rfl, k1⟩ := k1
     obtain ⟨c, hc, he⟩ := List.mem_map.1 hq
     simp only [Prod.mk.injEq] at he
     obtain ⟨he1, he2⟩ := he
     rw [← he2, ← he1]
     obtain ⟨s0, nw', g1, hat, g3⟩ := caps2 l caps k1 c hc
     have hm := h.mem s0
     rw [hat] at hm
     obtain ⟨b', cap', cur, val, m1, m2, m3, m4, m5⟩ := hm
     refine ⟨b', cap', cur, val, (hμs g1).trans m1, m2, ?_, m4, m5⟩
     rw [RepA] at m3 ⊢
     obtain ⟨cs, f1, f2⟩ := m3
     exact ⟨cs, Rep.goes hG (Rep.weak g3 f1), f2⟩
  ·rw [look_names hs]
   show μ' s = none
   rw [hμ]
   simp only [retSites]
   split
   ·next s0 h1 =>
    exfalso
    have := List.all_eq_true.1 hso _ (srcOf_mem h1)
    exact hs (by simpa using this)
   ·rfl
 refine ⟨μ', hS, hblk, ?_⟩
 match rs, hall with
 | [], hall =>
   rw [List.map_nil, RepAL] at hall
   subst hall
   show RepA cx w μ' _ (.tup []) _
   rw [RepA]
   exact ⟨[], rfl, by rw [RepAL]⟩
 | [r], hall =>
   rw [List.map_cons, List.map_nil, RepAL] at hall
   obtain ⟨v, vr, rfl, k1, k2⟩ := hall
   rw [RepAL] at k2
   subst k2
   exact k1
 | r1 :: r2 :: r3, hall =>
   have h0 := hall
   rw [List.map_cons, RepAL] at hall
   obtain ⟨v, vr, rfl, k1, k2⟩ := hall
   rw [List.map_cons, RepAL] at k2
   obtain ⟨v2, vr2, rfl, k3, k4⟩ := k2
   show RepA cx w μ' _ (.tup ((r1 :: r2 :: r3).map R.av)) _
   rw [RepA]
   exact ⟨v :: v2 :: vr2, rfl, h0⟩
def fnQ (P : Program) (fn : Func) (rs : List R) : Exit → St → Prop
 | .ret, σ => RetOk P fn σ rs
 | .normal, σ => RetOk P fn σ rs
 | _, _ => False
theorem GoesC.putObj {w : World} {μ : Sites} {r : Nat} {o o' : Obj} (h : w.heap[r]? = some o) (ho : o.isCells = false) : GoesC w μ (w.putObj r o') μ where
 size := by simp
 cell := fun b o1 v _ hv => by
  rw [← hv]
  refine World.cell?_of_block (w := w) (a := ⟨b, o1, none⟩) (World.putObj_heap_other ?_)
  rintro rfl
  have hb : w.cell? ⟨b, o1, none⟩ = none := by
   simp only [World.cell?, h]
   cases o <;> first | rfl | cases ho
  rw [hb] at hv
  cases hv
 blocks := fun s b c hs => .inl ⟨s, c, hs⟩
theorem RelM.putObj {tmps : Array Value} {fix' : List (Nat × Obj)} (h : RelM cx w0 σ tmps w μ) {r : Nat} {o o' : Obj} (hr : w.heap[r]? = some o) (ho : o.isCells = false) (hB : cx.B ≤ r) (hfix : ∀ p ∈ fix', (p ∈ σ.fix ∧ p.1 ≠ r) ∨ (p = (r, o') ∧ o'.isCells = false)) :
 RelM cx w0 { σ with fix := fix' } tmps (w.putObj r o') μ := by
 have hG := GoesC.putObj (μ := μ) (o' := o') hr ho
 have hsite : ∀ s b c, μ s = some (b, c) → (w.putObj r o').heap[b]? = w.heap[b]? := fun s b c hs => by
  refine World.putObj_heap_other ?_
  rintro rfl
  have hm := h.mem s
  cases hat : σ.at s with
  | dead => rw [hat] at hm; rw [show μ s = none from hm] at hs; cases hs
  | buf e z nw xs =>
    rw [hat] at hm
    rcases hm with ⟨h1, _⟩ | ⟨b', cap', cur, h1, h2, _⟩
    ·rw [h1] at hs; cases hs
    ·rw [h1] at hs; cases hs; rw [hr] at h2; cases h2; cases ho
  | box e x =>
    rw [hat] at hm
    obtain ⟨b', cap', cur, val, h1, h2, _⟩ := hm
    rw [h1] at hs; cases hs; rw [hr] at h2; cases h2; cases ho
 refine ⟨h.below.trans ⟨rfl, rfl, rfl, by simp, fun k hk => World.putObj_heap_other (by rw [h.hB] at hk; omega)⟩, h.hB, h.gl, h.size, ⟨fun s b c hs => ⟨(h.sites.lo s b c hs).1, by simpa using (h.sites.lo s b c hs).2⟩, h.sites.inj⟩, fun s => ?_, fun t => ?_, fun p hp => ?_, fun p hp => ?_⟩
 ·exact RepB.goes hG (fun t _ => .inr ⟨rfl, Blk.fits_refl _⟩) rfl (hsite s) (h.mem s)
 ·exact RepA.goes hG (fun t _ => .inr ⟨rfl, Blk.fits_refl _⟩) (h.env t)
 ·exact RepA.goes hG (fun t _ => .inr ⟨rfl, Blk.fits_refl _⟩) (h.roots p hp)
 ·rcases hfix p hp with ⟨h1, h2⟩ | ⟨rfl, h2⟩
  ·exact ⟨(World.putObj_heap_other h2).trans (h.fix p h1).1, (h.fix p h1).2⟩
  ·exact ⟨World.putObj_heap_same (Array.getElem?_eq_some_iff.1 hr).1, h2⟩
theorem leaves_ok {fn : Func} {tmps : Array Value} {F : Fence} {n : Nat} {E : Ending → World → Prop} : ∀ (Ds : List Nat) (fix : List (Nat × Obj)) (w : World), RelM cx w0 { σ with fix := fix } tmps w μ → Ds.Nodup → (∀ D ∈ Ds, cx.B ≤ D ∧ (D, Obj.deferred (some [])) ∈ fix) →
 (∀ fix' w', RelM cx w0 { σ with fix := fix' } tmps w' μ → ∃ v, (results fn tmps).run P w' = .ok v w' ∧ E (.returned v) w') → LeavesInM F n P fn tmps E (Ds.map fun D => { target := .collected D, args := #[] }) .returning w
 | [], fix, w, h, _, _, hE => by
   obtain ⟨v, h1, h2⟩ := hE fix w h
   exact ⟨v, h1, h2⟩
 | D :: Ds, fix, w, h, hn, hD, hE => by
   rw [List.nodup_cons] at hn
   have h0 := h.fix _ (hD D (by simp)).2
   refine ⟨by simp, .inl ⟨D, _, rfl, run_takeDeferred h0.1, ?_⟩⟩
   refine leaves_ok Ds (fix.filter fun p => p.1 != D) _ (h.putObj (fix' := fix.filter fun p => p.1 != D) h0.1 h0.2 (hD D (by simp)).1 fun p hp => ?_) hn.2 (fun D' hD' => ?_) hE
   ·rw [List.mem_filter] at hp
    exact .inl ⟨hp.1, by simpa using hp.2⟩
   ·refine ⟨(hD D' (by simp [hD'])).1, List.mem_filter.2 ⟨(hD D' (by simp [hD'])).2, ?_⟩⟩
    have : D' ≠ D := fun he => hn.1 (he ▸ hD')
    simpa using this
theorem FnOk.of {f : FuncId} {fn : Func} {body : Code} {args : List Arg} {rs : List R} (hf : P.funcs[f]? = some fn) (hb : fn.body = some body) (hname : (fn.name == "runtime.NumGoroutine") = false)
 (h : ∀ (cx : Cx) (w0 : World), Holds P none cx w0 body (entry fn.ntmps args) (fnQ P fn rs)) : FnOk P f args rs := by
 intro w O vs hG hargs
 left
 refine ⟨?_, ?_⟩
 ·have hn : ¬fn.name = "runtime.NumGoroutine" := fun h => by simp [h] at hname
  simp [callFunc, hf, hn, hb]
 ·refine callsIn_wide.1 (callsIn_of_wp_marks (n := 0) hf hb trivial ?_)
  have hrel := entry_ok (n := fn.ntmps) hG hargs
  refine wpIn_mono (h { B := w.heap.size, O } w _ _ hrel) ?_
  rintro e a w' ⟨σ', hq, ⟨hD1, hD2, hD3⟩, μ, hr⟩
  have fin : RetOk P fn σ' rs → LeavesInM Fence.wide 0 P fn a.tmps (fun e w' => ∃ val μ', e = .returned val ∧ Below w.heap.size w w' ∧ ResOk { B := w.heap.size, O } w' μ' rs val) a.defers .returning w' := by
   rintro ⟨Xs, so, h1, h2, h3, h4, h5⟩
   rw [hD2]
   refine leaves_ok (σ := σ') σ'.defs σ'.fix w' hr hD1 hD3 fun fix' w'' hr' => ?_
   obtain ⟨vs, k1, k2⟩ := results_ok hr' h1
   obtain ⟨μ', k3⟩ := retAll_ok hr' h2 h3 h4 h5 k2
   exact ⟨_, k1, _, μ', rfl, hr'.below, k3⟩
  cases e with
  | normal => exact fin hq
  | ret => exact fin hq
  | exit id => exact hq.elim
  | goto l => exact hq.elim
  | panic ch => exact hq.elim
  | outgrown => exact hq.elim
end
end Go.Proofs.YtlpolbeikangpaaGreatDoor.L
