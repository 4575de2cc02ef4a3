/-
  Ls Lt Lu Lv Lw Lx Ly Lz Lza Lzb Lzc Lzd Lze Lzg Lzh Lzi Lzl Lzm Lzn Lzo Lzp
-/
import Derived.Test.YtlpolbeikangpaaGreatDoorPP2
import Derived.OrdersIn
import Derived.RangeFuncNested
import Derived.ProofKit
import Derived.OpenShut
import Derived.Carry
import Derived.WideKeyArgs
import Derived.Laws.RangeString
import Derived.WalkKit
import Derived.ChangeSame
import Derived.ChangeMaps5
import Derived.SevenTiedAt
set_option linter.unusedSimpArgs false
set_option linter.unusedVariables false
set_option maxRecDepth 100000
namespace Go.Proofs.YtlpolbeikangpaaGreatDoor.L
open Go Go.RowKit
section
variable {P : Program} {T : Tab} {ρ : Nat → List R} {at_ at' : Nat → Blk} {g g' : Operand → AV} {o : Oper} {X Y : AV}
theorem loadA_at {t : TypeId} (h : ∀ s, X.ment s = true → at_ s = at' s) : loadA P at_ t X = loadA P at' t X := by
 cases X with
 | ptr s i p f => simp only [loadA]; rw [h _ (by simp [AV.ment])]
 | _ => rfl
theorem fieldAddrA_at {t : TypeId} {j : Nat} (h : ∀ s, X.ment s = true → at_ s = at' s) : fieldAddrA P at_ t j X = fieldAddrA P at' t j X := by
 cases X with
 | ptr s i p f => simp only [fieldAddrA]; rw [h _ (by simp [AV.ment])]
 | el nw x => cases x <;> rfl
 | _ => rfl
theorem indexAddrA_at {t : TypeId} (h : ∀ s, X.ment s = true → at_ s = at' s) : indexAddrA P at_ t X Y = indexAddrA P at' t X Y := by
 cases X with
 | v nw x =>
   cases Y with
   | v nw' y => cases x <;> cases y <;> rfl
   | _ => cases x <;> rfl
 | own s f l =>
   cases Y with
   | v nw' y =>
     cases y with
     | int k n => simp only [indexAddrA]; rw [h _ (by simp [AV.ment])]
     | _ => rfl
   | _ => rfl
 | ptr s i p f =>
   cases Y with
   | v nw' y =>
     cases y with
     | int k n => simp only [indexAddrA]; rw [h _ (by simp [AV.ment])]
     | _ => rfl
   | _ => rfl
 | el nw x =>
   cases x with
   | agg fs =>
     cases Y with
     | v nw' y => cases y <;> rfl
     | _ => rfl
   | _ => rfl
 | _ => rfl
theorem sliceA_at {t : TypeId} {l u m : Option AV} (h : ∀ s, X.ment s = true → at_ s = at' s) : sliceA P at_ t X l u m = sliceA P at' t X l u m := by
 cases X with
 | v nw x => cases x <;> rfl
 | own s f n => simp only [sliceA]; rw [h _ (by simp [AV.ment])]
 | ptr s i p f => simp only [sliceA]; rw [h _ (by simp [AV.ment])]
 | _ => rfl
theorem strA_at {src dst : TypeId} (h : ∀ s, X.ment s = true → at_ s = at' s) : strA P at_ src dst X = strA P at' src dst X := by
 unfold strA
 cases X with
 | own s f n => simp only; rw [h _ (by simp [AV.ment])]
 | v nw x =>
   cases x with
   | sl sz xs => rcases sz with _ | _ | sz <;> rfl
   | _ => rfl
 | _ => rfl
theorem lenA_at {t : TypeId} (h : ∀ s, X.ment s = true → at_ s = at' s) : lenA P at_ t X = lenA P at' t X := by
 cases X with
 | v nw x => cases x <;> rfl
 | own s f n => simp only [lenA]; rw [h _ (by simp [AV.ment])]
 | _ => rfl
theorem boxOk_at (h : ∀ s, X.ment s = true → at_ s = at' s) : boxOk at_ X = boxOk at' X := by
 cases X with
 | own s f n => simp only [boxOk]; rw [h _ (by simp [AV.ment])]
 | ptr s i p f => simp only [boxOk]; rw [h _ (by simp [AV.ment])]
 | _ => rfl
theorem srcA_at {sz : Nat} (h : ∀ s, X.ment s = true → at_ s = at' s) : srcA at_ sz X = srcA at' sz X := by
 cases X with
 | v nw x => cases x <;> rfl
 | own s f n => simp only [srcA]; rw [h _ (by simp [AV.ment])]
 | _ => rfl
theorem storeA_at {t : TypeId} (h : ∀ s, X.ment s = true → at_ s = at' s) (h' : ∀ s, Y.ment s = true → at_ s = at' s) : storeA P at_ t X Y = storeA P at' t X Y := by
 cases X with
 | ptr s i p f => simp only [storeA]; rw [h _ (by simp [AV.ment]), boxOk_at h']
 | _ => rfl
theorem appendA_at {d : Nat} {t t' : TypeId} (h : ∀ s, X.ment s = true → at_ s = at' s) (h' : ∀ s, Y.ment s = true → at_ s = at' s) : appendA P at_ d t t' X Y = appendA P at' d t t' X Y := by
 have hs : ∀ sz, srcA at_ sz Y = srcA at' sz Y := fun _ => srcA_at h'
 cases X with
 | own s f n => simp only [appendA, hs]; rw [h _ (by simp [AV.ment])]
 | nil => simp only [appendA, hs]
 | _ => rfl
theorem copyA_at {t t' : TypeId} (h : ∀ s, X.ment s = true → at_ s = at' s) (h' : ∀ s, Y.ment s = true → at_ s = at' s) : copyA P at_ t t' X Y = copyA P at' t t' X Y := by
 have hs : ∀ sz, srcA at_ sz Y = srcA at' sz Y := fun _ => srcA_at h'
 cases X with
 | own s f n => simp only [copyA, hs]; rw [h _ (by simp [AV.ment])]
 | bsl s n => simp only [copyA, hs]; rw [h _ (by simp [AV.ment])]
 | _ => rfl
theorem knotA_at {f : FuncId} {l : List AV} (h : ∀ s, AV.ments s l = true → at_ s = at' s) : knotA at_ f l = knotA at' f l := by
 unfold knotA
 split
 ·rw [h _ (by simp [AV.ments, AV.ment]), h _ (by simp [AV.ments, AV.ment])]
 ·rfl
mutual
theorem capArg_at : ∀ {X : AV}, (∀ s, X.ment s = true → at_ s = at' s) → capArg at_ X = capArg at' X
 | .own s f n, h => by simp only [capArg]; rw [h _ (by simp [AV.ment])]
 | .ptr s i p f, h => by simp only [capArg]; rw [h _ (by simp [AV.ment])]
 | .fn f l, h => by
   have h' : ∀ s, AV.ments s l = true → at_ s = at' s := fun s hs => h s (by rw [AV.ment]; exact hs)
   rw [capArg, capArg, knotA_at h', capArgs_at h']
 | .v _ _, _ => by rw [capArg, capArg]
 | .nil, _ => by rw [capArg, capArg] <;> simp
 | .el _ _, _ => by rw [capArg, capArg]
 | .knot _ _ _, _ => by rw [capArg, capArg]
 | .tup _, _ => by rw [capArg, capArg] <;> simp
 | .yld _, _ => by rw [capArg, capArg] <;> simp
 | .emp _, _ => by rw [capArg, capArg] <;> simp
 | .bsl s n, h => by simp only [capArg]; rw [h _ (by simp [AV.ment])]
 | .mth _ _, _ => by rw [capArg, capArg] <;> simp
 | .undef, _ => by rw [capArg, capArg] <;> simp
theorem capArgs_at : ∀ {X : List AV}, (∀ s, AV.ments s X = true → at_ s = at' s) → capArgs at_ X = capArgs at' X
 | [], _ => by rw [capArgs, capArgs]
 | x :: r, h => by
   rw [capArgs, capArgs, capArg_at fun s hs => h s (by rw [AV.ments, hs, Bool.true_or]), capArgs_at fun s hs => h s (by rw [AV.ments, hs, Bool.or_true])]
end
theorem toArg_at {t : TypeId} (h : ∀ s, X.ment s = true → at_ s = at' s) : toArg P at_ t X = toArg P at' t X := by
 unfold toArg
 split
 ·rfl
 ·rfl
 ·exact capArg_at h
theorem calleeA_at (h : ∀ s, X.ment s = true → at_ s = at' s) : calleeA T at_ X = calleeA T at' X := by
 unfold calleeA
 split
 ·rw [capArg_at h]
 ·rfl
 ·rfl
 ·rfl
theorem toArgs_at : ∀ {xs : List Operand} {ts : List TypeId}, (∀ x ∈ xs, ∀ s, (g x).ment s = true → at_ s = at' s) → toArgs P at_ g xs ts = toArgs P at' g xs ts
 | [], [], _ => rfl
 | [], _ :: _, _ => rfl
 | _ :: _, [], _ => rfl
 | x :: r, t :: ts, h => by
   rw [toArgs, toArgs, toArg_at (h x (by simp)), toArgs_at fun y hy => h y (by simp [hy])]
theorem coreA_at (h : ∀ x ∈ o.op.operands.toList, ∀ s, (g x).ment s = true → at_ s = at' s) : coreA P at_ g o.op = coreA P at' g o.op := by
 cases ho : o.op <;> rw [ho] at h <;> simp only [Op.operands, List.mem_cons, List.not_mem_nil, or_false, forall_eq_or_imp, forall_eq] at h <;> simp only [coreA]
 case load => exact loadA_at h
 case fieldAddr => exact fieldAddrA_at h
 case indexAddr => exact indexAddrA_at h.1
 case convert src dst x =>
  split
  ·rfl
  ·exact strA_at h
 case slice x l u m => exact sliceA_at (h x (by simp))
 case nilCheck x =>
  cases hx : g x with
  | ptr s i p f => simp only; rw [h _ (by simp [hx, AV.ment])]
  | v nw x => cases x <;> rfl
  | _ => rfl
 case call c =>
  obtain ⟨callee, args, ats⟩ := c
  cases callee <;> try rfl
  rename_i b
  cases b <;> try rfl
  simp only
  split
  ·next x t hx ht =>
   exact lenA_at (h x (by simp [Call.operands, hx]))
  ·rfl
theorem effOp_at (h : ∀ x ∈ o.op.operands.toList, ∀ s, (g x).ment s = true → at_ s = at' s) : effOp P T ρ at_ g o = effOp P T ρ at' g o := by
 have hc := coreA_at (P := P) h
 unfold effOp
 cases ho : o.op <;> rw [ho] at h hc <;> simp only [hc]
 case box t x => rw [boxOk_at (h x (by simp [Op.operands]))]
 case store t p x => rw [storeA_at (h p (by simp [Op.operands])) (h x (by simp [Op.operands]))]
 case call c =>
  obtain ⟨callee, args, ats⟩ := c
  cases callee with
  | value v =>
    simp only
    rw [toArgs_at fun x hx => h x (by simp [Op.operands, Call.operands]; exact .inr (by simpa using hx)), calleeA_at (h v (by simp [Op.operands, Call.operands]))]
  | builtin b =>
    cases b <;> try rfl
    ·simp only
     split <;> try rfl
     next d x y t t' _ hx _ =>
     rw [appendA_at (h x (by simp [Op.operands, Call.operands, hx])) (h y (by simp [Op.operands, Call.operands, hx]))]
    ·simp only
     split <;> try rfl
     next d x y t t' _ hx _ =>
     rw [copyA_at (h x (by simp [Op.operands, Call.operands, hx])) (h y (by simp [Op.operands, Call.operands, hx]))]
  | invoke x m =>
    simp only
    rw [toArgs_at fun x hx => h x (by simp [Op.operands, Call.operands]; exact .inr (by simpa using hx))]
theorem partsA_g {e : TypeId} {sz : Nat} : ∀ {k : Nat} {l : List (Nat × Operand)}, (∀ x ∈ l.map (·.2), g x = g' x) → partsA P e sz g k l = partsA P e sz g' k l
 | _, [], _ => rfl
 | k, (i, x) :: r, h => by
   rw [partsA, partsA, partsA_g (k := k + 1) fun y hy => h y (by simp only [List.map_cons, List.mem_cons]; exact .inr hy), h x (by simp)]
theorem buildP_g : ∀ {l : List (Nat × Operand)} {fs : List V}, (∀ x ∈ l.map (·.2), g x = g' x) → buildP P g fs l = buildP P g' fs l
 | [], _, _ => rfl
 | (i, x) :: r, fs, h => by
   have ih := fun fs => buildP_g (fs := fs) (l := r) fun y hy => h y (by simp only [List.map_cons, List.mem_cons]; exact .inr hy)
   simp only [buildP, ih, h x (by simp)]
theorem toArgs_g : ∀ {xs : List Operand} {ts : List TypeId}, (∀ x ∈ xs, g x = g' x) → toArgs P at_ g xs ts = toArgs P at_ g' xs ts
 | [], [], _ => rfl
 | [], _ :: _, _ => rfl
 | _ :: _, [], _ => rfl
 | x :: r, t :: ts, h => by
   rw [toArgs, toArgs, h x (by simp), toArgs_g fun y hy => h y (by simp [hy])]
theorem effOp_g (h : ∀ x ∈ o.op.operands.toList, g x = g' x) : effOp P T ρ at_ g o = effOp P T ρ at_ g' o := by
 unfold effOp
 cases ho : o.op <;> rw [ho] at h <;> simp only [coreA]
 case call c =>
  obtain ⟨callee, args, ats⟩ := c
  have hg : ∀ x ∈ args.toList, g x = g' x := fun x hx => h x (by simp [Op.operands, Call.operands]; exact .inr (by simpa using hx))
  have hm : args.toList.map g = args.toList.map g' := List.map_congr_left hg
  cases callee with
  | value v =>
    simp only
    rw [toArgs_g hg, h v (by simp [Op.operands, Call.operands])]
  | invoke v m =>
    simp only
    rw [toArgs_g hg, h v (by simp [Op.operands, Call.operands])]
  | builtin b =>
    cases b <;> (try rfl) <;> simp only [hm]
    ·split <;> try rfl
     next d x y t t' _ hx _ =>
     rw [hg x (by simp [hx]), hg y (by simp [hx])]
    ·split <;> try rfl
     next d x y t t' _ hx _ =>
     rw [hg x (by simp [hx]), hg y (by simp [hx])]
    ·obtain ⟨args⟩ := args
     obtain ⟨ats⟩ := ats
     rcases args with _ | ⟨x, _ | ⟨y, r⟩⟩ <;> rcases ats with _ | ⟨t, _ | ⟨u, q⟩⟩ <;> try rfl
     simp only
     rw [hg x (by simp)]
 case buildSlice t n parts =>
  have hp : ∀ e sz, partsA P e sz g 0 parts.toList = partsA P e sz g' 0 parts.toList := fun e sz => partsA_g fun x hx => h x (by simpa [Op.operands] using hx)
  simp only [hp]
 case makeFunc fn fst caps =>
  have hm : caps.toList.map g = caps.toList.map g' := List.map_congr_left fun x hx => h x (by simp [Op.operands]; exact .inr (by simpa using hx))
  have hm' : makeA g fn fst.toList caps.toList = makeA g' fn fst.toList caps.toList := by
   unfold makeA
   split
   ·rw [hm]
   ·next x he _ => rw [h x (by simp [Op.operands, he])]
   ·rfl
  rw [hm']
 case build t parts =>
  have hp : ∀ fs, buildP P g fs parts.toList = buildP P g' fs parts.toList := fun fs => buildP_g fun x hx => h x (by simpa [Op.operands] using hx)
  unfold buildA
  simp only [hp]
 case slice t x l u m =>
  have e1 : l.map g = l.map g' := by cases l with
   | none => rfl
   | some y => simp only [Option.map_some]; rw [h y (by simp [Op.operands])]
  have e2 : u.map g = u.map g' := by cases u with
   | none => rfl
   | some y => simp only [Option.map_some]; rw [h y (by simp [Op.operands])]
  have e3 : m.map g = m.map g' := by cases m with
   | none => rfl
   | some y => simp only [Option.map_some]; rw [h y (by simp [Op.operands])]
  rw [h x (by simp [Op.operands]), e1, e2, e3]
 all_goals simp only [Op.operands, List.mem_cons, List.not_mem_nil, or_false, forall_eq_or_imp, forall_eq] at h
 all_goals first | rw [h] | rw [h.1, h.2] | rw [h.1, h.2.1, h.2.2] | skip
end
def writer (o : Oper) : Bool :=
 match o.op with
 | .store _ _ _ => true
 | .call c => match c.callee with
   | .builtin .append => true
   | .builtin .copy => true
   | _ => false
 | _ => false
def toucher (o : Oper) : Bool :=
 match o.op with
 | .move _ => false
 | .assign _ => false
 | .pick _ _ _ => false
 | .binOp _ _ _ _ _ => false
 | .unOp _ _ _ => false
 | .extract _ _ => false
 | .alloc _ => false
 | .build _ _ => false
 | .buildSlice _ _ _ => false
 | .makeSlice _ _ _ => false
 | .field _ _ _ => false
 | .index _ _ _ => false
 | .sliceToArrayPointer _ _ => false
 | .makeFunc _ _ _ => false
 | .makeInterface _ _ => false
 | _ => true
section
variable {P : Program} {T : Tab} {ρ : Nat → List R} {at_ at' : Nat → Blk} {g g' : Operand → AV} {o : Oper} {X Y : AV} {ef : Eff} {s : Nat}
theorem effOp_still (h : toucher o = false) : effOp P T ρ at_ g o = effOp P T ρ at' g o := by
 unfold toucher at h
 unfold effOp
 cases ho : o.op <;> rw [ho] at h <;> first | rfl | cases h
theorem mems_key {rs : List R} {q : Nat × Blk} (h : q ∈ R.mems rs) : q.1 ∈ R.names rs := List.mem_map.2 ⟨q, h, rfl⟩
theorem mems_ment {rs : List R} {q : Nat × Blk} (h : q ∈ R.mems rs) : q.2.ment s = false := by
 obtain ⟨r, _, hq⟩ := R.mem_blks h
 rcases R.blks_form hq with ⟨e, sz, xs, hl⟩ | ⟨e, nw, x, hl, _⟩ <;> rw [hl] <;> rfl
theorem av_ment {r : R} (h : s ∉ r.blks.map (·.1)) : r.av.ment s = false := by
 cases r with
 | v _ _ => rfl
 | own s' e sz nw xs =>
   simp only [R.blks, List.map_cons, List.map_nil, List.mem_singleton] at h
   simp [R.av, AV.ment, Ne.symm h]
 | clo f caps =>
   simp only [R.blks, List.map_map] at h
   rw [R.av, AV.ment]
   induction caps with
   | nil => rfl
   | cons c l ih =>
     rw [List.map_cons, List.mem_cons, not_or] at h
     rw [List.map_cons, AV.ments, ih h.2]
     have h1 := h.1
     simp only [Function.comp] at h1
     simp [AV.ment, Ne.symm h1]
theorem ments_map {rs : List R} (h : s ∉ R.names rs) : AV.ments s (rs.map R.av) = false := by
 induction rs with
 | nil => rfl
 | cons x r ih =>
   unfold R.names at h ih
   rw [R.mems, List.map_append, List.mem_append, not_or] at h
   rw [List.map_cons, AV.ments, ih h.2, av_ment h.1]
   rfl
theorem res_ment {rs : List R} (h : s ∉ R.names rs) : (R.res rs).ment s = false := by
 have h1 := ments_map h
 match rs with
 | [] => simpa [R.res, AV.ment] using h1
 | [r] => simpa [R.res, AV.ment, AV.ments] using h1
 | _ :: _ :: _ => rw [R.res]; exact h1; simp
theorem ments_get {xs : List AV} {j : Nat} (h : AV.ments s xs = false) (hj : xs[j]? = some X) : X.ment s = false := by
 induction xs generalizing j with
 | nil => simp at hj
 | cons x r ih =>
   rw [AV.ments, Bool.or_eq_false_iff] at h
   cases j with
   | zero => simp at hj; subst hj; exact h.1
   | succ j => exact ih h.2 (by simpa using hj)
theorem appendA_form {d : Nat} {t t' : TypeId} {x y : AV} {ms : List (Nat × Blk)} (h : appendA P at_ d t t' x y = some (X, ms)) :
 ∃ n e z nw ys, X = .own d 0 n ∧ ((∃ s off len, x = .own s off len ∧ ms = [(d, .buf e z nw ys), (s, .dead)]) ∨ (x = .nil ∧ ms = [(d, .buf e z nw ys)])) := by
 unfold appendA at h
 split at h
 ·split at h
  ·split at h
   ·split at h
    ·split at h
     ·split at h
      ·split at h
       ·cases h; exact ⟨_, _, _, _, _, rfl, .inl ⟨_, _, _, rfl, rfl⟩⟩
       ·cases h
      ·cases h
     ·cases h
    ·split at h
     ·split at h
      ·cases h; exact ⟨_, _, _, _, _, rfl, .inr ⟨rfl, rfl⟩⟩
      ·cases h
     ·cases h
    ·cases h
   ·cases h
  ·cases h
 ·cases h
theorem copyA_form {t t' : TypeId} {x y : AV} {ms : List (Nat × Blk)} (h : copyA P at_ t t' x y = some (X, ms)) :
 ∃ n s b, X = .v true n ∧ x.ment s = true ∧ ms = [(s, b)] ∧ ∀ t, b.ment t = false := by
 unfold copyA at h
 split at h
 ·split at h
  ·split at h
   ·split at h
    ·cases h; exact ⟨_, _, _, rfl, by simp [AV.ment], rfl, fun t => by simp [Blk.ment]⟩
    ·cases h
   ·cases h
  ·cases h
 ·split at h
  ·split at h
   ·split at h
    ·split at h
     ·cases h; exact ⟨_, _, _, rfl, by simp [AV.ment], rfl, fun t => by simp [Blk.ment, AV.ment]⟩
     ·cases h
    ·cases h
   ·cases h
  ·cases h
 ·cases h
theorem storeA_form {t : TypeId} {x y : AV} {b : Blk} (h : storeA P at_ t x y = some (s, b)) : (∃ i p f, x = .ptr s i p f) ∧ ((∃ e z nw ys, b = .buf e z nw ys) ∨ (∃ e nw v, b = .box e (.v nw v)) ∨ ∃ e, b = .box e y) := by
 unfold storeA at h
 split at h
 ·split at h
  ·split at h
   ·split at h
    ·split at h
     ·cases h; exact ⟨⟨_, _, _, rfl⟩, .inl ⟨_, _, _, _, rfl⟩⟩
     ·cases h
    ·cases h
   ·cases h
  ·split at h
   ·split at h
    ·split at h
     ·cases h; exact ⟨⟨_, _, _, rfl⟩, .inr (.inl ⟨_, _, _, rfl⟩)⟩
     ·cases h
    ·cases h
   ·split at h
    ·cases h; exact ⟨⟨_, _, _, rfl⟩, .inr (.inr ⟨_, rfl⟩)⟩
    ·cases h
  ·split at h
   ·split at h
    ·split at h
     ·cases h; exact ⟨⟨_, _, _, rfl⟩, .inr (.inl ⟨_, _, _, rfl⟩)⟩
     ·cases h
    ·cases h; exact ⟨⟨_, _, _, rfl⟩, .inr (.inr ⟨_, rfl⟩)⟩
   ·cases h
  ·cases h
 ·cases h
theorem effOp_keys (he : effOp P T ρ at_ g o = some ef) {q : Nat × Blk} (hq : q ∈ ef.ms) : q.1 ∈ letters ρ o ∨ (writer o = true ∧ ∃ x ∈ o.op.operands.toList, (g x).ment q.1 = true) := by
 have core : (match o.dst, coreA P at_ g o.op with
  | some _, some X => some (⟨X, [], True⟩ : Eff)
  | _, _ => none) = some ef → q.1 ∈ letters ρ o ∨ (writer o = true ∧ ∃ x ∈ o.op.operands.toList, (g x).ment q.1 = true) := by
  intro he
  split at he
  ·cases he; cases hq
  ·cases he
 unfold effOp at he
 split at he
 ·next t ho =>
  split at he
  ·next d X hd' hX =>
   split at he <;> cases he
   simp only [List.mem_cons, List.not_mem_nil, or_false] at hq
   subst hq
   exact .inl (by simp [letters, ho, hd'])
  ·cases he
 ·next t x ho =>
  split at he
  ·next d hd' =>
   split at he <;> cases he
   simp only [List.mem_cons, List.not_mem_nil, or_false] at hq
   subst hq
   exact .inl (by simp [letters, ho, hd'])
  ·cases he
 ·next t m parts ho =>
  split at he
  ·next d el hd' hel =>
   split at he
   ·split at he
    ·split at he
     ·split at he <;> cases he
      ·simp at hq
      ·simp only [List.mem_cons, List.not_mem_nil, or_false] at hq
       subst hq
       exact .inl (by simp [letters, ho, hd'])
     ·cases he
    ·cases he
   ·cases he
  ·cases he
 ·next t l c ho =>
  split at he
  ·next d el n1 k1 nl n2 k2 nc hd' hel hl hc =>
   split at he
   ·split at he <;> cases he
    simp only [List.mem_cons, List.not_mem_nil, or_false] at hq
    subst hq
    exact .inl (by simp [letters, ho, hd'])
   ·cases he
  ·cases he
 ·next t p x ho =>
  split at he
  ·next s blk hd' hs =>
   cases he
   simp only [List.mem_cons, List.not_mem_nil, or_false] at hq
   subst hq
   refine .inr ⟨by simp [writer, ho], p, by simp [ho, Op.operands], ?_⟩
   obtain ⟨⟨i, pa, f, hp⟩, _⟩ := storeA_form hs
   rw [hp]; simp [AV.ment]
  ·cases he
 ·next fn fst caps ho =>
  split at he
  ·cases he; cases hq
  ·cases he
 ·next t parts ho =>
  split at he
  ·cases he; cases hq
  ·cases he
 ·next c ho =>
  obtain ⟨callee, args, ats⟩ := c
  split at he
  ·next hcal =>
   simp only at hcal
   subst hcal
   split at he
   ·next d x y t t' hd' ha ht =>
    simp only at ha ht
    split at he
    ·next X ms zX hX hz =>
     cases he
     simp only at hq
     by_cases hqd : q.1 = d
     ·exact .inl (by simp [letters, ho, hd', hqd])
     ·refine .inr ⟨by simp [writer, ho], x, by simp [ho, Op.operands, Call.operands, ha], ?_⟩
      obtain ⟨n, e, z, nw, ys, _, h⟩ := appendA_form hX
      rcases h with ⟨s, off, len, hx, rfl⟩ | ⟨hx, rfl⟩
      ·simp only [List.mem_cons, List.not_mem_nil, or_false] at hq
       rcases hq with rfl | rfl
       ·exact absurd rfl hqd
       ·rw [hx]; simp [AV.ment]
      ·simp only [List.mem_cons, List.not_mem_nil, or_false] at hq
       subst hq
       exact absurd rfl hqd
    ·cases he
   ·cases he
  ·next hcal =>
   simp only at hcal
   subst hcal
   split at he
   ·next d x y t t' hd' ha ht =>
    simp only at ha ht
    split at he
    ·next X ms hX =>
     cases he
     simp only at hq
     refine .inr ⟨by simp [writer, ho], x, by simp [ho, Op.operands, Call.operands, ha], ?_⟩
     obtain ⟨n, s, b, _, hx, rfl, _⟩ := copyA_form hX
     simp only [List.mem_cons, List.not_mem_nil, or_false] at hq
     subst hq
     exact hx
    ·cases he
   ·cases he
  ·next x hcal =>
   simp only at hcal
   subst hcal
   split at he
   ·next d hd' =>
    obtain ⟨f, fs, ls, own', as, own, _, _, _, rfl⟩ := callA_some he
    exact .inl (by simp only [letters, ho, hd']; exact mems_key hq)
   ·cases he
  ·next x m hcal =>
   simp only at hcal
   subst hcal
   split at he
   ·next d hd' =>
    obtain ⟨f, fs, ls, own', as, own, _, _, _, rfl⟩ := callA_some he
    exact .inl (by simp only [letters, ho, hd']; exact mems_key hq)
   ·cases he
  ·exact core he
 ·exact core he
theorem partA_ment {t : TypeId} {nw : Bool} {x : V} {p : List Nat} {f : Nat} (h : partA P t nw x p f = some X) : X.ment s = false := by
 unfold partA at h
 split at h
 ·split at h <;> cases h; rfl
 ·cases h
theorem nilA_ment {op : BinOp} {t : TypeId} {b : Bool} (h : nilA P op t b = some X) : X.ment s = false := by
 unfold nilA at h
 split at h
 ·split at h <;> cases h <;> rfl
 ·cases h
theorem coreA_ment (he : coreA P at_ g o.op = some X) (hg : ∀ x ∈ o.op.operands.toList, (g x).ment s = false) (ha : ∀ t, (at_ t).ment s = false) : X.ment s = false := by
 cases ho : o.op <;> rw [ho] at he hg <;> simp only [coreA] at he
 case move x => cases he; exact hg x (by simp [Op.operands])
 case assign x => cases he; exact hg x (by simp [Op.operands])
 case pick c x y =>
  split at he
  ·next nw t hc =>
   cases he
   cases t
   ·exact hg y (by simp [Op.operands])
   ·exact hg x (by simp [Op.operands])
  ·cases he
 case load t p =>
  have hp := hg p (by simp [Op.operands])
  cases hx : g p with
  | ptr s' i path off =>
    rw [hx] at he
    simp only [loadA] at he
    have hb := ha s'
    split at he
    ·split at he
     ·exact partA_ment he
     ·cases he
    ·exact partA_ment he
    ·next e X' _ hat =>
     split at he <;> cases he
     rw [hat] at hb
     exact hb
    ·cases he
  | el nw y => rw [hx] at he; simp only [loadA] at he; split at he <;> cases he; rfl
  | knot nw f x => rw [hx] at he; simp only [loadA] at he; split at he <;> cases he; rfl
  | _ => rw [hx] at he; simp [loadA] at he
 case fieldAddr t x j =>
  have hp := hg x (by simp [Op.operands])
  cases hx : g x with
  | ptr s' i path off =>
    rw [hx] at he hp
    simp only [fieldAddrA] at he
    split at he
    ·split at he
     ·split at he <;> cases he; exact hp
     ·cases he
    ·cases he
  | el nw y =>
    rw [hx] at he
    cases y <;> simp only [fieldAddrA] at he <;> try cases he
    split at he
    ·split at he
     ·split at he <;> cases he; rfl
     ·cases he
    ·cases he
  | _ => rw [hx] at he; simp [fieldAddrA] at he
 case field t x j =>
  unfold fieldA at he
  split at he
  ·split at he
   ·split at he <;> cases he; rfl
   ·cases he
  ·cases he
 case binOp op t x y u =>
  unfold binA at he
  split at he
  ·simp only [Option.map_eq_some_iff] at he; obtain ⟨_, _, rfl⟩ := he; rfl
  ·split at he
   ·split at he <;> cases he; rfl
   ·split at he <;> cases he; rfl
   ·cases he
  ·split at he
   ·split at he <;> cases he <;> rfl
   ·cases he
  ·split at he
   ·cases he; rfl
   ·cases he; rfl
   ·split at he <;> cases he; rfl
   ·cases he
  ·exact nilA_ment he
  ·exact nilA_ment he
  ·exact nilA_ment he
  ·cases he
 case unOp op t x =>
  unfold unA at he
  split at he
  ·split at he <;> cases he <;> rfl
  ·split at he <;> cases he; rfl
  ·cases he
 case convert a b x =>
  split at he
  ·cases he; rfl
  ·unfold strA at he
   split at he
   ·split at he
    ·split at he
     ·simp only [Option.map_eq_some_iff] at he; obtain ⟨_, _, rfl⟩ := he; rfl
     ·cases he
    ·cases he; rfl
    ·simp only [Option.map_eq_some_iff] at he; obtain ⟨_, _, rfl⟩ := he; rfl
    ·cases he
   ·cases he
 case extract x j =>
  have hp := hg x (by simp [Op.operands])
  split at he
  ·next xs hx => rw [hx, AV.ment] at hp; exact ments_get hp he
  ·cases he
 case indexAddr t x i =>
  have hp := hg x (by simp [Op.operands])
  unfold indexAddrA at he
  split at he
  ·split at he
   ·simp only [Option.map_eq_some_iff] at he; obtain ⟨_, _, rfl⟩ := he; rfl
   ·cases he
  ·next s' f l _ _ _ hx _ =>
   rw [hx] at hp
   split at he
   ·split at he <;> cases he; exact hp
   ·cases he
  ·next s' i' p f _ _ _ hx _ =>
   rw [hx] at hp
   split at he
   ·split at he
    ·split at he <;> cases he; exact hp
    ·cases he
   ·cases he
  ·split at he
   ·split at he
    ·split at he <;> cases he; rfl
    ·cases he
   ·cases he
  ·cases he
 case index t x i =>
  unfold indexA at he
  split at he
  ·split at he
   ·split at he
    ·split at he <;> cases he; rfl
    ·cases he
   ·cases he
  ·split at he
   ·split at he <;> cases he; rfl
   ·cases he
  ·cases he
 case sliceToArrayPointer t x =>
  unfold arrA at he
  split at he
  ·split at he
   ·split at he <;> cases he; rfl
   ·cases he
  ·cases he
 case slice t x l u m =>
  have hp := hg x (by simp [Op.operands])
  unfold sliceA at he
  split at he
  ·split at he
   ·split at he <;> cases he; rfl
   ·cases he
  ·next s' f n hx =>
   rw [hx] at hp
   split at he
   ·split at he <;> cases he; exact hp
   ·cases he
  ·split at he
   ·split at he <;> cases he; rfl
   ·cases he
  ·next s' i p f hx =>
   rw [hx] at hp
   split at he
   ·split at he <;> cases he; exact hp
   ·cases he
  ·split at he
   ·split at he <;> cases he; rfl
   ·cases he
  ·cases he
 case makeInterface t x =>
  split at he
  ·cases he; rfl
  ·cases he
 case nilCheck x =>
  have hp := hg x (by simp [Op.operands])
  split at he
  ·next s' i p f hx =>
   rw [hx] at hp
   split at he <;> cases he; exact hp
  ·cases he; rfl
  ·cases he; rfl
  ·cases he
 case call c =>
  split at he
  ·split at he
   ·unfold lenA at he
    split at he
    ·split at he <;> cases he; rfl
    ·split at he
     ·split at he <;> cases he; rfl
     ·cases he
    ·split at he <;> cases he; rfl
    ·split at he <;> cases he; rfl
    ·split at he <;> cases he; rfl
    ·cases he
   ·cases he
  ·unfold minA at he
   split at he <;> cases he; rfl
  ·unfold maxA at he
   split at he <;> cases he <;> rfl
  ·cases he
 all_goals cases he
theorem effOp_ment (he : effOp P T ρ at_ g o = some ef) (hs : s ∉ letters ρ o) (hg : ∀ x ∈ o.op.operands.toList, (g x).ment s = false) (ha : ∀ t, (at_ t).ment s = false) : ef.X.ment s = false ∧ ∀ q ∈ ef.ms, q.2.ment s = false := by
 have core : (match o.dst, coreA P at_ g o.op with
  | some _, some X => some (⟨X, [], True⟩ : Eff)
  | _, _ => none) = some ef → ef.X.ment s = false ∧ ∀ q ∈ ef.ms, q.2.ment s = false := by
  intro he
  split at he
  ·next d X _ hX => cases he; exact ⟨coreA_ment hX hg ha, by simp⟩
  ·cases he
 unfold effOp at he
 split at he
 ·next t ho =>
  split at he
  ·next d X hd' hX =>
   split at he <;> cases he
   next hpu =>
   simp only [letters, ho, hd', Option.toList, List.mem_cons, List.not_mem_nil, or_false] at hs
   exact ⟨by simp [AV.ment, Ne.symm hs], by simp [Blk.ment, AV.pure_ment hpu]⟩
  ·cases he
 ·next t x ho =>
  split at he
  ·next d hd' =>
   split at he <;> cases he
   simp only [letters, ho, hd', Option.toList, List.mem_cons, List.not_mem_nil, or_false] at hs
   exact ⟨by simp [AV.ment, Ne.symm hs], by simp only [List.mem_cons, List.not_mem_nil, or_false, forall_eq]; exact hg x (by simp [ho, Op.operands])⟩
  ·cases he
 ·next t m parts ho =>
  split at he
  ·next d el hd' hel =>
   split at he
   ·split at he
    ·split at he
     ·split at he <;> cases he
      ·exact ⟨by simp [AV.ment], by simp⟩
      ·simp only [letters, ho, hd', Option.toList, List.mem_cons, List.not_mem_nil, or_false] at hs
       exact ⟨by simp [AV.ment, Ne.symm hs], by simp [Blk.ment]⟩
     ·cases he
    ·cases he
   ·cases he
  ·cases he
 ·next t l c ho =>
  split at he
  ·next d el n1 k1 nl n2 k2 nc hd' hel hl hc =>
   split at he
   ·split at he <;> cases he
    simp only [letters, ho, hd', Option.toList, List.mem_cons, List.not_mem_nil, or_false] at hs
    exact ⟨by simp [AV.ment, Ne.symm hs], by simp [Blk.ment]⟩
   ·cases he
  ·cases he
 ·next t p x ho =>
  split at he
  ·next s' blk hd' hs' =>
   cases he
   refine ⟨rfl, ?_⟩
   simp only [List.mem_cons, List.not_mem_nil, or_false, forall_eq]
   obtain ⟨_, h⟩ := storeA_form hs'
   rcases h with ⟨_, _, _, _, rfl⟩ | ⟨_, _, _, rfl⟩ | ⟨_, rfl⟩
   ·rfl
   ·rfl
   ·exact hg x (by simp [ho, Op.operands])
  ·cases he
 ·next fn fst caps ho =>
  split at he
  ·next d X hd' hX =>
   cases he
   refine ⟨?_, by simp⟩
   obtain ⟨fst⟩ := fst
   obtain ⟨caps⟩ := caps
   rw [ho] at hg
   simp only [Op.operands] at hg
   cases fn with
   | func f =>
     rcases fst with _ | ⟨x, r⟩
     ·cases hX
      rw [AV.ment]
      simp only
      clear ho
      have hg' : ∀ x ∈ caps, (g x).ment s = false := fun x hx => hg x (by simpa using hx)
      clear hg core
      induction caps with
      | nil => rfl
      | cons x r ih => rw [List.map_cons, AV.ments, hg' x (by simp), ih fun y hy => hg' y (by simp [hy])]; rfl
     ·cases hX
   | method m =>
     rcases fst with _ | ⟨x, _ | ⟨y, r⟩⟩
     ·cases hX
     ·rcases caps with _ | ⟨z, q⟩
      ·cases hX
       rw [AV.ment]
       exact hg x (by simp)
      ·cases hX
     ·cases hX
   | _ => cases hX
  ·cases he
 ·next t parts ho =>
  split at he
  ·next d X hd' hX =>
   cases he
   refine ⟨?_, by simp⟩
   unfold buildA at hX
   split at hX
   ·split at hX
    ·simp only [Option.map_eq_some_iff] at hX; obtain ⟨_, _, rfl⟩ := hX; rfl
    ·cases hX
   ·cases hX
  ·cases he
 ·next c ho =>
  obtain ⟨callee, args, ats⟩ := c
  split at he
  ·next hcal =>
   simp only at hcal
   subst hcal
   split at he
   ·next d x y t t' hd' ha' ht =>
    simp only at ha' ht
    split at he
    ·next X ms zX hX hz =>
     cases he
     simp only [letters, ho, hd', Option.toList, List.mem_cons, List.not_mem_nil, or_false] at hs
     obtain ⟨n, e, z, nw, ys, rfl, h⟩ := appendA_form hX
     refine ⟨by simp [AV.ment, Ne.symm hs], ?_⟩
     rcases h with ⟨s', off, len, hx, rfl⟩ | ⟨hx, rfl⟩ <;> simp [Blk.ment]
    ·cases he
   ·cases he
  ·next hcal =>
   simp only at hcal
   subst hcal
   split at he
   ·next d x y t t' hd' ha' ht =>
    simp only at ha' ht
    split at he
    ·next X ms hX =>
     cases he
     obtain ⟨n, s', b, rfl, hx, rfl, hb⟩ := copyA_form hX
     exact ⟨rfl, by simp [hb]⟩
    ·cases he
   ·cases he
  ·next x hcal =>
   simp only at hcal
   subst hcal
   split at he
   ·next d hd' =>
    obtain ⟨f, fs, ls, own', as, own, _, _, _, rfl⟩ := callA_some he
    simp only [letters, ho, hd'] at hs
    exact ⟨res_ment hs, fun q hq => mems_ment hq⟩
   ·cases he
  ·next x m hcal =>
   simp only at hcal
   subst hcal
   split at he
   ·next d hd' =>
    obtain ⟨f, fs, ls, own', as, own, _, _, _, rfl⟩ := callA_some he
    simp only [letters, ho, hd'] at hs
    exact ⟨res_ment hs, fun q hq => mems_ment hq⟩
   ·cases he
  ·exact core he
 ·exact core he
end
structure Ext (σ τ : St) : Prop where
 nt : σ.nt = τ.nt
 get : ∀ t, σ.get t = τ.get t
 at_ : ∀ s, σ.at s = τ.at s
 root : σ.root = τ.root
 fix : σ.fix = τ.fix
 defs : σ.defs = τ.defs
theorem Ext.refl (σ : St) : Ext σ σ := ⟨rfl, fun _ => rfl, fun _ => rfl, rfl, rfl, rfl⟩
theorem Ext.trans {a b c : St} (h : Ext a b) (k : Ext b c) : Ext a c := ⟨h.nt.trans k.nt, fun t => (h.get t).trans (k.get t), fun s => (h.at_ s).trans (k.at_ s), h.root.trans k.root, h.fix.trans k.fix, h.defs.trans k.defs⟩
theorem Ext.symm {a b : St} (h : Ext a b) : Ext b a := ⟨h.nt.symm, fun t => (h.get t).symm, fun s => (h.at_ s).symm, h.root.symm, h.fix.symm, h.defs.symm⟩
theorem Ext.opv {a b : St} (h : Ext a b) : a.opv = b.opv := by
 funext x
 cases x with
 | tmp t => exact h.get t
 | const v => rfl
 | global g => rfl
 | func f => rfl
theorem Rel.ext {cx : Cx} {w0 w : World} {σ τ : St} {a : Act} (h : Ext σ τ) (k : Rel cx w0 σ a w) : Rel cx w0 τ a w := by
 obtain ⟨hd, μ, k⟩ := k
 have e : σ.at = τ.at := funext h.at_
 exact ⟨by rw [← h.fix, ← h.defs]; exact hd, μ, k.below, k.hB, k.gl, k.size.trans h.nt, k.sites, fun s => by rw [← e]; exact k.mem s, fun t => by rw [← e, ← h.get t]; exact k.env t, by rw [← e, ← h.root]; exact k.roots, by rw [← h.fix]; exact k.fix⟩
def reads (ops : Array Oper) (o : Oper) : List Nat :=
 (o.op.operands.toList.filterMap fun x => match x with | .tmp t => some t | _ => none) ++ (match o.guard with
   | some (j, _) => ((ops[j]?).bind (·.dst)).toList
   | none => [])
mutual
def AV.sites : AV → List Nat
 | .own s _ _ => [s]
 | .ptr s _ _ _ => [s]
 | .bsl s _ => [s]
 | .tup xs => AV.sitesL xs
 | .fn _ xs => AV.sitesL xs
 | .mth _ x => x.sites
 | _ => []
def AV.sitesL : List AV → List Nat
 | [] => []
 | x :: r => x.sites ++ AV.sitesL r
end
mutual
theorem AV.mem_sites {s : Nat} : ∀ {x : AV}, x.ment s = true → s ∈ x.sites
 | .own _ _ _, h => by rw [AV.ment, beq_iff_eq] at h; subst h; simp [AV.sites]
 | .ptr _ _ _ _, h => by rw [AV.ment, beq_iff_eq] at h; subst h; simp [AV.sites]
 | .tup xs, h => by rw [AV.ment] at h; rw [AV.sites]; exact AV.mem_sitesL h
 | .v _ _, h => by simp [AV.ment] at h
 | .nil, h => by simp [AV.ment] at h
 | .el _ _, h => by simp [AV.ment] at h
 | .fn _ xs, h => by rw [AV.ment] at h; rw [AV.sites]; exact AV.mem_sitesL h
 | .mth _ x, h => by rw [AV.ment] at h; rw [AV.sites]; exact AV.mem_sites h
 | .knot _ _ _, h => by simp [AV.ment] at h
 | .yld _, h => by simp [AV.ment] at h
 | .emp _, h => by simp [AV.ment] at h
 | .bsl _ _, h => by rw [AV.ment, beq_iff_eq] at h; subst h; simp [AV.sites]
 | .undef, h => by simp [AV.ment] at h
theorem AV.mem_sitesL {s : Nat} : ∀ {xs : List AV}, AV.ments s xs = true → s ∈ AV.sitesL xs
 | [], h => by simp [AV.ments] at h
 | x :: r, h => by
   rw [AV.ments, Bool.or_eq_true] at h
   rw [AV.sitesL, List.mem_append]
   exact h.imp AV.mem_sites AV.mem_sitesL
end
mutual
theorem AV.ment_sites {s : Nat} : ∀ {x : AV}, s ∈ x.sites → x.ment s = true
 | .own _ _ _, h => by simp [AV.sites] at h; simp [AV.ment, h]
 | .ptr _ _ _ _, h => by simp [AV.sites] at h; simp [AV.ment, h]
 | .tup xs, h => by rw [AV.sites] at h; rw [AV.ment]; exact AV.ments_sites h
 | .fn _ xs, h => by rw [AV.sites] at h; rw [AV.ment]; exact AV.ments_sites h
 | .mth _ x, h => by rw [AV.sites] at h; rw [AV.ment]; exact AV.ment_sites h
 | .v _ _, h => by simp [AV.sites] at h
 | .nil, h => by simp [AV.sites] at h
 | .el _ _, h => by simp [AV.sites] at h
 | .knot _ _ _, h => by simp [AV.sites] at h
 | .yld _, h => by simp [AV.sites] at h
 | .emp _, h => by simp [AV.sites] at h
 | .bsl _ _, h => by simp [AV.sites] at h; simp [AV.ment, h]
 | .undef, h => by simp [AV.sites] at h
theorem AV.ments_sites {s : Nat} : ∀ {xs : List AV}, s ∈ AV.sitesL xs → AV.ments s xs = true
 | [], h => by simp [AV.sitesL] at h
 | x :: r, h => by
   rw [AV.sitesL, List.mem_append] at h
   rw [AV.ments, Bool.or_eq_true]
   exact h.imp AV.ment_sites AV.ments_sites
end
def opSites (g : Operand → AV) (o : Oper) : List Nat := o.op.operands.toList.flatMap fun x => (g x).sites
section
variable {P : Program} {T : Tab} {ρ : Nat → List R} {ops : Array Oper}
def effG (P : Program) (T : Tab) (ρ : Nat → List R) (ops : Array Oper) (σ : St) (o : Oper) : Option Eff :=
 match wantA ops σ o with
 | some true => effOp P T ρ σ.at σ.opv o
 | some false => some ⟨.tup [], [], True⟩
 | none => none
def app (σ : St) (o : Oper) (e : Eff) : St := (σ.upd e.ms).put o.dst e.X
structure Ent where
 o : Oper
 e : Eff
 S : List Nat
inductive Tr (P : Program) (T : Tab) (ρ : Nat → List R) (ops : Array Oper) : St → List Ent → St → Prop
 | nil {σ} : Tr P T ρ ops σ [] σ
 | cons {σ x r σ'} (he : effG P T ρ ops σ x.o = some x.e) (hS : x.S = opSites σ.opv x.o) (h : Tr P T ρ ops (app σ x.o x.e) r σ') : Tr P T ρ ops σ (x :: r) σ'
structure Indep (ρ : Nat → List R) (ops : Array Oper) (x y : Ent) : Prop where
 d12 : ∀ d, x.o.dst = some d → d ∉ reads ops y.o ∧ y.o.dst ≠ some d
 d21 : ∀ d, y.o.dst = some d → d ∉ reads ops x.o
 l : ∀ s ∈ letters ρ x.o, s ∉ letters ρ y.o
 s12 : toucher y.o = true → ∀ q ∈ x.e.ms, q.1 ∈ letters ρ x.o ∨ q.1 ∉ y.S
 s21 : toucher x.o = true → ∀ q ∈ y.e.ms, q.1 ∈ letters ρ y.o ∨ q.1 ∉ x.S
theorem wantA_congr {σ τ : St} {o : Oper} (h : ∀ t ∈ reads ops o, σ.get t = τ.get t) : wantA ops σ o = wantA ops τ o := by
 unfold wantA
 cases hg : o.guard with
 | none => rfl
 | some p =>
   obtain ⟨j, b⟩ := p
   simp only
   cases hd : (ops[j]?).bind (·.dst) with
   | none => rfl
   | some d => simp only; rw [h d (by simp [reads, hg, hd])]
theorem opv_congr {σ τ : St} {o : Oper} (h : ∀ t ∈ reads ops o, σ.get t = τ.get t) : ∀ x ∈ o.op.operands.toList, σ.opv x = τ.opv x := by
 intro x hx
 cases x with
 | tmp t => exact h t (List.mem_append_left _ (List.mem_filterMap.2 ⟨_, hx, rfl⟩))
 | const v => rfl
 | global g => rfl
 | func f => rfl
theorem opSites_congr {g g' : Operand → AV} {o : Oper} (h : ∀ x ∈ o.op.operands.toList, g x = g' x) : opSites g o = opSites g' o := by
 unfold opSites
 generalize o.op.operands.toList = l at h
 induction l with
 | nil => rfl
 | cons x r ih => rw [List.flatMap_cons, List.flatMap_cons, h x (by simp), ih fun y hy => h y (by simp [hy])]
theorem effG_congr {σ τ : St} {o : Oper} (h : ∀ t ∈ reads ops o, σ.get t = τ.get t) (ha : toucher o = true → ∀ s ∈ opSites σ.opv o, σ.at s = τ.at s) : effG P T ρ ops σ o = effG P T ρ ops τ o := by
 unfold effG
 rw [wantA_congr h, effOp_g (opv_congr h)]
 cases ht : toucher o
 ·rw [effOp_still ht]
 ·rw [effOp_at fun x hx s hs => ha ht s ?_]
  rw [← opv_congr h x hx] at hs
  exact List.mem_flatMap.2 ⟨x, hx, AV.mem_sites hs⟩
theorem app_root (σ : St) (o : Oper) (e : Eff) : (app σ o e).root = σ.root := by unfold app; cases o.dst <;> rfl
theorem app_fix (σ : St) (o : Oper) (e : Eff) : (app σ o e).fix = σ.fix := by unfold app; cases o.dst <;> rfl
theorem app_defs (σ : St) (o : Oper) (e : Eff) : (app σ o e).defs = σ.defs := by unfold app; cases o.dst <;> rfl
theorem app_nt (σ : St) (o : Oper) (e : Eff) : (app σ o e).nt = σ.nt := by unfold app; cases o.dst <;> rfl
theorem app_get {σ : St} {o : Oper} {e : Eff} {t : Nat} (h : o.dst ≠ some t) : (app σ o e).get t = σ.get t := by
 unfold app
 cases hd : o.dst with
 | none => rfl
 | some d =>
   show look ((d, e.X) :: σ.env) t = _
   rw [look, if_neg (fun h' : d = t => h (by rw [hd, h']))]
   rfl
theorem app_get_self {σ : St} {o : Oper} {e : Eff} {t : Nat} (h : o.dst = some t) : (app σ o e).get t = e.X := by
 unfold app
 rw [h]
 show look ((t, e.X) :: σ.env) t = _
 rw [look, if_pos rfl]
theorem app_at {σ : St} {o : Oper} {e : Eff} {s : Nat} : (app σ o e).at s = look (e.ms ++ σ.mem) s := by
 unfold app
 cases o.dst <;> rfl
theorem app_at_ne {σ : St} {o : Oper} {e : Eff} {s : Nat} (h : ∀ q ∈ e.ms, q.1 ≠ s) : (app σ o e).at s = σ.at s := by
 rw [app_at, look_append h]; rfl
theorem look_append_in {α : Type} [Inhabited α] : ∀ {l l' l2 : List (Nat × α)} {t : Nat}, (∃ p ∈ l, p.1 = t) → look (l ++ l') t = look (l ++ l2) t
 | [], _, _, _, h => by obtain ⟨_, h, _⟩ := h; cases h
 | x :: r, l', l2, t, h => by
   rw [List.cons_append, List.cons_append, look, look]
   split
   ·rfl
   ·next hne =>
    obtain ⟨p, hp, ht⟩ := h
    rcases List.mem_cons.1 hp with rfl | hp
    ·exact absurd ht hne
    ·exact look_append_in ⟨p, hp, ht⟩
theorem app_ext {σ τ : St} (h : Ext σ τ) (o : Oper) (e : Eff) : Ext (app σ o e) (app τ o e) := by
 refine ⟨by rw [app_nt, app_nt, h.nt], fun t => ?_, fun s => ?_, by rw [app_root, app_root, h.root], by rw [app_fix, app_fix, h.fix], by rw [app_defs, app_defs, h.defs]⟩
 ·by_cases hd : o.dst = some t
  ·rw [app_get_self hd, app_get_self hd]
  ·rw [app_get hd, app_get hd, h.get]
 ·by_cases hq : ∃ q ∈ e.ms, q.1 = s
  ·rw [app_at, app_at]; exact look_append_in hq
  ·rw [app_at_ne fun q hq' he => hq ⟨q, hq', he⟩, app_at_ne fun q hq' he => hq ⟨q, hq', he⟩, h.at_]
theorem Tr.ext {σ τ σ' : St} {l : List Ent} (h : Tr P T ρ ops σ l σ') (he : Ext σ τ) : ∃ τ', Tr P T ρ ops τ l τ' ∧ Ext σ' τ' := by
 induction h generalizing τ with
 | nil => exact ⟨τ, .nil, he⟩
 | @cons σ x r σ' h1 h2 h3 ih =>
   obtain ⟨τ', k1, k2⟩ := ih (app_ext he x.o x.e)
   refine ⟨τ', .cons ?_ ?_ k1, k2⟩
   ·rw [← effG_congr (fun t _ => he.get t) (fun _ s _ => he.at_ s)]; exact h1
   ·rw [h2, he.opv]
theorem effG_keys {σ : St} {o : Oper} {e : Eff} (h : effG P T ρ ops σ o = some e) {q : Nat × Blk} (hq : q ∈ e.ms) : q.1 ∈ letters ρ o ∨ (toucher o = true ∧ q.1 ∈ opSites σ.opv o) := by
 unfold effG at h
 split at h
 ·rcases effOp_keys h hq with h1 | ⟨h1, x, hx, hm⟩
  ·exact .inl h1
  ·refine .inr ⟨?_, List.mem_flatMap.2 ⟨x, hx, AV.mem_sites hm⟩⟩
   unfold writer at h1
   unfold toucher
   split at h1
   ·next ho => rw [ho]
   ·next ho => rw [ho]
   ·cases h1
 ·cases h; cases hq
 ·cases h
theorem opSites_fresh {σ : St} {o : Oper} {s : Nat} (h : σ.Fresh s) : s ∉ opSites σ.opv o := by
 intro hs
 obtain ⟨x, _, hx⟩ := List.mem_flatMap.1 hs
 have h1 := opv_fresh x h
 have : ∀ X : AV, X.ment s = false → s ∉ X.sites := by
  intro X hX hs
  have hs2 : X.ment s = true := by
   have key : (∀ X : AV, s ∈ X.sites → X.ment s = true) := fun X hX => AV.ment_sites hX
   exact key X hs
  rw [hX] at hs2
  cases hs2
 exact this _ h1 hx
theorem app_fresh {σ : St} {o : Oper} {e : Eff} {s : Nat} (h : effG P T ρ ops σ o = some e) (hs : s ∉ letters ρ o) (hf : σ.Fresh s) : (app σ o e).Fresh s := by
 have hm : e.X.ment s = false ∧ ∀ q ∈ e.ms, q.2.ment s = false := by
  unfold effG at h
  split at h
  ·exact effOp_ment h hs (fun x _ => opv_fresh x hf) hf.mem
  ·cases h; exact ⟨rfl, by simp⟩
  ·cases h
 refine ⟨fun t => ?_, fun t => ?_, by rw [app_root]; exact hf.root⟩
 ·by_cases hd : o.dst = some t
  ·rw [app_get_self hd]; exact hm.1
  ·rw [app_get hd]; exact hf.env t
 ·rw [app_at]
  have : ∀ l : List (Nat × Blk), (∀ q ∈ l, q.2.ment s = false) → (look (l ++ σ.mem) t).ment s = false := by
   intro l
   induction l with
   | nil => intro _; exact hf.mem t
   | cons x r ih =>
     intro hl
     rw [List.cons_append, look]
     split
     ·exact hl x (by simp)
     ·exact ih fun q hq => hl q (by simp [hq])
  exact this _ hm.2
theorem Tr.swap {σ σ' : St} {x y : Ent} {r : List Ent} (h : Tr P T ρ ops σ (x :: y :: r) σ') (hi : Indep ρ ops x y) (hx : ∀ s ∈ letters ρ x.o, σ.Fresh s) (hy : ∀ s ∈ letters ρ y.o, σ.Fresh s) :
 ∃ τ, Tr P T ρ ops σ (y :: x :: r) τ ∧ Ext σ' τ := by
 cases h with
 | cons e1 S1 h =>
   cases h with
   | cons e2 S2 h =>
     have r2 : ∀ t ∈ reads ops y.o, (app σ x.o x.e).get t = σ.get t := fun t ht => app_get fun hd => (hi.d12 t hd).1 ht
     have o2 := opSites_congr (opv_congr r2)
     have a2 : toucher y.o = true → ∀ s ∈ opSites (app σ x.o x.e).opv y.o, (app σ x.o x.e).at s = σ.at s := fun ht s hs => app_at_ne fun q hq he => by
      subst he
      rcases hi.s12 ht q hq with h1 | h1
      ·rw [o2] at hs
       exact opSites_fresh (hx _ h1) hs
      ·exact h1 (S2 ▸ hs)
     have E2 : effG P T ρ ops σ y.o = some y.e := by rw [← effG_congr r2 a2]; exact e2
     have r1 : ∀ t ∈ reads ops x.o, σ.get t = (app σ y.o y.e).get t := fun t ht => (app_get fun hd => hi.d21 t hd ht).symm
     have o1 := opSites_congr (opv_congr r1)
     have a1 : toucher x.o = true → ∀ s ∈ opSites σ.opv x.o, σ.at s = (app σ y.o y.e).at s := fun ht s hs => (app_at_ne fun q hq he => by
      subst he
      rcases hi.s21 ht q hq with h1 | h1
      ·exact opSites_fresh (hy _ h1) hs
      ·exact h1 (S1 ▸ hs)).symm
     have E1 : effG P T ρ ops (app σ y.o y.e) x.o = some x.e := by rw [← effG_congr r1 a1]; exact e1
     have hk : ∀ q ∈ x.e.ms, ∀ q' ∈ y.e.ms, q.1 ≠ q'.1 := fun q hq q' hq' he => by
      rcases effG_keys E2 hq' with h1 | ⟨ht, h1⟩
      ·rcases effG_keys e1 hq with h2 | ⟨ht2, h2⟩
       ·exact hi.l _ h2 (he ▸ h1)
       ·rw [he] at h2; exact opSites_fresh (hy _ h1) h2
      ·rcases hi.s12 ht q hq with h2 | h2
       ·rw [← he] at h1; exact opSites_fresh (hx _ h2) h1
       ·rw [S2, o2, he] at h2; exact h2 h1
     have hext : Ext (app (app σ x.o x.e) y.o y.e) (app (app σ y.o y.e) x.o x.e) := by
      refine ⟨by simp only [app_nt], fun t => ?_, fun s => ?_, by simp only [app_root], by simp only [app_fix], by simp only [app_defs]⟩
      ·by_cases hd : y.o.dst = some t
       ·rw [app_get_self hd]
        have hd1 : x.o.dst ≠ some t := fun h => (hi.d12 t h).2 hd
        rw [app_get hd1, app_get_self hd]
       ·rw [app_get hd]
        by_cases hd1 : x.o.dst = some t
        ·rw [app_get_self hd1, app_get_self hd1]
        ·rw [app_get hd1, app_get hd1, app_get hd]
      ·by_cases hq : ∃ q ∈ y.e.ms, q.1 = s
       ·obtain ⟨q', hq', hs⟩ := hq
        have hne : ∀ q ∈ x.e.ms, q.1 ≠ s := fun q hq he => hk q hq q' hq' (he.trans hs.symm)
        rw [app_at_ne (σ := app σ y.o y.e) hne, app_at, app_at]
        exact look_append_in ⟨q', hq', hs⟩
       ·have hne : ∀ q ∈ y.e.ms, q.1 ≠ s := fun q hq' he => hq ⟨q, hq', he⟩
        rw [app_at_ne hne]
        by_cases hq2 : ∃ q ∈ x.e.ms, q.1 = s
        ·rw [app_at, app_at]; exact look_append_in hq2
        ·have hne2 : ∀ q ∈ x.e.ms, q.1 ≠ s := fun q hq' he => hq2 ⟨q, hq', he⟩
         rw [app_at_ne hne2, app_at_ne hne2, app_at_ne hne]
     obtain ⟨τ, k1, k2⟩ := h.ext hext
     exact ⟨τ, .cons E2 (S2.trans o2) (.cons E1 (S1.trans o1) k1), k2⟩
theorem Tr.front {σ σ' : St} {x : Ent} {v : List Ent} : ∀ {u : List Ent}, Tr P T ρ ops σ (u ++ x :: v) σ' → (∀ y ∈ u, Indep ρ ops y x) → (∀ y ∈ u ++ [x], ∀ s ∈ letters ρ y.o, σ.Fresh s) → (u ++ [x]).Pairwise (fun a b => ∀ s ∈ letters ρ a.o, s ∉ letters ρ b.o) →
 ∃ τ, Tr P T ρ ops σ (x :: (u ++ v)) τ ∧ Ext σ' τ
 | [], h, _, _, _ => ⟨σ', h, Ext.refl _⟩
 | y :: u, h, hi, hf, hp => by
   rw [List.cons_append] at h
   cases h with
   | cons e1 S1 h =>
     rw [List.cons_append, List.pairwise_cons] at hp
     obtain ⟨τ, k1, k2⟩ := Tr.front h (fun z hz => hi z (by simp [hz])) (fun z hz s hs => app_fresh e1 (fun hs' => hp.1 z hz s hs' hs) (hf z (by simp at hz ⊢; rcases hz with hz | hz <;> simp [hz]) s hs)) hp.2
     obtain ⟨τ', m1, m2⟩ := (Tr.cons e1 S1 k1).swap (hi y (by simp)) (hf y (by simp)) (hf x (by simp))
     exact ⟨τ', m1, k2.trans m2⟩
end
def direct (ops : Array Oper) (k i : Nat) : Bool :=
 match ops[i]? with
 | some o => o.after.any fun e => Region.binds .any e && e.on == k
 | none => false
def lower (i : Nat) (o : Oper) : Bool := o.after.all fun e => !Region.binds .any e || decide (e.on < i)
section
variable {P : Program} {cx : Cx} {w0 w : World} {σ σ' σf : St} {a : Act} {ro : Option Nat} {n : Nat} {Px : Px P} {ops : Array Oper} {T : Tab} {ρ : Nat → List R} {Q : Exit → Act → World → Prop}
theorem op_ok (hzt : T = Px.tab) {i : Nat} {o : Oper} {e : Eff} {K : Act → World → Prop} (hi : ops[i]? = some o) (h : Rel cx w0 σ a w) (he : effG P T ρ ops σ o = some e) (hn : ∀ d, o.dst = some d → d < σ.nt) (hf : ∀ s ∈ letters ρ o, σ.Fresh s) (hp : e.p)
 (hk : ∀ a' w', Rel cx w0 (app σ o e) a' w' → K a' w') : wpOpIn (FF ro) n P ops Q i K a w := by
 unfold wpOpIn
 rw [hi]
 simp only
 unfold effG at he
 split at he
 ·next hw =>
  rw [want_ok h hw, if_pos rfl]
  exact eff_ok (Px := Px) hzt h he hn hf hp hk
 ·next hw =>
  cases he
  rw [want_ok h hw, if_neg (by simp)]
  exact ⟨fun _ _ => trivial, hk _ _ (rel_undef h)⟩
 ·cases he
theorem any_ok (hzt : T = Px.tab) : ∀ (fuel : Nat) (listed : Array Bool) (L : List (Nat × Ent)) (σ σf : St) (a : Act) (w : World),
 L.length ≤ fuel → (∀ i, listed.getD i true = false ↔ i ∈ L.map (·.1)) → (∀ p ∈ L, ops[p.1]? = some p.2.o) → L.Pairwise (fun a b => a.1 < b.1) →
 L.Pairwise (fun a b => direct ops a.1 b.1 = true ∨ Indep ρ ops a.2 b.2) → L.Pairwise (fun a b => ∀ s ∈ letters ρ a.2.o, s ∉ letters ρ b.2.o) →
 (∀ p ∈ L, ∀ s ∈ letters ρ p.2.o, σ.Fresh s) → (∀ p ∈ L, p.2.e.p) → (∀ p ∈ L, ∀ d, p.2.o.dst = some d → d < σ.nt) → (∀ p ∈ L, lower p.1 p.2.o = true) →
 Tr P T ρ ops σ (L.map (·.2)) σf → Rel cx w0 σ a w → (∀ τ a' w', Ext σf τ → Rel cx w0 τ a' w' → Q .normal a' w') →
 wpAnyIn (FF ro) n P .any ops Q fuel listed a w := by
 intro fuel
 induction fuel with
 | zero =>
   intro listed L σ σf a w hL hl _ _ _ _ _ _ _ _ htr hrel hQ
   have hnil : L = [] := List.eq_nil_of_length_eq_zero (by omega)
   subst hnil
   cases htr
   refine ⟨?_, hQ _ _ _ (Ext.refl _) hrel⟩
   cases hr : Region.ready .any ops listed with
   | nil => rfl
   | cons i r =>
     have : i ∈ Region.ready .any ops listed := by rw [hr]; simp
     have h1 := (mem_ready.1 this).1
     have := (hl i).1 h1
     simp at this
 | succ fuel ih =>
   intro listed L σ σf a w hL hl hops hlt hpair hlet hfr hp hnt hlow htr hrel hQ
   have hsz : ∀ i, listed.getD i true = false → i < listed.size := fun i h => by
    rcases Nat.lt_or_ge i listed.size with h' | h'
    ·exact h'
    ·simp [Array.getElem?_eq_none h'] at h
   refine ⟨fun hr => ?_, fun i hi => ?_⟩
   ·cases L with
    | nil =>
      cases htr
      exact hQ _ _ _ (Ext.refl _) hrel
    | cons p L' =>
      exfalso
      have hp0 : listed.getD p.1 true = false := (hl p.1).2 (by simp)
      have : p.1 ∈ Region.ready .any ops listed := by
       rw [mem_ready]
       refine ⟨hp0, p.2.o, hops p (by simp), fun e he hb => ?_⟩
       have h1 : e.on < p.1 := by
        have := Array.all_eq_true_iff_forall_mem.1 (hlow p (by simp)) e he
        simpa [hb] using this
       have h2 := hsz _ hp0
       cases hv : listed.getD e.on false with
       | true => rfl
       | false =>
         exfalso
         have h3 : listed.getD e.on true = false := by
          rw [Array.getD_eq_getD_getElem?, Array.getElem?_eq_getElem (by omega)] at hv ⊢
          exact hv
         have h4 := (hl _).1 h3
         rw [List.map_cons, List.mem_cons] at h4
         rcases h4 with h4 | h4
         ·omega
         ·obtain ⟨q, hq, h5⟩ := List.mem_map.1 h4
          have := (List.pairwise_cons.1 hlt).1 q hq
          omega
      rw [hr] at this
      cases this
   ·obtain ⟨hun, oi, hoi, hall⟩ := mem_ready.1 hi
    obtain ⟨p, hpL, hpi⟩ := List.mem_map.1 ((hl i).1 hun)
    obtain ⟨u, v, rfl⟩ := List.append_of_mem hpL
    subst hpi
    have hpo := hops p (by simp)
    rw [List.map_append, List.map_cons] at htr
    have hnd : ∀ q ∈ u, direct ops q.1 p.1 = false := fun q hq => by
     cases hd : direct ops q.1 p.1 with
     | false => rfl
     | true =>
       exfalso
       unfold direct at hd
       rw [hpo] at hd
       obtain ⟨e, he, hb⟩ := Array.any_eq_true'.1 hd
       simp only [Bool.and_eq_true, beq_iff_eq] at hb
       rw [hpo] at hoi
       cases hoi
       have h1 := hall e he hb.1
       rw [hb.2] at h1
       have h2 : listed.getD q.1 true = false := (hl _).2 (List.mem_map.2 ⟨q, by simp [hq], rfl⟩)
       have h3 := hsz _ h2
       rw [Array.getD_eq_getD_getElem?, Array.getElem?_eq_getElem h3] at h1 h2
       simp only [Option.getD_some] at h1 h2
       rw [h1] at h2
       cases h2
    have hpw := List.pairwise_append.1 hpair
    have hlw := List.pairwise_append.1 hlet
    obtain ⟨τ, k1, k2⟩ := htr.front
     (fun y hy => by
       obtain ⟨q, hq, rfl⟩ := List.mem_map.1 hy
       rcases hpw.2.2 q hq p (by simp) with h1 | h1
       ·rw [hnd q hq] at h1; cases h1
       ·exact h1)
     (fun y hy s hs => by
       rw [List.mem_append, List.mem_singleton] at hy
       rcases hy with hy | rfl
       ·obtain ⟨q, hq, rfl⟩ := List.mem_map.1 hy
        exact hfr q (by simp [hq]) s hs
       ·exact hfr p (by simp) s hs)
     (by
       rw [List.pairwise_append]
       refine ⟨List.pairwise_map.2 hlw.1, List.pairwise_singleton _ _, fun y hy z hz => ?_⟩
       obtain ⟨q, hq, rfl⟩ := List.mem_map.1 hy
       rw [List.mem_singleton] at hz
       subst hz
       exact hlw.2.2 q hq p (by simp))
    cases k1 with
    | cons e1 S1 k1 =>
      refine op_ok (Px := Px) hzt hpo hrel e1 (hnt p (by simp)) (hfr p (by simp)) (hp p (by simp)) fun a' w' hrel' => ?_
      have hsub : (u ++ v).Sublist (u ++ p :: v) := List.Sublist.append_left (List.sublist_cons_self p v) u
      have hmem : ∀ q ∈ u ++ v, q ∈ u ++ p :: v := fun q hq => hsub.subset hq
      refine ih _ (u ++ v) _ τ a' w' (by simp at hL ⊢; omega) (fun j => ?_) (fun q hq => hops q (hmem q hq)) (hlt.sublist hsub) (hpair.sublist hsub) (hlet.sublist hsub)
       (fun q hq s hs => app_fresh e1 (fun hs' => ?_) (hfr q (hmem q hq) s hs)) (fun q hq => hp q (hmem q hq)) (fun q hq d hd => by rw [app_nt]; exact hnt q (hmem q hq) d hd) (fun q hq => hlow q (hmem q hq))
       (by rw [List.map_append]; exact k1) hrel' (fun τ' a'' w'' he => hQ τ' a'' w'' (k2.trans he))
      ·by_cases hj : p.1 = j
       ·subst hj
        have h3 := hsz _ hun
        constructor
        ·intro h; simp [h3] at h
        ·intro h
         exfalso
         obtain ⟨q, hq, h5⟩ := List.mem_map.1 h
         have hlt' := List.pairwise_append.1 hlt
         rcases List.mem_append.1 hq with hq | hq
         ·have := hlt'.2.2 q hq p (by simp); omega
         ·have := (List.pairwise_cons.1 hlt'.2.1).1 q hq; omega
       ·rw [getD_set_ne true hj, hl j]
        simp [Ne.symm hj]
      ·rcases List.mem_append.1 hq with hq | hq
       ·exact hlw.2.2 q hq p (by simp) s hs hs'
       ·exact (List.pairwise_cons.1 hlw.2.1).1 q hq s hs' hs
def statTmp (ops : Array Oper) (k i : Oper) : Bool :=
 (match k.dst with
   | some d => !(reads ops i).contains d && !(i.dst == some d)
   | none => true) && (match i.dst with
   | some d => !(reads ops k).contains d
   | none => true)
def statSite (k i : Oper) : Bool := !(writer k && toucher i) && !(toucher k && writer i)
def drawS (ops : Array Oper) (nt : Nat) (fl : List (Nat × Nat)) : Bool :=
 (List.range ops.size).all fun i => match ops[i]? with
   | some oi => lower i oi && (match oi.dst with
     | some d => decide (d < nt)
     | none => true) && (List.range i).all fun k => direct ops k i || (match ops[k]? with
       | some ok => statTmp ops ok oi && (statSite ok oi || fl.contains (k, i))
       | none => false)
   | none => false
def disjL : List (List Nat) → Bool
 | [] => true
 | l :: r => (l.all fun s => r.all fun m => !m.contains s) && disjL r
def trc (P : Program) (T : Tab) (ρ : Nat → List R) (ops : Array Oper) : List Oper → St → List (List Nat × List Nat)
 | [], _ => []
 | o :: r, σ => match effG P T ρ ops σ o with
   | some e => ((e.ms.map (·.1)).filter (fun s => !(letters ρ o).contains s), opSites σ.opv o) :: trc P T ρ ops r (app σ o e)
   | none => []
def flOk (t : List (List Nat × List Nat)) (fl : List (Nat × Nat)) : Bool :=
 fl.all fun p => match t[p.1]?, t[p.2]? with
  | some x, some y => (x.1.all fun s => !y.2.contains s) && (y.1.all fun s => !x.2.contains s)
  | _, _ => false
theorem trc_of {l : List Ent} (h : Tr P T ρ ops σ l σf) : trc P T ρ ops (l.map (·.o)) σ = l.map fun x => ((x.e.ms.map (·.1)).filter (fun s => !(letters ρ x.o).contains s), x.S) := by
 induction h with
 | nil => rfl
 | @cons σ x r σ' h1 h2 h3 ih => rw [List.map_cons, trc, h1]; simp only [ih, List.map_cons, h2]
theorem evalOps_tr : ∀ {l : List Oper} {σ σ' : St} {p : Prop}, evalOps P T ρ ops l σ = some (σ', p) → p → ∃ L : List Ent, L.map (·.o) = l ∧ Tr P T ρ ops σ L σ' ∧ ∀ x ∈ L, x.e.p
 | [], σ, σ', p, h, _ => by
   rw [evalOps] at h
   cases h
   exact ⟨[], rfl, .nil, by simp⟩
 | o :: r, σ, σ', p, h, hp => by
   rw [evalOps] at h
   split at h
   ·next hw =>
    split at h
    ·next σ1 p1 h1 =>
     split at h
     ·next σ2 p2 h2 =>
      cases h
      obtain ⟨L, k1, k2, k3⟩ := evalOps_tr h2 hp.2
      unfold evalOp at h1
      split at h1
      ·next e he =>
       split at h1 <;> cases h1
       refine ⟨⟨o, e, opSites σ.opv o⟩ :: L, by rw [List.map_cons, k1], .cons (by unfold effG; rw [hw]; exact he) rfl k2, ?_⟩
       simp only [List.mem_cons, forall_eq_or_imp]
       exact ⟨hp.1, k3⟩
      ·cases h1
     ·cases h
    ·cases h
   ·next hw =>
    obtain ⟨L, k1, k2, k3⟩ := evalOps_tr h hp
    refine ⟨⟨o, ⟨.tup [], [], True⟩, opSites σ.opv o⟩ :: L, by rw [List.map_cons, k1], .cons (by unfold effG; rw [hw]) rfl k2, ?_⟩
    simp only [List.mem_cons, forall_eq_or_imp]
    exact ⟨trivial, k3⟩
   ·cases h
theorem Tr.keys {l : List Ent} (h : Tr P T ρ ops σ l σf) : ∀ x ∈ l, ∀ q ∈ x.e.ms, q.1 ∈ letters ρ x.o ∨ writer x.o = true := by
 induction h with
 | nil => intro x hx; cases hx
 | @cons σ x r σ' h1 h2 h3 ih =>
   intro y hy q hq
   rcases List.mem_cons.1 hy with rfl | hy
   ·unfold effG at h1
    split at h1
    ·rcases effOp_keys h1 hq with h4 | ⟨h4, _⟩
     ·exact .inl h4
     ·exact .inr h4
    ·injection h1 with h1; rw [← h1] at hq; cases hq
    ·cases h1
   ·exact ih y hy q hq
theorem disjL_pair : ∀ {l : List (List Nat)}, disjL l = true → l.Pairwise (fun a b => ∀ s ∈ a, s ∉ b)
 | [], _ => .nil
 | x :: r, h => by
   rw [disjL, Bool.and_eq_true] at h
   refine .cons (fun m hm s hs => ?_) (disjL_pair h.2)
   have := List.all_eq_true.1 (List.all_eq_true.1 h.1 s hs) m hm
   simpa using this
theorem disjAt {L : List (Nat × Ent)} (h : L.Pairwise (fun a b => ∀ s ∈ letters ρ a.2.o, s ∉ letters ρ b.2.o)) (hlt : L.Pairwise (fun a b => a.1 < b.1)) {x y : Nat × Ent} (hx : x ∈ L) (hy : y ∈ L) (hxy : x.1 < y.1) : ∀ s ∈ letters ρ x.2.o, s ∉ letters ρ y.2.o := by
 induction L with
 | nil => cases hx
 | cons z r ih =>
   rw [List.pairwise_cons] at h hlt
   rcases List.mem_cons.1 hx with hx' | hx'
   ·subst hx'
    rcases List.mem_cons.1 hy with hy' | hy'
    ·subst hy'; omega
    ·exact h.1 y hy'
   ·rcases List.mem_cons.1 hy with hy' | hy'
    ·subst hy'; have := hlt.1 x hx'; omega
    ·exact ih h.2 hlt.2 hx' hy'
theorem Holds.drawn {cx : Cx} {w0 : World} {id : Nat} {p : Prop} {Q : Exit → St → Prop} (fl : List (Nat × Nat)) (hm : P.follows .mixedOrders = true) (hs : drawS ops σ.nt fl = true) (hzt : T = Px.tab) (he : evalOps P T ρ ops ops.toList σ = some (σ', p)) (hp : p)
 (hl : disjL (ops.toList.map (letters ρ)) = true) (hf : (ops.toList.map (letters ρ)).all (fun l => l.all σ.freshB) = true) (hfl : flOk (trc P T ρ ops ops.toList σ) fl = true)
 (hQ : ∀ a w, Rel cx w0 σ' a w → Q .normal σ') : Holds P ro cx w0 (.region id ops true) σ Q := fun a w h => by
 obtain ⟨L, k1, k2, k3⟩ := evalOps_tr he hp
 refine wpIn_region_any hm ?_
 have hrel : Rel cx w0 σ a { w with drawn := w.drawn + 1 } := by
  obtain ⟨hd, μ, h⟩ := h
  exact ⟨hd, μ, h.grow ⟨rfl, rfl, rfl, Nat.le_refl _, fun _ _ => rfl⟩⟩
 have hlen : L.length = ops.size := by rw [← List.length_map (f := fun x : Ent => x.o), k1, Array.length_toList]
 have hget : ∀ (i : Nat) (x : Ent), L[i]? = some x → ops[i]? = some x.o := fun i x hx => by
  rw [← Array.getElem?_toList, ← k1, List.getElem?_map, hx]; rfl
 have hz : ∀ p ∈ L.zipIdx.map Prod.swap, L[p.1]? = some p.2 := fun p hp => by
  obtain ⟨q, hq, rfl⟩ := List.mem_map.1 hp
  have := List.mem_zipIdx_iff_getElem?.1 hq
  exact this
 have hst : ∀ (i : Nat) (x : Ent), L[i]? = some x → lower i x.o = true ∧ (∀ d, x.o.dst = some d → d < σ.nt) ∧ ∀ k y, k < i → L[k]? = some y → direct ops k i = true ∨ (statTmp ops y.o x.o = true ∧ (statSite y.o x.o = true ∨ (k, i) ∈ fl)) := fun i x hx => by
  have hi := hget i x hx
  have hlt : i < ops.size := (Array.getElem?_eq_some_iff.1 hi).1
  have h1 := List.all_eq_true.1 hs i (List.mem_range.2 hlt)
  rw [hi] at h1
  simp only [Bool.and_eq_true] at h1
  refine ⟨h1.1.1, fun d hd => ?_, fun k y hk hy => ?_⟩
  ·have := h1.1.2
   rw [hd] at this
   simpa using this
  ·have h2 := List.all_eq_true.1 h1.2 k (List.mem_range.2 hk)
   rw [hget k y hy] at h2
   simpa using h2
 have hmap : (L.zipIdx.map Prod.swap).map (·.2) = L := by
  rw [List.map_map]
  have : ((fun x : Nat × Ent => x.2) ∘ Prod.swap) = (fun x : Ent × Nat => x.1) := by funext x; rfl
  rw [this, List.zipIdx_map_fst]
 have hmap1 : (L.zipIdx.map Prod.swap).map (·.1) = List.range L.length := by
  rw [List.map_map]
  have : ((fun x : Nat × Ent => x.1) ∘ Prod.swap) = (fun x : Ent × Nat => x.2) := by funext x; rfl
  rw [this, List.zipIdx_map_snd, List.range_eq_range']
 have hpl : (L.zipIdx.map Prod.swap).Pairwise (fun a b => a.1 < b.1) := by
  have := List.pairwise_lt_range (n := L.length)
  rw [← hmap1, List.pairwise_map] at this
  exact this
 have hkeys := k2.keys
 have htrc := trc_of k2
 rw [k1] at htrc
 have hlp := disjL_pair hl
 rw [← k1, List.map_map, List.pairwise_map, ← hmap, List.pairwise_map] at hlp
 refine any_ok (Px := Px) hzt ops.size _ (L.zipIdx.map Prod.swap) σ σ' a _ (by simp [hlen]) (fun i => ?_) (fun p hp => hget _ _ (hz p hp)) hpl ?_ hlp (fun p hp s hs' => ?_) (fun p hp => ?_) (fun p hp => (hst _ _ (hz p hp)).2.1) (fun p hp => (hst _ _ (hz p hp)).1) (by rw [hmap]; exact k2) hrel
  (fun τ a' w' hτ hr => ⟨σ', hQ a' w' (Rel.ext hτ.symm hr), Rel.ext hτ.symm hr⟩)
 ·rw [hmap1, List.mem_range, hlen]
  by_cases hi : i < ops.size <;> simp [hi]
 ·refine List.Pairwise.imp_of_mem (fun {a b} ha hb hab => ?_) hpl
  have ga := hz a ha
  have gb := hz b hb
  rcases (hst b.1 b.2 gb).2.2 a.1 a.2 hab ga with h1 | ⟨h1, h2⟩
  ·exact .inl h1
  ·right
   unfold statTmp at h1
   rw [Bool.and_eq_true] at h1
   have hma : a.2 ∈ L := List.mem_of_getElem? ga
   have hmb : b.2 ∈ L := List.mem_of_getElem? gb
   refine ⟨fun d hd => ?_, fun d hd => ?_, fun s hs1 hs2 => ?_, fun ht q hq => ?_, fun ht q hq => ?_⟩
   ·have := h1.1
    rw [hd] at this
    simpa using this
   ·have := h1.2
    rw [hd] at this
    simpa using this
   ·exact disjAt hlp hpl ha hb hab s hs1 hs2
   ·rcases h2 with h2 | h2
    ·rcases hkeys a.2 hma q hq with h3 | h3
     ·exact .inl h3
     ·simp [statSite, h3, ht] at h2
    ·have h4 := List.all_eq_true.1 hfl (a.1, b.1) h2
     rw [htrc] at h4
     simp only [List.getElem?_map, ga, gb, Option.map_some, Bool.and_eq_true] at h4
     by_cases hin : q.1 ∈ letters ρ a.2.o
     ·exact .inl hin
     ·right
      have := List.all_eq_true.1 h4.1 q.1 (by simp only [List.mem_filter, List.mem_map]; exact ⟨⟨q, hq, rfl⟩, by simpa using hin⟩)
      simpa using this
   ·rcases h2 with h2 | h2
    ·rcases hkeys b.2 hmb q hq with h3 | h3
     ·exact .inl h3
     ·simp [statSite, h3, ht] at h2
    ·have h4 := List.all_eq_true.1 hfl (a.1, b.1) h2
     rw [htrc] at h4
     simp only [List.getElem?_map, ga, gb, Option.map_some, Bool.and_eq_true] at h4
     by_cases hin : q.1 ∈ letters ρ b.2.o
     ·exact .inl hin
     ·right
      have := List.all_eq_true.1 h4.2 q.1 (by simp only [List.mem_filter, List.mem_map]; exact ⟨⟨q, hq, rfl⟩, by simpa using hin⟩)
      simpa using this
 ·have h5 := List.all_eq_true.1 hf (letters ρ p.2.o) (List.mem_map.2 ⟨p.2.o, by rw [← k1]; exact List.mem_map.2 ⟨p.2, List.mem_of_getElem? (hz p hp), rfl⟩, rfl⟩)
  exact St.fresh_of (List.all_eq_true.1 h5 s hs')
 ·exact k3 p.2 (List.mem_of_getElem? (hz p hp))
end
section
variable {P : Program} {cx : Cx} {w0 w w' : World} {σ σ' : St} {a : Act} {μ : Sites} {ro : Option Nat} {n : Nat} {Px : Px P} {ops : Array Oper} {T : Tab} {ρ : Nat → List R} {Q : Exit → Act → World → Prop}
def St.held (σ : St) (tmps : Array Value) : List (AV × Value) := (List.range σ.nt).map fun t => (σ.get t, tmps.getD t undef)
theorem RelM.turn {ta tb : Array Value} {gs : List (AV × Value)} (h : RelM cx w0 σ ta w μ) (hr : ∀ p ∈ gs, p ∈ σ.root) (hb : gs.map (·.2) = tb.toList) :
 RelM cx w0 { nt := tb.size, env := gs.zipIdx.map fun p => (p.2, p.1.1), mem := σ.mem, root := σ.held ta ++ σ.root, fix := σ.fix } tb w μ := by
 refine ⟨h.below, h.hB, h.gl, rfl, h.sites, h.mem, fun t => ?_, fun p hp => ?_, h.fix⟩
 ·have key : ∀ (l : List (AV × Value)) (k : Nat), (∀ p ∈ l, RepA cx w μ σ.at p.1 p.2) → k ≤ t → RepA cx w μ σ.at (look ((l.zipIdx k).map fun p => (p.2, p.1.1)) t) ((l.map (·.2)).getD (t - k) undef) := by
   intro l
   induction l with
   | nil => intro k _ _; show RepA cx w μ σ.at .undef _; rw [RepA]; trivial
   | cons x r ih =>
     intro k hl hk
     rw [List.zipIdx_cons, List.map_cons, look]
     by_cases hkt : k = t
     ·rw [if_pos hkt]
      subst hkt
      simp only [Nat.sub_self, List.map_cons]
      exact hl x (by simp)
     ·rw [if_neg hkt]
      have := ih (k + 1) (fun p hp => hl p (by simp [hp])) (by omega)
      rw [show t - k = (t - (k + 1)) + 1 from by omega]
      exact this
  have h1 := key gs 0 (fun p hp => h.roots p (hr p hp)) (Nat.zero_le _)
  rw [Nat.sub_zero, hb] at h1
  have e1 : tb.getD t undef = tb.toList.getD t undef := by rw [Array.getD_eq_getD_getElem?, List.getD_eq_getElem?_getD, ← Array.getElem?_toList]
  rw [e1]
  exact h1
 ·rcases List.mem_append.1 hp with hp | hp
  ·obtain ⟨t, _, rfl⟩ := List.mem_map.1 hp
   exact h.env t
  ·exact h.roots p hp
theorem held_vals {ta : Array Value} (h : ta.size = σ.nt) : (σ.held ta).map (·.2) = ta.toList := by
 unfold St.held
 rw [List.map_map]
 apply List.ext_getElem
 ·simp [h]
 ·intro i h1 h2
  simp only [List.length_map, List.length_range] at h1
  simp [Array.getD_eq_getD_getElem?, h, h1]
theorem look_held {ta : Array Value} {t : Nat} (h : t < σ.nt) : look ((σ.held ta).zipIdx.map fun p => (p.2, p.1.1)) t = σ.get t := by
 have key : ∀ (m k : Nat) (f : Nat → AV × Value), k ≤ t → t < k + m → look ((((List.range' k m).map f).zipIdx k).map fun p => (p.2, p.1.1)) t = (f t).1 := by
  intro m
  induction m with
  | zero => intro k f h1 h2; omega
  | succ m ih =>
    intro k f h1 h2
    rw [List.range'_succ, List.map_cons, List.zipIdx_cons, List.map_cons, look]
    split
    ·next he => exact congrArg (fun i => (f i).1) he
    ·next he => exact ih (k + 1) f (by simp only at he; omega) (by omega)
 have := key σ.nt 0 (fun t => (σ.get t, ta.getD t undef)) (Nat.zero_le _) (by omega)
 unfold St.held
 rw [List.range_eq_range']
 exact this
theorem RelM.lessRoot {root' : List (AV × Value)} {ta : Array Value} (h : RelM cx w0 σ ta w μ) (hf : ∀ p ∈ root', p ∈ σ.root) : RelM cx w0 { σ with root := root' } ta w μ :=
 ⟨h.below, h.hB, h.gl, h.size, h.sites, h.mem, h.env, fun p hp => h.roots p (hf p hp), h.fix⟩
theorem RelM.defs {ta : Array Value} (ds : List Nat) (h : RelM cx w0 σ ta w μ) : RelM cx w0 { σ with defs := ds } ta w μ :=
 ⟨h.below, h.hB, h.gl, h.size, h.sites, h.mem, h.env, h.roots, h.fix⟩
theorem RelM.ext {τ : St} {ta : Array Value} (h : RelM cx w0 σ ta w μ) (e : Ext σ τ) : RelM cx w0 τ ta w μ := by
 have ea : σ.at = τ.at := funext e.at_
 exact ⟨h.below, h.hB, h.gl, h.size.trans e.nt, h.sites, fun s => by rw [← ea]; exact h.mem s, fun t => by rw [← ea, ← e.get t]; exact h.env t, by rw [← ea, ← e.root]; exact h.roots, by rw [← e.fix]; exact h.fix⟩
def small (σ : St) : Bool := σ.env.all fun p => decide (p.1 < σ.nt)
theorem small_get {t : Nat} (h : small σ = true) (ht : σ.nt ≤ t) : σ.get t = .undef := by
 unfold small at h
 show look σ.env t = .undef
 have : ∀ l : List (Nat × AV), (l.all fun p => decide (p.1 < σ.nt)) = true → look l t = .undef := by
  intro l
  induction l with
  | nil => intro _; rfl
  | cons p r ih =>
    intro hl
    rw [List.all_cons, Bool.and_eq_true, decide_eq_true_eq] at hl
    rw [look, if_neg (by omega), ih hl.2]
 exact this _ h
theorem look_held_out {ta : Array Value} {t : Nat} (h : σ.nt ≤ t) : look ((σ.held ta).zipIdx.map fun p => (p.2, p.1.1)) t = .undef := by
 have key : ∀ (l : List (AV × Value)) (k : Nat), k + l.length ≤ t → look ((l.zipIdx k).map fun p => (p.2, p.1.1)) t = .undef := by
  intro l
  induction l with
  | nil => intro k _; rfl
  | cons x r ih =>
    intro k hk
    rw [List.zipIdx_cons, List.map_cons, look, if_neg (by simp at hk; simp only; omega)]
    exact ih (k + 1) (by simp at hk; omega)
 exact key _ 0 (by simp [St.held, h])
theorem RelM.enter {ta : Array Value} {Xs : List AV} {vs : List Value} {m : Nat} (h : RelM cx w0 σ ta w μ) (hv : RepAL cx w μ σ.at Xs vs) :
 RelM cx w0 { nt := vs.length + (m - vs.length), env := Xs.zipIdx.map fun p => (p.2, p.1), mem := σ.mem, root := σ.held ta ++ σ.root, fix := σ.fix } (vs.toArray ++ Array.replicate (m - vs.toArray.size) undef) w μ := by
 refine ⟨h.below, h.hB, h.gl, by simp, h.sites, h.mem, fun t => ?_, fun p hp => ?_, h.fix⟩
 ·have key : ∀ (Xs : List AV) (us : List Value) (k : Nat), RepAL cx w μ σ.at Xs us → k ≤ t →
   RepA cx w μ σ.at (look ((Xs.zipIdx k).map fun p => (p.2, p.1)) t) ((us ++ List.replicate (m - vs.toArray.size) undef).getD (t - k) undef) := by
   intro Xs
   induction Xs with
   | nil => intro us k _ _; show RepA cx w μ σ.at .undef _; rw [RepA]; trivial
   | cons x r ih =>
     intro us k h hk
     rw [RepAL] at h
     obtain ⟨v, vr, rfl, h1, h2⟩ := h
     rw [List.zipIdx_cons, List.map_cons, look]
     by_cases hkt : k = t
     ·rw [if_pos hkt]
      subst hkt
      simp only [Nat.sub_self, List.cons_append]
      exact h1
     ·rw [if_neg hkt]
      have := ih vr (k + 1) h2 (by omega)
      rw [show t - k = (t - (k + 1)) + 1 from by omega]
      exact this
  have := key Xs vs 0 hv (Nat.zero_le _)
  rw [Nat.sub_zero] at this
  have e1 : (vs.toArray ++ Array.replicate (m - vs.toArray.size) undef).getD t undef = (vs ++ List.replicate (m - vs.toArray.size) undef).getD t undef := by
   rw [Array.getD_eq_getD_getElem?, List.getD_eq_getElem?_getD, ← Array.getElem?_toList]
   simp
  show RepA cx w μ σ.at _ ((vs.toArray ++ Array.replicate (m - vs.toArray.size) undef).getD t undef)
  rw [e1]
  exact this
 ·rcases List.mem_append.1 hp with hp | hp
  ·obtain ⟨t, _, rfl⟩ := List.mem_map.1 hp
   exact h.env t
  ·exact h.roots p hp
theorem repAL_length : ∀ {Xs : List AV} {vs : List Value} {mem : Nat → Blk}, RepAL cx w μ mem Xs vs → Xs.length = vs.length
 | [], _, _, h => by rw [RepAL] at h; subst h; rfl
 | _ :: _, _, _, h => by rw [RepAL] at h; obtain ⟨v, vr, rfl, _, h2⟩ := h; simp [repAL_length h2]
end
section
variable {P : Program} {cx : Cx} {w0 : World} {σ : St} {ro : Option Nat} {Px : Px P} {ops : Array Oper} {T : Tab} {ρ : Nat → List R} {c x y : Code} {Q : Exit → St → Prop} {N M : St → Prop}
def NR (M N : St → Prop) : Exit → St → Prop
 | .normal, σ => M σ
 | .ret, σ => N σ
 | _, _ => False
theorem Holds.next (M : St → Prop) (h : Holds P ro cx w0 x σ (NR M (Q .ret))) (k : ∀ σ, M σ → Holds P ro cx w0 y σ Q) : Holds P ro cx w0 (x.seq y) σ Q :=
 Holds.seq (h.mono fun e σ hq => by
  cases e <;> first | exact k _ hq | exact hq | exact hq.elim)
def roundQ {ι : Type} (s : ι → St) (I : ι → Prop) (m : ι → Nat) (i : ι) (cx : Cx) (w0 : World) (id : Nat) (M N : St → Prop) : Exit → St → Prop
 | .normal, σ => ∃ j, I j ∧ m j < m i ∧ ∀ a w, Rel cx w0 σ a w → Rel cx w0 (s j) a w
 | .ret, σ => N σ
 | .exit id', σ => id' = id ∧ M σ
 | _, _ => False
theorem Holds.loopB {ι : Type} {id : Nat} (s : ι → St) (I : ι → Prop) (m : ι → Nat) (i0 : ι) (h0 : I i0) (hs : ∀ a w, Rel cx w0 σ a w → Rel cx w0 (s i0) a w)
 (round : ∀ i, I i → Holds P ro cx w0 c (s i) (roundQ s I m i cx w0 id M N)) : Holds P ro cx w0 (.block id (.loop c)) σ (NR M N) :=
 Holds.block (Holds.loop s I m i0 h0 hs fun i hi => (round i hi).mono fun e σ hq => by
  cases e with
  | normal => exact hq
  | ret => exact hq
  | exit id' => obtain ⟨rfl, h⟩ := hq; show (if _ then _ else _); rw [if_pos rfl]; exact h
  | goto l => exact hq.elim
  | panic ch => exact hq.elim
  | outgrown => exact hq.elim)
theorem Holds.blockN {id : Nat} (h : Holds P ro cx w0 c σ (NR M N)) : Holds P ro cx w0 (.block id c) σ (NR M N) :=
 Holds.block (h.mono fun e σ hq => by
  cases e <;> first | exact hq | exact hq.elim)
theorem Holds.dstep {id : Nat} {p : Prop} (fl : List (Nat × Nat)) {σ' : St} (hm : P.follows .mixedOrders = true) (hs : drawS ops σ.nt fl = true) (hzt : T = Px.tab) (he : evalOps P T ρ ops ops.toList σ = some (σ', p)) (hp : p)
 (hl : disjL (ops.toList.map (letters ρ)) = true) (hf : (ops.toList.map (letters ρ)).all (fun l => l.all σ.freshB) = true) (hfl : flOk (trc P T ρ ops ops.toList σ) fl = true)
 (h : Holds P ro cx w0 y σ' Q) : Holds P ro cx w0 ((Code.region id ops true).seq y) σ Q :=
 Holds.seq (Holds.drawn (Px := Px) fl hm hs hzt he hp hl hf hfl fun _ _ _ => h)
theorem Holds.dregion {id : Nat} {p : Prop} (fl : List (Nat × Nat)) {σ' : St} (hm : P.follows .mixedOrders = true) (hs : drawS ops σ.nt fl = true) (hzt : T = Px.tab) (he : evalOps P T ρ ops ops.toList σ = some (σ', p)) (hp : p)
 (hl : disjL (ops.toList.map (letters ρ)) = true) (hf : (ops.toList.map (letters ρ)).all (fun l => l.all σ.freshB) = true) (hfl : flOk (trc P T ρ ops ops.toList σ) fl = true)
 (h : Q .normal σ') : Holds P ro cx w0 (Code.region id ops true) σ Q :=
 Holds.drawn (Px := Px) fl hm hs hzt he hp hl hf hfl fun _ _ _ => h
theorem Holds.condT {b : Operand} {nw : Bool} (hb : σ.opv b = .v nw (.bool true)) (h : Holds P ro cx w0 x σ Q) : Holds P ro cx w0 (.cond b x y) σ Q := Holds.cond hb (fun _ => h) (fun h => by cases h)
theorem Holds.condF {b : Operand} {nw : Bool} (hb : σ.opv b = .v nw (.bool false)) (h : Holds P ro cx w0 y σ Q) : Holds P ro cx w0 (.cond b x y) σ Q := Holds.cond hb (fun h => by cases h) (fun _ => h)
theorem runW_t {o : Oper} {r : List Oper} : runW P T ρ ops (some true) o r σ = runE P T ρ ops (evalOp P T ρ σ o) r := rfl
theorem runW_f {o : Oper} {r : List Oper} : runW P T ρ ops (some false) o r σ = evalOps P T ρ ops r (σ.put o.dst (.tup [])) := rfl
theorem runE_s {p : Prop} {r : List Oper} : runE P T ρ ops (some (σ, p)) r = runP p (evalOps P T ρ ops r σ) := rfl
theorem runP_s {p q : Prop} : runP p (some (σ, q)) = some (σ, p ∧ q) := rfl
end
section
variable {P : Program} {cx : Cx} {w0 w : World} {σ σ' σ1 : St} {a : Act} {ro : Option Nat} {n : Nat} {Px : Px P} {ops : Array Oper} {T : Tab} {ρ : Nat → List R}
theorem evalPart_ok (hzt : T = Px.tab) {Q : Exit → Act → World → Prop} {rest : List Nat} : ∀ (l : List Oper) (i : Nat) {σ σ' : St} {p : Prop} {a : Act} {w : World}, (∀ j, j < l.length → ops[i + j]? = l[j]?) → Rel cx w0 σ a w → evalOps P T ρ ops l σ = some (σ', p) → p →
 (∀ a' w', Rel cx w0 σ' a' w' → wpOpsIn (FF ro) n P ops Q rest a' w') → wpOpsIn (FF ro) n P ops Q (List.range' i l.length ++ rest) a w
 | [], i, σ, σ', p, a, w, hl, h, he, hp, hQ => by
   rw [evalOps] at he
   cases he
   exact hQ a w h
 | o :: r, i, σ, σ', p, a, w, hl, h, he, hp, hQ => by
   rw [evalOps] at he
   rw [List.length_cons, List.range'_succ, List.cons_append]
   have h0 : ops[i]? = some o := by have := hl 0 (by simp); simpa using this
   have hr : ∀ j, j < r.length → ops[i + 1 + j]? = r[j]? := fun j hj => by have := hl (j + 1) (by simp; omega); rw [Nat.add_assoc, Nat.add_comm 1 j]; simpa using this
   simp only [wpOpsIn, h0]
   split at he
   ·next hw =>
    rw [want_ok h hw, if_pos rfl]
    split at he
    ·next σ1 p1 h1 =>
     split at he
     ·next σ2 p2 h2 =>
      cases he
      exact evalOp_ok (Px := Px) hzt h h1 hp.1 fun a' w' hr' => evalPart_ok hzt r (i + 1) hr hr' h2 hp.2 hQ
     ·cases he
    ·cases he
   ·next hw =>
    rw [want_ok h hw, if_neg (by simp)]
    exact ⟨fun _ _ => trivial, evalPart_ok hzt r (i + 1) hr (rel_undef h) he hp hQ⟩
   ·cases he
end
def runOp (P : Program) (T : Tab) (call : FuncId → List Arg → Option (List R)) (σ : St) (o : Oper) : Option (St × Option (List R)) :=
 match o.op with
 | .call c => match c.callee with
   | .value x => match calleeA T σ.at (σ.opv x), toArgs P σ.at σ.opv c.args.toList c.argTypes.toList with
     | some (f, fs, ls, _), some (as, _) => (match call f (fs ++ as ++ ls) with
       | some rs => (evalOp P T (fun _ => rs) σ o).map fun x => (x.1, some rs)
       | none => none)
     | _, _ => none
   | .invoke x m => match invokeA T m (σ.opv x), toArgs P σ.at σ.opv c.args.toList c.argTypes.toList with
     | some (f, fs, ls, _), some (as, _) => (match call f (fs ++ as ++ ls) with
       | some rs => (evalOp P T (fun _ => rs) σ o).map fun x => (x.1, some rs)
       | none => none)
     | _, _ => none
   | _ => (evalOp P T (fun _ => []) σ o).map fun x => (x.1, none)
 | _ => (evalOp P T (fun _ => []) σ o).map fun x => (x.1, none)
def runOps (P : Program) (T : Tab) (call : FuncId → List Arg → Option (List R)) (ops : Array Oper) : List Oper → St → List (Nat × List R) → Option (St × List (Nat × List R))
 | [], σ, l => some (σ, l)
 | o :: r, σ, l => match wantA ops σ o with
   | some true => (match runOp P T call σ o with
     | some (σ', some rs) => (match o.dst with
       | some d => if (l.all fun p => p.1 != d) = true then runOps P T call ops r σ' ((d, rs) :: l) else none
       | none => none)
     | some (σ', none) => runOps P T call ops r σ' l
     | none => none)
   | some false => runOps P T call ops r (σ.put o.dst (.tup [])) l
   | none => none
def newLetter (σ : St) : Nat := σ.mem.foldl (fun m p => max m p.1) 100000 + 1
def freshen (σ : St) : List Nat → Option St
 | [] => some σ
 | d :: r => if σ.freshB d = true then freshen σ r else
   if d ≠ newLetter σ ∧ σ.freshB (newLetter σ) = true ∧ (σ.mem.all fun p => p.1 != newLetter σ) = true then freshen (σ.ren d (newLetter σ)) r else none
def wanted (ops : Array Oper) : List Nat := ops.toList.flatMap fun o => letters (fun _ => []) o
def keysOf {α : Type} : List (Nat × α) → List Nat → List Nat
 | [], l => l
 | p :: r, l => if l.contains p.1 then keysOf r l else keysOf r (p.1 :: l)
def St.tidy (σ : St) : St := σ.keep (keysOf σ.env []) (keysOf σ.mem [])
def flags (ops : Array Oper) : List (Nat × Nat) :=
 (List.range ops.size).flatMap fun i => (List.range i).filterMap fun k => match ops[k]?, ops[i]? with
   | some ok, some oi => if direct ops k i || statSite ok oi then none else some (k, i)
   | _, _ => none
def iter (f : St → Option (Exit × St)) : Nat → St → Option (Exit × St)
 | 0, _ => none
 | n + 1, σ => match f σ with
   | some (.normal, σ') => iter f n σ'.tidy
   | r => r
def runC (P : Program) (T : Tab) (call : FuncId → List Arg → Option (List R)) (fuel : Nat) : Code → St → Option (Exit × St)
 | .skip, σ => some (.normal, σ)
 | .ret, σ => some (.ret, σ)
 | .exit id, σ => some (.exit id, σ)
 | .seq x y, σ => match runC P T call fuel x σ with
   | some (.normal, σ') => runC P T call fuel y σ'
   | r => r
 | .cond b x y, σ => match σ.opv b with
   | .v _ (.bool true) => runC P T call fuel x σ
   | .v _ (.bool false) => runC P T call fuel y σ
   | _ => none
 | .block id c, σ => match runC P T call fuel c σ with
   | some (.exit id', σ') => if id' = id then some (.normal, σ') else some (.exit id', σ')
   | r => r
 | .loop c, σ => iter (fun σ => runC P T call fuel c σ) fuel σ
 | .region _ ops draws, σ => match freshen σ (wanted ops) with
   | some σ => (match runOps P T call ops ops.toList σ [] with
   | some (σ', l) => if draws = true then (if drawS ops σ.nt (flags ops) = true ∧ disjL (ops.toList.map (letters (look l))) = true ∧ (ops.toList.map (letters (look l))).all (fun l => l.all σ.freshB) = true ∧ flOk (trc P T (look l) ops ops.toList σ) (flags ops) = true then some (.normal, σ') else none) else some (.normal, σ')
   | none => none)
   | none => none
 | _, _ => none
def readR (P : Program) (at_ : Nat → Blk) (t : TypeId) : AV → Option R
 | .v nw x => some (.v nw x)
 | .nil => (esz P t).map fun z => .v true (.sl z [])
 | .emp _ => (esz P t).map fun z => .v true (.sl z [])
 | .own s off len => match at_ s with
   | .buf _ z nw ys => some (.v nw (.sl z ((ys.drop off).take len)))
   | _ => none
 | _ => none
def readAll (P : Program) (at_ : Nat → Blk) : List TypeId → List AV → Option (List R)
 | [], [] => some []
 | t :: ts, X :: l => match readR P at_ t X, readAll P at_ ts l with
   | some r, some rs => some (r :: rs)
   | _, _ => none
 | _, _ => none
def runF (P : Program) (T : Tab) (ext : FuncId → List Arg → Option (List R)) (fuel : Nat) : Nat → FuncId → List Arg → Option (List R)
 | 0, _, _ => none
 | n + 1, f, as => match ext f as with
   | some rs => some rs
   | none => match P.funcs[f]? with
     | some fn => if (fn.name == "runtime.NumGoroutine") = false then (match fn.body with
       | some c => (match runC P T (runF P T ext fuel n) fuel c (entry fn.ntmps as) with
         | some (.ret, σ) => (resAVs P σ.at σ.get fn.results.toList).bind (readAll P σ.at fn.resultTypes.toList)
         | some (.normal, σ) => (resAVs P σ.at σ.get fn.results.toList).bind (readAll P σ.at fn.resultTypes.toList)
         | _ => none)
       | none => none) else none
     | none => none
section
variable {P : Program} {T : Tab} {at_ : Nat → Blk} {g : Operand → AV} {ρ ρ' : Nat → List R} {o : Oper} {σ σ' : St} {ops : Array Oper} {call : FuncId → List Arg → Option (List R)}
theorem readR_ok {t : TypeId} {X : AV} {r : R} (h : readR P at_ t X = some r) : retOne at_ [] X r ∧ r.blks = [] := by
 cases X <;> simp only [readR] at h
 case v nw x => cases h; exact ⟨by simp [retOne], rfl⟩
 case nil =>
  simp only [Option.map_eq_some_iff] at h
  obtain ⟨z, _, rfl⟩ := h
  exact ⟨rfl, rfl⟩
 case emp b =>
  simp only [Option.map_eq_some_iff] at h
  obtain ⟨z, _, rfl⟩ := h
  exact ⟨rfl, rfl⟩
 case own s off len =>
  split at h
  ·next e z nw ys hat =>
   cases h
   refine ⟨?_, rfl⟩
   simp only [retOne, hat]
   exact ⟨trivial, trivial, id, rfl⟩
  ·cases h
 all_goals cases h
theorem readAll_ok : ∀ {ts : List TypeId} {Xs : List AV} {rs : List R}, readAll P at_ ts Xs = some rs → retAll at_ [] Xs rs ∧ R.mems rs = []
 | [], [], rs, h => by rw [readAll] at h; cases h; exact ⟨trivial, rfl⟩
 | t :: ts, X :: l, rs, h => by
   rw [readAll] at h
   split at h
   ·next r rs' h1 h2 =>
    cases h
    obtain ⟨k1, k2⟩ := readR_ok h1
    obtain ⟨k3, k4⟩ := readAll_ok h2
    exact ⟨⟨k1, k3⟩, by rw [R.mems, k2, k4]; rfl⟩
   ·cases h
 | [], _ :: _, _, h => by rw [readAll] at h; cases h; all_goals simp
 | _ :: _, [], _, h => by rw [readAll] at h; cases h; all_goals simp
theorem retOk_of {fn : Func} {rs : List R} (h : (resAVs P σ.at σ.get fn.results.toList).bind (readAll P σ.at fn.resultTypes.toList) = some rs) : RetOk P fn σ rs := by
 rw [Option.bind_eq_some_iff] at h
 obtain ⟨Xs, h1, h2⟩ := h
 obtain ⟨k1, k2⟩ := readAll_ok h2
 exact ⟨Xs, [], h1, k1, by rw [R.names, k2]; exact List.nodup_nil, List.nodup_nil, rfl⟩
theorem effOp_res (h : ∀ d, o.dst = some d → ρ d = ρ' d) : effOp P T ρ at_ g o = effOp P T ρ' at_ g o := by
 unfold effOp
 cases ho : o.op <;> try rfl
 next c =>
 obtain ⟨callee, args, ats⟩ := c
 cases callee
 case builtin b => cases b <;> rfl
 all_goals
  simp only
  cases hd : o.dst with
  | none => rfl
  | some d => simp only [callA, h d hd]
theorem letters_res (h : ∀ d, o.dst = some d → ρ d = ρ' d) : letters ρ o = letters ρ' o := by
 unfold letters
 cases ho : o.op <;> try rfl
 next c =>
 obtain ⟨callee, args, ats⟩ := c
 cases callee
 case builtin b => cases b <;> rfl
 all_goals
  simp only
  cases hd : o.dst with
  | none => rfl
  | some d => simp only [h d hd]
theorem evalOp_res (h : ∀ d, o.dst = some d → ρ d = ρ' d) : evalOp P T ρ σ o = evalOp P T ρ' σ o := by
 unfold evalOp
 rw [effOp_res h, letters_res h]
def valueCall (o : Oper) : Bool := match o.op with
 | .call c => (match c.callee with
   | .value _ => true
   | .invoke _ _ => true
   | _ => false)
 | _ => false
theorem effOp_noRes (h : valueCall o = false) : effOp P T ρ at_ g o = effOp P T ρ' at_ g o ∧ letters ρ o = letters ρ' o := by
 unfold valueCall at h
 unfold effOp letters
 cases ho : o.op <;> rw [ho] at h <;> try exact ⟨rfl, rfl⟩
 next c =>
 obtain ⟨callee, args, ats⟩ := c
 cases callee
 case builtin b => cases b <;> exact ⟨rfl, rfl⟩
 all_goals cases h
theorem evalOp_noRes (h : valueCall o = false) : evalOp P T ρ σ o = evalOp P T ρ' σ o := by
 unfold evalOp
 rw [(effOp_noRes (ρ := ρ) (ρ' := ρ') h).1, (effOp_noRes (P := P) (T := T) (at_ := σ.at) (g := σ.opv) (ρ := ρ) (ρ' := ρ') h).2]
theorem effOp_true (h : valueCall o = false) {e : Eff} (he : effOp P T ρ at_ g o = some e) : e.p := by
 have core : (match o.dst, coreA P at_ g o.op with
  | some _, some X => some (⟨X, [], True⟩ : Eff)
  | _, _ => none) = some e → e.p := by
  intro he
  split at he
  ·cases he; trivial
  ·cases he
 unfold effOp at he
 split at he
 ·split at he
  ·split at he <;> cases he; trivial
  ·cases he
 ·split at he
  ·split at he <;> cases he; trivial
  ·cases he
 ·split at he
  ·split at he
   ·split at he
    ·split at he
     ·split at he <;> cases he <;> trivial
     ·cases he
    ·cases he
   ·cases he
  ·cases he
 ·split at he
  ·split at he
   ·split at he <;> cases he; trivial
   ·cases he
  ·cases he
 ·split at he
  ·cases he; trivial
  ·cases he
 ·split at he
  ·cases he; trivial
  ·cases he
 ·split at he
  ·cases he; trivial
  ·cases he
 ·next c ho =>
  split at he
  ·split at he
   ·split at he
    ·cases he; trivial
    ·cases he
   ·cases he
  ·split at he
   ·split at he
    ·cases he; trivial
    ·cases he
   ·cases he
  ·next x hc => simp [valueCall, ho, hc] at h
  ·next x m hc => simp [valueCall, ho, hc] at h
  ·exact core he
 ·exact core he
theorem evalOp_true (h : valueCall o = false) {p : Prop} (he : evalOp P T ρ σ o = some (σ', p)) : p := by
 unfold evalOp at he
 split at he
 ·next e hef =>
  split at he <;> cases he
  exact effOp_true h hef
 ·cases he
theorem evalOp_call {c : Call} {ca : Option (FuncId × List Arg × List Arg × Bool)} (hcall : ∀ f as rs, call f as = some rs → FnOk P f as rs) (hef : effOp P T ρ σ.at σ.opv o = (match o.dst with
 | some d => callA P ρ d ca (toArgs P σ.at σ.opv c.args.toList c.argTypes.toList)
 | none => none)) {f : FuncId} {fs ls as : List Arg} {ow ow' : Bool} {rs : List R} (h1 : ca = some (f, fs, ls, ow)) (h2 : toArgs P σ.at σ.opv c.args.toList c.argTypes.toList = some (as, ow')) (h3 : call f (fs ++ as ++ ls) = some rs) (hρ : ∀ d, ρ d = rs) {p : Prop}
 (he : evalOp P T ρ σ o = some (σ', p)) : p := by
 unfold evalOp at he
 split at he
 ·next e hE =>
  split at he <;> cases he
  rw [hef, h1, h2] at hE
  split at hE
  ·next d hd =>
   unfold callA at hE
   simp only at hE
   split at hE <;> cases hE
   rw [hρ d]
   exact hcall _ _ _ h3
  ·cases hE
 ·cases he
theorem runOp_ok (hcall : ∀ f as rs, call f as = some rs → FnOk P f as rs) {r : Option (List R)} (h : runOp P T call σ o = some (σ', r)) :
 (r = none ∧ valueCall o = false ∧ ∃ p, evalOp P T (fun _ => []) σ o = some (σ', p) ∧ p) ∨ ∃ rs, r = some rs ∧ ∃ p, evalOp P T (fun _ => rs) σ o = some (σ', p) ∧ p := by
 have plain : valueCall o = false → ((evalOp P T (fun _ => []) σ o).map fun x => (x.1, (none : Option (List R)))) = some (σ', r) → (r = none ∧ valueCall o = false ∧ ∃ p, evalOp P T (fun _ => []) σ o = some (σ', p) ∧ p) := by
  intro hv h
  simp only [Option.map_eq_some_iff] at h
  obtain ⟨⟨σ1, p⟩, h1, h2⟩ := h
  cases h2
  exact ⟨rfl, hv, p, h1, evalOp_true hv h1⟩
 unfold runOp at h
 split at h
 ·next c ho =>
  split at h
  ·next x hc =>
   split at h
   ·next f fs ls ow as ow' h1 h2 =>
    split at h
    ·next rs h3 =>
     simp only [Option.map_eq_some_iff] at h
     obtain ⟨⟨σ1, p⟩, h4, h5⟩ := h
     cases h5
     exact .inr ⟨rs, rfl, p, h4, evalOp_call (c := c) hcall (by unfold effOp; rw [ho]; simp only [hc]; cases o.dst <;> rfl) h1 h2 h3 (fun _ => rfl) h4⟩
    ·cases h
   ·cases h
  ·next x m hc =>
   split at h
   ·next f fs ls ow as ow' h1 h2 =>
    split at h
    ·next rs h3 =>
     simp only [Option.map_eq_some_iff] at h
     obtain ⟨⟨σ1, p⟩, h4, h5⟩ := h
     cases h5
     exact .inr ⟨rs, rfl, p, h4, evalOp_call (c := c) hcall (by unfold effOp; rw [ho]; simp only [hc]; cases o.dst <;> rfl) h1 h2 h3 (fun _ => rfl) h4⟩
    ·cases h
   ·cases h
  ·next h1 h2 => exact .inl (plain (by unfold valueCall; rw [ho]; obtain ⟨callee, args, ats⟩ := c; cases callee <;> first | rfl | (exact absurd rfl (h1 _)) | (exact absurd rfl (h2 _ _))) h)
 ·next h1 => exact .inl (plain (by unfold valueCall; split <;> first | rfl | (next c hc => exact absurd hc (h1 c))) h)
theorem runOps_ok (hcall : ∀ f as rs, call f as = some rs → FnOk P f as rs) : ∀ {l : List Oper} {σ σ' : St} {L L' : List (Nat × List R)}, runOps P T call ops l σ L = some (σ', L') → (L.map (·.1)).Nodup →
 (∀ q ∈ L, q ∈ L') ∧ (L'.map (·.1)).Nodup ∧ ∀ ρ : Nat → List R, (∀ q ∈ L', ρ q.1 = q.2) → ∃ p, evalOps P T ρ ops l σ = some (σ', p) ∧ p
 | [], σ, σ', L, L', h, hn => by
   rw [runOps] at h
   cases h
   exact ⟨fun _ h => h, hn, fun ρ _ => ⟨True, rfl, trivial⟩⟩
 | o :: r, σ, σ', L, L', h, hn => by
   rw [runOps] at h
   split at h
   ·next hw =>
    split at h
    ·next σ1 rs h1 =>
     split at h
     ·next d hd =>
      split at h
      ·next hall =>
       obtain ⟨k1, k2, k3⟩ := runOps_ok hcall h (by
        rw [List.map_cons, List.nodup_cons]
        refine ⟨fun hin => ?_, hn⟩
        obtain ⟨q, hq, he⟩ := List.mem_map.1 hin
        have := List.all_eq_true.1 hall q hq
        simp [he] at this)
       refine ⟨fun q hq => k1 q (by simp [hq]), k2, fun ρ hρ => ?_⟩
       obtain ⟨p2, e2, hp2⟩ := k3 ρ hρ
       rcases runOp_ok hcall h1 with ⟨hr, _⟩ | ⟨rs', hr, p1, e1, hp1⟩
       ·cases hr
       ·cases hr
        have e1' : evalOp P T ρ σ o = some (σ1, p1) := by
         rw [← e1]
         refine evalOp_res fun d' hd' => ?_
         rw [hd] at hd'
         cases hd'
         exact hρ (d, rs) (k1 _ (by simp))
        exact ⟨p1 ∧ p2, by rw [evalOps, hw]; simp only [e1', e2], hp1, hp2⟩
      ·cases h
     ·cases h
    ·next σ1 h1 =>
     obtain ⟨k1, k2, k3⟩ := runOps_ok hcall h hn
     refine ⟨k1, k2, fun ρ hρ => ?_⟩
     obtain ⟨p2, e2, hp2⟩ := k3 ρ hρ
     rcases runOp_ok hcall h1 with ⟨_, hv, p1, e1, hp1⟩ | ⟨rs', hr, _⟩
     ·have e1' : evalOp P T ρ σ o = some (σ1, p1) := by rw [← e1]; exact evalOp_noRes hv
      exact ⟨p1 ∧ p2, by rw [evalOps, hw]; simp only [e1', e2], hp1, hp2⟩
     ·cases hr
    ·cases h
   ·next hw =>
    obtain ⟨k1, k2, k3⟩ := runOps_ok hcall h hn
    refine ⟨k1, k2, fun ρ hρ => ?_⟩
    obtain ⟨p2, e2, hp2⟩ := k3 ρ hρ
    exact ⟨p2, by rw [evalOps, hw]; exact e2, hp2⟩
   ·cases h
theorem look_nodupR {l : List (Nat × List R)} {q : Nat × List R} (hn : (l.map (·.1)).Nodup) (h : q ∈ l) : look l q.1 = q.2 := by
 induction l with
 | nil => cases h
 | cons p r ih =>
   rw [List.map_cons, List.nodup_cons] at hn
   rw [look]
   rcases List.mem_cons.1 h with rfl | h
   ·rw [if_pos rfl]
   ·rw [if_neg (fun he => hn.1 (by rw [he]; exact List.mem_map.2 ⟨q, h, rfl⟩)), ih hn.2 h]
variable {cx : Cx} {w0 : World} {Px : Px P}
theorem iter_ok {c : Code} {f : St → Option (Exit × St)} (hf : ∀ σ e σ', f σ = some (e, σ') → Holds P none cx w0 c σ (fun e' τ => e' = e ∧ τ = σ')) {n : Nat} {σ : St} {e : Exit} {σ' : St} (h : iter f n σ = some (e, σ')) : Holds P none cx w0 (.loop c) σ (fun e' τ => e' = e ∧ τ = σ') := by
 refine Holds.loop (fun i : Nat × St => i.2) (fun i => iter f i.1 i.2 = some (e, σ')) (fun i => i.1) (n, σ) h (fun _ _ hr => hr) ?_
 rintro ⟨k, τ⟩ hk
 cases k with
 | zero => rw [iter] at hk; cases hk
 | succ k =>
   rw [iter] at hk
   split at hk
   ·next τ' hτ =>
    refine (hf τ .normal τ' hτ).mono ?_
    rintro e' τ2 ⟨rfl, rfl⟩
    exact ⟨(k, τ2.tidy), hk, Nat.lt_succ_self k, fun _ _ hr => Rel.keep _ _ hr⟩
   ·next hne =>
    refine (hf τ e σ' hk).mono ?_
    rintro e' τ2 ⟨rfl, rfl⟩
    cases e' with
    | normal => exact absurd hk (hne τ2)
    | _ => exact ⟨rfl, rfl⟩
theorem freshen_ok {ds : List Nat} : ∀ {σ σ' : St}, freshen σ ds = some σ' → ∀ a w, Rel cx w0 σ a w → Rel cx w0 σ' a w := by
 induction ds with
 | nil => intro σ σ' h a w hr; rw [freshen] at h; cases h; exact hr
 | cons d r ih =>
   intro σ σ' h a w hr
   rw [freshen] at h
   split at h
   ·exact ih h a w hr
   ·split at h
    ·next hc => exact ih h a w (Rel.ren hr hc.1 hc.2.1 hc.2.2)
    ·cases h
theorem runC_ok (hT : T = Px.tab) (hm : P.follows .mixedOrders = true) (hcall : ∀ f as rs, call f as = some rs → FnOk P f as rs) {fuel : Nat} : ∀ (c : Code) {σ : St} {e : Exit} {σ' : St}, runC P T call fuel c σ = some (e, σ') → Holds P none cx w0 c σ (fun e' τ => e' = e ∧ τ = σ')
 | .skip, σ, e, σ', h => by rw [runC] at h; cases h; exact Holds.skip ⟨rfl, rfl⟩
 | .ret, σ, e, σ', h => by rw [runC] at h; cases h; exact Holds.ret ⟨rfl, rfl⟩
 | .exit id, σ, e, σ', h => by rw [runC] at h; cases h; exact Holds.exit ⟨rfl, rfl⟩
 | .seq x y, σ, e, σ', h => by
   rw [runC] at h
   refine Holds.seq ?_
   split at h
   ·next τ hx =>
    refine (runC_ok hT hm hcall x hx).mono ?_
    rintro e' τ2 ⟨rfl, rfl⟩
    exact runC_ok hT hm hcall y h
   ·next hne =>
    refine (runC_ok hT hm hcall x h).mono ?_
    rintro e' τ2 ⟨rfl, rfl⟩
    cases e' with
    | normal => exact absurd h (hne τ2)
    | _ => exact ⟨rfl, rfl⟩
 | .cond b x y, σ, e, σ', h => by
   rw [runC] at h
   split at h
   ·next nw hb => exact Holds.condT hb (runC_ok hT hm hcall x h)
   ·next nw hb => exact Holds.condF hb (runC_ok hT hm hcall y h)
   ·cases h
 | .block id c, σ, e, σ', h => by
   rw [runC] at h
   refine Holds.block ?_
   split at h
   ·next id' τ hx =>
    refine (runC_ok hT hm hcall c hx).mono ?_
    rintro e' τ2 ⟨rfl, rfl⟩
    show (if _ then _ else _)
    split at h
    ·next hid => cases h; rw [if_pos hid]; exact ⟨rfl, rfl⟩
    ·next hid => cases h; rw [if_neg hid]; exact ⟨rfl, rfl⟩
   ·next hne =>
    refine (runC_ok hT hm hcall c h).mono ?_
    rintro e' τ2 ⟨rfl, rfl⟩
    cases e' with
    | exit id' => exact absurd h (hne id' τ2)
    | _ => exact ⟨rfl, rfl⟩
 | .loop c, σ, e, σ', h => by
   rw [runC] at h
   exact iter_ok (fun σ e σ' h => runC_ok hT hm hcall c h) h
 | .region id ops draws, σ, e, σ', h => by
   rw [runC] at h
   split at h
   ·next σ1 hfr =>
    refine Holds.from (freshen_ok hfr) ?_
    split at h
    ·next τ L hx =>
     obtain ⟨_, k2, k3⟩ := runOps_ok hcall hx List.nodup_nil
     obtain ⟨p, e1, hp⟩ := k3 (look L) fun q hq => look_nodupR k2 hq
     split at h
     ·next hd =>
      subst hd
      split at h <;> cases h
      next hs => exact Holds.dregion (Px := Px) (flags ops) hm hs.1 hT e1 hp hs.2.1 hs.2.2.1 hs.2.2.2 ⟨rfl, rfl⟩
     ·next hd =>
      cases h
      have : draws = false := by simpa using hd
      subst this
      exact Holds.region (Px := Px) hT e1 hp ⟨rfl, rfl⟩
    ·cases h
   ·cases h
 | .rangeFunc _ _ _ _, _, _, _, h => by simp [runC] at h
 | .goto _, _, _, _, h => by simp [runC] at h
theorem runF_ok (hT : T = Px.tab) (hm : P.follows .mixedOrders = true) {ext : FuncId → List Arg → Option (List R)} (hext : ∀ f as rs, ext f as = some rs → FnOk P f as rs) {fuel : Nat} : ∀ (n : Nat) (f : FuncId) (as : List Arg) (rs : List R), runF P T ext fuel n f as = some rs → FnOk P f as rs
 | 0, _, _, _, h => by rw [runF] at h; cases h
 | n + 1, f, as, rs, h => by
   rw [runF] at h
   split at h
   ·next rs' he => cases h; exact hext f as rs he
   ·split at h
    ·next fn hf =>
     split at h
     ·next hname =>
      split at h
      ·next c hb =>
       have go : ∀ σ e, (e = .ret ∨ e = .normal) → runC P T (runF P T ext fuel n) fuel c (entry fn.ntmps as) = some (e, σ) → (resAVs P σ.at σ.get fn.results.toList).bind (readAll P σ.at fn.resultTypes.toList) = some rs → FnOk P f as rs := fun σ e he hc hr =>
        FnOk.of hf hb hname fun cx w0 => (runC_ok (Px := Px) hT hm (runF_ok hT hm hext n) c hc).mono fun e' τ ⟨h1, h2⟩ => by
         subst h1; subst h2
         rcases he with rfl | rfl
         ·exact retOk_of hr
         ·exact retOk_of hr
       split at h
       ·next σ hc => exact go σ .ret (.inl rfl) hc h
       ·next σ hc => exact go σ .normal (.inr rfl) hc h
       ·cases h
      ·cases h
     ·cases h
    ·cases h
end
section
variable {P : Program} {cx : Cx} {w0 : World} {σ σ' τ : St} {ro : Option Nat} {Px : Px P} {ops : Array Oper} {T : Tab} {ρ : Nat → List R} {c x y : Code} {Q Q' : Exit → St → Prop} {a : Act} {w : World}
theorem Rel.less (ts : List Nat) {mem' : List (Nat × Blk)} (hm : ∀ s, look mem' s = σ.at s) (h : Rel cx w0 σ a w) : Rel cx w0 { nt := σ.nt, env := ts.map fun t => (t, σ.get t), mem := mem', root := σ.root, fix := σ.fix, defs := σ.defs } a w := by
 obtain ⟨hd, μ, h⟩ := h
 have ea : St.at { nt := σ.nt, env := ts.map fun t => (t, σ.get t), mem := mem', root := σ.root, fix := σ.fix, defs := σ.defs } = σ.at := funext hm
 refine ⟨hd, μ, h.below, h.hB, h.gl, h.size, h.sites, fun s => by rw [ea]; exact h.mem s, fun t => ?_, fun p hp => by rw [ea]; exact h.roots p hp, h.fix⟩
 rw [ea]
 by_cases ht : t ∈ ts
 ·rw [show St.get { nt := σ.nt, env := ts.map fun t => (t, σ.get t), mem := mem', root := σ.root, fix := σ.fix, defs := σ.defs } t = σ.get t from look_map ht]
  exact h.env t
 ·rw [show St.get { nt := σ.nt, env := ts.map fun t => (t, σ.get t), mem := mem', root := σ.root, fix := σ.fix, defs := σ.defs } t = .undef from look_map_out ht, RepA]
  trivial
def trcE (P : Program) (T : Tab) (ρ : Nat → List R) (ops : Array Oper) (o : Oper) (r : List Oper) (σ : St) : Option Eff → List (List Nat × List Nat)
 | some e => ((e.ms.map (·.1)).filter (fun s => !(letters ρ o).contains s), opSites σ.opv o) :: trc P T ρ ops r (app σ o e)
 | none => []
def effW (P : Program) (T : Tab) (ρ : Nat → List R) (σ : St) (o : Oper) : Option Bool → Option Eff
 | some true => effOp P T ρ σ.at σ.opv o
 | some false => some ⟨.tup [], [], True⟩
 | none => none
def sitesOf (g : Operand → AV) : List Operand → List Nat
 | [] => []
 | x :: r => (g x).sites ++ sitesOf g r
theorem opSites_eq {g : Operand → AV} {o : Oper} : opSites g o = sitesOf g o.op.operands.toList := by
 unfold opSites
 induction o.op.operands.toList with
 | nil => rfl
 | cons x r ih => rw [List.flatMap_cons, sitesOf, ih]
theorem trc_nil : trc P T ρ ops [] σ = [] := rfl
theorem trc_cons {o : Oper} {r : List Oper} : trc P T ρ ops (o :: r) σ = trcE P T ρ ops o r σ (effW P T ρ σ o (wantA ops σ o)) := by
 rw [trc, effG]
 cases wantA ops σ o with
 | none => rfl
 | some b => cases b <;> rfl
theorem effW_t {o : Oper} : effW P T ρ σ o (some true) = effOp P T ρ σ.at σ.opv o := rfl
theorem effW_f {o : Oper} : effW P T ρ σ o (some false) = some ⟨.tup [], [], True⟩ := rfl
theorem trcE_s {o : Oper} {r : List Oper} {X : AV} {ms : List (Nat × Blk)} {p : Prop} : trcE P T ρ ops o r σ (some ⟨X, ms, p⟩) = ((ms.map (·.1)).filter (fun s => !(letters ρ o).contains s), opSites σ.opv o) :: trc P T ρ ops r ((σ.upd ms).put o.dst X) := rfl
theorem Holds.dregionT {id : Nat} {p : Prop} {t : List (List Nat × List Nat)} (fl : List (Nat × Nat)) (hm : P.follows .mixedOrders = true) (hs : drawS ops σ.nt fl = true) (hzt : T = Px.tab) (he : evalOps P T ρ ops ops.toList σ = some (σ', p)) (hp : p)
 (hl : disjL (ops.toList.map (letters ρ)) = true) (hf : (ops.toList.map (letters ρ)).all (fun l => l.all σ.freshB) = true) (ht : trc P T ρ ops ops.toList σ = t) (hfl : flOk t fl = true)
 (h : Q .normal σ') : Holds P ro cx w0 (Code.region id ops true) σ Q :=
 Holds.dregion (Px := Px) fl hm hs hzt he hp hl hf (by rw [ht]; exact hfl) h
theorem RetOk.vs {fn : Func} {rs : List R} {Xs : List AV} (h : resAVs P σ.at σ.get fn.results.toList = some Xs) (hr : retAll σ.at [] Xs rs) (hn : R.names rs = []) : RetOk P fn σ rs :=
 ⟨Xs, [], h, hr, by rw [hn]; exact List.nodup_nil, List.nodup_nil, rfl⟩
end
mutual
def AV.frz (s z : Nat) (nw : Bool) (xs : List V) : AV → AV
 | .own t o l => if t = s then .v nw (.sl z ((xs.drop o).take l)) else .own t o l
 | .tup ys => .tup (AV.frzs s z nw xs ys)
 | .fn f ys => .fn f (AV.frzs s z nw xs ys)
 | .mth m x => .mth m (x.frz s z nw xs)
 | .v nw x => .v nw x
 | .nil => .nil
 | .ptr t i p o => .ptr t i p o
 | .el nw x => .el nw x
 | .knot nw f x => .knot nw f x
 | .yld b => .yld b
 | .emp b => .emp b
 | .bsl t n => .bsl t n
 | .undef => .undef
def AV.frzs (s z : Nat) (nw : Bool) (xs : List V) : List AV → List AV
 | [] => []
 | x :: r => x.frz s z nw xs :: AV.frzs s z nw xs r
end
def Blk.frz (s z : Nat) (nw : Bool) (xs : List V) : Blk → Blk
 | .box e x => .box e (x.frz s z nw xs)
 | b => b
section
variable {P : Program} {cx : Cx} {w0 w : World} {σ : St} {a : Act} {μ μ' : Sites} {at_ at' : Nat → Blk} {s z : Nat} {nw : Bool} {xs : List V} {e : TypeId}
theorem own_frz (hS : SitesOk cx w μ) (hsub : ∀ t b c, μ' t = some (b, c) → t ≠ s ∧ μ t = some (b, c)) (hG : Goes w μ w μ') (hb : RepB cx w μ at_ s (.buf e z nw xs)) (hat : at_ s = .buf e z nw xs) {off len : Nat} {v : Value}
 (hv : RepA cx w μ at_ (.own s off len) v) : RepA cx w μ' at' (.v nw (.sl z ((xs.drop off).take len))) v := by
 rw [RepA, hat] at hv
 rw [RepA]
 refine ⟨[v], ?_, rfl⟩
 rw [Rep]
 rw [RepB] at hb
 rcases hv with ⟨b, cap, g1, g2, g3⟩ | ⟨g1, rfl, rfl, rfl, g3⟩
 ·rcases hb with ⟨q1, _⟩ | ⟨b', cap', cur, m1, m2, m3, m4, m5, m6⟩
  ·rw [g1] at q1; cases q1
  rw [g1] at m1
  cases m1
  have hlen : ((xs.drop off).take len).length = len := by simp; omega
  have hlo := hS.lo s b cap g1
  refine .inr ⟨b, off * z, cap - off, by omega, ⟨hlo.2, fun t c ht => ?_, .inl hlo.1⟩, by rw [g3, hlen], ?_⟩
  ·obtain ⟨k1, k2⟩ := hsub t b c ht
   exact k1 (hS.inj t s b c cap k2 g1)
  ·have hr := RepRow.take (RepRow.drop m6 off) len
   rw [Nat.zero_add] at hr
   obtain ⟨cs, k1, k2⟩ := RepRow.flat hr
   exact RepF.row (RepF.map (fun h => Rep.goes hG h) k1) k2
 ·exact .inl ⟨by simp, _, _, by rw [g3]⟩
mutual
theorem frz_ok (hS : SitesOk cx w μ) (hsub : ∀ t b c, μ' t = some (b, c) → t ≠ s ∧ μ t = some (b, c)) (hG : Goes w μ w μ') (hb : RepB cx w μ at_ s (.buf e z nw xs)) (hat : at_ s = .buf e z nw xs)
 (hfit : ∀ t, at' t = .dead ∨ (μ' t = μ t ∧ (at_ t).fits (at' t))) : ∀ {X : AV} {v : Value}, RepA cx w μ at_ X v → RepA cx w μ' at' (X.frz s z nw xs) v
 | .own t o l, v, h => by
   rw [AV.frz]
   split
   ·next ht => subst ht; exact own_frz hS hsub hG hb hat h
   ·exact RepA.goes hG (fun t _ => hfit t) h
 | .tup ys, v, h => by
   rw [AV.frz]
   rw [RepA] at h ⊢
   obtain ⟨vs, h1, h2⟩ := h
   exact ⟨vs, h1, frzs_ok hS hsub hG hb hat hfit h2⟩
 | .fn f ys, v, h => by
   rw [AV.frz]
   rw [RepA] at h ⊢
   obtain ⟨vs, h1, h2⟩ := h
   exact ⟨vs, h1, frzs_ok hS hsub hG hb hat hfit h2⟩
 | .mth m x, v, h => by
   rw [AV.frz]
   rw [RepA] at h ⊢
   obtain ⟨u, h1, h2⟩ := h
   exact ⟨u, h1, frz_ok hS hsub hG hb hat hfit h2⟩
 | .v _ _, v, h => by rw [AV.frz]; exact RepA.goes hG (fun t _ => hfit t) h
 | .nil, v, h => by rw [AV.frz]; exact RepA.goes hG (fun t _ => hfit t) h
 | .ptr _ _ _ _, v, h => by rw [AV.frz]; exact RepA.goes hG (fun t _ => hfit t) h
 | .el _ _, v, h => by rw [AV.frz]; exact RepA.goes hG (fun t _ => hfit t) h
 | .knot _ _ _, v, h => by rw [AV.frz]; exact RepA.goes hG (fun t _ => hfit t) h
 | .yld _, v, h => by rw [AV.frz]; exact RepA.goes hG (fun t _ => hfit t) h
 | .emp _, v, h => by rw [AV.frz]; exact RepA.goes hG (fun t _ => hfit t) h
 | .bsl _ _, v, h => by rw [AV.frz]; exact RepA.goes hG (fun t _ => hfit t) h
 | .undef, v, h => by rw [AV.frz]; exact RepA.goes hG (fun t _ => hfit t) h
theorem frzs_ok (hS : SitesOk cx w μ) (hsub : ∀ t b c, μ' t = some (b, c) → t ≠ s ∧ μ t = some (b, c)) (hG : Goes w μ w μ') (hb : RepB cx w μ at_ s (.buf e z nw xs)) (hat : at_ s = .buf e z nw xs)
 (hfit : ∀ t, at' t = .dead ∨ (μ' t = μ t ∧ (at_ t).fits (at' t))) : ∀ {Xs : List AV} {vs : List Value}, RepAL cx w μ at_ Xs vs → RepAL cx w μ' at' (AV.frzs s z nw xs Xs) vs
 | [], vs, h => by rw [AV.frzs]; rw [RepAL] at h ⊢; exact h
 | X :: r, vs, h => by
   rw [AV.frzs]
   rw [RepAL] at h ⊢
   obtain ⟨v, vr, h0, h1, h2⟩ := h
   exact ⟨v, vr, h0, frz_ok hS hsub hG hb hat hfit h1, frzs_ok hS hsub hG hb hat hfit h2⟩
end
theorem AV.frz_isV {X : AV} (h : (X.frz s z nw xs).isV = false) : X.isV = false := by
 cases X <;> first | rfl | (rw [AV.frz] at h; exact h)
theorem Rel.freeze (h : Rel cx w0 σ a w) (hat : σ.at s = .buf e z nw xs) :
 Rel cx w0 { nt := σ.nt, env := σ.env.map fun p => (p.1, p.2.frz s z nw xs), mem := (s, .dead) :: σ.mem.map fun p => (p.1, p.2.frz s z nw xs), root := σ.root.map fun p => (p.1.frz s z nw xs, p.2), fix := σ.fix, defs := σ.defs } a w := by
 classical
 obtain ⟨hd, μ, h⟩ := h
 obtain ⟨μ', hμ⟩ : ∃ μ' : Sites, μ' = fun t => if t = s then none else μ t := ⟨_, rfl⟩
 have hsub : ∀ t b c, μ' t = some (b, c) → t ≠ s ∧ μ t = some (b, c) := fun t b c ht => by
  rw [hμ] at ht
  simp only at ht
  split at ht
  ·cases ht
  ·next hne => exact ⟨hne, ht⟩
 have hG : Goes w μ w μ' := ⟨Nat.le_refl _, fun _ _ _ _ hv => hv, fun t b c ht => .inl ⟨t, c, (hsub t b c ht).2⟩, fun _ _ hv _ => hv⟩
 have lm : ∀ (l : List (Nat × Blk)) t, look (l.map fun p => (p.1, p.2.frz s z nw xs)) t = (look l t).frz s z nw xs := by
  intro l t
  induction l with
  | nil => rfl
  | cons p r ih => rw [List.map_cons, look, look]; split <;> first | rfl | exact ih
 have le : ∀ (l : List (Nat × AV)) t, look (l.map fun p => (p.1, p.2.frz s z nw xs)) t = (look l t).frz s z nw xs := by
  intro l t
  induction l with
  | nil => show AV.undef = AV.frz s z nw xs .undef; rw [AV.frz]
  | cons p r ih => rw [List.map_cons, look, look]; split <;> first | rfl | exact ih
 obtain ⟨at', hat'⟩ : ∃ at' : Nat → Blk, at' = fun t => if t = s then .dead else (σ.at t).frz s z nw xs := ⟨_, rfl⟩
 have hat2 : St.at { nt := σ.nt, env := σ.env.map fun p => (p.1, p.2.frz s z nw xs), mem := (s, .dead) :: σ.mem.map fun p => (p.1, p.2.frz s z nw xs), root := σ.root.map fun p => (p.1.frz s z nw xs, p.2), fix := σ.fix, defs := σ.defs } = at' := by
  funext t
  rw [hat']
  show look ((s, Blk.dead) :: _) t = if t = s then Blk.dead else (σ.at t).frz s z nw xs
  rw [look]
  by_cases ht : t = s
  ·rw [if_pos ht.symm, if_pos ht]
  ·rw [if_neg (fun h => ht h.symm), if_neg ht, lm]; rfl
 have hfits : ∀ b : Blk, b.fits (b.frz s z nw xs) := fun b => by cases b <;> simp [Blk.fits, Blk.frz]
 have hfit : ∀ t, at' t = .dead ∨ (μ' t = μ t ∧ (σ.at t).fits (at' t)) := fun t => by
  rw [hat', hμ]
  simp only
  by_cases ht : t = s
  ·rw [if_pos ht]; exact .inl rfl
  ·rw [if_neg ht, if_neg ht]; exact .inr ⟨rfl, hfits _⟩
 have hbuf := h.mem s
 rw [hat] at hbuf
 refine ⟨hd, μ', h.below, h.hB, h.gl, h.size, ⟨fun t b c ht => h.sites.lo t b c (hsub t b c ht).2, fun t1 t2 b c c' h1 h2 => h.sites.inj t1 t2 b c c' (hsub _ _ _ h1).2 (hsub _ _ _ h2).2⟩, fun t => ?_, fun t => ?_, fun p hp => ?_, h.fix⟩
 ·rw [hat2]
  by_cases ht : t = s
  ·rw [show at' t = .dead from by rw [hat']; simp only; rw [if_pos ht]]
   show μ' t = none
   rw [hμ]; simp only; rw [if_pos ht]
  ·rw [show at' t = (σ.at t).frz s z nw xs from by rw [hat']; simp only; rw [if_neg ht]]
   have hm := h.mem t
   have hμt : μ' t = μ t := by rw [hμ]; simp only; rw [if_neg ht]
   cases hb : σ.at t with
   | dead => rw [hb] at hm; exact hμt.trans hm
   | buf e' z' nw' xs' =>
     rw [hb] at hm
     exact RepB.goes hG (fun t _ => hfit t) hμt (fun _ _ _ => rfl) hm
   | box e' X =>
     rw [hb] at hm
     rw [Blk.frz, RepB]
     rw [RepB] at hm
     obtain ⟨b, cap, cur, val, m1, m2, m3, m4, m5⟩ := hm
     exact ⟨b, cap, cur, val, hμt.trans m1, m2, frz_ok h.sites hsub hG hbuf hat hfit m3, m4, fun hv => m5 (AV.frz_isV hv)⟩
 ·rw [hat2, show St.get { nt := σ.nt, env := σ.env.map fun p => (p.1, p.2.frz s z nw xs), mem := (s, .dead) :: σ.mem.map fun p => (p.1, p.2.frz s z nw xs), root := σ.root.map fun p => (p.1.frz s z nw xs, p.2), fix := σ.fix, defs := σ.defs } t = (σ.get t).frz s z nw xs from le _ _]
  exact frz_ok h.sites hsub hG hbuf hat hfit (h.env t)
 ·rw [hat2]
  obtain ⟨q, hq, rfl⟩ := List.mem_map.1 hp
  exact frz_ok h.sites hsub hG hbuf hat hfit (h.roots q hq)
end
def R.young : R → R
 | .v _ x => .v true x
 | r => r
def R.isV : R → Bool
 | .v _ _ => true
 | _ => false
section
variable {P : Program} {cx : Cx} {w0 w w' : World} {σ σ1 : St} {a : Act} {μ : Sites} {ro : Option Nat} {n : Nat} {Px : Px P} {ops : Array Oper} {T : Tab} {ρ : Nat → List R} {o : Oper} {next : Act → World → Prop}
theorem R.mems_v : ∀ {rs : List R}, rs.all R.isV = true → R.mems rs = []
 | [], _ => rfl
 | r :: q, h => by
   rw [List.all_cons, Bool.and_eq_true] at h
   cases r with
   | v nw x => rw [R.mems, R.blks, R.mems_v h.2]; rfl
   | own _ _ _ _ _ => cases h.1
   | clo _ _ => cases h.1
theorem Holds.regionS {Q : Exit → St → Prop} {id k : Nat} {p1 p2 : Prop} {o : Oper} {σ2 : St} (hzt : T = Px.tab) (h1 : evalOps P T ρ ops (ops.toList.take k) σ = some (σ1, p1)) (hp1 : p1) (hk : ops[k]? = some o) (hgd : o.guard = none)
 (h2 : evalOp P T ρ σ1 o = some (σ2, p2)) (hp2 : p2) (hrest : ∃ σ3 p3, evalOps P T ρ ops (ops.toList.drop (k + 1)) σ2 = some (σ3, p3) ∧ p3 ∧ Q .normal σ3) :
 Holds P ro cx w0 (.region id ops false) σ Q := fun a w h => wpIn_region (by
 have hlt : k < ops.size := (Array.getElem?_eq_some_iff.1 hk).1
 have hl1 : (ops.toList.take k).length = k := by rw [List.length_take, Array.length_toList]; omega
 have hl2 : (ops.toList.drop (k + 1)).length = ops.size - (k + 1) := by rw [List.length_drop, Array.length_toList]
 have hr : List.range ops.size = List.range' 0 (ops.toList.take k).length ++ (k :: (List.range' (k + 1) (ops.toList.drop (k + 1)).length ++ [])) := by
  have e := List.range'_append_1 (s := 0) (m := k) (n := ops.size - (k + 1) + 1)
  rw [Nat.zero_add] at e
  rw [hl1, hl2, List.append_nil, List.range_eq_range', ← List.range'_succ, e]
  congr 1
  omega
 rw [hr]
 refine evalPart_ok (Px := Px) (T := T) (ρ := ρ) hzt (ops.toList.take k) 0 (fun j hj => ?_) h h1 hp1 fun a1 w1 hrel => ?_
 ·rw [List.getElem?_take_of_lt (by omega), Nat.zero_add, Array.getElem?_toList]
 ·simp only [wpOpsIn, hk]
  have hw : Region.wanted o (yielded ops a1.tmps) = true := by unfold Region.wanted; rw [hgd]
  rw [hw, if_pos rfl]
  obtain ⟨σ3, p3, h4, h5, h6⟩ := hrest
  refine evalOp_ok (Px := Px) hzt hrel h2 hp2 fun a' w' hrel' => ?_
  refine evalPart_ok (Px := Px) (T := T) (ρ := ρ) hzt (ops.toList.drop (k + 1)) (k + 1) (fun j hj => ?_) hrel' h4 h5 fun a'' w'' hrel'' => ?_
  ·rw [List.getElem?_drop, Array.getElem?_toList]
  ·exact ⟨σ3, h6, hrel''⟩)
def tabIn : Code → Option ByteArray
 | .region _ ops _ => ops.toList.findSome? fun o => match o.op with
   | .index _ (.const (.string s)) _ => some s
   | _ => none
 | .seq x y => match tabIn x with
   | some s => some s
   | none => tabIn y
 | .cond _ x y => match tabIn x with
   | some s => some s
   | none => tabIn y
 | .block _ c => tabIn c
 | .loop c => tabIn c
 | _ => none
def tabOk (tab : ByteArray) (n m : Nat) : Bool := (List.range n).all fun i => match tab[i]? with
 | some b => decide (b.toNat ≤ m)
 | none => false
def bAt (tab : ByteArray) (n : Nat) : Nat := match tab[n]? with
 | some b => b.toNat
 | none => 0
theorem evalOp_tab {tab : ByteArray} {N m t d n : Nat} {nw : Bool} {k : IntKind} {ty : TypeId} (hs : strT P ty = true) (h : tabOk tab N m = true) (ho : o.op = .index ty (.const (.string tab)) (.tmp t)) (hd : o.dst = some d) (hdn : d < σ.nt) (hσ : σ.get t = .v nw (.int k n)) (hn : n < N) :
 bAt tab n ≤ m ∧ evalOp P T ρ σ o = some (σ.set d (.v true (.int .u8 (bAt tab n : Nat))), True) := by
 have h1 := List.all_eq_true.1 h n (List.mem_range.2 hn)
 split at h1
 ·next b hb =>
  have eb : bAt tab n = b.toNat := by rw [bAt, hb]
  rw [eb]
  refine ⟨by simpa using h1, ?_⟩
  unfold evalOp effOp letters
  rw [ho, hd]
  have hc : coreA P σ.at σ.opv (.index ty (.const (.string tab)) (.tmp t)) = some (.v true (.int .u8 b.toNat)) := by
   show indexA P ty (constA (.string tab)) (σ.get t) = _
   rw [hσ]
   have e : indexA P ty (.v true (.str tab)) (.v nw (.int k n)) = if strT P ty = true ∧ (0 : Int) ≤ n then (match tab[(n : Int).toNat]? with
    | some b => some (AV.v true (.int .u8 b.toNat))
    | none => none) else none := rfl
   rw [show constA (.string tab) = AV.v true (.str tab) from rfl, e, if_pos ⟨hs, by omega⟩, Int.toNat_natCast, hb]
  simp only [hc, okDst, hdn, decide_true, List.all_nil, and_self, if_true]
  rfl
 ·cases h1
theorem evalOp_tabE {tab : ByteArray} {N m t d n : Nat} {nw : Bool} {k : IntKind} {ty : TypeId} (hs : strT P ty = true) (h : tabOk tab N m = true) (ho : o.op = .index ty (.const (.string tab)) (.tmp t)) (hd : o.dst = some d) (hdn : d < σ.nt) (hσ : σ.get t = .v nw (.int k n)) (hn : n < N) :
 evalOp P T ρ σ o = some (σ.set d (.v true (.int .u8 (bAt tab n : Nat))), True) := (evalOp_tab hs h ho hd hdn hσ hn).2
end
theorem FnOk.says {P : Program} {f : FuncId} {fn : Func} {c : Code} {args : List Arg} (h : FnOk P f args [.v true (.bool true)]) (hf : P.funcs[f]? = some fn) (hb : fn.body = some c) (hname : (fn.name == "runtime.NumGoroutine") = false)
 {w : World} {vs : List Value} (hG : GL w) (ha : ArgsRep w (fun _ => True) args vs) : Calls P f vs.toArray w fun e w' => e = .returned (.bool true) ∧ Below w.heap.size w w' := by
 have fin : ∀ e w', (∃ val μ', e = Ending.returned val ∧ Below w.heap.size w w' ∧ ResOk { B := w.heap.size, O := fun _ => True } w' μ' [.v true (.bool true)] val) → e = .returned (.bool true) ∧ Below w.heap.size w w' := by
  rintro e w' ⟨val, μ', rfl, h1, h2⟩
  have h3 := h2.2.2
  rw [R.res, R.av, repA_bool] at h3
  exact ⟨by rw [h3], h1⟩
 rcases h w (fun _ => True) vs hG ha with ⟨_, h2⟩ | ⟨v, w', h1, _⟩
 ·exact h2.mono fin
 ·have hn : ¬fn.name = "runtime.NumGoroutine" := fun h => by simp [h] at hname
  have : (callFunc f vs.toArray).run P w = .ok (.enter f vs.toArray) w := by simp [callFunc, hf, hn, hb]
  rw [this] at h1
  cases h1
section
open Go.ChangeShapes Go.WideShapes
variable {H : Type} {enc : TypeId × Value → H} {P : Program}
theorem post_below {f : Func} {s : ChangeSpec} {apart fresh handsOn again : Bool} {W W' : World} {args : Array Value} {v : Value} {ds gs : List (DataW H)} {before pa pv : List MemPlace}
 (hW : DataW.Whole enc P f.params.toList s.vars apart W args.toList ds gs before) (hb : Below W.heap.size W W')
 (hres : ∀ (b : Nat) (sp : Nat → Bool) (hd : Bool), DataW.TrodAll enc P W' b sp hd f.resultTypes.toList (v.resultList f.resultTypes.size) (s.fn H (ds ++ gs)).results [])
 (hargs : ∀ sp : Nat → Bool, (∀ p ∈ before, sp p.block = true) → DataW.TrodAll enc P W' 0 sp true f.params.toList args.toList (s.fn H (ds ++ gs)).args pa)
 (hvars : ∀ sp : Nat → Bool, (∀ p ∈ before, sp p.block = true) → DataW.TrodVars enc P W' sp s.vars (s.fn H (ds ++ gs)).vars pv)
 (hps : before = pa ++ pv)
 (hok : ∀ (j : Nat) (t : TypeId) (r : Value), f.resultTypes[j]? = some t → (v.resultList f.resultTypes.size)[j]? = some r → Value.okWide P W' .any 0 t r) :
 s.post enc P f apart fresh handsOn again W args v W' := by
 have hlt := hW.lt
 have hold : ∀ p ∈ before, decide (p.block < W.heap.size) = true := fun p hp => by simpa using hlt p hp
 have hmem : ∀ p, p ∈ before ↔ p ∈ pa ++ pv := fun p => by rw [hps]
 refine ⟨ds, gs, before, [], pa, pv, hW, hres _ _ _, hargs (fun b => decide (b < W.heap.size)) hold, hvars (fun b => decide (b < W.heap.size)) hold, World.keptBut_mono (fun p hp => ⟨hp, ?_⟩) (hb.frame (· ∈ before)), fun _ => ?_⟩
 ·exact .inr (List.mem_append.1 ((hmem p).1 hp))
 ·obtain ⟨_, _, _, _, _, hz, hn⟩ := hW
  refine ⟨hok, _, _, ([] ++ pa) ++ pv, ⟨[] ++ pa, pv, trodAll_append (hargs _ (fun _ _ => rfl)) (hres _ _ _), hvars _ (fun _ _ => rfl), rfl, ?_, ?_⟩, ?_⟩
  ·intro b off hp
   have hp' : MemPlace.cell b off ∈ before := (hmem _).2 (by simpa using hp)
   rw [hb.frozen (hlt _ hp')]
   exact hz b off hp'
  ·intro ha
   rw [List.nil_append, ← hps]
   exact hn ha
  ·intro p hp _
   exact (hmem p).2 (by simpa using hp)
end
end Go.Proofs.YtlpolbeikangpaaGreatDoor.L
namespace Go.Proofs.YtlpolbeikangpaaGreatDoor.L
open Go Go.RowKit Go.ChangeShapes Go.WideShapes Go.ChangeAt
variable {H : Type} {enc : TypeId × Value → H} {P : Program}
theorem repF_ints {w : World} {ok : Nat → Prop} {k : IntKind} : ∀ l : List Int, RepF w ok 1 (l.map fun n => V.int k n) (l.map fun n => Value.int k n)
 | [] => by rw [List.map_nil, List.map_nil, RepF]
 | x :: r => by
   rw [List.map_cons, List.map_cons, RepF]
   exact ⟨[.int k x], _, rfl, rfl, by rw [Rep], repF_ints r⟩
end Go.Proofs.YtlpolbeikangpaaGreatDoor.L
namespace Go.Proofs.YtlpolbeikangpaaGreatDoor.L
open Go Go.RowKit
section
variable {P : Program} {cx : Cx} {w0 : World} {σ : St} {ro : Option Nat} {Px : Px P} {ops : Array Oper} {T : Tab} {ρ : Nat → List R} {y : Code} {Q : Exit → St → Prop}
theorem Holds.dstepT {id : Nat} {p : Prop} {t : List (List Nat × List Nat)} (fl : List (Nat × Nat)) {σ' : St} (hm : P.follows .mixedOrders = true) (hs : drawS ops σ.nt fl = true) (hzt : T = Px.tab) (he : evalOps P T ρ ops ops.toList σ = some (σ', p)) (hp : p)
 (hl : disjL (ops.toList.map (letters ρ)) = true) (hf : (ops.toList.map (letters ρ)).all (fun l => l.all σ.freshB) = true) (ht : trc P T ρ ops ops.toList σ = t) (hfl : flOk t fl = true)
 (h : Holds P ro cx w0 y σ' Q) : Holds P ro cx w0 ((Code.region id ops true).seq y) σ Q :=
 Holds.dstep (Px := Px) fl hm hs hzt he hp hl hf (by rw [ht]; exact hfl) h
end
theorem off_all {z : Nat} : ∀ {xs : List V} {k : Nat}, (∀ x ∈ xs, x.size = z) → k ≤ xs.length → V.off xs k = k * z
 | [], 0, _, _ => by rw [V.off, Nat.zero_mul]
 | _ :: _, 0, _, _ => by rw [V.off, Nat.zero_mul]
 | [], _ + 1, _, h => by simp at h
 | x :: r, k + 1, hx, h => by
   rw [V.off, off_all (fun y hy => hx y (by simp [hy])) (by simpa using h), hx x (by simp), Nat.succ_mul, Nat.add_comm]
def mres : List V → AV
 | [x] => .v true x
 | xs => .tup (xs.map (.v true))
section
variable {P : Program} {cx : Cx} {w0 w w' : World} {σ σ1 σ' : St} {a : Act} {μ : Sites} {ro : Option Nat} {n : Nat} {Px : Px P} {ops : Array Oper} {T : Tab} {ρ : Nat → List R}
theorem opvs_ok (h : RelM cx w0 σ a.tmps w μ) : ∀ (l : List Operand), RepAL cx w μ σ.at (l.map σ.opv) (l.map a.eval)
 | [] => by rw [List.map_nil, List.map_nil, RepAL]
 | y :: r => by rw [List.map_cons, List.map_cons, RepAL]; exact ⟨_, _, rfl, opv_ok h y, opvs_ok h r⟩
theorem Rel.memEq {mem' : List (Nat × Blk)} (h : Rel cx w0 σ a w) (he : ∀ q, look σ.mem q = look mem' q) : Rel cx w0 { σ with mem := mem' } a w :=
 ⟨h.1, h.2.imp fun _ k => k.ext ⟨rfl, fun _ => rfl, he, rfl, rfl, rfl⟩⟩
theorem Rel.keepE (ts : List Nat) (h : Rel cx w0 σ a w) : Rel cx w0 { σ with env := ts.map fun t => (t, σ.get t) } a w := by
 classical
 obtain ⟨hdf, μ, h⟩ := h
 refine ⟨hdf, μ, h.below, h.hB, h.gl, h.size, h.sites, h.mem, fun t => ?_, h.roots, h.fix⟩
 show RepA cx w μ σ.at (look (ts.map fun t => (t, σ.get t)) t) _
 by_cases ht : t ∈ ts
 ·rw [look_map ht]; exact h.env t
 ·rw [look_map_out ht]
  show RepA cx w μ σ.at .undef _
  rw [RepA]; trivial
end
section
variable {P : Program} {cx : Cx} {w0 w w' : World} {σ : St} {tmps : Array Value} {μ : Sites}
theorem FnOk.calls1 {f : FuncId} {args : List Arg} {nw : Bool} {y : V} {val : Value} (h : FnOk P f args [.v nw y]) (hent : ∀ vs w, (callFunc f vs).run P w = .ok (.enter f vs) w)
 (hy : ∀ w ok cs, Rep w ok y cs → y.toVal cs = val) {O : Nat → Prop} {vs : List Value} (hG : GL w) (ha : ArgsRep w O args vs) : Calls P f vs.toArray w fun e w' => e = .returned val ∧ Below w.heap.size w w' := by
 rcases h w O vs hG ha with ⟨_, h2⟩ | ⟨v, w', h1, _⟩
 ·refine h2.mono ?_
  rintro e w' ⟨v, μ', rfl, h3, h4, h5, h6⟩
  refine ⟨?_, h3⟩
  rw [show R.res [R.v nw y] = .v nw y from rfl, RepA] at h6
  obtain ⟨cs, h7, rfl⟩ := h6
  rw [hy _ _ _ h7]
 ·rw [hent] at h1
  cases h1
theorem FnOk.plain {f : FuncId} {args : List Arg} {rs : List R} {val : Value} (hent : ∀ vs w, (callFunc f vs).run P w = .ok (.enter f vs) w) (hrs : rs.all R.isV = true) (hv : ∀ cx w μ mem, RepA cx w μ mem (R.res rs) val)
 (H : ∀ w O vs, GL w → ArgsRep w O args vs → Calls P f vs.toArray w fun e w' => e = .returned val ∧ Below w.heap.size w w') : FnOk P f args rs := by
 intro w O vs hG ha
 left
 refine ⟨hent _ _, (H w O vs hG ha).mono ?_⟩
 rintro e w' ⟨rfl, hb⟩
 have hm : R.mems rs = [] := R.mems_v hrs
 have hr : ResOk { B := w.heap.size, O } w' (fun _ => none) rs val := by
  unfold ResOk
  refine ⟨⟨fun s b c h => ?_, fun s s' b c c' h => ?_⟩, fun s => ?_, hv _ _ _ _⟩
  ·cases h
  ·cases h
  ·rw [hm]
   show RepB _ _ _ _ _ Blk.dead
   rfl
 exact ⟨val, fun _ => none, rfl, hb, hr⟩
end
end Go.Proofs.YtlpolbeikangpaaGreatDoor.L
namespace Go.Proofs.YtlpolbeikangpaaGreatDoor.L
open Go Go.RowKit Go.Proofs
def subC : Code → List Nat → Code
 | c, [] => c
 | .seq a _, 0 :: p => subC a p
 | .seq _ b, _ :: p => subC b p
 | .block _ c, _ :: p => subC c p
 | .loop c, _ :: p => subC c p
 | .cond _ a _, 0 :: p => subC a p
 | .cond _ _ b, _ :: p => subC b p
 | c, _ => c
def codeAt (f : Func) (p : List Nat) : Code := match f.body with
 | some c => subC c p
 | none => .skip
end Go.Proofs.YtlpolbeikangpaaGreatDoor.L
namespace Go.Proofs.YtlpolbeikangpaaGreatDoor.L
open Go Go.RowKit
def RowOk (P : Program) (f : FuncId) (X : Nat → AV) (B B' : Blk) (args rs : List V) : Prop :=
 ∀ (cx : Cx) (w0 : World) (σ : St) (tmps : Array Value) (w : World) (μ : Sites) (s : Nat) (v0 : Value) (vs : List Value), RelM cx w0 σ tmps w μ → small σ = true → σ.at s = B → RepA cx w μ σ.at (X s) v0 →
  RepAL cx w μ σ.at (args.map (.v true)) vs →
  CallsV P f (v0 :: vs).toArray w fun e w' => ∃ val μ', e = .returned val ∧ RelM cx w0 (σ.upd [(s, B')]) tmps w' μ' ∧ RepA cx w' μ' (σ.upd [(s, B')]).at (mres rs) val
def rowSt (m s : Nat) (X : Nat → AV) (B : Blk) (args : List V) (M : List (Nat × Blk)) (Rt : List (AV × Value)) (F : List (Nat × Obj)) : St :=
 { nt := (args.length + 1) + (m - (args.length + 1)), env := (X s :: args.map (.v true)).zipIdx.map fun p => (p.2, p.1), mem := (s, B) :: M, root := Rt, fix := F }
def rowQ (P : Program) (fn : Func) (s : Nat) (B' : Blk) (rs : List V) (M : List (Nat × Blk)) (Rt : List (AV × Value)) (F : List (Nat × Obj)) : Exit → St → Prop := fun e σ =>
 (e = .ret ∨ e = .normal) ∧ σ.defs = [] ∧ σ.root = Rt ∧ σ.fix = F ∧ (∀ q, look σ.mem q = look ((s, B') :: M) q) ∧ resAVs P σ.at σ.get fn.results.toList = some (rs.map (.v true))
section
variable {P : Program} {cx : Cx} {w0 w w' : World} {σ σ1 σ' : St} {a : Act} {μ : Sites} {ro : Option Nat} {n : Nat} {Px : Px P} {ops : Array Oper} {T : Tab} {ρ : Nat → List R}
theorem RowOk.of {f : FuncId} {fn : Func} {body : Code} {X : Nat → AV} {B B' : Blk} {args rs : List V} (hf : P.funcs[f]? = some fn) (hb : fn.body = some body) (hname : (fn.name == "runtime.NumGoroutine") = false)
 (h : ∀ (cx : Cx) (w0 : World) (s : Nat) (M : List (Nat × Blk)) (Rt : List (AV × Value)) (F : List (Nat × Obj)), Holds P none cx w0 body (rowSt fn.ntmps s X B args M Rt F) (rowQ P fn s B' rs M Rt F)) : RowOk P f X B B' args rs := by
 intro cx w0 σ tmps w μ s v0 vs hr hsm hat hptr hv
 left
 refine ⟨?_, ?_⟩
 ·have hn : ¬fn.name = "runtime.NumGoroutine" := fun h => by simp [h] at hname
  simp [callFunc, hf, hn, hb]
 ·refine callsIn_wide.1 (callsIn_of_wp_marks (n := 0) hf hb trivial ?_)
  have hti : tmps.size = σ.nt := hr.size
  have hX : RepAL cx w μ σ.at (X s :: args.map (.v true)) (v0 :: vs) := by rw [RepAL]; exact ⟨_, _, rfl, hptr, hv⟩
  have hl : vs.length = args.length := by have := repAL_length hv; rw [List.length_map] at this; exact this.symm
  have h1 := hr.enter (m := fn.ntmps) hX
  have h2 : Rel cx w0 (rowSt fn.ntmps s X B args σ.mem (σ.held tmps ++ σ.root) σ.fix) { tmps := (v0 :: vs).toArray ++ Array.replicate (fn.ntmps - (v0 :: vs).toArray.size) undef, defers := [] } w := by
   refine ⟨DefOk.nil, μ, h1.ext ⟨?_, fun _ => rfl, fun q => ?_, rfl, rfl, rfl⟩⟩
   ·show (vs.length + 1) + (fn.ntmps - (vs.length + 1)) = _
    rw [hl]; rfl
   ·show look σ.mem q = look ((s, _) :: σ.mem) q
    rw [look]
    split
    ·next he => rw [← he]; exact hat
    ·rfl
  refine wpIn_mono (h cx w0 s σ.mem _ σ.fix _ _ h2) ?_
  rintro e a w' ⟨σ', ⟨he, hd, hroot, hfix, hmem, hres⟩, ⟨_, hD2, _⟩, μ', hr'⟩
  have fin : LeavesInM Fence.wide 0 P fn a.tmps (fun e w' => ∃ val μ', e = .returned val ∧ RelM cx w0 (σ.upd [(s, B')]) tmps w' μ' ∧ RepA cx w' μ' (σ.upd [(s, B')]).at (mres rs) val) a.defers .returning w' := by
   rw [hD2, hd]
   obtain ⟨us, k1, k2⟩ := results_ok hr' hres
   refine ⟨_, k1, _, μ', rfl, ?_, ?_⟩
   ·have h7 := hr'.turn (tb := tmps) (gs := σ.held tmps) (fun p hp => by rw [hroot]; exact List.mem_append_left _ hp) (held_vals hti)
    have h8 := h7.lessRoot (root' := σ.root) (fun p hp => List.mem_append_right _ (by rw [hroot]; exact List.mem_append_right _ hp))
    have h9 := h8.defs σ.defs
    refine h9.ext ⟨hti, fun q => ?_, fun q => hmem q, rfl, hfix, rfl⟩
    rcases Nat.lt_or_ge q σ.nt with hq | hq
    ·exact look_held hq
    ·rw [show (σ.upd [(s, B')]).get q = σ.get q from rfl, small_get hsm hq]
     exact look_held_out hq
   ·have e : σ'.at = (σ.upd [(s, B')]).at := funext hmem
    rw [← e]
    match rs, k2 with
    | [], k2 =>
      rw [List.map_nil, RepAL] at k2
      subst k2
      show RepA cx w' μ' σ'.at (.tup []) _
      rw [RepA]
      exact ⟨[], rfl, by rw [RepAL]⟩
    | [r], k2 =>
      rw [List.map_cons, List.map_nil, RepAL] at k2
      obtain ⟨v, vr, rfl, m1, m2⟩ := k2
      rw [RepAL] at m2
      subst m2
      exact m1
    | r1 :: r2 :: r3, k2 =>
      have h0 := k2
      rw [List.map_cons, RepAL] at k2
      obtain ⟨v, vr, rfl, m1, m2⟩ := k2
      rw [List.map_cons, RepAL] at m2
      obtain ⟨v2, vr2, rfl, m3, m4⟩ := m2
      show RepA cx w' μ' σ'.at (.tup ((r1 :: r2 :: r3).map (.v true))) _
      rw [RepA]
      exact ⟨v :: v2 :: vr2, rfl, h0⟩
  rcases he with rfl | rfl
  ·exact fin
  ·exact fin
theorem callR_ok {o : Oper} {next : Act → World → Prop} {Q : Exit → Act → World → Prop} {f : FuncId} {d s : Nat} {X : Nat → AV} {x0 : AV} {B B' : Blk} {xs rs : List V} {args : Array Operand} {ats : Array TypeId} (h : Rel cx w0 σ a w) (ho : o.op = .call { callee := .value (.func f), args, argTypes := ats }) (hd' : o.dst = some d) (hn : d < σ.nt)
 (hsm : small σ = true) (hat : σ.at s = B) (ha : args.toList.map σ.opv = x0 :: xs.map (.v true)) (hx : x0 = X s) (hp : RowOk P f X B B' xs rs)
 (hk : ∀ a' w', Rel cx w0 ((σ.upd [(s, B')]).put o.dst (mres rs)) a' w' → next a' w') : o.wpIn (FF ro) n P a w next Q := by
 obtain ⟨hdf, μ, h⟩ := h
 have hd : ∀ c, o.op ≠ .defer c := by rw [ho]; simp
 have hv := opvs_ok h args.toList
 rw [ha, hx, RepAL] at hv
 obtain ⟨v, vs, hvs, hptr, hv⟩ := hv
 have hcall := hp cx w0 σ a.tmps w μ s v vs h hsm hat hptr hv
 have e1 : (v :: vs).toArray = args.map a.eval := by rw [← hvs, ← Array.toList_map]
 rw [e1] at hcall
 have key : ∀ r : Result Next, (callFunc f (args.map a.eval)).run P w = r → (execOp a.eval o).run P w = r := fun r hr => by
  simp only [execOp, ho, resolve, Act.eval, Deferred.ofValue, invoke, Sem.run_bind, Sem.run_pure, Result.andThen_ok, Array.empty_append, Array.append_empty]
  exact hr
 rw [hd'] at hk
 have fin : ∀ val w', (∃ μ', RelM cx w0 (σ.upd [(s, B')]) a.tmps w' μ' ∧ RepA cx w' μ' (σ.upd [(s, B')]).at (mres rs) val) → next (a.put o.dst val) w' := by
  rintro val w' ⟨μ', k1, k2⟩
  exact hk _ _ (rel_put hdf hd' hn k1 k2)
 rcases hcall with ⟨h1, h2⟩ | ⟨v, w', h1, val, μ', h2, h3, h4⟩
 ·refine ⟨fun _ _ => trivial, ?_⟩
  rw [Oper.semAt_eq _ _ _ hd, key _ h1]
  rw [Oper.uponIn_enter]
  refine ⟨FF_depth, callsIn_of (h2.mono ?_)⟩
  rintro e w' ⟨val, μ', rfl, h3, h4⟩
  exact fin val w' ⟨μ', h3, h4⟩
 ·cases h2
  exact wpIn_val hd (key _ h1) (fin _ _ ⟨μ', h3, h4⟩)
theorem Holds.regionR {Q : Exit → St → Prop} {id k : Nat} {p1 : Prop} {o : Oper} {f : FuncId} {s : Nat} {X : Nat → AV} {x0 : AV} {B B' : Blk} {xs rs : List V} {args : Array Operand} {ats : Array TypeId} {d : Nat} (hzt : T = Px.tab) (h1 : evalOps P T ρ ops (ops.toList.take k) σ = some (σ1, p1)) (hp1 : p1) (hk : ops[k]? = some o) (hgd : wantA ops σ1 o = some true)
 (ho : o.op = .call { callee := .value (.func f), args, argTypes := ats }) (hd' : o.dst = some d) (hn : d < σ1.nt) (hsm : small σ1 = true) (hat : σ1.at s = B) (ha : args.toList.map σ1.opv = x0 :: xs.map (.v true)) (hx : x0 = X s) (hp : RowOk P f X B B' xs rs)
 (hrest : ∃ σ3 p3, evalOps P T ρ ops (ops.toList.drop (k + 1)) ((σ1.upd [(s, B')]).set d (mres rs)) = some (σ3, p3) ∧ p3 ∧ Q .normal σ3) :
 Holds P ro cx w0 (.region id ops false) σ Q := fun a w h => wpIn_region (by
 have hlt : k < ops.size := (Array.getElem?_eq_some_iff.1 hk).1
 have hl1 : (ops.toList.take k).length = k := by rw [List.length_take, Array.length_toList]; omega
 have hl2 : (ops.toList.drop (k + 1)).length = ops.size - (k + 1) := by rw [List.length_drop, Array.length_toList]
 have hr : List.range ops.size = List.range' 0 (ops.toList.take k).length ++ (k :: (List.range' (k + 1) (ops.toList.drop (k + 1)).length ++ [])) := by
  have e := List.range'_append_1 (s := 0) (m := k) (n := ops.size - (k + 1) + 1)
  rw [Nat.zero_add] at e
  rw [hl1, hl2, List.append_nil, List.range_eq_range', ← List.range'_succ, e]
  congr 1
  omega
 rw [hr]
 refine evalPart_ok (Px := Px) (T := T) (ρ := ρ) hzt (ops.toList.take k) 0 (fun j hj => ?_) h h1 hp1 fun a1 w1 hrel => ?_
 ·rw [List.getElem?_take_of_lt (by omega), Nat.zero_add, Array.getElem?_toList]
 ·simp only [wpOpsIn, hk]
  rw [want_ok hrel hgd, if_pos rfl]
  obtain ⟨σ3, p3, h4, h5, h6⟩ := hrest
  refine callR_ok hrel ho hd' hn hsm hat ha hx hp fun a' w' hrel' => ?_
  rw [hd'] at hrel'
  refine evalPart_ok (Px := Px) (T := T) (ρ := ρ) hzt (ops.toList.drop (k + 1)) (k + 1) (fun j hj => ?_) hrel' h4 h5 fun a'' w'' hrel'' => ?_
  ·rw [List.getElem?_drop, Array.getElem?_toList]
  ·exact ⟨σ3, h6, hrel''⟩)
end
end Go.Proofs.YtlpolbeikangpaaGreatDoor.L
namespace Go.Proofs.YtlpolbeikangpaaGreatDoor.L
open Go Go.ChangeShapes Go.WideShapes
section
variable {H : Type} {enc : TypeId × Value → H} {P : Program} {w : World} {base : Nat} {spare : Nat → Bool} {held : Bool}
theorem cells1 {cs : List Value} {i : Nat} {c : Value} (h : cs[i]? = some c) : (cs.drop i).take 1 = [c] := by
 rw [List.getElem?_eq_some_iff] at h
 obtain ⟨h1, h2⟩ := h
 rw [List.drop_eq_getElem_cons h1, h2]
 rfl
theorem open_struct2 {r : Reach} {b0 : Nat} {t : TypeId} {f0 f1 : Field} {k0 k1 : IntKind} {v : Value} {d : DataW H} {ps : List MemPlace} (ht : P.underlying t = some (.struct #[f0, f1])) (hc : P.cellsOf t = 2) (o0 : f0.offset = 0) (o1 : f1.offset = 1)
 (c0 : P.cellsOf f0.type = 1) (c1 : P.cellsOf f1.type = 1) (u0 : P.underlying f0.type = some (.int k0)) (u1 : P.underlying f1.type = some (.int k1))
 (hval : Value.okWide P w r b0 t v) (hd : DataW.Trod enc P w base spare held t v d ps) :
 ∃ a b, v = .agg #[.int k0 a, .int k1 b] ∧ d = .agg [.lit (.int k0 a), .lit (.int k1 b)] ∧ ps = [] ∧ (Lit.int k0 a).wf = true ∧ (Lit.int k1 b).wf = true := by
 obtain ⟨cs, rfl, hsz⟩ := okWide_struct ht hval
 obtain ⟨fuel, hf⟩ := hd
 obtain ⟨xs, n, _, hx, hl, hlen, hg⟩ := DataW.trod_struct ht hf
 rw [Value.cells] at hg
 obtain ⟨cs⟩ := cs
 match cs, hsz.trans hc with
 | [x0, x1], _ =>
   match xs, hlen with
   | [y0, y1], _ =>
     have g0 := hg 0 f0 rfl
     have g1 := hg 1 f1 rfl
     rw [o0, c0, cells1 (c := x0) rfl] at g0
     rw [o1, c1, cells1 (c := x1) rfl] at g1
     obtain ⟨a, ha, hxa, wa⟩ := DataW.trod_int u0 (x := y0) g0
     obtain ⟨b, hb, hxb, wb⟩ := DataW.trod_int u1 (x := y1) g1
     cases ha; cases hb
     subst hxa; subst hxb
     cases hx
     exact ⟨a, b, rfl, rfl, rfl, wa, wb⟩
theorem shut_struct2 {t : TypeId} {f0 f1 : Field} {k0 k1 : IntKind} {a b : Int} (ht : P.underlying t = some (.struct #[f0, f1])) (hc : P.cellsOf t = 2) (o0 : f0.offset = 0) (o1 : f1.offset = 1)
 (c0 : P.cellsOf f0.type = 1) (c1 : P.cellsOf f1.type = 1) (u0 : P.underlying f0.type = some (.int k0)) (u1 : P.underlying f1.type = some (.int k1))
 (wa : (Lit.int k0 a).wf = true) (wb : (Lit.int k1 b).wf = true) : DataW.Trod enc P w base spare held t (.agg #[.int k0 a, .int k1 b]) (.agg [.lit (.int k0 a), .lit (.int k1 b)]) [] := by
 refine ⟨2, ?_⟩
 refine (trod_struct_mk (enc := enc) (w := w) (base := base) (spare := spare) (held := held) (n := 1) (xs := [(.lit (.int k0 a), []), (.lit (.int k1 b), [])]) ht (by rw [hc]; rfl) ?_).trans (by rfl)
 simp [Value.cells, o0, o1, c0, c1, trod_int_mk 0 u0 wa, trod_int_mk 0 u1 wb]
end
end Go.Proofs.YtlpolbeikangpaaGreatDoor.L
namespace Go.Proofs.YtlpolbeikangpaaGreatDoor.L
open Go Go.RowKit
section
variable {P : Program} {cx : Cx} {w0 : World} {σ σ1 σ2 : St} {ro : Option Nat} {Px : Px P} {ops : Array Oper} {T : Tab} {ρ : Nat → List R}
theorem Holds.regionZ {Q : Exit → St → Prop} {id k : Nat} {p1 : Prop} (hzt : T = Px.tab) (h1 : evalOps P T ρ ops (ops.toList.take k) σ = some (σ1, p1)) (hp1 : p1) (hkl : k ≤ ops.size) (hz : ∀ a w, Rel cx w0 σ1 a w → Rel cx w0 σ2 a w)
 (hrest : ∃ σ3 p3, evalOps P T ρ ops (ops.toList.drop k) σ2 = some (σ3, p3) ∧ p3 ∧ Q .normal σ3) :
 Holds P ro cx w0 (.region id ops false) σ Q := fun a w h => wpIn_region (by
 have hl1 : (ops.toList.take k).length = k := by rw [List.length_take, Array.length_toList]; omega
 have hl2 : (ops.toList.drop k).length = ops.size - k := by rw [List.length_drop, Array.length_toList]
 have hr : List.range ops.size = List.range' 0 (ops.toList.take k).length ++ (List.range' k (ops.toList.drop k).length ++ []) := by
  have e := List.range'_append_1 (s := 0) (m := k) (n := ops.size - k)
  rw [Nat.zero_add] at e
  rw [hl1, hl2, List.append_nil, List.range_eq_range', e]
  congr 1
  omega
 rw [hr]
 refine evalPart_ok (Px := Px) (T := T) (ρ := ρ) hzt (ops.toList.take k) 0 (fun j hj => ?_) h h1 hp1 fun a1 w1 hrel => ?_
 ·rw [List.getElem?_take_of_lt (by omega), Nat.zero_add, Array.getElem?_toList]
 ·obtain ⟨σ3, p3, h4, h5, h6⟩ := hrest
  refine evalPart_ok (Px := Px) (T := T) (ρ := ρ) hzt (ops.toList.drop k) k (fun j hj => ?_) (hz a1 w1 hrel) h4 h5 fun a'' w'' hrel'' => ?_
  ·rw [List.getElem?_drop, Array.getElem?_toList]
  ·exact ⟨σ3, h6, hrel''⟩)
end
def tdirect (ops : Array Oper) (k i : Nat) : Bool := direct ops k i || (List.range ops.size).any fun m => direct ops k m && direct ops m i
def drawM (ops : Array Oper) (nt : Nat) (fl : List (Nat × Nat)) : Bool :=
 (List.range ops.size).all fun i => match ops[i]? with
   | some oi => lower i oi && (match oi.dst with
     | some d => decide (d < nt)
     | none => true) && (List.range i).all fun k => tdirect ops k i || (match ops[k]? with
       | some ok => statTmp ops ok oi && (statSite ok oi || fl.contains (k, i))
       | none => false)
   | none => false
section
variable {P : Program} {cx : Cx} {w0 w : World} {σ σ' σf : St} {a : Act} {ro : Option Nat} {n : Nat} {Px : Px P} {ops : Array Oper} {T : Tab} {ρ : Nat → List R} {Q : Exit → Act → World → Prop}
theorem any_okT (hzt : T = Px.tab) : ∀ (fuel : Nat) (listed : Array Bool) (L : List (Nat × Ent)) (σ σf : St) (a : Act) (w : World),
 L.length ≤ fuel → (∀ i, listed.getD i true = false ↔ i ∈ L.map (·.1)) → (∀ p ∈ L, ops[p.1]? = some p.2.o) → L.Pairwise (fun a b => a.1 < b.1) →
 L.Pairwise (fun a b => tdirect ops a.1 b.1 = true ∨ Indep ρ ops a.2 b.2) → L.Pairwise (fun a b => ∀ s ∈ letters ρ a.2.o, s ∉ letters ρ b.2.o) →
 (∀ p ∈ L, ∀ s ∈ letters ρ p.2.o, σ.Fresh s) → (∀ p ∈ L, p.2.e.p) → (∀ p ∈ L, ∀ d, p.2.o.dst = some d → d < σ.nt) → (∀ p ∈ L, lower p.1 p.2.o = true) →
 (∀ k m, k ∈ L.map (·.1) → direct ops k m = true → m ∈ L.map (·.1)) →
 Tr P T ρ ops σ (L.map (·.2)) σf → Rel cx w0 σ a w → (∀ τ a' w', Ext σf τ → Rel cx w0 τ a' w' → Q .normal a' w') →
 wpAnyIn (FF ro) n P .any ops Q fuel listed a w := by
 intro fuel
 induction fuel with
 | zero =>
   intro listed L σ σf a w hL hl _ _ _ _ _ _ _ _ _ htr hrel hQ
   have hnil : L = [] := List.eq_nil_of_length_eq_zero (by omega)
   subst hnil
   cases htr
   refine ⟨?_, hQ _ _ _ (Ext.refl _) hrel⟩
   cases hr : Region.ready .any ops listed with
   | nil => rfl
   | cons i r =>
     have : i ∈ Region.ready .any ops listed := by rw [hr]; simp
     have h1 := (mem_ready.1 this).1
     have := (hl i).1 h1
     simp at this
 | succ fuel ih =>
   intro listed L σ σf a w hL hl hops hlt hpair hlet hfr hp hnt hlow hcl htr hrel hQ
   have hsz : ∀ i, listed.getD i true = false → i < listed.size := fun i h => by
    rcases Nat.lt_or_ge i listed.size with h' | h'
    ·exact h'
    ·simp [Array.getElem?_eq_none h'] at h
   refine ⟨fun hr => ?_, fun i hi => ?_⟩
   ·cases L with
    | nil =>
      cases htr
      exact hQ _ _ _ (Ext.refl _) hrel
    | cons p L' =>
      exfalso
      have hp0 : listed.getD p.1 true = false := (hl p.1).2 (by simp)
      have : p.1 ∈ Region.ready .any ops listed := by
       rw [mem_ready]
       refine ⟨hp0, p.2.o, hops p (by simp), fun e he hb => ?_⟩
       have h1 : e.on < p.1 := by
        have := Array.all_eq_true_iff_forall_mem.1 (hlow p (by simp)) e he
        simpa [hb] using this
       have h2 := hsz _ hp0
       cases hv : listed.getD e.on false with
       | true => rfl
       | false =>
         exfalso
         have h3 : listed.getD e.on true = false := by
          rw [Array.getD_eq_getD_getElem?, Array.getElem?_eq_getElem (by omega)] at hv ⊢
          exact hv
         have h4 := (hl _).1 h3
         rw [List.map_cons, List.mem_cons] at h4
         rcases h4 with h4 | h4
         ·omega
         ·obtain ⟨q, hq, h5⟩ := List.mem_map.1 h4
          have := (List.pairwise_cons.1 hlt).1 q hq
          omega
      rw [hr] at this
      cases this
   ·obtain ⟨hun, oi, hoi, hall⟩ := mem_ready.1 hi
    obtain ⟨p, hpL, hpi⟩ := List.mem_map.1 ((hl i).1 hun)
    obtain ⟨u, v, rfl⟩ := List.append_of_mem hpL
    subst hpi
    have hpo := hops p (by simp)
    rw [List.map_append, List.map_cons] at htr
    have hno : ∀ k, k ∈ (u ++ p :: v).map (·.1) → direct ops k p.1 = false := fun k hk => by
     cases hd : direct ops k p.1 with
     | false => rfl
     | true =>
       exfalso
       unfold direct at hd
       rw [hpo] at hd
       obtain ⟨e, he, hb⟩ := Array.any_eq_true'.1 hd
       simp only [Bool.and_eq_true, beq_iff_eq] at hb
       rw [hpo] at hoi
       cases hoi
       have h1 := hall e he hb.1
       rw [hb.2] at h1
       have h2 : listed.getD k true = false := (hl _).2 hk
       have h3 := hsz _ h2
       rw [Array.getD_eq_getD_getElem?, Array.getElem?_eq_getElem h3] at h1 h2
       simp only [Option.getD_some] at h1 h2
       rw [h1] at h2
       cases h2
    have hnd : ∀ q ∈ u, tdirect ops q.1 p.1 = false := fun q hq => by
     have hqL : q.1 ∈ (u ++ p :: v).map (·.1) := List.mem_map.2 ⟨q, by simp [hq], rfl⟩
     cases hd : tdirect ops q.1 p.1 with
     | false => rfl
     | true =>
       exfalso
       unfold tdirect at hd
       rw [hno _ hqL, Bool.false_or] at hd
       obtain ⟨m, _, hm⟩ := List.any_eq_true.1 hd
       rw [Bool.and_eq_true] at hm
       rw [hno m (hcl _ _ hqL hm.1)] at hm
       exact absurd hm.2 (by simp)
    have hpw := List.pairwise_append.1 hpair
    have hlw := List.pairwise_append.1 hlet
    obtain ⟨τ, k1, k2⟩ := htr.front
     (fun y hy => by
       obtain ⟨q, hq, rfl⟩ := List.mem_map.1 hy
       rcases hpw.2.2 q hq p (by simp) with h1 | h1
       ·rw [hnd q hq] at h1; cases h1
       ·exact h1)
     (fun y hy s hs => by
       rw [List.mem_append, List.mem_singleton] at hy
       rcases hy with hy | rfl
       ·obtain ⟨q, hq, rfl⟩ := List.mem_map.1 hy
        exact hfr q (by simp [hq]) s hs
       ·exact hfr p (by simp) s hs)
     (by
       rw [List.pairwise_append]
       refine ⟨List.pairwise_map.2 hlw.1, List.pairwise_singleton _ _, fun y hy z hz => ?_⟩
       obtain ⟨q, hq, rfl⟩ := List.mem_map.1 hy
       rw [List.mem_singleton] at hz
       subst hz
       exact hlw.2.2 q hq p (by simp))
    cases k1 with
    | cons e1 S1 k1 =>
      refine op_ok (Px := Px) hzt hpo hrel e1 (hnt p (by simp)) (hfr p (by simp)) (hp p (by simp)) fun a' w' hrel' => ?_
      have hsub : (u ++ v).Sublist (u ++ p :: v) := List.Sublist.append_left (List.sublist_cons_self p v) u
      have hmem : ∀ q ∈ u ++ v, q ∈ u ++ p :: v := fun q hq => hsub.subset hq
      refine ih _ (u ++ v) _ τ a' w' (by simp at hL ⊢; omega) (fun j => ?_) (fun q hq => hops q (hmem q hq)) (hlt.sublist hsub) (hpair.sublist hsub) (hlet.sublist hsub)
       (fun q hq s hs => app_fresh e1 (fun hs' => ?_) (hfr q (hmem q hq) s hs)) (fun q hq => hp q (hmem q hq)) (fun q hq d hd => by rw [app_nt]; exact hnt q (hmem q hq) d hd) (fun q hq => hlow q (hmem q hq)) (fun k m hk hd => ?_)
       (by rw [List.map_append]; exact k1) hrel' (fun τ' a'' w'' he => hQ τ' a'' w'' (k2.trans he))
      ·by_cases hj : p.1 = j
       ·subst hj
        have h3 := hsz _ hun
        constructor
        ·intro h; simp [h3] at h
        ·intro h
         exfalso
         obtain ⟨q, hq, h5⟩ := List.mem_map.1 h
         have hlt' := List.pairwise_append.1 hlt
         rcases List.mem_append.1 hq with hq | hq
         ·have := hlt'.2.2 q hq p (by simp); omega
         ·have := (List.pairwise_cons.1 hlt'.2.1).1 q hq; omega
       ·rw [getD_set_ne true hj, hl j]
        simp [Ne.symm hj]
      ·rcases List.mem_append.1 hq with hq | hq
       ·exact hlw.2.2 q hq p (by simp) s hs hs'
       ·exact (List.pairwise_cons.1 hlw.2.1).1 q hq s hs' hs
      ·have hkL : k ∈ (u ++ p :: v).map (·.1) := by
        obtain ⟨q, hq, h5⟩ := List.mem_map.1 hk
        exact List.mem_map.2 ⟨q, hmem q hq, h5⟩
       have hmL := hcl k m hkL hd
       obtain ⟨q, hq, h5⟩ := List.mem_map.1 hmL
       rcases List.mem_append.1 hq with hq | hq
       ·exact List.mem_map.2 ⟨q, by simp [hq], h5⟩
       ·rcases List.mem_cons.1 hq with hq | hq
        ·exfalso
         rw [← h5, hq, hno k hkL] at hd
         cases hd
        ·exact List.mem_map.2 ⟨q, by simp [hq], h5⟩
theorem Holds.drawnT {cx : Cx} {w0 : World} {id : Nat} {p : Prop} {Q : Exit → St → Prop} (fl : List (Nat × Nat)) (hm : P.follows .mixedOrders = true) (hs : drawM ops σ.nt fl = true) (hzt : T = Px.tab) (he : evalOps P T ρ ops ops.toList σ = some (σ', p)) (hp : p)
 (hl : disjL (ops.toList.map (letters ρ)) = true) (hf : (ops.toList.map (letters ρ)).all (fun l => l.all σ.freshB) = true) (hfl : flOk (trc P T ρ ops ops.toList σ) fl = true)
 (hQ : ∀ a w, Rel cx w0 σ' a w → Q .normal σ') : Holds P ro cx w0 (.region id ops true) σ Q := fun a w h => by
 obtain ⟨L, k1, k2, k3⟩ := evalOps_tr he hp
 refine wpIn_region_any hm ?_
 have hrel : Rel cx w0 σ a { w with drawn := w.drawn + 1 } := by
  obtain ⟨hd, μ, h⟩ := h
  exact ⟨hd, μ, h.grow ⟨rfl, rfl, rfl, Nat.le_refl _, fun _ _ => rfl⟩⟩
 have hlen : L.length = ops.size := by rw [← List.length_map (f := fun x : Ent => x.o), k1, Array.length_toList]
 have hget : ∀ (i : Nat) (x : Ent), L[i]? = some x → ops[i]? = some x.o := fun i x hx => by
  rw [← Array.getElem?_toList, ← k1, List.getElem?_map, hx]; rfl
 have hz : ∀ p ∈ L.zipIdx.map Prod.swap, L[p.1]? = some p.2 := fun p hp => by
  obtain ⟨q, hq, rfl⟩ := List.mem_map.1 hp
  have := List.mem_zipIdx_iff_getElem?.1 hq
  exact this
 have hst : ∀ (i : Nat) (x : Ent), L[i]? = some x → lower i x.o = true ∧ (∀ d, x.o.dst = some d → d < σ.nt) ∧ ∀ k y, k < i → L[k]? = some y → tdirect ops k i = true ∨ (statTmp ops y.o x.o = true ∧ (statSite y.o x.o = true ∨ (k, i) ∈ fl)) := fun i x hx => by
  have hi := hget i x hx
  have hlt : i < ops.size := (Array.getElem?_eq_some_iff.1 hi).1
  have h1 := List.all_eq_true.1 hs i (List.mem_range.2 hlt)
  rw [hi] at h1
  simp only [Bool.and_eq_true] at h1
  refine ⟨h1.1.1, fun d hd => ?_, fun k y hk hy => ?_⟩
  ·have := h1.1.2
   rw [hd] at this
   simpa using this
  ·have h2 := List.all_eq_true.1 h1.2 k (List.mem_range.2 hk)
   rw [hget k y hy] at h2
   simpa using h2
 have hmap : (L.zipIdx.map Prod.swap).map (·.2) = L := by
  rw [List.map_map]
  have : ((fun x : Nat × Ent => x.2) ∘ Prod.swap) = (fun x : Ent × Nat => x.1) := by funext x; rfl
  rw [this, List.zipIdx_map_fst]
 have hmap1 : (L.zipIdx.map Prod.swap).map (·.1) = List.range L.length := by
  rw [List.map_map]
  have : ((fun x : Nat × Ent => x.1) ∘ Prod.swap) = (fun x : Ent × Nat => x.2) := by funext x; rfl
  rw [this, List.zipIdx_map_snd, List.range_eq_range']
 have hpl : (L.zipIdx.map Prod.swap).Pairwise (fun a b => a.1 < b.1) := by
  have := List.pairwise_lt_range (n := L.length)
  rw [← hmap1, List.pairwise_map] at this
  exact this
 have hkeys := k2.keys
 have htrc := trc_of k2
 rw [k1] at htrc
 have hlp := disjL_pair hl
 rw [← k1, List.map_map, List.pairwise_map, ← hmap, List.pairwise_map] at hlp
 refine any_okT (Px := Px) hzt ops.size _ (L.zipIdx.map Prod.swap) σ σ' a _ (by simp [hlen]) (fun i => ?_) (fun p hp => hget _ _ (hz p hp)) hpl ?_ hlp (fun p hp s hs' => ?_) (fun p hp => ?_) (fun p hp => (hst _ _ (hz p hp)).2.1) (fun p hp => (hst _ _ (hz p hp)).1) (fun k m _ hd => ?_) (by rw [hmap]; exact k2) hrel
  (fun τ a' w' hτ hr => ⟨σ', hQ a' w' (Rel.ext hτ.symm hr), Rel.ext hτ.symm hr⟩)
 ·rw [hmap1, List.mem_range, hlen]
  by_cases hi : i < ops.size <;> simp [hi]
 ·refine List.Pairwise.imp_of_mem (fun {a b} ha hb hab => ?_) hpl
  have ga := hz a ha
  have gb := hz b hb
  rcases (hst b.1 b.2 gb).2.2 a.1 a.2 hab ga with h1 | ⟨h1, h2⟩
  ·exact .inl h1
  ·right
   unfold statTmp at h1
   rw [Bool.and_eq_true] at h1
   have hma : a.2 ∈ L := List.mem_of_getElem? ga
   have hmb : b.2 ∈ L := List.mem_of_getElem? gb
   refine ⟨fun d hd => ?_, fun d hd => ?_, fun s hs1 hs2 => ?_, fun ht q hq => ?_, fun ht q hq => ?_⟩
   ·have := h1.1
    rw [hd] at this
    simpa using this
   ·have := h1.2
    rw [hd] at this
    simpa using this
   ·exact disjAt hlp hpl ha hb hab s hs1 hs2
   ·rcases h2 with h2 | h2
    ·rcases hkeys a.2 hma q hq with h3 | h3
     ·exact .inl h3
     ·simp [statSite, h3, ht] at h2
    ·have h4 := List.all_eq_true.1 hfl (a.1, b.1) h2
     rw [htrc] at h4
     simp only [List.getElem?_map, ga, gb, Option.map_some, Bool.and_eq_true] at h4
     by_cases hin : q.1 ∈ letters ρ a.2.o
     ·exact .inl hin
     ·right
      have := List.all_eq_true.1 h4.1 q.1 (by simp only [List.mem_filter, List.mem_map]; exact ⟨⟨q, hq, rfl⟩, by simpa using hin⟩)
      simpa using this
   ·rcases h2 with h2 | h2
    ·rcases hkeys b.2 hmb q hq with h3 | h3
     ·exact .inl h3
     ·simp [statSite, h3, ht] at h2
    ·have h4 := List.all_eq_true.1 hfl (a.1, b.1) h2
     rw [htrc] at h4
     simp only [List.getElem?_map, ga, gb, Option.map_some, Bool.and_eq_true] at h4
     by_cases hin : q.1 ∈ letters ρ b.2.o
     ·exact .inl hin
     ·right
      have := List.all_eq_true.1 h4.2 q.1 (by simp only [List.mem_filter, List.mem_map]; exact ⟨⟨q, hq, rfl⟩, by simpa using hin⟩)
      simpa using this
 ·have h5 := List.all_eq_true.1 hf (letters ρ p.2.o) (List.mem_map.2 ⟨p.2.o, by rw [← k1]; exact List.mem_map.2 ⟨p.2, List.mem_of_getElem? (hz p hp), rfl⟩, rfl⟩)
  exact St.fresh_of (List.all_eq_true.1 h5 s hs')
 ·exact k3 p.2 (List.mem_of_getElem? (hz p hp))
 ·rw [hmap1, List.mem_range, hlen]
  unfold direct at hd
  split at hd
  ·next o ho => exact (Array.getElem?_eq_some_iff.1 ho).1
  ·cases hd
theorem Holds.dregionM {cx : Cx} {w0 : World} {Q : Exit → St → Prop} {id : Nat} {p : Prop} (fl : List (Nat × Nat)) (hm : P.follows .mixedOrders = true) (hs : drawM ops σ.nt fl = true) (hzt : T = Px.tab) (he : evalOps P T ρ ops ops.toList σ = some (σ', p)) (hp : p)
 (hl : disjL (ops.toList.map (letters ρ)) = true) (hf : (ops.toList.map (letters ρ)).all (fun l => l.all σ.freshB) = true) (hfl : flOk (trc P T ρ ops ops.toList σ) fl = true)
 (h : Q .normal σ') : Holds P ro cx w0 (Code.region id ops true) σ Q :=
 Holds.drawnT (Px := Px) fl hm hs hzt he hp hl hf hfl fun _ _ _ => h
end
end Go.Proofs.YtlpolbeikangpaaGreatDoor.L
