/-
  Od
-/
import Derived.Test.YtjmclobbfabnpaaGreatH5
set_option linter.unusedSimpArgs false
set_option linter.unusedVariables false
/-
  A table of calls whose results are known; five of awake's calls.
-/
namespace Go.Proofs.YtjmclobbfabnpaaGreat.L
open Go Go.RowKit Go.Proofs

mutual
def V.eqb : V → V → Bool
  | .int .u64 n, .int .u64 m => n == m
  | .int .i64 n, .int .i64 m => n == m
  | .bool a, .bool b => a == b
  | .sl z xs, .sl z' ys => Nat.beq z z' && V.eqbs xs ys
  | .agg xs, .agg ys => V.eqbs xs ys
  | _, _ => false
def V.eqbs : List V → List V → Bool
  | [], [] => true
  | x :: r, y :: q => x.eqb y && V.eqbs r q
  | _, _ => false
end
mutual
theorem V.eqb_ok : ∀ {x y : V}, x.eqb y = true → x = y
  | x, y, h => by
    unfold V.eqb at h
    split at h
    · rw [beq_iff_eq] at h; rw [h]
    · rw [beq_iff_eq] at h; rw [h]
    · rw [beq_iff_eq] at h; rw [h]
    · rw [Bool.and_eq_true] at h; rw [Nat.eq_of_beq_eq_true h.1, V.eqbs_ok h.2]
    · rw [V.eqbs_ok h]
    · cases h
theorem V.eqbs_ok : ∀ {xs ys : List V}, V.eqbs xs ys = true → xs = ys
  | [], [], _ => rfl
  | x :: r, y :: q, h => by
    rw [V.eqbs, Bool.and_eq_true] at h
    rw [V.eqb_ok h.1, V.eqbs_ok h.2]
  | [], _ :: _, h => by rw [V.eqbs] at h; cases h; all_goals simp
  | _ :: _, [], h => by rw [V.eqbs] at h; cases h; all_goals simp
end
def eqAs : List Arg → List V → Bool
  | [], [] => true
  | .v x :: r, y :: q => x.eqb y && eqAs r q
  | _, _ => false
theorem eqAs_ok : ∀ {l : List Arg} {vs : List V}, eqAs l vs = true → l = vs.map .v
  | [], [], _ => rfl
  | .v x :: r, y :: q, h => by
    rw [eqAs, Bool.and_eq_true] at h
    rw [V.eqb_ok h.1, eqAs_ok h.2, List.map_cons]
  | [], _ :: _, h => by rw [eqAs] at h; cases h; all_goals simp
  | .v _ :: _, [], h => by rw [eqAs] at h; cases h; all_goals simp
  | .el _ :: _, _, h => by rw [eqAs] at h; cases h; all_goals simp
  | .fn _ _ :: _, _, h => by rw [eqAs] at h; cases h; all_goals simp
  | .knot _ _ :: _, _, h => by rw [eqAs] at h; cases h; all_goals simp

/-- Calls that are known. -/
def extT (ext : FuncId → List Arg → Option (List R)) : List (FuncId × List V × List R) → FuncId → List Arg → Option (List R)
  | [], f, l => ext f l
  | (g, vs, rs) :: r, f, l => if Nat.beq g f = true ∧ eqAs l vs = true then some rs else extT ext r f l
theorem extT_ok {P : Program} {ext : FuncId → List Arg → Option (List R)} (he : ∀ f l rs, ext f l = some rs → FnOk P f l rs) : ∀ {tab : List (FuncId × List V × List R)}, (∀ e ∈ tab, FnOk P e.1 (e.2.1.map .v) e.2.2) → ∀ f l rs, extT ext tab f l = some rs → FnOk P f l rs
  | [], _, f, l, rs, h => he f l rs h
  | (g, vs, rs') :: r, ht, f, l, rs, h => by
    rw [extT] at h
    split at h
    · next hc =>
      cases h
      have := ht _ (List.mem_cons_self ..)
      rw [Nat.eq_of_beq_eq_true hc.1] at this
      rw [eqAs_ok hc.2]
      exact this
    · exact extT_ok he (fun e h => ht e (by simp [h])) f l rs h

/-- An integer of words. -/
def mkI (n : List Int) : V := .agg [.bool false, words n]
def five5 : V := .agg [mkI [1], mkI [6], mkI [2], mkI [17], mkI []]
def back5 : V := .agg [mkI [1], mkI [2], mkI [3], mkI [], mkI []]
def x5 : List Int := [1, 2, 3, 4, 5]
def sq5 : List Int := [1, 4, 10, 20, 35, 44, 46, 40, 25]
theorem c_five : FnOk Tryz.prog 23 [.v (.sl 2 [mkI [1], mkI [2], mkI [3]])] [.v false five5, .v true (.int .i64 0)] :=
  runF_ok (Px := px) rfl mixed extB_ok (fuel := 100000) 1000 _ _ _ (by kernel_rfl)
theorem c_back : FnOk Tryz.prog 5 [.v five5] [.v false back5, .v true (.int .i64 0)] :=
  runF_ok (Px := px) rfl mixed extB_ok (fuel := 100000) 1000 _ _ _ (by kernel_rfl)
theorem c_kar : FnOk Tryz.prog 26 [.v (words x5), .v (words x5), .v (.int .i64 3)] [.v true (words sq5), .v true (.int .i64 0)] :=
  runF_ok (Px := px) rfl mixed extB_ok (fuel := 100000) 1000 _ _ _ (by kernel_rfl)
end Go.Proofs.YtjmclobbfabnpaaGreat.L
