/-
  Og
-/
import Derived.Test.YtjmclobbfabnpaaGreatH7
import Derived.Test.YtjmclobbfabnpaaGreatH8
set_option linter.unusedSimpArgs false
set_option linter.unusedVariables false
/-
  awake is true.
-/
namespace Go.Proofs.YtjmclobbfabnpaaGreat.L
open Go Go.RowKit Go.Proofs

def px2 : Px Tryz.prog where
  zt := ztab
  mt := mtab
  fz := fun d => Nat.beq d 60 || Nat.beq d 61
  mok := mtab_ok
  zok := ztab_ok
def TT2 : Tab := ⟨ztab, mtab, fun d => Nat.beq d 60 || Nat.beq d 61⟩

def extC : FuncId → List Arg → Option (List R) := extT extB [
  (23, [.sl 2 [mkI [1], mkI [2], mkI [3]]], [.v false five5, .v true (.int .i64 0)]),
  (5, [five5], [.v false back5, .v true (.int .i64 0)]),
  (26, [words x5, words x5, .int .i64 3], [.v true (words sq5), .v true (.int .i64 0)]),
  (27, [words x5, words x5, .int .i64 3], [.v true (words sq5), .v true (.int .i64 0)]),
  (30, [words x5, words x5], [.v true (words sq5)])]
theorem extC_ok (f : FuncId) (l : List Arg) (rs : List R) (h : extC f l = some rs) : FnOk Tryz.prog f l rs := by
  refine extT_ok extB_ok ?_ f l rs h
  intro e he
  simp only [List.mem_cons, List.not_mem_nil, or_false] at he
  rcases he with rfl | rfl | rfl | rfl | rfl
  · exact c_five
  · exact c_back
  · exact c_kar
  · exact c_toom
  · exact c_nmul


theorem awake_ok : FnOk Tryz.prog 9 [] [.v true (.bool true)] :=
  runF_ok (Px := px2) (T := TT2) rfl mixed extC_ok (fuel := 100000) 1000 _ _ _ (by kernel_rfl)
end Go.Proofs.YtjmclobbfabnpaaGreat.L
