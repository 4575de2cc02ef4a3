/-
  No cell of these rows narrows 'for every input' (looked for: loops, veiled, ifaces, maps, wideKeys, modest, calm, conditions, laid).
  DERIVED. THE GIVEN ROWS OF THIS SEAT. 9 by the template 'for every input the law returns true; each argument reads behind the call as it read before'; 0 by the template 'total and deterministic' (their statements: YtjmclobbfabnpaaTotals.lean).
  GIVEN WITH THE SEED: the statements are not yours to turn. If you find one false, say at which input.
  Laid BY PROGRAM, IN A SANDBOX (cutbox-rows.mjs): the forced cells as the released guide's own fill.sh prints them over the translation b143efee7adb2dd5… (all of the seat's roots in one cut). By AI agents, Wed Nov 11 2026. No macro, syntax, notation, axiom, sorry.
-/
import Derived.Test.YtjmclobbfabnpaaChecked
import GoSem.Claim
import GoSem.ClaimJoined
import GoSem.ClaimMapViews
import Derived.JoinedTies
import Derived.KernelRfl
namespace Go.Proofs.Ytjmclobbfabnpaa
/- THE CELL 'sum', in the pinned program and in every row, IS THE sha256 OF THE DUMP (.gsa) THAT YtjmclobbfabnpaaProg.lean LOADS. Nothing in Lean hashes anything: it is a label: what it is worth is what the hold of that sum in a sandbox is worth. -/
noncomputable def Try.pinned : Pinned := { name := "ytjmclobbfabnpaa", sum := "b143efee7adb2dd50c115232af1d1254ec0a49ce2da1c13e8a23463192a68c05", checked := Try.checked }
namespace Rows
def none {H : Type} : Left H := { results := [], args := [] }

/-- 'reckonerlaw03.FastPieces': WHATEVER THE INPUT: true; the input reads as it did. -/
def fastPiecesSpec : ChangeSpec := { name := "fastPieces", fn := fun _ => fun
  | [d1, d2] => { results := [.lit (.bool true)], args := [d1, d2] }
  | _ => none }
def fastPiecesRow : OpenClaim := { program := "ytjmclobbfabnpaa", sum := "b143efee7adb2dd50c115232af1d1254ec0a49ce2da1c13e8a23463192a68c05", func := "reckoner/reckonerlaw03.FastPieces", spec := "fastPieces", inPlace := ["math/bits.Add64", "math/bits.Sub64"], unfollowed := true, recurses := true, named := ["math/bits.divideError", "math/bits.overflowError"], apart := false }
def FastPiecesSaid : Prop := fastPiecesRow.holds Try.pinned (OpenSpec.ofChange fastPiecesSpec)

/-- ITS FALSE NEIGHBOUR: 'it returns false'. Refute it at one input. -/
def fastPiecesWrong : ChangeSpec := { name := "fastPieces", fn := fun _ => fun
  | [d1, d2] => { results := [.lit (.bool false)], args := [d1, d2] }
  | _ => none }
def FastPiecesWrongFalsely : Prop := fastPiecesRow.holds Try.pinned (OpenSpec.ofChange fastPiecesWrong)

/-- 'reckonerlaw03.FastCosts': WHATEVER THE INPUT: true; the input reads as it did. -/
def fastCostsSpec : ChangeSpec := { name := "fastCosts", fn := fun _ => fun
  | [d] => { results := [.lit (.bool true)], args := [d] }
  | _ => none }
def fastCostsRow : OpenClaim := { program := "ytjmclobbfabnpaa", sum := "b143efee7adb2dd50c115232af1d1254ec0a49ce2da1c13e8a23463192a68c05", func := "reckoner/reckonerlaw03.FastCosts", spec := "fastCosts", inPlace := ["math/bits.Add64", "math/bits.Sub64"], unfollowed := true, recurses := true, named := ["math/bits.divideError", "math/bits.overflowError"], apart := false }
def FastCostsSaid : Prop := fastCostsRow.holds Try.pinned (OpenSpec.ofChange fastCostsSpec)

/-- ITS FALSE NEIGHBOUR: 'it returns false'. Refute it at one input. -/
def fastCostsWrong : ChangeSpec := { name := "fastCosts", fn := fun _ => fun
  | [d] => { results := [.lit (.bool false)], args := [d] }
  | _ => none }
def FastCostsWrongFalsely : Prop := fastCostsRow.holds Try.pinned (OpenSpec.ofChange fastCostsWrong)

/-- 'reckonerlaw03.FastPoints': WHATEVER THE INPUT: true; the input reads as it did. -/
def fastPointsSpec : ChangeSpec := { name := "fastPoints", fn := fun _ => fun
  | [d1, d2] => { results := [.lit (.bool true)], args := [d1, d2] }
  | _ => none }
def fastPointsRow : OpenClaim := { program := "ytjmclobbfabnpaa", sum := "b143efee7adb2dd50c115232af1d1254ec0a49ce2da1c13e8a23463192a68c05", func := "reckoner/reckonerlaw03.FastPoints", spec := "fastPoints", inPlace := ["math/bits.Add64", "math/bits.Sub64"], unfollowed := true, recurses := true, named := ["math/bits.divideError", "math/bits.overflowError"], apart := false }
def FastPointsSaid : Prop := fastPointsRow.holds Try.pinned (OpenSpec.ofChange fastPointsSpec)

/-- ITS FALSE NEIGHBOUR: 'it returns false'. Refute it at one input. -/
def fastPointsWrong : ChangeSpec := { name := "fastPoints", fn := fun _ => fun
  | [d1, d2] => { results := [.lit (.bool false)], args := [d1, d2] }
  | _ => none }
def FastPointsWrongFalsely : Prop := fastPointsRow.holds Try.pinned (OpenSpec.ofChange fastPointsWrong)

/-- 'reckonerlaw03.FastMuls': WHATEVER THE INPUT: true; the input reads as it did. -/
def fastMulsSpec : ChangeSpec := { name := "fastMuls", fn := fun _ => fun
  | [d1, d2, d3] => { results := [.lit (.bool true)], args := [d1, d2, d3] }
  | _ => none }
def fastMulsRow : OpenClaim := { program := "ytjmclobbfabnpaa", sum := "b143efee7adb2dd50c115232af1d1254ec0a49ce2da1c13e8a23463192a68c05", func := "reckoner/reckonerlaw03.FastMuls", spec := "fastMuls", inPlace := ["math/bits.Add64", "math/bits.Sub64"], unfollowed := true, recurses := true, named := ["math/bits.divideError", "math/bits.overflowError"], apart := false }
def FastMulsSaid : Prop := fastMulsRow.holds Try.pinned (OpenSpec.ofChange fastMulsSpec)

/-- ITS FALSE NEIGHBOUR: 'it returns false'. Refute it at one input. -/
def fastMulsWrong : ChangeSpec := { name := "fastMuls", fn := fun _ => fun
  | [d1, d2, d3] => { results := [.lit (.bool false)], args := [d1, d2, d3] }
  | _ => none }
def FastMulsWrongFalsely : Prop := fastMulsRow.holds Try.pinned (OpenSpec.ofChange fastMulsWrong)

/-- 'reckonerlaw03.FastLows': WHATEVER THE INPUT: true; the input reads as it did. -/
def fastLowsSpec : ChangeSpec := { name := "fastLows", fn := fun _ => fun
  | [d1, d2, d3] => { results := [.lit (.bool true)], args := [d1, d2, d3] }
  | _ => none }
def fastLowsRow : OpenClaim := { program := "ytjmclobbfabnpaa", sum := "b143efee7adb2dd50c115232af1d1254ec0a49ce2da1c13e8a23463192a68c05", func := "reckoner/reckonerlaw03.FastLows", spec := "fastLows", inPlace := ["math/bits.Add64", "math/bits.Sub64"], unfollowed := true, recurses := true, named := ["math/bits.divideError", "math/bits.overflowError"], apart := false }
def FastLowsSaid : Prop := fastLowsRow.holds Try.pinned (OpenSpec.ofChange fastLowsSpec)

/-- ITS FALSE NEIGHBOUR: 'it returns false'. Refute it at one input. -/
def fastLowsWrong : ChangeSpec := { name := "fastLows", fn := fun _ => fun
  | [d1, d2, d3] => { results := [.lit (.bool false)], args := [d1, d2, d3] }
  | _ => none }
def FastLowsWrongFalsely : Prop := fastLowsRow.holds Try.pinned (OpenSpec.ofChange fastLowsWrong)

/-- 'reckonerlaw03.FastValues': WHATEVER THE INPUT: true; the input reads as it did. -/
def fastValuesSpec : ChangeSpec := { name := "fastValues", fn := fun _ => fun
  | [d1, d2] => { results := [.lit (.bool true)], args := [d1, d2] }
  | _ => none }
def fastValuesRow : OpenClaim := { program := "ytjmclobbfabnpaa", sum := "b143efee7adb2dd50c115232af1d1254ec0a49ce2da1c13e8a23463192a68c05", func := "reckoner/reckonerlaw03.FastValues", spec := "fastValues", inPlace := ["math/bits.Add64", "math/bits.Sub64"], unfollowed := true, recurses := true, named := ["math/bits.divideError", "math/bits.overflowError"], apart := false }
def FastValuesSaid : Prop := fastValuesRow.holds Try.pinned (OpenSpec.ofChange fastValuesSpec)

/-- ITS FALSE NEIGHBOUR: 'it returns false'. Refute it at one input. -/
def fastValuesWrong : ChangeSpec := { name := "fastValues", fn := fun _ => fun
  | [d1, d2] => { results := [.lit (.bool false)], args := [d1, d2] }
  | _ => none }
def FastValuesWrongFalsely : Prop := fastValuesRow.holds Try.pinned (OpenSpec.ofChange fastValuesWrong)

/-- 'reckonerlaw03.FastJoins': WHATEVER THE INPUT: true; the input reads as it did. -/
def fastJoinsSpec : ChangeSpec := { name := "fastJoins", fn := fun _ => fun
  | [d1, d2] => { results := [.lit (.bool true)], args := [d1, d2] }
  | _ => none }
def fastJoinsRow : OpenClaim := { program := "ytjmclobbfabnpaa", sum := "b143efee7adb2dd50c115232af1d1254ec0a49ce2da1c13e8a23463192a68c05", func := "reckoner/reckonerlaw03.FastJoins", spec := "fastJoins", inPlace := ["math/bits.Add64", "math/bits.Sub64"], unfollowed := true, recurses := true, named := ["math/bits.divideError", "math/bits.overflowError"], apart := false }
def FastJoinsSaid : Prop := fastJoinsRow.holds Try.pinned (OpenSpec.ofChange fastJoinsSpec)

/-- ITS FALSE NEIGHBOUR: 'it returns false'. Refute it at one input. -/
def fastJoinsWrong : ChangeSpec := { name := "fastJoins", fn := fun _ => fun
  | [d1, d2] => { results := [.lit (.bool false)], args := [d1, d2] }
  | _ => none }
def FastJoinsWrongFalsely : Prop := fastJoinsRow.holds Try.pinned (OpenSpec.ofChange fastJoinsWrong)

/-- 'reckonerlaw03.FastJoined': WHATEVER THE INPUT: true; the input reads as it did. -/
def fastJoinedSpec : ChangeSpec := { name := "fastJoined", fn := fun _ => fun
  | [d1, d2, d3] => { results := [.lit (.bool true)], args := [d1, d2, d3] }
  | _ => none }
def fastJoinedRow : OpenClaim := { program := "ytjmclobbfabnpaa", sum := "b143efee7adb2dd50c115232af1d1254ec0a49ce2da1c13e8a23463192a68c05", func := "reckoner/reckonerlaw03.FastJoined", spec := "fastJoined", inPlace := ["math/bits.Add64", "math/bits.Sub64"], unfollowed := true, recurses := true, named := ["math/bits.divideError", "math/bits.overflowError"], apart := false }
def FastJoinedSaid : Prop := fastJoinedRow.holds Try.pinned (OpenSpec.ofChange fastJoinedSpec)

/-- ITS FALSE NEIGHBOUR: 'it returns false'. Refute it at one input. -/
def fastJoinedWrong : ChangeSpec := { name := "fastJoined", fn := fun _ => fun
  | [d1, d2, d3] => { results := [.lit (.bool false)], args := [d1, d2, d3] }
  | _ => none }
def FastJoinedWrongFalsely : Prop := fastJoinedRow.holds Try.pinned (OpenSpec.ofChange fastJoinedWrong)

/-- 'reckonerlaw03.FastSizes': WHATEVER THE INPUT: true; the input reads as it did. -/
def fastSizesSpec : ChangeSpec := { name := "fastSizes", fn := fun _ => fun
  | [d1, d2] => { results := [.lit (.bool true)], args := [d1, d2] }
  | _ => none }
def fastSizesRow : OpenClaim := { program := "ytjmclobbfabnpaa", sum := "b143efee7adb2dd50c115232af1d1254ec0a49ce2da1c13e8a23463192a68c05", func := "reckoner/reckonerlaw03.FastSizes", spec := "fastSizes", inPlace := ["math/bits.Add64", "math/bits.Sub64"], unfollowed := true, recurses := true, named := ["math/bits.divideError", "math/bits.overflowError"], apart := false }
def FastSizesSaid : Prop := fastSizesRow.holds Try.pinned (OpenSpec.ofChange fastSizesSpec)

/-- ITS FALSE NEIGHBOUR: 'it returns false'. Refute it at one input. -/
def fastSizesWrong : ChangeSpec := { name := "fastSizes", fn := fun _ => fun
  | [d1, d2] => { results := [.lit (.bool false)], args := [d1, d2] }
  | _ => none }
def FastSizesWrongFalsely : Prop := fastSizesRow.holds Try.pinned (OpenSpec.ofChange fastSizesWrong)

/- THE SECOND FORM. 'bulk': how many values and letters a reading holds, each counted each time it is reached (what is shared counts as often as it is met; a slice's spare places count too). A statement '..UptoSaid' is the law's where the arguments, and the package variables that the reading takes, are together of bulk at most 1048576: NARROWER than '..Said'. Prove '..Said' where nothing that the law and all that it calls make is longer than what came in: it says more and counts as full. Else prove '..UptoSaid'. A law counts once. -/
mutual
def uptoBulk {H : Type} : DataW H → Nat
  | .lit (.string bytes) => bytes.length + 1
  | .lit _ => 1
  | .nil => 1
  | .ptr d => uptoBulk d + 1
  | .slice elems spare => uptoBulkAll elems + uptoBulkAll spare + 1
  | .agg parts => uptoBulkAll parts + 1
  | .iface _ d => uptoBulk d + 1
  | .map entries => uptoBulkEntries entries + 1
  | .held _ => 1
def uptoBulkAll {H : Type} : List (DataW H) → Nat
  | [] => 0
  | d :: r => uptoBulk d + uptoBulkAll r
def uptoBulkEntries {H : Type} : List (Lit × DataW H) → Nat
  | [] => 0
  | x :: r => uptoBulkEntry x + uptoBulkEntries r
def uptoBulkEntry {H : Type} : Lit × DataW H → Nat
  | (.string bytes, d) => bytes.length + uptoBulk d + 1
  | (_, d) => uptoBulk d + 1
 end
def uptoSmall : (H : Type) → List (DataW H) → Bool := fun _ ds => decide (uptoBulkAll ds ≤ 1048576)
def OpenSpec.upto (s : _root_.Go.ChangeSpec) : _root_.Go.OpenSpec := { _root_.Go.OpenSpec.ofChange s with cond := some uptoSmall }

/-- 'reckonerlaw03.FastPieces', WHERE WHAT IT READS IS OF BULK AT MOST 1048576: true; the input reads as it did. -/
def fastPiecesUptoRow : OpenClaim := { program := "ytjmclobbfabnpaa", sum := "b143efee7adb2dd50c115232af1d1254ec0a49ce2da1c13e8a23463192a68c05", func := "reckoner/reckonerlaw03.FastPieces", spec := "fastPieces", inPlace := ["math/bits.Add64", "math/bits.Sub64"], unfollowed := true, recurses := true, named := ["math/bits.divideError", "math/bits.overflowError"], apart := false, narrowed := true }
def FastPiecesUptoSaid : Prop := fastPiecesUptoRow.holds Try.pinned (OpenSpec.upto fastPiecesSpec)

/-- 'reckonerlaw03.FastCosts', WHERE WHAT IT READS IS OF BULK AT MOST 1048576: true; the input reads as it did. -/
def fastCostsUptoRow : OpenClaim := { program := "ytjmclobbfabnpaa", sum := "b143efee7adb2dd50c115232af1d1254ec0a49ce2da1c13e8a23463192a68c05", func := "reckoner/reckonerlaw03.FastCosts", spec := "fastCosts", inPlace := ["math/bits.Add64", "math/bits.Sub64"], unfollowed := true, recurses := true, named := ["math/bits.divideError", "math/bits.overflowError"], apart := false, narrowed := true }
def FastCostsUptoSaid : Prop := fastCostsUptoRow.holds Try.pinned (OpenSpec.upto fastCostsSpec)

/-- 'reckonerlaw03.FastPoints', WHERE WHAT IT READS IS OF BULK AT MOST 1048576: true; the input reads as it did. -/
def fastPointsUptoRow : OpenClaim := { program := "ytjmclobbfabnpaa", sum := "b143efee7adb2dd50c115232af1d1254ec0a49ce2da1c13e8a23463192a68c05", func := "reckoner/reckonerlaw03.FastPoints", spec := "fastPoints", inPlace := ["math/bits.Add64", "math/bits.Sub64"], unfollowed := true, recurses := true, named := ["math/bits.divideError", "math/bits.overflowError"], apart := false, narrowed := true }
def FastPointsUptoSaid : Prop := fastPointsUptoRow.holds Try.pinned (OpenSpec.upto fastPointsSpec)

/-- 'reckonerlaw03.FastMuls', WHERE WHAT IT READS IS OF BULK AT MOST 1048576: true; the input reads as it did. -/
def fastMulsUptoRow : OpenClaim := { program := "ytjmclobbfabnpaa", sum := "b143efee7adb2dd50c115232af1d1254ec0a49ce2da1c13e8a23463192a68c05", func := "reckoner/reckonerlaw03.FastMuls", spec := "fastMuls", inPlace := ["math/bits.Add64", "math/bits.Sub64"], unfollowed := true, recurses := true, named := ["math/bits.divideError", "math/bits.overflowError"], apart := false, narrowed := true }
def FastMulsUptoSaid : Prop := fastMulsUptoRow.holds Try.pinned (OpenSpec.upto fastMulsSpec)

/-- 'reckonerlaw03.FastLows', WHERE WHAT IT READS IS OF BULK AT MOST 1048576: true; the input reads as it did. -/
def fastLowsUptoRow : OpenClaim := { program := "ytjmclobbfabnpaa", sum := "b143efee7adb2dd50c115232af1d1254ec0a49ce2da1c13e8a23463192a68c05", func := "reckoner/reckonerlaw03.FastLows", spec := "fastLows", inPlace := ["math/bits.Add64", "math/bits.Sub64"], unfollowed := true, recurses := true, named := ["math/bits.divideError", "math/bits.overflowError"], apart := false, narrowed := true }
def FastLowsUptoSaid : Prop := fastLowsUptoRow.holds Try.pinned (OpenSpec.upto fastLowsSpec)

/-- 'reckonerlaw03.FastValues', WHERE WHAT IT READS IS OF BULK AT MOST 1048576: true; the input reads as it did. -/
def fastValuesUptoRow : OpenClaim := { program := "ytjmclobbfabnpaa", sum := "b143efee7adb2dd50c115232af1d1254ec0a49ce2da1c13e8a23463192a68c05", func := "reckoner/reckonerlaw03.FastValues", spec := "fastValues", inPlace := ["math/bits.Add64", "math/bits.Sub64"], unfollowed := true, recurses := true, named := ["math/bits.divideError", "math/bits.overflowError"], apart := false, narrowed := true }
def FastValuesUptoSaid : Prop := fastValuesUptoRow.holds Try.pinned (OpenSpec.upto fastValuesSpec)

/-- 'reckonerlaw03.FastJoins', WHERE WHAT IT READS IS OF BULK AT MOST 1048576: true; the input reads as it did. -/
def fastJoinsUptoRow : OpenClaim := { program := "ytjmclobbfabnpaa", sum := "b143efee7adb2dd50c115232af1d1254ec0a49ce2da1c13e8a23463192a68c05", func := "reckoner/reckonerlaw03.FastJoins", spec := "fastJoins", inPlace := ["math/bits.Add64", "math/bits.Sub64"], unfollowed := true, recurses := true, named := ["math/bits.divideError", "math/bits.overflowError"], apart := false, narrowed := true }
def FastJoinsUptoSaid : Prop := fastJoinsUptoRow.holds Try.pinned (OpenSpec.upto fastJoinsSpec)

/-- 'reckonerlaw03.FastJoined', WHERE WHAT IT READS IS OF BULK AT MOST 1048576: true; the input reads as it did. -/
def fastJoinedUptoRow : OpenClaim := { program := "ytjmclobbfabnpaa", sum := "b143efee7adb2dd50c115232af1d1254ec0a49ce2da1c13e8a23463192a68c05", func := "reckoner/reckonerlaw03.FastJoined", spec := "fastJoined", inPlace := ["math/bits.Add64", "math/bits.Sub64"], unfollowed := true, recurses := true, named := ["math/bits.divideError", "math/bits.overflowError"], apart := false, narrowed := true }
def FastJoinedUptoSaid : Prop := fastJoinedUptoRow.holds Try.pinned (OpenSpec.upto fastJoinedSpec)

/-- 'reckonerlaw03.FastSizes', WHERE WHAT IT READS IS OF BULK AT MOST 1048576: true; the input reads as it did. -/
def fastSizesUptoRow : OpenClaim := { program := "ytjmclobbfabnpaa", sum := "b143efee7adb2dd50c115232af1d1254ec0a49ce2da1c13e8a23463192a68c05", func := "reckoner/reckonerlaw03.FastSizes", spec := "fastSizes", inPlace := ["math/bits.Add64", "math/bits.Sub64"], unfollowed := true, recurses := true, named := ["math/bits.divideError", "math/bits.overflowError"], apart := false, narrowed := true }
def FastSizesUptoSaid : Prop := fastSizesUptoRow.holds Try.pinned (OpenSpec.upto fastSizesSpec)

end Rows
end Go.Proofs.Ytjmclobbfabnpaa
