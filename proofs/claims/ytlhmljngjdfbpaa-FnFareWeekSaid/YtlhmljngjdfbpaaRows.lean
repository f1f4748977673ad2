/-
  No cell of these rows narrows 'for every input' (looked for: loops, veiled, ifaces, maps, wideKeys, modest, calm, conditions, laid).
  DERIVED. THE GIVEN ROWS OF THIS SEAT. 13 by the template 'for every input the law returns true; each argument reads behind the call as it read before'; 0 by the template 'total and deterministic' (their statements: YtlhmljngjdfbpaaTotals.lean).
  GIVEN WITH THE SEED: the statements are not yours to turn. If you find one false, say at which input.
  Laid BY PROGRAM, IN A SANDBOX (cutbox-rows.mjs): the forced cells as the released guide's own fill.sh prints them over the translation 62f330838aa881ac… (all of the seat's roots in one cut). By AI agents, Wed Nov 11 2026. No macro, syntax, notation, axiom, sorry.
-/
import Derived.Test.YtlhmljngjdfbpaaChecked
import GoSem.Claim
import GoSem.ClaimJoined
import GoSem.ClaimMapViews
import Derived.JoinedTies
import Derived.KernelRfl
namespace Go.Proofs.Ytlhmljngjdfbpaa
/- THE CELL 'sum', in the pinned program and in every row, IS THE sha256 OF THE DUMP (.gsa) THAT YtlhmljngjdfbpaaProg.lean LOADS. Nothing in Lean hashes anything: it is a label: what it is worth is what the hold of that sum in a sandbox is worth. -/
noncomputable def Try.pinned : Pinned := { name := "ytlhmljngjdfbpaa", sum := "62f330838aa881acc3181078aefc8761061c7ead830f750d27df9f5ad0421c1b", checked := Try.checked }
namespace Rows
def none {H : Type} : Left H := { results := [], args := [] }

/-- 'laws.FnFareWeek': WHATEVER THE INPUT: true; the input reads as it did. -/
def fnFareWeekSpec : ChangeSpec := { name := "fnFareWeek", fn := fun _ => fun
  | [d] => { results := [.lit (.bool true)], args := [d] }
  | _ => none }
def fnFareWeekRow : OpenClaim := { program := "ytlhmljngjdfbpaa", sum := "62f330838aa881acc3181078aefc8761061c7ead830f750d27df9f5ad0421c1b", func := "loop.example/waymark/laws.FnFareWeek", spec := "fnFareWeek", unfollowed := true, recurses := true, apart := false }
def FnFareWeekSaid : Prop := fnFareWeekRow.holds Try.pinned (OpenSpec.ofChange fnFareWeekSpec)

/-- ITS FALSE NEIGHBOUR: 'it returns false'. Refute it at one input. -/
def fnFareWeekWrong : ChangeSpec := { name := "fnFareWeek", fn := fun _ => fun
  | [d] => { results := [.lit (.bool false)], args := [d] }
  | _ => none }
def FnFareWeekWrongFalsely : Prop := fnFareWeekRow.holds Try.pinned (OpenSpec.ofChange fnFareWeekWrong)

/-- 'laws.FnFareRide': WHATEVER THE INPUT: true; the input reads as it did. -/
def fnFareRideSpec : ChangeSpec := { name := "fnFareRide", fn := fun _ => fun
  | [d1, d2] => { results := [.lit (.bool true)], args := [d1, d2] }
  | _ => none }
def fnFareRideRow : OpenClaim := { program := "ytlhmljngjdfbpaa", sum := "62f330838aa881acc3181078aefc8761061c7ead830f750d27df9f5ad0421c1b", func := "loop.example/waymark/laws.FnFareRide", spec := "fnFareRide", unfollowed := true, recurses := true, apart := false }
def FnFareRideSaid : Prop := fnFareRideRow.holds Try.pinned (OpenSpec.ofChange fnFareRideSpec)

/-- ITS FALSE NEIGHBOUR: 'it returns false'. Refute it at one input. -/
def fnFareRideWrong : ChangeSpec := { name := "fnFareRide", fn := fun _ => fun
  | [d1, d2] => { results := [.lit (.bool false)], args := [d1, d2] }
  | _ => none }
def FnFareRideWrongFalsely : Prop := fnFareRideRow.holds Try.pinned (OpenSpec.ofChange fnFareRideWrong)

/-- 'laws.FnExactFareRide': WHATEVER THE INPUT: true; the input reads as it did. -/
def fnExactFareRideSpec : ChangeSpec := { name := "fnExactFareRide", fn := fun _ => fun
  | [d1, d2, d3, d4] => { results := [.lit (.bool true)], args := [d1, d2, d3, d4] }
  | _ => none }
def fnExactFareRideRow : OpenClaim := { program := "ytlhmljngjdfbpaa", sum := "62f330838aa881acc3181078aefc8761061c7ead830f750d27df9f5ad0421c1b", func := "loop.example/waymark/laws.FnExactFareRide", spec := "fnExactFareRide", unfollowed := true, recurses := true, apart := false }
def FnExactFareRideSaid : Prop := fnExactFareRideRow.holds Try.pinned (OpenSpec.ofChange fnExactFareRideSpec)

/-- ITS FALSE NEIGHBOUR: 'it returns false'. Refute it at one input. -/
def fnExactFareRideWrong : ChangeSpec := { name := "fnExactFareRide", fn := fun _ => fun
  | [d1, d2, d3, d4] => { results := [.lit (.bool false)], args := [d1, d2, d3, d4] }
  | _ => none }
def FnExactFareRideWrongFalsely : Prop := fnExactFareRideRow.holds Try.pinned (OpenSpec.ofChange fnExactFareRideWrong)

/-- 'laws.FnFlowValue': WHATEVER THE INPUT: true; the input reads as it did. -/
def fnFlowValueSpec : ChangeSpec := { name := "fnFlowValue", fn := fun _ => fun
  | [d] => { results := [.lit (.bool true)], args := [d] }
  | _ => none }
def fnFlowValueRow : OpenClaim := { program := "ytlhmljngjdfbpaa", sum := "62f330838aa881acc3181078aefc8761061c7ead830f750d27df9f5ad0421c1b", func := "loop.example/waymark/laws.FnFlowValue", spec := "fnFlowValue", unfollowed := true, recurses := true, apart := false }
def FnFlowValueSaid : Prop := fnFlowValueRow.holds Try.pinned (OpenSpec.ofChange fnFlowValueSpec)

/-- ITS FALSE NEIGHBOUR: 'it returns false'. Refute it at one input. -/
def fnFlowValueWrong : ChangeSpec := { name := "fnFlowValue", fn := fun _ => fun
  | [d] => { results := [.lit (.bool false)], args := [d] }
  | _ => none }
def FnFlowValueWrongFalsely : Prop := fnFlowValueRow.holds Try.pinned (OpenSpec.ofChange fnFlowValueWrong)

/-- 'laws.FnFlowOf': WHATEVER THE INPUT: true; the input reads as it did. -/
def fnFlowOfSpec : ChangeSpec := { name := "fnFlowOf", fn := fun _ => fun
  | [d] => { results := [.lit (.bool true)], args := [d] }
  | _ => none }
def fnFlowOfRow : OpenClaim := { program := "ytlhmljngjdfbpaa", sum := "62f330838aa881acc3181078aefc8761061c7ead830f750d27df9f5ad0421c1b", func := "loop.example/waymark/laws.FnFlowOf", spec := "fnFlowOf", unfollowed := true, recurses := true, apart := false }
def FnFlowOfSaid : Prop := fnFlowOfRow.holds Try.pinned (OpenSpec.ofChange fnFlowOfSpec)

/-- ITS FALSE NEIGHBOUR: 'it returns false'. Refute it at one input. -/
def fnFlowOfWrong : ChangeSpec := { name := "fnFlowOf", fn := fun _ => fun
  | [d] => { results := [.lit (.bool false)], args := [d] }
  | _ => none }
def FnFlowOfWrongFalsely : Prop := fnFlowOfRow.holds Try.pinned (OpenSpec.ofChange fnFlowOfWrong)

/-- 'laws.FnExactFlowOf': WHATEVER THE INPUT: true; the input reads as it did. -/
def fnExactFlowOfSpec : ChangeSpec := { name := "fnExactFlowOf", fn := fun _ => fun
  | [d1, d2, d3] => { results := [.lit (.bool true)], args := [d1, d2, d3] }
  | _ => none }
def fnExactFlowOfRow : OpenClaim := { program := "ytlhmljngjdfbpaa", sum := "62f330838aa881acc3181078aefc8761061c7ead830f750d27df9f5ad0421c1b", func := "loop.example/waymark/laws.FnExactFlowOf", spec := "fnExactFlowOf", unfollowed := true, recurses := true, apart := false }
def FnExactFlowOfSaid : Prop := fnExactFlowOfRow.holds Try.pinned (OpenSpec.ofChange fnExactFlowOfSpec)

/-- ITS FALSE NEIGHBOUR: 'it returns false'. Refute it at one input. -/
def fnExactFlowOfWrong : ChangeSpec := { name := "fnExactFlowOf", fn := fun _ => fun
  | [d1, d2, d3] => { results := [.lit (.bool false)], args := [d1, d2, d3] }
  | _ => none }
def FnExactFlowOfWrongFalsely : Prop := fnExactFlowOfRow.holds Try.pinned (OpenSpec.ofChange fnExactFlowOfWrong)

/-- 'laws.FnFlowMost': WHATEVER THE INPUT: true; the input reads as it did. -/
def fnFlowMostSpec : ChangeSpec := { name := "fnFlowMost", fn := fun _ => fun
  | [d] => { results := [.lit (.bool true)], args := [d] }
  | _ => none }
def fnFlowMostRow : OpenClaim := { program := "ytlhmljngjdfbpaa", sum := "62f330838aa881acc3181078aefc8761061c7ead830f750d27df9f5ad0421c1b", func := "loop.example/waymark/laws.FnFlowMost", spec := "fnFlowMost", unfollowed := true, recurses := true, apart := false }
def FnFlowMostSaid : Prop := fnFlowMostRow.holds Try.pinned (OpenSpec.ofChange fnFlowMostSpec)

/-- ITS FALSE NEIGHBOUR: 'it returns false'. Refute it at one input. -/
def fnFlowMostWrong : ChangeSpec := { name := "fnFlowMost", fn := fun _ => fun
  | [d] => { results := [.lit (.bool false)], args := [d] }
  | _ => none }
def FnFlowMostWrongFalsely : Prop := fnFlowMostRow.holds Try.pinned (OpenSpec.ofChange fnFlowMostWrong)

/-- 'laws.FnTreeBest': WHATEVER THE INPUT: true; the input reads as it did. -/
def fnTreeBestSpec : ChangeSpec := { name := "fnTreeBest", fn := fun _ => fun
  | [d] => { results := [.lit (.bool true)], args := [d] }
  | _ => none }
def fnTreeBestRow : OpenClaim := { program := "ytlhmljngjdfbpaa", sum := "62f330838aa881acc3181078aefc8761061c7ead830f750d27df9f5ad0421c1b", func := "loop.example/waymark/laws.FnTreeBest", spec := "fnTreeBest", unfollowed := true, recurses := true, apart := false }
def FnTreeBestSaid : Prop := fnTreeBestRow.holds Try.pinned (OpenSpec.ofChange fnTreeBestSpec)

/-- ITS FALSE NEIGHBOUR: 'it returns false'. Refute it at one input. -/
def fnTreeBestWrong : ChangeSpec := { name := "fnTreeBest", fn := fun _ => fun
  | [d] => { results := [.lit (.bool false)], args := [d] }
  | _ => none }
def FnTreeBestWrongFalsely : Prop := fnTreeBestRow.holds Try.pinned (OpenSpec.ofChange fnTreeBestWrong)

/-- 'laws.FnExactTreeBest': WHATEVER THE INPUT: true; the input reads as it did. -/
def fnExactTreeBestSpec : ChangeSpec := { name := "fnExactTreeBest", fn := fun _ => fun
  | [d] => { results := [.lit (.bool true)], args := [d] }
  | _ => none }
def fnExactTreeBestRow : OpenClaim := { program := "ytlhmljngjdfbpaa", sum := "62f330838aa881acc3181078aefc8761061c7ead830f750d27df9f5ad0421c1b", func := "loop.example/waymark/laws.FnExactTreeBest", spec := "fnExactTreeBest", unfollowed := true, recurses := true, apart := false }
def FnExactTreeBestSaid : Prop := fnExactTreeBestRow.holds Try.pinned (OpenSpec.ofChange fnExactTreeBestSpec)

/-- ITS FALSE NEIGHBOUR: 'it returns false'. Refute it at one input. -/
def fnExactTreeBestWrong : ChangeSpec := { name := "fnExactTreeBest", fn := fun _ => fun
  | [d] => { results := [.lit (.bool false)], args := [d] }
  | _ => none }
def FnExactTreeBestWrongFalsely : Prop := fnExactTreeBestRow.holds Try.pinned (OpenSpec.ofChange fnExactTreeBestWrong)

/-- 'laws.FnTreeReach': WHATEVER THE INPUT: true; the input reads as it did. -/
def fnTreeReachSpec : ChangeSpec := { name := "fnTreeReach", fn := fun _ => fun
  | [d] => { results := [.lit (.bool true)], args := [d] }
  | _ => none }
def fnTreeReachRow : OpenClaim := { program := "ytlhmljngjdfbpaa", sum := "62f330838aa881acc3181078aefc8761061c7ead830f750d27df9f5ad0421c1b", func := "loop.example/waymark/laws.FnTreeReach", spec := "fnTreeReach", unfollowed := true, recurses := true, apart := false }
def FnTreeReachSaid : Prop := fnTreeReachRow.holds Try.pinned (OpenSpec.ofChange fnTreeReachSpec)

/-- ITS FALSE NEIGHBOUR: 'it returns false'. Refute it at one input. -/
def fnTreeReachWrong : ChangeSpec := { name := "fnTreeReach", fn := fun _ => fun
  | [d] => { results := [.lit (.bool false)], args := [d] }
  | _ => none }
def FnTreeReachWrongFalsely : Prop := fnTreeReachRow.holds Try.pinned (OpenSpec.ofChange fnTreeReachWrong)

/-- 'laws.FnTreeCost': WHATEVER THE INPUT: true; the input reads as it did. -/
def fnTreeCostSpec : ChangeSpec := { name := "fnTreeCost", fn := fun _ => fun
  | [d] => { results := [.lit (.bool true)], args := [d] }
  | _ => none }
def fnTreeCostRow : OpenClaim := { program := "ytlhmljngjdfbpaa", sum := "62f330838aa881acc3181078aefc8761061c7ead830f750d27df9f5ad0421c1b", func := "loop.example/waymark/laws.FnTreeCost", spec := "fnTreeCost", unfollowed := true, recurses := true, apart := false }
def FnTreeCostSaid : Prop := fnTreeCostRow.holds Try.pinned (OpenSpec.ofChange fnTreeCostSpec)

/-- ITS FALSE NEIGHBOUR: 'it returns false'. Refute it at one input. -/
def fnTreeCostWrong : ChangeSpec := { name := "fnTreeCost", fn := fun _ => fun
  | [d] => { results := [.lit (.bool false)], args := [d] }
  | _ => none }
def FnTreeCostWrongFalsely : Prop := fnTreeCostRow.holds Try.pinned (OpenSpec.ofChange fnTreeCostWrong)

/-- 'laws.FnExactTreeCost': WHATEVER THE INPUT: true; the input reads as it did. -/
def fnExactTreeCostSpec : ChangeSpec := { name := "fnExactTreeCost", fn := fun _ => fun
  | [d1, d2] => { results := [.lit (.bool true)], args := [d1, d2] }
  | _ => none }
def fnExactTreeCostRow : OpenClaim := { program := "ytlhmljngjdfbpaa", sum := "62f330838aa881acc3181078aefc8761061c7ead830f750d27df9f5ad0421c1b", func := "loop.example/waymark/laws.FnExactTreeCost", spec := "fnExactTreeCost", unfollowed := true, recurses := true, apart := false }
def FnExactTreeCostSaid : Prop := fnExactTreeCostRow.holds Try.pinned (OpenSpec.ofChange fnExactTreeCostSpec)

/-- ITS FALSE NEIGHBOUR: 'it returns false'. Refute it at one input. -/
def fnExactTreeCostWrong : ChangeSpec := { name := "fnExactTreeCost", fn := fun _ => fun
  | [d1, d2] => { results := [.lit (.bool false)], args := [d1, d2] }
  | _ => none }
def FnExactTreeCostWrongFalsely : Prop := fnExactTreeCostRow.holds Try.pinned (OpenSpec.ofChange fnExactTreeCostWrong)

/-- 'laws.FnTreeSwap': WHATEVER THE INPUT: true; the input reads as it did. -/
def fnTreeSwapSpec : ChangeSpec := { name := "fnTreeSwap", fn := fun _ => fun
  | [d1, d2] => { results := [.lit (.bool true)], args := [d1, d2] }
  | _ => none }
def fnTreeSwapRow : OpenClaim := { program := "ytlhmljngjdfbpaa", sum := "62f330838aa881acc3181078aefc8761061c7ead830f750d27df9f5ad0421c1b", func := "loop.example/waymark/laws.FnTreeSwap", spec := "fnTreeSwap", unfollowed := true, recurses := true, apart := false }
def FnTreeSwapSaid : Prop := fnTreeSwapRow.holds Try.pinned (OpenSpec.ofChange fnTreeSwapSpec)

/-- ITS FALSE NEIGHBOUR: 'it returns false'. Refute it at one input. -/
def fnTreeSwapWrong : ChangeSpec := { name := "fnTreeSwap", fn := fun _ => fun
  | [d1, d2] => { results := [.lit (.bool false)], args := [d1, d2] }
  | _ => none }
def FnTreeSwapWrongFalsely : Prop := fnTreeSwapRow.holds Try.pinned (OpenSpec.ofChange fnTreeSwapWrong)

/- THE SECOND FORM. 'bulk': how many values and letters a reading holds, each counted each time it is reached (what is shared counts as often as it is met; a slice's spare places count too). A statement '..UptoSaid' is the law's where the arguments, and the package variables that the reading takes, are together of bulk at most 1048576: NARROWER than '..Said'. Prove '..Said' where nothing that the law and all that it calls make is longer than what came in: it says more and counts as full. Else prove '..UptoSaid'. A law counts once. -/
mutual
def uptoBulk {H : Type} : DataW H → Nat
  | .lit (.string bytes) => bytes.length + 1
  | .lit _ => 1
  | .nil => 1
  | .ptr d => uptoBulk d + 1
  | .slice elems spare => uptoBulkAll elems + uptoBulkAll spare + 1
  | .agg parts => uptoBulkAll parts + 1
  | .iface _ d => uptoBulk d + 1
  | .map entries => uptoBulkEntries entries + 1
  | .held _ => 1
def uptoBulkAll {H : Type} : List (DataW H) → Nat
  | [] => 0
  | d :: r => uptoBulk d + uptoBulkAll r
def uptoBulkEntries {H : Type} : List (Lit × DataW H) → Nat
  | [] => 0
  | x :: r => uptoBulkEntry x + uptoBulkEntries r
def uptoBulkEntry {H : Type} : Lit × DataW H → Nat
  | (.string bytes, d) => bytes.length + uptoBulk d + 1
  | (_, d) => uptoBulk d + 1
 end
def uptoSmall : (H : Type) → List (DataW H) → Bool := fun _ ds => decide (uptoBulkAll ds ≤ 1048576)
def OpenSpec.upto (s : _root_.Go.ChangeSpec) : _root_.Go.OpenSpec := { _root_.Go.OpenSpec.ofChange s with cond := some uptoSmall }

/-- 'laws.FnFareWeek', WHERE WHAT IT READS IS OF BULK AT MOST 1048576: true; the input reads as it did. -/
def fnFareWeekUptoRow : OpenClaim := { program := "ytlhmljngjdfbpaa", sum := "62f330838aa881acc3181078aefc8761061c7ead830f750d27df9f5ad0421c1b", func := "loop.example/waymark/laws.FnFareWeek", spec := "fnFareWeek", unfollowed := true, recurses := true, apart := false, narrowed := true }
def FnFareWeekUptoSaid : Prop := fnFareWeekUptoRow.holds Try.pinned (OpenSpec.upto fnFareWeekSpec)

/-- 'laws.FnFareRide', WHERE WHAT IT READS IS OF BULK AT MOST 1048576: true; the input reads as it did. -/
def fnFareRideUptoRow : OpenClaim := { program := "ytlhmljngjdfbpaa", sum := "62f330838aa881acc3181078aefc8761061c7ead830f750d27df9f5ad0421c1b", func := "loop.example/waymark/laws.FnFareRide", spec := "fnFareRide", unfollowed := true, recurses := true, apart := false, narrowed := true }
def FnFareRideUptoSaid : Prop := fnFareRideUptoRow.holds Try.pinned (OpenSpec.upto fnFareRideSpec)

/-- 'laws.FnExactFareRide', WHERE WHAT IT READS IS OF BULK AT MOST 1048576: true; the input reads as it did. -/
def fnExactFareRideUptoRow : OpenClaim := { program := "ytlhmljngjdfbpaa", sum := "62f330838aa881acc3181078aefc8761061c7ead830f750d27df9f5ad0421c1b", func := "loop.example/waymark/laws.FnExactFareRide", spec := "fnExactFareRide", unfollowed := true, recurses := true, apart := false, narrowed := true }
def FnExactFareRideUptoSaid : Prop := fnExactFareRideUptoRow.holds Try.pinned (OpenSpec.upto fnExactFareRideSpec)

/-- 'laws.FnFlowValue', WHERE WHAT IT READS IS OF BULK AT MOST 1048576: true; the input reads as it did. -/
def fnFlowValueUptoRow : OpenClaim := { program := "ytlhmljngjdfbpaa", sum := "62f330838aa881acc3181078aefc8761061c7ead830f750d27df9f5ad0421c1b", func := "loop.example/waymark/laws.FnFlowValue", spec := "fnFlowValue", unfollowed := true, recurses := true, apart := false, narrowed := true }
def FnFlowValueUptoSaid : Prop := fnFlowValueUptoRow.holds Try.pinned (OpenSpec.upto fnFlowValueSpec)

/-- 'laws.FnFlowOf', WHERE WHAT IT READS IS OF BULK AT MOST 1048576: true; the input reads as it did. -/
def fnFlowOfUptoRow : OpenClaim := { program := "ytlhmljngjdfbpaa", sum := "62f330838aa881acc3181078aefc8761061c7ead830f750d27df9f5ad0421c1b", func := "loop.example/waymark/laws.FnFlowOf", spec := "fnFlowOf", unfollowed := true, recurses := true, apart := false, narrowed := true }
def FnFlowOfUptoSaid : Prop := fnFlowOfUptoRow.holds Try.pinned (OpenSpec.upto fnFlowOfSpec)

/-- 'laws.FnExactFlowOf', WHERE WHAT IT READS IS OF BULK AT MOST 1048576: true; the input reads as it did. -/
def fnExactFlowOfUptoRow : OpenClaim := { program := "ytlhmljngjdfbpaa", sum := "62f330838aa881acc3181078aefc8761061c7ead830f750d27df9f5ad0421c1b", func := "loop.example/waymark/laws.FnExactFlowOf", spec := "fnExactFlowOf", unfollowed := true, recurses := true, apart := false, narrowed := true }
def FnExactFlowOfUptoSaid : Prop := fnExactFlowOfUptoRow.holds Try.pinned (OpenSpec.upto fnExactFlowOfSpec)

/-- 'laws.FnFlowMost', WHERE WHAT IT READS IS OF BULK AT MOST 1048576: true; the input reads as it did. -/
def fnFlowMostUptoRow : OpenClaim := { program := "ytlhmljngjdfbpaa", sum := "62f330838aa881acc3181078aefc8761061c7ead830f750d27df9f5ad0421c1b", func := "loop.example/waymark/laws.FnFlowMost", spec := "fnFlowMost", unfollowed := true, recurses := true, apart := false, narrowed := true }
def FnFlowMostUptoSaid : Prop := fnFlowMostUptoRow.holds Try.pinned (OpenSpec.upto fnFlowMostSpec)

/-- 'laws.FnTreeBest', WHERE WHAT IT READS IS OF BULK AT MOST 1048576: true; the input reads as it did. -/
def fnTreeBestUptoRow : OpenClaim := { program := "ytlhmljngjdfbpaa", sum := "62f330838aa881acc3181078aefc8761061c7ead830f750d27df9f5ad0421c1b", func := "loop.example/waymark/laws.FnTreeBest", spec := "fnTreeBest", unfollowed := true, recurses := true, apart := false, narrowed := true }
def FnTreeBestUptoSaid : Prop := fnTreeBestUptoRow.holds Try.pinned (OpenSpec.upto fnTreeBestSpec)

/-- 'laws.FnExactTreeBest', WHERE WHAT IT READS IS OF BULK AT MOST 1048576: true; the input reads as it did. -/
def fnExactTreeBestUptoRow : OpenClaim := { program := "ytlhmljngjdfbpaa", sum := "62f330838aa881acc3181078aefc8761061c7ead830f750d27df9f5ad0421c1b", func := "loop.example/waymark/laws.FnExactTreeBest", spec := "fnExactTreeBest", unfollowed := true, recurses := true, apart := false, narrowed := true }
def FnExactTreeBestUptoSaid : Prop := fnExactTreeBestUptoRow.holds Try.pinned (OpenSpec.upto fnExactTreeBestSpec)

/-- 'laws.FnTreeReach', WHERE WHAT IT READS IS OF BULK AT MOST 1048576: true; the input reads as it did. -/
def fnTreeReachUptoRow : OpenClaim := { program := "ytlhmljngjdfbpaa", sum := "62f330838aa881acc3181078aefc8761061c7ead830f750d27df9f5ad0421c1b", func := "loop.example/waymark/laws.FnTreeReach", spec := "fnTreeReach", unfollowed := true, recurses := true, apart := false, narrowed := true }
def FnTreeReachUptoSaid : Prop := fnTreeReachUptoRow.holds Try.pinned (OpenSpec.upto fnTreeReachSpec)

/-- 'laws.FnTreeCost', WHERE WHAT IT READS IS OF BULK AT MOST 1048576: true; the input reads as it did. -/
def fnTreeCostUptoRow : OpenClaim := { program := "ytlhmljngjdfbpaa", sum := "62f330838aa881acc3181078aefc8761061c7ead830f750d27df9f5ad0421c1b", func := "loop.example/waymark/laws.FnTreeCost", spec := "fnTreeCost", unfollowed := true, recurses := true, apart := false, narrowed := true }
def FnTreeCostUptoSaid : Prop := fnTreeCostUptoRow.holds Try.pinned (OpenSpec.upto fnTreeCostSpec)

/-- 'laws.FnExactTreeCost', WHERE WHAT IT READS IS OF BULK AT MOST 1048576: true; the input reads as it did. -/
def fnExactTreeCostUptoRow : OpenClaim := { program := "ytlhmljngjdfbpaa", sum := "62f330838aa881acc3181078aefc8761061c7ead830f750d27df9f5ad0421c1b", func := "loop.example/waymark/laws.FnExactTreeCost", spec := "fnExactTreeCost", unfollowed := true, recurses := true, apart := false, narrowed := true }
def FnExactTreeCostUptoSaid : Prop := fnExactTreeCostUptoRow.holds Try.pinned (OpenSpec.upto fnExactTreeCostSpec)

/-- 'laws.FnTreeSwap', WHERE WHAT IT READS IS OF BULK AT MOST 1048576: true; the input reads as it did. -/
def fnTreeSwapUptoRow : OpenClaim := { program := "ytlhmljngjdfbpaa", sum := "62f330838aa881acc3181078aefc8761061c7ead830f750d27df9f5ad0421c1b", func := "loop.example/waymark/laws.FnTreeSwap", spec := "fnTreeSwap", unfollowed := true, recurses := true, apart := false, narrowed := true }
def FnTreeSwapUptoSaid : Prop := fnTreeSwapUptoRow.holds Try.pinned (OpenSpec.upto fnTreeSwapSpec)

end Rows
end Go.Proofs.Ytlhmljngjdfbpaa
