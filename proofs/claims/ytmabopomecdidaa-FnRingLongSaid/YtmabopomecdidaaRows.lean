/-
  No cell of these rows narrows 'for every input' (looked for: loops, veiled, ifaces, maps, wideKeys, modest, calm, conditions, laid).
  DERIVED. THE GIVEN ROWS OF THIS SEAT. 12 by the template 'for every input the law returns true; each argument reads behind the call as it read before'; 0 by the template 'total and deterministic' (their statements: YtmabopomecdidaaTotals.lean).
  GIVEN WITH THE SEED: the statements are not yours to turn. If you find one false, say at which input.
  Laid BY PROGRAM, IN A SANDBOX (cutbox-rows.mjs): the forced cells as the released guide's own fill.sh prints them over the translation 7fec68dd283cce40… (all of the seat's roots in one cut). By AI agents, Wed Nov 11 2026. No macro, syntax, notation, axiom, sorry.
-/
import Derived.Test.YtmabopomecdidaaChecked
import GoSem.Claim
import GoSem.ClaimJoined
import GoSem.ClaimMapViews
import Derived.JoinedTies
import Derived.KernelRfl
namespace Go.Proofs.Ytmabopomecdidaa
/- THE CELL 'sum', in the pinned program and in every row, IS THE sha256 OF THE DUMP (.gsa) THAT YtmabopomecdidaaProg.lean LOADS. Nothing in Lean hashes anything: it is a label: what it is worth is what the hold of that sum in a sandbox is worth. -/
noncomputable def Try.pinned : Pinned := { name := "ytmabopomecdidaa", sum := "7fec68dd283cce40c1d0277092a3a147c185cbe176e3dc98b338904e534c7d00", checked := Try.checked }
namespace Rows
def none {H : Type} : Left H := { results := [], args := [] }

/-- 'laws.FnExactFareWeek': WHATEVER THE INPUT: true; the input reads as it did. -/
def fnExactFareWeekSpec : ChangeSpec := { name := "fnExactFareWeek", fn := fun _ => fun
  | [d1, d2] => { results := [.lit (.bool true)], args := [d1, d2] }
  | _ => none }
def fnExactFareWeekRow : OpenClaim := { program := "ytmabopomecdidaa", sum := "7fec68dd283cce40c1d0277092a3a147c185cbe176e3dc98b338904e534c7d00", func := "loop.example/waymark/laws.FnExactFareWeek", spec := "fnExactFareWeek", unfollowed := true, recurses := true, apart := false }
def FnExactFareWeekSaid : Prop := fnExactFareWeekRow.holds Try.pinned (OpenSpec.ofChange fnExactFareWeekSpec)

/-- ITS FALSE NEIGHBOUR: 'it returns false'. Refute it at one input. -/
def fnExactFareWeekWrong : ChangeSpec := { name := "fnExactFareWeek", fn := fun _ => fun
  | [d1, d2] => { results := [.lit (.bool false)], args := [d1, d2] }
  | _ => none }
def FnExactFareWeekWrongFalsely : Prop := fnExactFareWeekRow.holds Try.pinned (OpenSpec.ofChange fnExactFareWeekWrong)

/-- 'laws.FnRingOrder': WHATEVER THE INPUT: true; the input reads as it did. -/
def fnRingOrderSpec : ChangeSpec := { name := "fnRingOrder", fn := fun _ => fun
  | [d] => { results := [.lit (.bool true)], args := [d] }
  | _ => none }
def fnRingOrderRow : OpenClaim := { program := "ytmabopomecdidaa", sum := "7fec68dd283cce40c1d0277092a3a147c185cbe176e3dc98b338904e534c7d00", func := "loop.example/waymark/laws.FnRingOrder", spec := "fnRingOrder", unfollowed := true, recurses := true, apart := false }
def FnRingOrderSaid : Prop := fnRingOrderRow.holds Try.pinned (OpenSpec.ofChange fnRingOrderSpec)

/-- ITS FALSE NEIGHBOUR: 'it returns false'. Refute it at one input. -/
def fnRingOrderWrong : ChangeSpec := { name := "fnRingOrder", fn := fun _ => fun
  | [d] => { results := [.lit (.bool false)], args := [d] }
  | _ => none }
def FnRingOrderWrongFalsely : Prop := fnRingOrderRow.holds Try.pinned (OpenSpec.ofChange fnRingOrderWrong)

/-- 'laws.FnFlowValue': WHATEVER THE INPUT: true; the input reads as it did. -/
def fnFlowValueSpec : ChangeSpec := { name := "fnFlowValue", fn := fun _ => fun
  | [d] => { results := [.lit (.bool true)], args := [d] }
  | _ => none }
def fnFlowValueRow : OpenClaim := { program := "ytmabopomecdidaa", sum := "7fec68dd283cce40c1d0277092a3a147c185cbe176e3dc98b338904e534c7d00", func := "loop.example/waymark/laws.FnFlowValue", spec := "fnFlowValue", unfollowed := true, recurses := true, apart := false }
def FnFlowValueSaid : Prop := fnFlowValueRow.holds Try.pinned (OpenSpec.ofChange fnFlowValueSpec)

/-- ITS FALSE NEIGHBOUR: 'it returns false'. Refute it at one input. -/
def fnFlowValueWrong : ChangeSpec := { name := "fnFlowValue", fn := fun _ => fun
  | [d] => { results := [.lit (.bool false)], args := [d] }
  | _ => none }
def FnFlowValueWrongFalsely : Prop := fnFlowValueRow.holds Try.pinned (OpenSpec.ofChange fnFlowValueWrong)

/-- 'laws.FnExactTreeParts': WHATEVER THE INPUT: true; the input reads as it did. -/
def fnExactTreePartsSpec : ChangeSpec := { name := "fnExactTreeParts", fn := fun _ => fun
  | [d1, d2] => { results := [.lit (.bool true)], args := [d1, d2] }
  | _ => none }
def fnExactTreePartsRow : OpenClaim := { program := "ytmabopomecdidaa", sum := "7fec68dd283cce40c1d0277092a3a147c185cbe176e3dc98b338904e534c7d00", func := "loop.example/waymark/laws.FnExactTreeParts", spec := "fnExactTreeParts", unfollowed := true, recurses := true, apart := false }
def FnExactTreePartsSaid : Prop := fnExactTreePartsRow.holds Try.pinned (OpenSpec.ofChange fnExactTreePartsSpec)

/-- ITS FALSE NEIGHBOUR: 'it returns false'. Refute it at one input. -/
def fnExactTreePartsWrong : ChangeSpec := { name := "fnExactTreeParts", fn := fun _ => fun
  | [d1, d2] => { results := [.lit (.bool false)], args := [d1, d2] }
  | _ => none }
def FnExactTreePartsWrongFalsely : Prop := fnExactTreePartsRow.holds Try.pinned (OpenSpec.ofChange fnExactTreePartsWrong)

/-- 'laws.FnExactRingLong': WHATEVER THE INPUT: true; the input reads as it did. -/
def fnExactRingLongSpec : ChangeSpec := { name := "fnExactRingLong", fn := fun _ => fun
  | [d] => { results := [.lit (.bool true)], args := [d] }
  | _ => none }
def fnExactRingLongRow : OpenClaim := { program := "ytmabopomecdidaa", sum := "7fec68dd283cce40c1d0277092a3a147c185cbe176e3dc98b338904e534c7d00", func := "loop.example/waymark/laws.FnExactRingLong", spec := "fnExactRingLong", unfollowed := true, recurses := true, apart := false }
def FnExactRingLongSaid : Prop := fnExactRingLongRow.holds Try.pinned (OpenSpec.ofChange fnExactRingLongSpec)

/-- ITS FALSE NEIGHBOUR: 'it returns false'. Refute it at one input. -/
def fnExactRingLongWrong : ChangeSpec := { name := "fnExactRingLong", fn := fun _ => fun
  | [d] => { results := [.lit (.bool false)], args := [d] }
  | _ => none }
def FnExactRingLongWrongFalsely : Prop := fnExactRingLongRow.holds Try.pinned (OpenSpec.ofChange fnExactRingLongWrong)

/-- 'laws.FnExactRingOrder': WHATEVER THE INPUT: true; the input reads as it did. -/
def fnExactRingOrderSpec : ChangeSpec := { name := "fnExactRingOrder", fn := fun _ => fun
  | [d] => { results := [.lit (.bool true)], args := [d] }
  | _ => none }
def fnExactRingOrderRow : OpenClaim := { program := "ytmabopomecdidaa", sum := "7fec68dd283cce40c1d0277092a3a147c185cbe176e3dc98b338904e534c7d00", func := "loop.example/waymark/laws.FnExactRingOrder", spec := "fnExactRingOrder", unfollowed := true, recurses := true, apart := false }
def FnExactRingOrderSaid : Prop := fnExactRingOrderRow.holds Try.pinned (OpenSpec.ofChange fnExactRingOrderSpec)

/-- ITS FALSE NEIGHBOUR: 'it returns false'. Refute it at one input. -/
def fnExactRingOrderWrong : ChangeSpec := { name := "fnExactRingOrder", fn := fun _ => fun
  | [d] => { results := [.lit (.bool false)], args := [d] }
  | _ => none }
def FnExactRingOrderWrongFalsely : Prop := fnExactRingOrderRow.holds Try.pinned (OpenSpec.ofChange fnExactRingOrderWrong)

/-- 'laws.FnFareRide': WHATEVER THE INPUT: true; the input reads as it did. -/
def fnFareRideSpec : ChangeSpec := { name := "fnFareRide", fn := fun _ => fun
  | [d1, d2] => { results := [.lit (.bool true)], args := [d1, d2] }
  | _ => none }
def fnFareRideRow : OpenClaim := { program := "ytmabopomecdidaa", sum := "7fec68dd283cce40c1d0277092a3a147c185cbe176e3dc98b338904e534c7d00", func := "loop.example/waymark/laws.FnFareRide", spec := "fnFareRide", unfollowed := true, recurses := true, apart := false }
def FnFareRideSaid : Prop := fnFareRideRow.holds Try.pinned (OpenSpec.ofChange fnFareRideSpec)

/-- ITS FALSE NEIGHBOUR: 'it returns false'. Refute it at one input. -/
def fnFareRideWrong : ChangeSpec := { name := "fnFareRide", fn := fun _ => fun
  | [d1, d2] => { results := [.lit (.bool false)], args := [d1, d2] }
  | _ => none }
def FnFareRideWrongFalsely : Prop := fnFareRideRow.holds Try.pinned (OpenSpec.ofChange fnFareRideWrong)

/-- 'laws.FnExactFareRide': WHATEVER THE INPUT: true; the input reads as it did. -/
def fnExactFareRideSpec : ChangeSpec := { name := "fnExactFareRide", fn := fun _ => fun
  | [d1, d2, d3, d4] => { results := [.lit (.bool true)], args := [d1, d2, d3, d4] }
  | _ => none }
def fnExactFareRideRow : OpenClaim := { program := "ytmabopomecdidaa", sum := "7fec68dd283cce40c1d0277092a3a147c185cbe176e3dc98b338904e534c7d00", func := "loop.example/waymark/laws.FnExactFareRide", spec := "fnExactFareRide", unfollowed := true, recurses := true, apart := false }
def FnExactFareRideSaid : Prop := fnExactFareRideRow.holds Try.pinned (OpenSpec.ofChange fnExactFareRideSpec)

/-- ITS FALSE NEIGHBOUR: 'it returns false'. Refute it at one input. -/
def fnExactFareRideWrong : ChangeSpec := { name := "fnExactFareRide", fn := fun _ => fun
  | [d1, d2, d3, d4] => { results := [.lit (.bool false)], args := [d1, d2, d3, d4] }
  | _ => none }
def FnExactFareRideWrongFalsely : Prop := fnExactFareRideRow.holds Try.pinned (OpenSpec.ofChange fnExactFareRideWrong)

/-- 'laws.FnFlowOf': WHATEVER THE INPUT: true; the input reads as it did. -/
def fnFlowOfSpec : ChangeSpec := { name := "fnFlowOf", fn := fun _ => fun
  | [d] => { results := [.lit (.bool true)], args := [d] }
  | _ => none }
def fnFlowOfRow : OpenClaim := { program := "ytmabopomecdidaa", sum := "7fec68dd283cce40c1d0277092a3a147c185cbe176e3dc98b338904e534c7d00", func := "loop.example/waymark/laws.FnFlowOf", spec := "fnFlowOf", unfollowed := true, recurses := true, apart := false }
def FnFlowOfSaid : Prop := fnFlowOfRow.holds Try.pinned (OpenSpec.ofChange fnFlowOfSpec)

/-- ITS FALSE NEIGHBOUR: 'it returns false'. Refute it at one input. -/
def fnFlowOfWrong : ChangeSpec := { name := "fnFlowOf", fn := fun _ => fun
  | [d] => { results := [.lit (.bool false)], args := [d] }
  | _ => none }
def FnFlowOfWrongFalsely : Prop := fnFlowOfRow.holds Try.pinned (OpenSpec.ofChange fnFlowOfWrong)

/-- 'laws.FnExactFlowOf': WHATEVER THE INPUT: true; the input reads as it did. -/
def fnExactFlowOfSpec : ChangeSpec := { name := "fnExactFlowOf", fn := fun _ => fun
  | [d1, d2, d3] => { results := [.lit (.bool true)], args := [d1, d2, d3] }
  | _ => none }
def fnExactFlowOfRow : OpenClaim := { program := "ytmabopomecdidaa", sum := "7fec68dd283cce40c1d0277092a3a147c185cbe176e3dc98b338904e534c7d00", func := "loop.example/waymark/laws.FnExactFlowOf", spec := "fnExactFlowOf", unfollowed := true, recurses := true, apart := false }
def FnExactFlowOfSaid : Prop := fnExactFlowOfRow.holds Try.pinned (OpenSpec.ofChange fnExactFlowOfSpec)

/-- ITS FALSE NEIGHBOUR: 'it returns false'. Refute it at one input. -/
def fnExactFlowOfWrong : ChangeSpec := { name := "fnExactFlowOf", fn := fun _ => fun
  | [d1, d2, d3] => { results := [.lit (.bool false)], args := [d1, d2, d3] }
  | _ => none }
def FnExactFlowOfWrongFalsely : Prop := fnExactFlowOfRow.holds Try.pinned (OpenSpec.ofChange fnExactFlowOfWrong)

/-- 'laws.FnFlowMost': WHATEVER THE INPUT: true; the input reads as it did. -/
def fnFlowMostSpec : ChangeSpec := { name := "fnFlowMost", fn := fun _ => fun
  | [d] => { results := [.lit (.bool true)], args := [d] }
  | _ => none }
def fnFlowMostRow : OpenClaim := { program := "ytmabopomecdidaa", sum := "7fec68dd283cce40c1d0277092a3a147c185cbe176e3dc98b338904e534c7d00", func := "loop.example/waymark/laws.FnFlowMost", spec := "fnFlowMost", unfollowed := true, recurses := true, apart := false }
def FnFlowMostSaid : Prop := fnFlowMostRow.holds Try.pinned (OpenSpec.ofChange fnFlowMostSpec)

/-- ITS FALSE NEIGHBOUR: 'it returns false'. Refute it at one input. -/
def fnFlowMostWrong : ChangeSpec := { name := "fnFlowMost", fn := fun _ => fun
  | [d] => { results := [.lit (.bool false)], args := [d] }
  | _ => none }
def FnFlowMostWrongFalsely : Prop := fnFlowMostRow.holds Try.pinned (OpenSpec.ofChange fnFlowMostWrong)

/-- 'laws.FnRingLong': WHATEVER THE INPUT: true; the input reads as it did. -/
def fnRingLongSpec : ChangeSpec := { name := "fnRingLong", fn := fun _ => fun
  | [d1, d2] => { results := [.lit (.bool true)], args := [d1, d2] }
  | _ => none }
def fnRingLongRow : OpenClaim := { program := "ytmabopomecdidaa", sum := "7fec68dd283cce40c1d0277092a3a147c185cbe176e3dc98b338904e534c7d00", func := "loop.example/waymark/laws.FnRingLong", spec := "fnRingLong", unfollowed := true, recurses := true, apart := false }
def FnRingLongSaid : Prop := fnRingLongRow.holds Try.pinned (OpenSpec.ofChange fnRingLongSpec)

/-- ITS FALSE NEIGHBOUR: 'it returns false'. Refute it at one input. -/
def fnRingLongWrong : ChangeSpec := { name := "fnRingLong", fn := fun _ => fun
  | [d1, d2] => { results := [.lit (.bool false)], args := [d1, d2] }
  | _ => none }
def FnRingLongWrongFalsely : Prop := fnRingLongRow.holds Try.pinned (OpenSpec.ofChange fnRingLongWrong)

/- THE SECOND FORM. 'bulk': how many values and letters a reading holds, each counted each time it is reached (what is shared counts as often as it is met; a slice's spare places count too). A statement '..UptoSaid' is the law's where the arguments, and the package variables that the reading takes, are together of bulk at most 1048576: NARROWER than '..Said'. Prove '..Said' where nothing that the law and all that it calls make is longer than what came in: it says more and counts as full. Else prove '..UptoSaid'. A law counts once. -/
mutual
def uptoBulk {H : Type} : DataW H → Nat
  | .lit (.string bytes) => bytes.length + 1
  | .lit _ => 1
  | .nil => 1
  | .ptr d => uptoBulk d + 1
  | .slice elems spare => uptoBulkAll elems + uptoBulkAll spare + 1
  | .agg parts => uptoBulkAll parts + 1
  | .iface _ d => uptoBulk d + 1
  | .map entries => uptoBulkEntries entries + 1
  | .held _ => 1
def uptoBulkAll {H : Type} : List (DataW H) → Nat
  | [] => 0
  | d :: r => uptoBulk d + uptoBulkAll r
def uptoBulkEntries {H : Type} : List (Lit × DataW H) → Nat
  | [] => 0
  | x :: r => uptoBulkEntry x + uptoBulkEntries r
def uptoBulkEntry {H : Type} : Lit × DataW H → Nat
  | (.string bytes, d) => bytes.length + uptoBulk d + 1
  | (_, d) => uptoBulk d + 1
 end
def uptoSmall : (H : Type) → List (DataW H) → Bool := fun _ ds => decide (uptoBulkAll ds ≤ 1048576)
def OpenSpec.upto (s : _root_.Go.ChangeSpec) : _root_.Go.OpenSpec := { _root_.Go.OpenSpec.ofChange s with cond := some uptoSmall }

/-- 'laws.FnExactFareWeek', WHERE WHAT IT READS IS OF BULK AT MOST 1048576: true; the input reads as it did. -/
def fnExactFareWeekUptoRow : OpenClaim := { program := "ytmabopomecdidaa", sum := "7fec68dd283cce40c1d0277092a3a147c185cbe176e3dc98b338904e534c7d00", func := "loop.example/waymark/laws.FnExactFareWeek", spec := "fnExactFareWeek", unfollowed := true, recurses := true, apart := false, narrowed := true }
def FnExactFareWeekUptoSaid : Prop := fnExactFareWeekUptoRow.holds Try.pinned (OpenSpec.upto fnExactFareWeekSpec)

/-- 'laws.FnRingOrder', WHERE WHAT IT READS IS OF BULK AT MOST 1048576: true; the input reads as it did. -/
def fnRingOrderUptoRow : OpenClaim := { program := "ytmabopomecdidaa", sum := "7fec68dd283cce40c1d0277092a3a147c185cbe176e3dc98b338904e534c7d00", func := "loop.example/waymark/laws.FnRingOrder", spec := "fnRingOrder", unfollowed := true, recurses := true, apart := false, narrowed := true }
def FnRingOrderUptoSaid : Prop := fnRingOrderUptoRow.holds Try.pinned (OpenSpec.upto fnRingOrderSpec)

/-- 'laws.FnFlowValue', WHERE WHAT IT READS IS OF BULK AT MOST 1048576: true; the input reads as it did. -/
def fnFlowValueUptoRow : OpenClaim := { program := "ytmabopomecdidaa", sum := "7fec68dd283cce40c1d0277092a3a147c185cbe176e3dc98b338904e534c7d00", func := "loop.example/waymark/laws.FnFlowValue", spec := "fnFlowValue", unfollowed := true, recurses := true, apart := false, narrowed := true }
def FnFlowValueUptoSaid : Prop := fnFlowValueUptoRow.holds Try.pinned (OpenSpec.upto fnFlowValueSpec)

/-- 'laws.FnExactTreeParts', WHERE WHAT IT READS IS OF BULK AT MOST 1048576: true; the input reads as it did. -/
def fnExactTreePartsUptoRow : OpenClaim := { program := "ytmabopomecdidaa", sum := "7fec68dd283cce40c1d0277092a3a147c185cbe176e3dc98b338904e534c7d00", func := "loop.example/waymark/laws.FnExactTreeParts", spec := "fnExactTreeParts", unfollowed := true, recurses := true, apart := false, narrowed := true }
def FnExactTreePartsUptoSaid : Prop := fnExactTreePartsUptoRow.holds Try.pinned (OpenSpec.upto fnExactTreePartsSpec)

/-- 'laws.FnExactRingLong', WHERE WHAT IT READS IS OF BULK AT MOST 1048576: true; the input reads as it did. -/
def fnExactRingLongUptoRow : OpenClaim := { program := "ytmabopomecdidaa", sum := "7fec68dd283cce40c1d0277092a3a147c185cbe176e3dc98b338904e534c7d00", func := "loop.example/waymark/laws.FnExactRingLong", spec := "fnExactRingLong", unfollowed := true, recurses := true, apart := false, narrowed := true }
def FnExactRingLongUptoSaid : Prop := fnExactRingLongUptoRow.holds Try.pinned (OpenSpec.upto fnExactRingLongSpec)

/-- 'laws.FnExactRingOrder', WHERE WHAT IT READS IS OF BULK AT MOST 1048576: true; the input reads as it did. -/
def fnExactRingOrderUptoRow : OpenClaim := { program := "ytmabopomecdidaa", sum := "7fec68dd283cce40c1d0277092a3a147c185cbe176e3dc98b338904e534c7d00", func := "loop.example/waymark/laws.FnExactRingOrder", spec := "fnExactRingOrder", unfollowed := true, recurses := true, apart := false, narrowed := true }
def FnExactRingOrderUptoSaid : Prop := fnExactRingOrderUptoRow.holds Try.pinned (OpenSpec.upto fnExactRingOrderSpec)

/-- 'laws.FnFareRide', WHERE WHAT IT READS IS OF BULK AT MOST 1048576: true; the input reads as it did. -/
def fnFareRideUptoRow : OpenClaim := { program := "ytmabopomecdidaa", sum := "7fec68dd283cce40c1d0277092a3a147c185cbe176e3dc98b338904e534c7d00", func := "loop.example/waymark/laws.FnFareRide", spec := "fnFareRide", unfollowed := true, recurses := true, apart := false, narrowed := true }
def FnFareRideUptoSaid : Prop := fnFareRideUptoRow.holds Try.pinned (OpenSpec.upto fnFareRideSpec)

/-- 'laws.FnExactFareRide', WHERE WHAT IT READS IS OF BULK AT MOST 1048576: true; the input reads as it did. -/
def fnExactFareRideUptoRow : OpenClaim := { program := "ytmabopomecdidaa", sum := "7fec68dd283cce40c1d0277092a3a147c185cbe176e3dc98b338904e534c7d00", func := "loop.example/waymark/laws.FnExactFareRide", spec := "fnExactFareRide", unfollowed := true, recurses := true, apart := false, narrowed := true }
def FnExactFareRideUptoSaid : Prop := fnExactFareRideUptoRow.holds Try.pinned (OpenSpec.upto fnExactFareRideSpec)

/-- 'laws.FnFlowOf', WHERE WHAT IT READS IS OF BULK AT MOST 1048576: true; the input reads as it did. -/
def fnFlowOfUptoRow : OpenClaim := { program := "ytmabopomecdidaa", sum := "7fec68dd283cce40c1d0277092a3a147c185cbe176e3dc98b338904e534c7d00", func := "loop.example/waymark/laws.FnFlowOf", spec := "fnFlowOf", unfollowed := true, recurses := true, apart := false, narrowed := true }
def FnFlowOfUptoSaid : Prop := fnFlowOfUptoRow.holds Try.pinned (OpenSpec.upto fnFlowOfSpec)

/-- 'laws.FnExactFlowOf', WHERE WHAT IT READS IS OF BULK AT MOST 1048576: true; the input reads as it did. -/
def fnExactFlowOfUptoRow : OpenClaim := { program := "ytmabopomecdidaa", sum := "7fec68dd283cce40c1d0277092a3a147c185cbe176e3dc98b338904e534c7d00", func := "loop.example/waymark/laws.FnExactFlowOf", spec := "fnExactFlowOf", unfollowed := true, recurses := true, apart := false, narrowed := true }
def FnExactFlowOfUptoSaid : Prop := fnExactFlowOfUptoRow.holds Try.pinned (OpenSpec.upto fnExactFlowOfSpec)

/-- 'laws.FnFlowMost', WHERE WHAT IT READS IS OF BULK AT MOST 1048576: true; the input reads as it did. -/
def fnFlowMostUptoRow : OpenClaim := { program := "ytmabopomecdidaa", sum := "7fec68dd283cce40c1d0277092a3a147c185cbe176e3dc98b338904e534c7d00", func := "loop.example/waymark/laws.FnFlowMost", spec := "fnFlowMost", unfollowed := true, recurses := true, apart := false, narrowed := true }
def FnFlowMostUptoSaid : Prop := fnFlowMostUptoRow.holds Try.pinned (OpenSpec.upto fnFlowMostSpec)

/-- 'laws.FnRingLong', WHERE WHAT IT READS IS OF BULK AT MOST 1048576: true; the input reads as it did. -/
def fnRingLongUptoRow : OpenClaim := { program := "ytmabopomecdidaa", sum := "7fec68dd283cce40c1d0277092a3a147c185cbe176e3dc98b338904e534c7d00", func := "loop.example/waymark/laws.FnRingLong", spec := "fnRingLong", unfollowed := true, recurses := true, apart := false, narrowed := true }
def FnRingLongUptoSaid : Prop := fnRingLongUptoRow.holds Try.pinned (OpenSpec.upto fnRingLongSpec)

end Rows
end Go.Proofs.Ytmabopomecdidaa
