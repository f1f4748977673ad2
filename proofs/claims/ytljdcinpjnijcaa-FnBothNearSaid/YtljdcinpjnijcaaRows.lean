/-
  No cell of these rows narrows 'for every input' (looked for: loops, veiled, ifaces, maps, wideKeys, modest, calm, conditions, laid).
  DERIVED. THE GIVEN ROWS OF THIS SEAT. 11 by the template 'for every input the law returns true; each argument reads behind the call as it read before'; 0 by the template 'total and deterministic' (their statements: YtljdcinpjnijcaaTotals.lean).
  GIVEN WITH THE SEED: the statements are not yours to turn. If you find one false, say at which input.
  Laid BY PROGRAM, IN A SANDBOX (cutbox-rows.mjs): the forced cells as the released guide's own fill.sh prints them over the translation f9724ca979b0bd08… (all of the seat's roots in one cut). By AI agents, Wed Nov 11 2026. No macro, syntax, notation, axiom, sorry.
-/
import Derived.Test.YtljdcinpjnijcaaChecked
import GoSem.Claim
import GoSem.ClaimJoined
import GoSem.ClaimMapViews
import Derived.JoinedTies
import Derived.KernelRfl
namespace Go.Proofs.Ytljdcinpjnijcaa
/- THE CELL 'sum', in the pinned program and in every row, IS THE sha256 OF THE DUMP (.gsa) THAT YtljdcinpjnijcaaProg.lean LOADS. Nothing in Lean hashes anything: it is a label: what it is worth is what the hold of that sum in a sandbox is worth. -/
noncomputable def Try.pinned : Pinned := { name := "ytljdcinpjnijcaa", sum := "f9724ca979b0bd08c7a9ceece1e5fc0d622f04876f98ff646772bd4f9fe32da9", checked := Try.checked }
namespace Rows
def none {H : Type} : Left H := { results := [], args := [] }

/-- 'laws.FnBothOver': WHATEVER THE INPUT: true; the input reads as it did. -/
def fnBothOverSpec : ChangeSpec := { name := "fnBothOver", fn := fun _ => fun
  | [d] => { results := [.lit (.bool true)], args := [d] }
  | _ => none }
def fnBothOverRow : OpenClaim := { program := "ytljdcinpjnijcaa", sum := "f9724ca979b0bd08c7a9ceece1e5fc0d622f04876f98ff646772bd4f9fe32da9", func := "loop.example/waymark/laws.FnBothOver", spec := "fnBothOver", unfollowed := true, recurses := true, apart := false }
def FnBothOverSaid : Prop := fnBothOverRow.holds Try.pinned (OpenSpec.ofChange fnBothOverSpec)

/-- ITS FALSE NEIGHBOUR: 'it returns false'. Refute it at one input. -/
def fnBothOverWrong : ChangeSpec := { name := "fnBothOver", fn := fun _ => fun
  | [d] => { results := [.lit (.bool false)], args := [d] }
  | _ => none }
def FnBothOverWrongFalsely : Prop := fnBothOverRow.holds Try.pinned (OpenSpec.ofChange fnBothOverWrong)

/-- 'laws.FnExactBothNear': WHATEVER THE INPUT: true; the input reads as it did. -/
def fnExactBothNearSpec : ChangeSpec := { name := "fnExactBothNear", fn := fun _ => fun
  | [d1, d2, d3] => { results := [.lit (.bool true)], args := [d1, d2, d3] }
  | _ => none }
def fnExactBothNearRow : OpenClaim := { program := "ytljdcinpjnijcaa", sum := "f9724ca979b0bd08c7a9ceece1e5fc0d622f04876f98ff646772bd4f9fe32da9", func := "loop.example/waymark/laws.FnExactBothNear", spec := "fnExactBothNear", unfollowed := true, recurses := true, apart := false }
def FnExactBothNearSaid : Prop := fnExactBothNearRow.holds Try.pinned (OpenSpec.ofChange fnExactBothNearSpec)

/-- ITS FALSE NEIGHBOUR: 'it returns false'. Refute it at one input. -/
def fnExactBothNearWrong : ChangeSpec := { name := "fnExactBothNear", fn := fun _ => fun
  | [d1, d2, d3] => { results := [.lit (.bool false)], args := [d1, d2, d3] }
  | _ => none }
def FnExactBothNearWrongFalsely : Prop := fnExactBothNearRow.holds Try.pinned (OpenSpec.ofChange fnExactBothNearWrong)

/-- 'laws.FnBothNear': WHATEVER THE INPUT: true; the input reads as it did. -/
def fnBothNearSpec : ChangeSpec := { name := "fnBothNear", fn := fun _ => fun
  | [d] => { results := [.lit (.bool true)], args := [d] }
  | _ => none }
def fnBothNearRow : OpenClaim := { program := "ytljdcinpjnijcaa", sum := "f9724ca979b0bd08c7a9ceece1e5fc0d622f04876f98ff646772bd4f9fe32da9", func := "loop.example/waymark/laws.FnBothNear", spec := "fnBothNear", unfollowed := true, recurses := true, apart := false }
def FnBothNearSaid : Prop := fnBothNearRow.holds Try.pinned (OpenSpec.ofChange fnBothNearSpec)

/-- ITS FALSE NEIGHBOUR: 'it returns false'. Refute it at one input. -/
def fnBothNearWrong : ChangeSpec := { name := "fnBothNear", fn := fun _ => fun
  | [d] => { results := [.lit (.bool false)], args := [d] }
  | _ => none }
def FnBothNearWrongFalsely : Prop := fnBothNearRow.holds Try.pinned (OpenSpec.ofChange fnBothNearWrong)

/-- 'laws.FnHubCount': WHATEVER THE INPUT: true; the input reads as it did. -/
def fnHubCountSpec : ChangeSpec := { name := "fnHubCount", fn := fun _ => fun
  | [d] => { results := [.lit (.bool true)], args := [d] }
  | _ => none }
def fnHubCountRow : OpenClaim := { program := "ytljdcinpjnijcaa", sum := "f9724ca979b0bd08c7a9ceece1e5fc0d622f04876f98ff646772bd4f9fe32da9", func := "loop.example/waymark/laws.FnHubCount", spec := "fnHubCount", unfollowed := true, recurses := true, apart := false }
def FnHubCountSaid : Prop := fnHubCountRow.holds Try.pinned (OpenSpec.ofChange fnHubCountSpec)

/-- ITS FALSE NEIGHBOUR: 'it returns false'. Refute it at one input. -/
def fnHubCountWrong : ChangeSpec := { name := "fnHubCount", fn := fun _ => fun
  | [d] => { results := [.lit (.bool false)], args := [d] }
  | _ => none }
def FnHubCountWrongFalsely : Prop := fnHubCountRow.holds Try.pinned (OpenSpec.ofChange fnHubCountWrong)

/-- 'laws.FnHubArcs': WHATEVER THE INPUT: true; the input reads as it did. -/
def fnHubArcsSpec : ChangeSpec := { name := "fnHubArcs", fn := fun _ => fun
  | [d] => { results := [.lit (.bool true)], args := [d] }
  | _ => none }
def fnHubArcsRow : OpenClaim := { program := "ytljdcinpjnijcaa", sum := "f9724ca979b0bd08c7a9ceece1e5fc0d622f04876f98ff646772bd4f9fe32da9", func := "loop.example/waymark/laws.FnHubArcs", spec := "fnHubArcs", unfollowed := true, recurses := true, apart := false }
def FnHubArcsSaid : Prop := fnHubArcsRow.holds Try.pinned (OpenSpec.ofChange fnHubArcsSpec)

/-- ITS FALSE NEIGHBOUR: 'it returns false'. Refute it at one input. -/
def fnHubArcsWrong : ChangeSpec := { name := "fnHubArcs", fn := fun _ => fun
  | [d] => { results := [.lit (.bool false)], args := [d] }
  | _ => none }
def FnHubArcsWrongFalsely : Prop := fnHubArcsRow.holds Try.pinned (OpenSpec.ofChange fnHubArcsWrong)

/-- 'laws.FnExactHubArcs': WHATEVER THE INPUT: true; the input reads as it did. -/
def fnExactHubArcsSpec : ChangeSpec := { name := "fnExactHubArcs", fn := fun _ => fun
  | [d] => { results := [.lit (.bool true)], args := [d] }
  | _ => none }
def fnExactHubArcsRow : OpenClaim := { program := "ytljdcinpjnijcaa", sum := "f9724ca979b0bd08c7a9ceece1e5fc0d622f04876f98ff646772bd4f9fe32da9", func := "loop.example/waymark/laws.FnExactHubArcs", spec := "fnExactHubArcs", unfollowed := true, recurses := true, apart := false }
def FnExactHubArcsSaid : Prop := fnExactHubArcsRow.holds Try.pinned (OpenSpec.ofChange fnExactHubArcsSpec)

/-- ITS FALSE NEIGHBOUR: 'it returns false'. Refute it at one input. -/
def fnExactHubArcsWrong : ChangeSpec := { name := "fnExactHubArcs", fn := fun _ => fun
  | [d] => { results := [.lit (.bool false)], args := [d] }
  | _ => none }
def FnExactHubArcsWrongFalsely : Prop := fnExactHubArcsRow.holds Try.pinned (OpenSpec.ofChange fnExactHubArcsWrong)

/-- 'laws.FnExactHubCount': WHATEVER THE INPUT: true; the input reads as it did. -/
def fnExactHubCountSpec : ChangeSpec := { name := "fnExactHubCount", fn := fun _ => fun
  | [d] => { results := [.lit (.bool true)], args := [d] }
  | _ => none }
def fnExactHubCountRow : OpenClaim := { program := "ytljdcinpjnijcaa", sum := "f9724ca979b0bd08c7a9ceece1e5fc0d622f04876f98ff646772bd4f9fe32da9", func := "loop.example/waymark/laws.FnExactHubCount", spec := "fnExactHubCount", unfollowed := true, recurses := true, apart := false }
def FnExactHubCountSaid : Prop := fnExactHubCountRow.holds Try.pinned (OpenSpec.ofChange fnExactHubCountSpec)

/-- ITS FALSE NEIGHBOUR: 'it returns false'. Refute it at one input. -/
def fnExactHubCountWrong : ChangeSpec := { name := "fnExactHubCount", fn := fun _ => fun
  | [d] => { results := [.lit (.bool false)], args := [d] }
  | _ => none }
def FnExactHubCountWrongFalsely : Prop := fnExactHubCountRow.holds Try.pinned (OpenSpec.ofChange fnExactHubCountWrong)

/-- 'laws.FnRingWay': WHATEVER THE INPUT: true; the input reads as it did. -/
def fnRingWaySpec : ChangeSpec := { name := "fnRingWay", fn := fun _ => fun
  | [d] => { results := [.lit (.bool true)], args := [d] }
  | _ => none }
def fnRingWayRow : OpenClaim := { program := "ytljdcinpjnijcaa", sum := "f9724ca979b0bd08c7a9ceece1e5fc0d622f04876f98ff646772bd4f9fe32da9", func := "loop.example/waymark/laws.FnRingWay", spec := "fnRingWay", unfollowed := true, recurses := true, apart := false }
def FnRingWaySaid : Prop := fnRingWayRow.holds Try.pinned (OpenSpec.ofChange fnRingWaySpec)

/-- ITS FALSE NEIGHBOUR: 'it returns false'. Refute it at one input. -/
def fnRingWayWrong : ChangeSpec := { name := "fnRingWay", fn := fun _ => fun
  | [d] => { results := [.lit (.bool false)], args := [d] }
  | _ => none }
def FnRingWayWrongFalsely : Prop := fnRingWayRow.holds Try.pinned (OpenSpec.ofChange fnRingWayWrong)

/-- 'laws.FnExactRingBest': WHATEVER THE INPUT: true; the input reads as it did. -/
def fnExactRingBestSpec : ChangeSpec := { name := "fnExactRingBest", fn := fun _ => fun
  | [d] => { results := [.lit (.bool true)], args := [d] }
  | _ => none }
def fnExactRingBestRow : OpenClaim := { program := "ytljdcinpjnijcaa", sum := "f9724ca979b0bd08c7a9ceece1e5fc0d622f04876f98ff646772bd4f9fe32da9", func := "loop.example/waymark/laws.FnExactRingBest", spec := "fnExactRingBest", unfollowed := true, recurses := true, apart := false }
def FnExactRingBestSaid : Prop := fnExactRingBestRow.holds Try.pinned (OpenSpec.ofChange fnExactRingBestSpec)

/-- ITS FALSE NEIGHBOUR: 'it returns false'. Refute it at one input. -/
def fnExactRingBestWrong : ChangeSpec := { name := "fnExactRingBest", fn := fun _ => fun
  | [d] => { results := [.lit (.bool false)], args := [d] }
  | _ => none }
def FnExactRingBestWrongFalsely : Prop := fnExactRingBestRow.holds Try.pinned (OpenSpec.ofChange fnExactRingBestWrong)

/-- 'laws.FnRingBest': WHATEVER THE INPUT: true; the input reads as it did. -/
def fnRingBestSpec : ChangeSpec := { name := "fnRingBest", fn := fun _ => fun
  | [d] => { results := [.lit (.bool true)], args := [d] }
  | _ => none }
def fnRingBestRow : OpenClaim := { program := "ytljdcinpjnijcaa", sum := "f9724ca979b0bd08c7a9ceece1e5fc0d622f04876f98ff646772bd4f9fe32da9", func := "loop.example/waymark/laws.FnRingBest", spec := "fnRingBest", unfollowed := true, recurses := true, apart := false }
def FnRingBestSaid : Prop := fnRingBestRow.holds Try.pinned (OpenSpec.ofChange fnRingBestSpec)

/-- ITS FALSE NEIGHBOUR: 'it returns false'. Refute it at one input. -/
def fnRingBestWrong : ChangeSpec := { name := "fnRingBest", fn := fun _ => fun
  | [d] => { results := [.lit (.bool false)], args := [d] }
  | _ => none }
def FnRingBestWrongFalsely : Prop := fnRingBestRow.holds Try.pinned (OpenSpec.ofChange fnRingBestWrong)

/-- 'laws.FnRankNear': WHATEVER THE INPUT: true; the input reads as it did. -/
def fnRankNearSpec : ChangeSpec := { name := "fnRankNear", fn := fun _ => fun
  | [d] => { results := [.lit (.bool true)], args := [d] }
  | _ => none }
def fnRankNearRow : OpenClaim := { program := "ytljdcinpjnijcaa", sum := "f9724ca979b0bd08c7a9ceece1e5fc0d622f04876f98ff646772bd4f9fe32da9", func := "loop.example/waymark/laws.FnRankNear", spec := "fnRankNear", unfollowed := true, recurses := true, apart := false }
def FnRankNearSaid : Prop := fnRankNearRow.holds Try.pinned (OpenSpec.ofChange fnRankNearSpec)

/-- ITS FALSE NEIGHBOUR: 'it returns false'. Refute it at one input. -/
def fnRankNearWrong : ChangeSpec := { name := "fnRankNear", fn := fun _ => fun
  | [d] => { results := [.lit (.bool false)], args := [d] }
  | _ => none }
def FnRankNearWrongFalsely : Prop := fnRankNearRow.holds Try.pinned (OpenSpec.ofChange fnRankNearWrong)

/- THE SECOND FORM. 'bulk': how many values and letters a reading holds, each counted each time it is reached (what is shared counts as often as it is met; a slice's spare places count too). A statement '..UptoSaid' is the law's where the arguments, and the package variables that the reading takes, are together of bulk at most 1048576: NARROWER than '..Said'. Prove '..Said' where nothing that the law and all that it calls make is longer than what came in: it says more and counts as full. Else prove '..UptoSaid'. A law counts once. -/
mutual
def uptoBulk {H : Type} : DataW H → Nat
  | .lit (.string bytes) => bytes.length + 1
  | .lit _ => 1
  | .nil => 1
  | .ptr d => uptoBulk d + 1
  | .slice elems spare => uptoBulkAll elems + uptoBulkAll spare + 1
  | .agg parts => uptoBulkAll parts + 1
  | .iface _ d => uptoBulk d + 1
  | .map entries => uptoBulkEntries entries + 1
  | .held _ => 1
def uptoBulkAll {H : Type} : List (DataW H) → Nat
  | [] => 0
  | d :: r => uptoBulk d + uptoBulkAll r
def uptoBulkEntries {H : Type} : List (Lit × DataW H) → Nat
  | [] => 0
  | x :: r => uptoBulkEntry x + uptoBulkEntries r
def uptoBulkEntry {H : Type} : Lit × DataW H → Nat
  | (.string bytes, d) => bytes.length + uptoBulk d + 1
  | (_, d) => uptoBulk d + 1
 end
def uptoSmall : (H : Type) → List (DataW H) → Bool := fun _ ds => decide (uptoBulkAll ds ≤ 1048576)
def OpenSpec.upto (s : _root_.Go.ChangeSpec) : _root_.Go.OpenSpec := { _root_.Go.OpenSpec.ofChange s with cond := some uptoSmall }

/-- 'laws.FnBothOver', WHERE WHAT IT READS IS OF BULK AT MOST 1048576: true; the input reads as it did. -/
def fnBothOverUptoRow : OpenClaim := { program := "ytljdcinpjnijcaa", sum := "f9724ca979b0bd08c7a9ceece1e5fc0d622f04876f98ff646772bd4f9fe32da9", func := "loop.example/waymark/laws.FnBothOver", spec := "fnBothOver", unfollowed := true, recurses := true, apart := false, narrowed := true }
def FnBothOverUptoSaid : Prop := fnBothOverUptoRow.holds Try.pinned (OpenSpec.upto fnBothOverSpec)

/-- 'laws.FnExactBothNear', WHERE WHAT IT READS IS OF BULK AT MOST 1048576: true; the input reads as it did. -/
def fnExactBothNearUptoRow : OpenClaim := { program := "ytljdcinpjnijcaa", sum := "f9724ca979b0bd08c7a9ceece1e5fc0d622f04876f98ff646772bd4f9fe32da9", func := "loop.example/waymark/laws.FnExactBothNear", spec := "fnExactBothNear", unfollowed := true, recurses := true, apart := false, narrowed := true }
def FnExactBothNearUptoSaid : Prop := fnExactBothNearUptoRow.holds Try.pinned (OpenSpec.upto fnExactBothNearSpec)

/-- 'laws.FnBothNear', WHERE WHAT IT READS IS OF BULK AT MOST 1048576: true; the input reads as it did. -/
def fnBothNearUptoRow : OpenClaim := { program := "ytljdcinpjnijcaa", sum := "f9724ca979b0bd08c7a9ceece1e5fc0d622f04876f98ff646772bd4f9fe32da9", func := "loop.example/waymark/laws.FnBothNear", spec := "fnBothNear", unfollowed := true, recurses := true, apart := false, narrowed := true }
def FnBothNearUptoSaid : Prop := fnBothNearUptoRow.holds Try.pinned (OpenSpec.upto fnBothNearSpec)

/-- 'laws.FnHubCount', WHERE WHAT IT READS IS OF BULK AT MOST 1048576: true; the input reads as it did. -/
def fnHubCountUptoRow : OpenClaim := { program := "ytljdcinpjnijcaa", sum := "f9724ca979b0bd08c7a9ceece1e5fc0d622f04876f98ff646772bd4f9fe32da9", func := "loop.example/waymark/laws.FnHubCount", spec := "fnHubCount", unfollowed := true, recurses := true, apart := false, narrowed := true }
def FnHubCountUptoSaid : Prop := fnHubCountUptoRow.holds Try.pinned (OpenSpec.upto fnHubCountSpec)

/-- 'laws.FnHubArcs', WHERE WHAT IT READS IS OF BULK AT MOST 1048576: true; the input reads as it did. -/
def fnHubArcsUptoRow : OpenClaim := { program := "ytljdcinpjnijcaa", sum := "f9724ca979b0bd08c7a9ceece1e5fc0d622f04876f98ff646772bd4f9fe32da9", func := "loop.example/waymark/laws.FnHubArcs", spec := "fnHubArcs", unfollowed := true, recurses := true, apart := false, narrowed := true }
def FnHubArcsUptoSaid : Prop := fnHubArcsUptoRow.holds Try.pinned (OpenSpec.upto fnHubArcsSpec)

/-- 'laws.FnExactHubArcs', WHERE WHAT IT READS IS OF BULK AT MOST 1048576: true; the input reads as it did. -/
def fnExactHubArcsUptoRow : OpenClaim := { program := "ytljdcinpjnijcaa", sum := "f9724ca979b0bd08c7a9ceece1e5fc0d622f04876f98ff646772bd4f9fe32da9", func := "loop.example/waymark/laws.FnExactHubArcs", spec := "fnExactHubArcs", unfollowed := true, recurses := true, apart := false, narrowed := true }
def FnExactHubArcsUptoSaid : Prop := fnExactHubArcsUptoRow.holds Try.pinned (OpenSpec.upto fnExactHubArcsSpec)

/-- 'laws.FnExactHubCount', WHERE WHAT IT READS IS OF BULK AT MOST 1048576: true; the input reads as it did. -/
def fnExactHubCountUptoRow : OpenClaim := { program := "ytljdcinpjnijcaa", sum := "f9724ca979b0bd08c7a9ceece1e5fc0d622f04876f98ff646772bd4f9fe32da9", func := "loop.example/waymark/laws.FnExactHubCount", spec := "fnExactHubCount", unfollowed := true, recurses := true, apart := false, narrowed := true }
def FnExactHubCountUptoSaid : Prop := fnExactHubCountUptoRow.holds Try.pinned (OpenSpec.upto fnExactHubCountSpec)

/-- 'laws.FnRingWay', WHERE WHAT IT READS IS OF BULK AT MOST 1048576: true; the input reads as it did. -/
def fnRingWayUptoRow : OpenClaim := { program := "ytljdcinpjnijcaa", sum := "f9724ca979b0bd08c7a9ceece1e5fc0d622f04876f98ff646772bd4f9fe32da9", func := "loop.example/waymark/laws.FnRingWay", spec := "fnRingWay", unfollowed := true, recurses := true, apart := false, narrowed := true }
def FnRingWayUptoSaid : Prop := fnRingWayUptoRow.holds Try.pinned (OpenSpec.upto fnRingWaySpec)

/-- 'laws.FnExactRingBest', WHERE WHAT IT READS IS OF BULK AT MOST 1048576: true; the input reads as it did. -/
def fnExactRingBestUptoRow : OpenClaim := { program := "ytljdcinpjnijcaa", sum := "f9724ca979b0bd08c7a9ceece1e5fc0d622f04876f98ff646772bd4f9fe32da9", func := "loop.example/waymark/laws.FnExactRingBest", spec := "fnExactRingBest", unfollowed := true, recurses := true, apart := false, narrowed := true }
def FnExactRingBestUptoSaid : Prop := fnExactRingBestUptoRow.holds Try.pinned (OpenSpec.upto fnExactRingBestSpec)

/-- 'laws.FnRingBest', WHERE WHAT IT READS IS OF BULK AT MOST 1048576: true; the input reads as it did. -/
def fnRingBestUptoRow : OpenClaim := { program := "ytljdcinpjnijcaa", sum := "f9724ca979b0bd08c7a9ceece1e5fc0d622f04876f98ff646772bd4f9fe32da9", func := "loop.example/waymark/laws.FnRingBest", spec := "fnRingBest", unfollowed := true, recurses := true, apart := false, narrowed := true }
def FnRingBestUptoSaid : Prop := fnRingBestUptoRow.holds Try.pinned (OpenSpec.upto fnRingBestSpec)

/-- 'laws.FnRankNear', WHERE WHAT IT READS IS OF BULK AT MOST 1048576: true; the input reads as it did. -/
def fnRankNearUptoRow : OpenClaim := { program := "ytljdcinpjnijcaa", sum := "f9724ca979b0bd08c7a9ceece1e5fc0d622f04876f98ff646772bd4f9fe32da9", func := "loop.example/waymark/laws.FnRankNear", spec := "fnRankNear", unfollowed := true, recurses := true, apart := false, narrowed := true }
def FnRankNearUptoSaid : Prop := fnRankNearUptoRow.holds Try.pinned (OpenSpec.upto fnRankNearSpec)

end Rows
end Go.Proofs.Ytljdcinpjnijcaa
