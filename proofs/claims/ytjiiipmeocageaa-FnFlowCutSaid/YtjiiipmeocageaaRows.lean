/-
  No cell of these rows narrows 'for every input' (looked for: loops, veiled, ifaces, maps, wideKeys, modest, calm, conditions, laid).
  DERIVED. THE GIVEN ROWS OF THIS SEAT. 11 by the template 'for every input the law returns true; each argument reads behind the call as it read before'; 0 by the template 'total and deterministic' (their statements: YtjiiipmeocageaaTotals.lean).
  GIVEN WITH THE SEED: the statements are not yours to turn. If you find one false, say at which input.
  Laid BY PROGRAM, IN A SANDBOX (cutbox-rows.mjs): the forced cells as the released guide's own fill.sh prints them over the translation 59f543f6151e4f20… (all of the seat's roots in one cut). By AI agents, Wed Nov 11 2026. No macro, syntax, notation, axiom, sorry.
-/
import Derived.Test.YtjiiipmeocageaaChecked
import GoSem.Claim
import GoSem.ClaimJoined
import GoSem.ClaimMapViews
import Derived.JoinedTies
import Derived.KernelRfl
namespace Go.Proofs.Ytjiiipmeocageaa
/- THE CELL 'sum', in the pinned program and in every row, IS THE sha256 OF THE DUMP (.gsa) THAT YtjiiipmeocageaaProg.lean LOADS. Nothing in Lean hashes anything: it is a label: what it is worth is what the hold of that sum in a sandbox is worth. -/
noncomputable def Try.pinned : Pinned := { name := "ytjiiipmeocageaa", sum := "59f543f6151e4f20db477c9109aaacbf87bb4ae1c78e5ba573e50326a89e7248", checked := Try.checked }
namespace Rows
def none {H : Type} : Left H := { results := [], args := [] }

/-- 'laws.FnExactEventOk': WHATEVER THE INPUT: true; the input reads as it did. -/
def fnExactEventOkSpec : ChangeSpec := { name := "fnExactEventOk", fn := fun _ => fun
  | [d] => { results := [.lit (.bool true)], args := [d] }
  | _ => none }
def fnExactEventOkRow : OpenClaim := { program := "ytjiiipmeocageaa", sum := "59f543f6151e4f20db477c9109aaacbf87bb4ae1c78e5ba573e50326a89e7248", func := "loop.example/waymark/laws.FnExactEventOk", spec := "fnExactEventOk", apart := false }
def FnExactEventOkSaid : Prop := fnExactEventOkRow.holds Try.pinned (OpenSpec.ofChange fnExactEventOkSpec)

/-- ITS FALSE NEIGHBOUR: 'it returns false'. Refute it at one input. -/
def fnExactEventOkWrong : ChangeSpec := { name := "fnExactEventOk", fn := fun _ => fun
  | [d] => { results := [.lit (.bool false)], args := [d] }
  | _ => none }
def FnExactEventOkWrongFalsely : Prop := fnExactEventOkRow.holds Try.pinned (OpenSpec.ofChange fnExactEventOkWrong)

/-- 'laws.FnExactFareOk': WHATEVER THE INPUT: true; the input reads as it did. -/
def fnExactFareOkSpec : ChangeSpec := { name := "fnExactFareOk", fn := fun _ => fun
  | [d] => { results := [.lit (.bool true)], args := [d] }
  | _ => none }
def fnExactFareOkRow : OpenClaim := { program := "ytjiiipmeocageaa", sum := "59f543f6151e4f20db477c9109aaacbf87bb4ae1c78e5ba573e50326a89e7248", func := "loop.example/waymark/laws.FnExactFareOk", spec := "fnExactFareOk", unfollowed := true, recurses := true, apart := false }
def FnExactFareOkSaid : Prop := fnExactFareOkRow.holds Try.pinned (OpenSpec.ofChange fnExactFareOkSpec)

/-- ITS FALSE NEIGHBOUR: 'it returns false'. Refute it at one input. -/
def fnExactFareOkWrong : ChangeSpec := { name := "fnExactFareOk", fn := fun _ => fun
  | [d] => { results := [.lit (.bool false)], args := [d] }
  | _ => none }
def FnExactFareOkWrongFalsely : Prop := fnExactFareOkRow.holds Try.pinned (OpenSpec.ofChange fnExactFareOkWrong)

/-- 'laws.FnExactFareDay': WHATEVER THE INPUT: true; the input reads as it did. -/
def fnExactFareDaySpec : ChangeSpec := { name := "fnExactFareDay", fn := fun _ => fun
  | [d1, d2] => { results := [.lit (.bool true)], args := [d1, d2] }
  | _ => none }
def fnExactFareDayRow : OpenClaim := { program := "ytjiiipmeocageaa", sum := "59f543f6151e4f20db477c9109aaacbf87bb4ae1c78e5ba573e50326a89e7248", func := "loop.example/waymark/laws.FnExactFareDay", spec := "fnExactFareDay", unfollowed := true, recurses := true, apart := false }
def FnExactFareDaySaid : Prop := fnExactFareDayRow.holds Try.pinned (OpenSpec.ofChange fnExactFareDaySpec)

/-- ITS FALSE NEIGHBOUR: 'it returns false'. Refute it at one input. -/
def fnExactFareDayWrong : ChangeSpec := { name := "fnExactFareDay", fn := fun _ => fun
  | [d1, d2] => { results := [.lit (.bool false)], args := [d1, d2] }
  | _ => none }
def FnExactFareDayWrongFalsely : Prop := fnExactFareDayRow.holds Try.pinned (OpenSpec.ofChange fnExactFareDayWrong)

/-- 'laws.FnFareDay': WHATEVER THE INPUT: true; the input reads as it did. -/
def fnFareDaySpec : ChangeSpec := { name := "fnFareDay", fn := fun _ => fun
  | [d] => { results := [.lit (.bool true)], args := [d] }
  | _ => none }
def fnFareDayRow : OpenClaim := { program := "ytjiiipmeocageaa", sum := "59f543f6151e4f20db477c9109aaacbf87bb4ae1c78e5ba573e50326a89e7248", func := "loop.example/waymark/laws.FnFareDay", spec := "fnFareDay", unfollowed := true, recurses := true, apart := false }
def FnFareDaySaid : Prop := fnFareDayRow.holds Try.pinned (OpenSpec.ofChange fnFareDaySpec)

/-- ITS FALSE NEIGHBOUR: 'it returns false'. Refute it at one input. -/
def fnFareDayWrong : ChangeSpec := { name := "fnFareDay", fn := fun _ => fun
  | [d] => { results := [.lit (.bool false)], args := [d] }
  | _ => none }
def FnFareDayWrongFalsely : Prop := fnFareDayRow.holds Try.pinned (OpenSpec.ofChange fnFareDayWrong)

/-- 'laws.FnTreeParts': WHATEVER THE INPUT: true; the input reads as it did. -/
def fnTreePartsSpec : ChangeSpec := { name := "fnTreeParts", fn := fun _ => fun
  | [d] => { results := [.lit (.bool true)], args := [d] }
  | _ => none }
def fnTreePartsRow : OpenClaim := { program := "ytjiiipmeocageaa", sum := "59f543f6151e4f20db477c9109aaacbf87bb4ae1c78e5ba573e50326a89e7248", func := "loop.example/waymark/laws.FnTreeParts", spec := "fnTreeParts", unfollowed := true, recurses := true, apart := false }
def FnTreePartsSaid : Prop := fnTreePartsRow.holds Try.pinned (OpenSpec.ofChange fnTreePartsSpec)

/-- ITS FALSE NEIGHBOUR: 'it returns false'. Refute it at one input. -/
def fnTreePartsWrong : ChangeSpec := { name := "fnTreeParts", fn := fun _ => fun
  | [d] => { results := [.lit (.bool false)], args := [d] }
  | _ => none }
def FnTreePartsWrongFalsely : Prop := fnTreePartsRow.holds Try.pinned (OpenSpec.ofChange fnTreePartsWrong)

/-- 'laws.FnExactFlowMost': WHATEVER THE INPUT: true; the input reads as it did. -/
def fnExactFlowMostSpec : ChangeSpec := { name := "fnExactFlowMost", fn := fun _ => fun
  | [d1, d2, d3] => { results := [.lit (.bool true)], args := [d1, d2, d3] }
  | _ => none }
def fnExactFlowMostRow : OpenClaim := { program := "ytjiiipmeocageaa", sum := "59f543f6151e4f20db477c9109aaacbf87bb4ae1c78e5ba573e50326a89e7248", func := "loop.example/waymark/laws.FnExactFlowMost", spec := "fnExactFlowMost", unfollowed := true, recurses := true, apart := false }
def FnExactFlowMostSaid : Prop := fnExactFlowMostRow.holds Try.pinned (OpenSpec.ofChange fnExactFlowMostSpec)

/-- ITS FALSE NEIGHBOUR: 'it returns false'. Refute it at one input. -/
def fnExactFlowMostWrong : ChangeSpec := { name := "fnExactFlowMost", fn := fun _ => fun
  | [d1, d2, d3] => { results := [.lit (.bool false)], args := [d1, d2, d3] }
  | _ => none }
def FnExactFlowMostWrongFalsely : Prop := fnExactFlowMostRow.holds Try.pinned (OpenSpec.ofChange fnExactFlowMostWrong)

/-- 'laws.FnFareWeek': WHATEVER THE INPUT: true; the input reads as it did. -/
def fnFareWeekSpec : ChangeSpec := { name := "fnFareWeek", fn := fun _ => fun
  | [d] => { results := [.lit (.bool true)], args := [d] }
  | _ => none }
def fnFareWeekRow : OpenClaim := { program := "ytjiiipmeocageaa", sum := "59f543f6151e4f20db477c9109aaacbf87bb4ae1c78e5ba573e50326a89e7248", func := "loop.example/waymark/laws.FnFareWeek", spec := "fnFareWeek", unfollowed := true, recurses := true, apart := false }
def FnFareWeekSaid : Prop := fnFareWeekRow.holds Try.pinned (OpenSpec.ofChange fnFareWeekSpec)

/-- ITS FALSE NEIGHBOUR: 'it returns false'. Refute it at one input. -/
def fnFareWeekWrong : ChangeSpec := { name := "fnFareWeek", fn := fun _ => fun
  | [d] => { results := [.lit (.bool false)], args := [d] }
  | _ => none }
def FnFareWeekWrongFalsely : Prop := fnFareWeekRow.holds Try.pinned (OpenSpec.ofChange fnFareWeekWrong)

/-- 'laws.FnExactFlowValue': WHATEVER THE INPUT: true; the input reads as it did. -/
def fnExactFlowValueSpec : ChangeSpec := { name := "fnExactFlowValue", fn := fun _ => fun
  | [d1, d2, d3, d4] => { results := [.lit (.bool true)], args := [d1, d2, d3, d4] }
  | _ => none }
def fnExactFlowValueRow : OpenClaim := { program := "ytjiiipmeocageaa", sum := "59f543f6151e4f20db477c9109aaacbf87bb4ae1c78e5ba573e50326a89e7248", func := "loop.example/waymark/laws.FnExactFlowValue", spec := "fnExactFlowValue", unfollowed := true, recurses := true, apart := false }
def FnExactFlowValueSaid : Prop := fnExactFlowValueRow.holds Try.pinned (OpenSpec.ofChange fnExactFlowValueSpec)

/-- ITS FALSE NEIGHBOUR: 'it returns false'. Refute it at one input. -/
def fnExactFlowValueWrong : ChangeSpec := { name := "fnExactFlowValue", fn := fun _ => fun
  | [d1, d2, d3, d4] => { results := [.lit (.bool false)], args := [d1, d2, d3, d4] }
  | _ => none }
def FnExactFlowValueWrongFalsely : Prop := fnExactFlowValueRow.holds Try.pinned (OpenSpec.ofChange fnExactFlowValueWrong)

/-- 'laws.FnFlowSet': WHATEVER THE INPUT: true; the input reads as it did. -/
def fnFlowSetSpec : ChangeSpec := { name := "fnFlowSet", fn := fun _ => fun
  | [d1, d2] => { results := [.lit (.bool true)], args := [d1, d2] }
  | _ => none }
def fnFlowSetRow : OpenClaim := { program := "ytjiiipmeocageaa", sum := "59f543f6151e4f20db477c9109aaacbf87bb4ae1c78e5ba573e50326a89e7248", func := "loop.example/waymark/laws.FnFlowSet", spec := "fnFlowSet", unfollowed := true, recurses := true, apart := false }
def FnFlowSetSaid : Prop := fnFlowSetRow.holds Try.pinned (OpenSpec.ofChange fnFlowSetSpec)

/-- ITS FALSE NEIGHBOUR: 'it returns false'. Refute it at one input. -/
def fnFlowSetWrong : ChangeSpec := { name := "fnFlowSet", fn := fun _ => fun
  | [d1, d2] => { results := [.lit (.bool false)], args := [d1, d2] }
  | _ => none }
def FnFlowSetWrongFalsely : Prop := fnFlowSetRow.holds Try.pinned (OpenSpec.ofChange fnFlowSetWrong)

/-- 'laws.FnFlowCut': WHATEVER THE INPUT: true; the input reads as it did. -/
def fnFlowCutSpec : ChangeSpec := { name := "fnFlowCut", fn := fun _ => fun
  | [d] => { results := [.lit (.bool true)], args := [d] }
  | _ => none }
def fnFlowCutRow : OpenClaim := { program := "ytjiiipmeocageaa", sum := "59f543f6151e4f20db477c9109aaacbf87bb4ae1c78e5ba573e50326a89e7248", func := "loop.example/waymark/laws.FnFlowCut", spec := "fnFlowCut", unfollowed := true, recurses := true, apart := false }
def FnFlowCutSaid : Prop := fnFlowCutRow.holds Try.pinned (OpenSpec.ofChange fnFlowCutSpec)

/-- ITS FALSE NEIGHBOUR: 'it returns false'. Refute it at one input. -/
def fnFlowCutWrong : ChangeSpec := { name := "fnFlowCut", fn := fun _ => fun
  | [d] => { results := [.lit (.bool false)], args := [d] }
  | _ => none }
def FnFlowCutWrongFalsely : Prop := fnFlowCutRow.holds Try.pinned (OpenSpec.ofChange fnFlowCutWrong)

/-- 'laws.FnExactFlowCut': WHATEVER THE INPUT: true; the input reads as it did. -/
def fnExactFlowCutSpec : ChangeSpec := { name := "fnExactFlowCut", fn := fun _ => fun
  | [d1, d2] => { results := [.lit (.bool true)], args := [d1, d2] }
  | _ => none }
def fnExactFlowCutRow : OpenClaim := { program := "ytjiiipmeocageaa", sum := "59f543f6151e4f20db477c9109aaacbf87bb4ae1c78e5ba573e50326a89e7248", func := "loop.example/waymark/laws.FnExactFlowCut", spec := "fnExactFlowCut", unfollowed := true, recurses := true, apart := false }
def FnExactFlowCutSaid : Prop := fnExactFlowCutRow.holds Try.pinned (OpenSpec.ofChange fnExactFlowCutSpec)

/-- ITS FALSE NEIGHBOUR: 'it returns false'. Refute it at one input. -/
def fnExactFlowCutWrong : ChangeSpec := { name := "fnExactFlowCut", fn := fun _ => fun
  | [d1, d2] => { results := [.lit (.bool false)], args := [d1, d2] }
  | _ => none }
def FnExactFlowCutWrongFalsely : Prop := fnExactFlowCutRow.holds Try.pinned (OpenSpec.ofChange fnExactFlowCutWrong)

/- THE SECOND FORM. 'bulk': how many values and letters a reading holds, each counted each time it is reached (what is shared counts as often as it is met; a slice's spare places count too). A statement '..UptoSaid' is the law's where the arguments, and the package variables that the reading takes, are together of bulk at most 1048576: NARROWER than '..Said'. Prove '..Said' where nothing that the law and all that it calls make is longer than what came in: it says more and counts as full. Else prove '..UptoSaid'. A law counts once. -/
mutual
def uptoBulk {H : Type} : DataW H → Nat
  | .lit (.string bytes) => bytes.length + 1
  | .lit _ => 1
  | .nil => 1
  | .ptr d => uptoBulk d + 1
  | .slice elems spare => uptoBulkAll elems + uptoBulkAll spare + 1
  | .agg parts => uptoBulkAll parts + 1
  | .iface _ d => uptoBulk d + 1
  | .map entries => uptoBulkEntries entries + 1
  | .held _ => 1
def uptoBulkAll {H : Type} : List (DataW H) → Nat
  | [] => 0
  | d :: r => uptoBulk d + uptoBulkAll r
def uptoBulkEntries {H : Type} : List (Lit × DataW H) → Nat
  | [] => 0
  | x :: r => uptoBulkEntry x + uptoBulkEntries r
def uptoBulkEntry {H : Type} : Lit × DataW H → Nat
  | (.string bytes, d) => bytes.length + uptoBulk d + 1
  | (_, d) => uptoBulk d + 1
 end
def uptoSmall : (H : Type) → List (DataW H) → Bool := fun _ ds => decide (uptoBulkAll ds ≤ 1048576)
def OpenSpec.upto (s : _root_.Go.ChangeSpec) : _root_.Go.OpenSpec := { _root_.Go.OpenSpec.ofChange s with cond := some uptoSmall }

/-- 'laws.FnExactEventOk', WHERE WHAT IT READS IS OF BULK AT MOST 1048576: true; the input reads as it did. -/
def fnExactEventOkUptoRow : OpenClaim := { program := "ytjiiipmeocageaa", sum := "59f543f6151e4f20db477c9109aaacbf87bb4ae1c78e5ba573e50326a89e7248", func := "loop.example/waymark/laws.FnExactEventOk", spec := "fnExactEventOk", apart := false, narrowed := true }
def FnExactEventOkUptoSaid : Prop := fnExactEventOkUptoRow.holds Try.pinned (OpenSpec.upto fnExactEventOkSpec)

/-- 'laws.FnExactFareOk', WHERE WHAT IT READS IS OF BULK AT MOST 1048576: true; the input reads as it did. -/
def fnExactFareOkUptoRow : OpenClaim := { program := "ytjiiipmeocageaa", sum := "59f543f6151e4f20db477c9109aaacbf87bb4ae1c78e5ba573e50326a89e7248", func := "loop.example/waymark/laws.FnExactFareOk", spec := "fnExactFareOk", unfollowed := true, recurses := true, apart := false, narrowed := true }
def FnExactFareOkUptoSaid : Prop := fnExactFareOkUptoRow.holds Try.pinned (OpenSpec.upto fnExactFareOkSpec)

/-- 'laws.FnExactFareDay', WHERE WHAT IT READS IS OF BULK AT MOST 1048576: true; the input reads as it did. -/
def fnExactFareDayUptoRow : OpenClaim := { program := "ytjiiipmeocageaa", sum := "59f543f6151e4f20db477c9109aaacbf87bb4ae1c78e5ba573e50326a89e7248", func := "loop.example/waymark/laws.FnExactFareDay", spec := "fnExactFareDay", unfollowed := true, recurses := true, apart := false, narrowed := true }
def FnExactFareDayUptoSaid : Prop := fnExactFareDayUptoRow.holds Try.pinned (OpenSpec.upto fnExactFareDaySpec)

/-- 'laws.FnFareDay', WHERE WHAT IT READS IS OF BULK AT MOST 1048576: true; the input reads as it did. -/
def fnFareDayUptoRow : OpenClaim := { program := "ytjiiipmeocageaa", sum := "59f543f6151e4f20db477c9109aaacbf87bb4ae1c78e5ba573e50326a89e7248", func := "loop.example/waymark/laws.FnFareDay", spec := "fnFareDay", unfollowed := true, recurses := true, apart := false, narrowed := true }
def FnFareDayUptoSaid : Prop := fnFareDayUptoRow.holds Try.pinned (OpenSpec.upto fnFareDaySpec)

/-- 'laws.FnTreeParts', WHERE WHAT IT READS IS OF BULK AT MOST 1048576: true; the input reads as it did. -/
def fnTreePartsUptoRow : OpenClaim := { program := "ytjiiipmeocageaa", sum := "59f543f6151e4f20db477c9109aaacbf87bb4ae1c78e5ba573e50326a89e7248", func := "loop.example/waymark/laws.FnTreeParts", spec := "fnTreeParts", unfollowed := true, recurses := true, apart := false, narrowed := true }
def FnTreePartsUptoSaid : Prop := fnTreePartsUptoRow.holds Try.pinned (OpenSpec.upto fnTreePartsSpec)

/-- 'laws.FnExactFlowMost', WHERE WHAT IT READS IS OF BULK AT MOST 1048576: true; the input reads as it did. -/
def fnExactFlowMostUptoRow : OpenClaim := { program := "ytjiiipmeocageaa", sum := "59f543f6151e4f20db477c9109aaacbf87bb4ae1c78e5ba573e50326a89e7248", func := "loop.example/waymark/laws.FnExactFlowMost", spec := "fnExactFlowMost", unfollowed := true, recurses := true, apart := false, narrowed := true }
def FnExactFlowMostUptoSaid : Prop := fnExactFlowMostUptoRow.holds Try.pinned (OpenSpec.upto fnExactFlowMostSpec)

/-- 'laws.FnFareWeek', WHERE WHAT IT READS IS OF BULK AT MOST 1048576: true; the input reads as it did. -/
def fnFareWeekUptoRow : OpenClaim := { program := "ytjiiipmeocageaa", sum := "59f543f6151e4f20db477c9109aaacbf87bb4ae1c78e5ba573e50326a89e7248", func := "loop.example/waymark/laws.FnFareWeek", spec := "fnFareWeek", unfollowed := true, recurses := true, apart := false, narrowed := true }
def FnFareWeekUptoSaid : Prop := fnFareWeekUptoRow.holds Try.pinned (OpenSpec.upto fnFareWeekSpec)

/-- 'laws.FnExactFlowValue', WHERE WHAT IT READS IS OF BULK AT MOST 1048576: true; the input reads as it did. -/
def fnExactFlowValueUptoRow : OpenClaim := { program := "ytjiiipmeocageaa", sum := "59f543f6151e4f20db477c9109aaacbf87bb4ae1c78e5ba573e50326a89e7248", func := "loop.example/waymark/laws.FnExactFlowValue", spec := "fnExactFlowValue", unfollowed := true, recurses := true, apart := false, narrowed := true }
def FnExactFlowValueUptoSaid : Prop := fnExactFlowValueUptoRow.holds Try.pinned (OpenSpec.upto fnExactFlowValueSpec)

/-- 'laws.FnFlowSet', WHERE WHAT IT READS IS OF BULK AT MOST 1048576: true; the input reads as it did. -/
def fnFlowSetUptoRow : OpenClaim := { program := "ytjiiipmeocageaa", sum := "59f543f6151e4f20db477c9109aaacbf87bb4ae1c78e5ba573e50326a89e7248", func := "loop.example/waymark/laws.FnFlowSet", spec := "fnFlowSet", unfollowed := true, recurses := true, apart := false, narrowed := true }
def FnFlowSetUptoSaid : Prop := fnFlowSetUptoRow.holds Try.pinned (OpenSpec.upto fnFlowSetSpec)

/-- 'laws.FnFlowCut', WHERE WHAT IT READS IS OF BULK AT MOST 1048576: true; the input reads as it did. -/
def fnFlowCutUptoRow : OpenClaim := { program := "ytjiiipmeocageaa", sum := "59f543f6151e4f20db477c9109aaacbf87bb4ae1c78e5ba573e50326a89e7248", func := "loop.example/waymark/laws.FnFlowCut", spec := "fnFlowCut", unfollowed := true, recurses := true, apart := false, narrowed := true }
def FnFlowCutUptoSaid : Prop := fnFlowCutUptoRow.holds Try.pinned (OpenSpec.upto fnFlowCutSpec)

/-- 'laws.FnExactFlowCut', WHERE WHAT IT READS IS OF BULK AT MOST 1048576: true; the input reads as it did. -/
def fnExactFlowCutUptoRow : OpenClaim := { program := "ytjiiipmeocageaa", sum := "59f543f6151e4f20db477c9109aaacbf87bb4ae1c78e5ba573e50326a89e7248", func := "loop.example/waymark/laws.FnExactFlowCut", spec := "fnExactFlowCut", unfollowed := true, recurses := true, apart := false, narrowed := true }
def FnExactFlowCutUptoSaid : Prop := fnExactFlowCutUptoRow.holds Try.pinned (OpenSpec.upto fnExactFlowCutSpec)

end Rows
end Go.Proofs.Ytjiiipmeocageaa
