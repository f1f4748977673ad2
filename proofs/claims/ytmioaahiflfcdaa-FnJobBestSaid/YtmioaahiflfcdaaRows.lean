/-
  No cell of these rows narrows 'for every input' (looked for: loops, veiled, ifaces, maps, wideKeys, modest, calm, conditions, laid).
  DERIVED. THE GIVEN ROWS OF THIS SEAT. 5 by the template 'for every input the law returns true; each argument reads behind the call as it read before'; 0 by the template 'total and deterministic' (their statements: YtmioaahiflfcdaaTotals.lean).
  GIVEN WITH THE SEED: the statements are not yours to turn. If you find one false, say at which input.
  Laid BY PROGRAM, IN A SANDBOX (cutbox-rows.mjs): the forced cells as the released guide's own fill.sh prints them over the translation eacaf3ed9f402db1… (all of the seat's roots in one cut). By AI agents, Wed Nov 11 2026. No macro, syntax, notation, axiom, sorry.
-/
import Derived.Test.YtmioaahiflfcdaaChecked
import GoSem.Claim
import GoSem.ClaimJoined
import GoSem.ClaimMapViews
import Derived.JoinedTies
import Derived.KernelRfl
namespace Go.Proofs.Ytmioaahiflfcdaa
/- THE CELL 'sum', in the pinned program and in every row, IS THE sha256 OF THE DUMP (.gsa) THAT YtmioaahiflfcdaaProg.lean LOADS. Nothing in Lean hashes anything: it is a label: what it is worth is what the hold of that sum in a sandbox is worth. -/
noncomputable def Try.pinned : Pinned := { name := "ytmioaahiflfcdaa", sum := "eacaf3ed9f402db1724860cae7da94b16852c1f70de52e399e520d6756c63236", checked := Try.checked }
namespace Rows
def none {H : Type} : Left H := { results := [], args := [] }

/-- 'laws.FnJobAt': WHATEVER THE INPUT: true; the input reads as it did. -/
def fnJobAtSpec : ChangeSpec := { name := "fnJobAt", fn := fun _ => fun
  | [d] => { results := [.lit (.bool true)], args := [d] }
  | _ => none }
def fnJobAtRow : OpenClaim := { program := "ytmioaahiflfcdaa", sum := "eacaf3ed9f402db1724860cae7da94b16852c1f70de52e399e520d6756c63236", func := "loop.example/waymark/laws.FnJobAt", spec := "fnJobAt", unfollowed := true, recurses := true, apart := false }
def FnJobAtSaid : Prop := fnJobAtRow.holds Try.pinned (OpenSpec.ofChange fnJobAtSpec)

/-- ITS FALSE NEIGHBOUR: 'it returns false'. Refute it at one input. -/
def fnJobAtWrong : ChangeSpec := { name := "fnJobAt", fn := fun _ => fun
  | [d] => { results := [.lit (.bool false)], args := [d] }
  | _ => none }
def FnJobAtWrongFalsely : Prop := fnJobAtRow.holds Try.pinned (OpenSpec.ofChange fnJobAtWrong)

/-- 'laws.FnExactJobBest': WHATEVER THE INPUT: true; the input reads as it did. -/
def fnExactJobBestSpec : ChangeSpec := { name := "fnExactJobBest", fn := fun _ => fun
  | [d1, d2, d3] => { results := [.lit (.bool true)], args := [d1, d2, d3] }
  | _ => none }
def fnExactJobBestRow : OpenClaim := { program := "ytmioaahiflfcdaa", sum := "eacaf3ed9f402db1724860cae7da94b16852c1f70de52e399e520d6756c63236", func := "loop.example/waymark/laws.FnExactJobBest", spec := "fnExactJobBest", unfollowed := true, recurses := true, apart := false }
def FnExactJobBestSaid : Prop := fnExactJobBestRow.holds Try.pinned (OpenSpec.ofChange fnExactJobBestSpec)

/-- ITS FALSE NEIGHBOUR: 'it returns false'. Refute it at one input. -/
def fnExactJobBestWrong : ChangeSpec := { name := "fnExactJobBest", fn := fun _ => fun
  | [d1, d2, d3] => { results := [.lit (.bool false)], args := [d1, d2, d3] }
  | _ => none }
def FnExactJobBestWrongFalsely : Prop := fnExactJobBestRow.holds Try.pinned (OpenSpec.ofChange fnExactJobBestWrong)

/-- 'laws.FnExactJobCost': WHATEVER THE INPUT: true; the input reads as it did. -/
def fnExactJobCostSpec : ChangeSpec := { name := "fnExactJobCost", fn := fun _ => fun
  | [d1, d2, d3, d4] => { results := [.lit (.bool true)], args := [d1, d2, d3, d4] }
  | _ => none }
def fnExactJobCostRow : OpenClaim := { program := "ytmioaahiflfcdaa", sum := "eacaf3ed9f402db1724860cae7da94b16852c1f70de52e399e520d6756c63236", func := "loop.example/waymark/laws.FnExactJobCost", spec := "fnExactJobCost", unfollowed := true, recurses := true, apart := false }
def FnExactJobCostSaid : Prop := fnExactJobCostRow.holds Try.pinned (OpenSpec.ofChange fnExactJobCostSpec)

/-- ITS FALSE NEIGHBOUR: 'it returns false'. Refute it at one input. -/
def fnExactJobCostWrong : ChangeSpec := { name := "fnExactJobCost", fn := fun _ => fun
  | [d1, d2, d3, d4] => { results := [.lit (.bool false)], args := [d1, d2, d3, d4] }
  | _ => none }
def FnExactJobCostWrongFalsely : Prop := fnExactJobCostRow.holds Try.pinned (OpenSpec.ofChange fnExactJobCostWrong)

/-- 'laws.FnJobCost': WHATEVER THE INPUT: true; the input reads as it did. -/
def fnJobCostSpec : ChangeSpec := { name := "fnJobCost", fn := fun _ => fun
  | [d] => { results := [.lit (.bool true)], args := [d] }
  | _ => none }
def fnJobCostRow : OpenClaim := { program := "ytmioaahiflfcdaa", sum := "eacaf3ed9f402db1724860cae7da94b16852c1f70de52e399e520d6756c63236", func := "loop.example/waymark/laws.FnJobCost", spec := "fnJobCost", unfollowed := true, recurses := true, apart := false }
def FnJobCostSaid : Prop := fnJobCostRow.holds Try.pinned (OpenSpec.ofChange fnJobCostSpec)

/-- ITS FALSE NEIGHBOUR: 'it returns false'. Refute it at one input. -/
def fnJobCostWrong : ChangeSpec := { name := "fnJobCost", fn := fun _ => fun
  | [d] => { results := [.lit (.bool false)], args := [d] }
  | _ => none }
def FnJobCostWrongFalsely : Prop := fnJobCostRow.holds Try.pinned (OpenSpec.ofChange fnJobCostWrong)

/-- 'laws.FnJobBest': WHATEVER THE INPUT: true; the input reads as it did. -/
def fnJobBestSpec : ChangeSpec := { name := "fnJobBest", fn := fun _ => fun
  | [d1, d2] => { results := [.lit (.bool true)], args := [d1, d2] }
  | _ => none }
def fnJobBestRow : OpenClaim := { program := "ytmioaahiflfcdaa", sum := "eacaf3ed9f402db1724860cae7da94b16852c1f70de52e399e520d6756c63236", func := "loop.example/waymark/laws.FnJobBest", spec := "fnJobBest", unfollowed := true, recurses := true, apart := false }
def FnJobBestSaid : Prop := fnJobBestRow.holds Try.pinned (OpenSpec.ofChange fnJobBestSpec)

/-- ITS FALSE NEIGHBOUR: 'it returns false'. Refute it at one input. -/
def fnJobBestWrong : ChangeSpec := { name := "fnJobBest", fn := fun _ => fun
  | [d1, d2] => { results := [.lit (.bool false)], args := [d1, d2] }
  | _ => none }
def FnJobBestWrongFalsely : Prop := fnJobBestRow.holds Try.pinned (OpenSpec.ofChange fnJobBestWrong)

/- THE SECOND FORM. 'bulk': how many values and letters a reading holds, each counted each time it is reached (what is shared counts as often as it is met; a slice's spare places count too). A statement '..UptoSaid' is the law's where the arguments, and the package variables that the reading takes, are together of bulk at most 1048576: NARROWER than '..Said'. Prove '..Said' where nothing that the law and all that it calls make is longer than what came in: it says more and counts as full. Else prove '..UptoSaid'. A law counts once. -/
mutual
def uptoBulk {H : Type} : DataW H → Nat
  | .lit (.string bytes) => bytes.length + 1
  | .lit _ => 1
  | .nil => 1
  | .ptr d => uptoBulk d + 1
  | .slice elems spare => uptoBulkAll elems + uptoBulkAll spare + 1
  | .agg parts => uptoBulkAll parts + 1
  | .iface _ d => uptoBulk d + 1
  | .map entries => uptoBulkEntries entries + 1
  | .held _ => 1
def uptoBulkAll {H : Type} : List (DataW H) → Nat
  | [] => 0
  | d :: r => uptoBulk d + uptoBulkAll r
def uptoBulkEntries {H : Type} : List (Lit × DataW H) → Nat
  | [] => 0
  | x :: r => uptoBulkEntry x + uptoBulkEntries r
def uptoBulkEntry {H : Type} : Lit × DataW H → Nat
  | (.string bytes, d) => bytes.length + uptoBulk d + 1
  | (_, d) => uptoBulk d + 1
 end
def uptoSmall : (H : Type) → List (DataW H) → Bool := fun _ ds => decide (uptoBulkAll ds ≤ 1048576)
def OpenSpec.upto (s : _root_.Go.ChangeSpec) : _root_.Go.OpenSpec := { _root_.Go.OpenSpec.ofChange s with cond := some uptoSmall }

/-- 'laws.FnJobAt', WHERE WHAT IT READS IS OF BULK AT MOST 1048576: true; the input reads as it did. -/
def fnJobAtUptoRow : OpenClaim := { program := "ytmioaahiflfcdaa", sum := "eacaf3ed9f402db1724860cae7da94b16852c1f70de52e399e520d6756c63236", func := "loop.example/waymark/laws.FnJobAt", spec := "fnJobAt", unfollowed := true, recurses := true, apart := false, narrowed := true }
def FnJobAtUptoSaid : Prop := fnJobAtUptoRow.holds Try.pinned (OpenSpec.upto fnJobAtSpec)

/-- 'laws.FnExactJobBest', WHERE WHAT IT READS IS OF BULK AT MOST 1048576: true; the input reads as it did. -/
def fnExactJobBestUptoRow : OpenClaim := { program := "ytmioaahiflfcdaa", sum := "eacaf3ed9f402db1724860cae7da94b16852c1f70de52e399e520d6756c63236", func := "loop.example/waymark/laws.FnExactJobBest", spec := "fnExactJobBest", unfollowed := true, recurses := true, apart := false, narrowed := true }
def FnExactJobBestUptoSaid : Prop := fnExactJobBestUptoRow.holds Try.pinned (OpenSpec.upto fnExactJobBestSpec)

/-- 'laws.FnExactJobCost', WHERE WHAT IT READS IS OF BULK AT MOST 1048576: true; the input reads as it did. -/
def fnExactJobCostUptoRow : OpenClaim := { program := "ytmioaahiflfcdaa", sum := "eacaf3ed9f402db1724860cae7da94b16852c1f70de52e399e520d6756c63236", func := "loop.example/waymark/laws.FnExactJobCost", spec := "fnExactJobCost", unfollowed := true, recurses := true, apart := false, narrowed := true }
def FnExactJobCostUptoSaid : Prop := fnExactJobCostUptoRow.holds Try.pinned (OpenSpec.upto fnExactJobCostSpec)

/-- 'laws.FnJobCost', WHERE WHAT IT READS IS OF BULK AT MOST 1048576: true; the input reads as it did. -/
def fnJobCostUptoRow : OpenClaim := { program := "ytmioaahiflfcdaa", sum := "eacaf3ed9f402db1724860cae7da94b16852c1f70de52e399e520d6756c63236", func := "loop.example/waymark/laws.FnJobCost", spec := "fnJobCost", unfollowed := true, recurses := true, apart := false, narrowed := true }
def FnJobCostUptoSaid : Prop := fnJobCostUptoRow.holds Try.pinned (OpenSpec.upto fnJobCostSpec)

/-- 'laws.FnJobBest', WHERE WHAT IT READS IS OF BULK AT MOST 1048576: true; the input reads as it did. -/
def fnJobBestUptoRow : OpenClaim := { program := "ytmioaahiflfcdaa", sum := "eacaf3ed9f402db1724860cae7da94b16852c1f70de52e399e520d6756c63236", func := "loop.example/waymark/laws.FnJobBest", spec := "fnJobBest", unfollowed := true, recurses := true, apart := false, narrowed := true }
def FnJobBestUptoSaid : Prop := fnJobBestUptoRow.holds Try.pinned (OpenSpec.upto fnJobBestSpec)

end Rows
end Go.Proofs.Ytmioaahiflfcdaa
