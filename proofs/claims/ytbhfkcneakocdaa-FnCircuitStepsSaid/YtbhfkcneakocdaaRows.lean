/-
  No cell of these rows narrows 'for every input' (looked for: loops, veiled, ifaces, maps, wideKeys, modest, calm, conditions, laid).
  DERIVED. THE GIVEN ROWS OF THIS SEAT. 5 by the template 'for every input the law returns true; each argument reads behind the call as it read before'; 0 by the template 'total and deterministic' (their statements: YtbhfkcneakocdaaTotals.lean).
  GIVEN WITH THE SEED: the statements are not yours to turn. If you find one false, say at which input.
  Laid BY PROGRAM, IN A SANDBOX (cutbox-rows.mjs): the forced cells as the released guide's own fill.sh prints them over the translation a09ea2f2f15c5e27… (all of the seat's roots in one cut). By AI agents, Wed Nov 11 2026. No macro, syntax, notation, axiom, sorry.
-/
import Derived.Test.YtbhfkcneakocdaaChecked
import GoSem.Claim
import GoSem.ClaimJoined
import GoSem.ClaimMapViews
import Derived.JoinedTies
import Derived.KernelRfl
namespace Go.Proofs.Ytbhfkcneakocdaa
/- THE CELL 'sum', in the pinned program and in every row, IS THE sha256 OF THE DUMP (.gsa) THAT YtbhfkcneakocdaaProg.lean LOADS. Nothing in Lean hashes anything: it is a label: what it is worth is what the hold of that sum in a sandbox is worth. -/
noncomputable def Try.pinned : Pinned := { name := "ytbhfkcneakocdaa", sum := "a09ea2f2f15c5e27c85c5b5d41cc19100cefc0c988eaf74a143511933d99b44c", checked := Try.checked }
namespace Rows
def none {H : Type} : Left H := { results := [], args := [] }

/-- 'laws.FnCircuitValid': WHATEVER THE INPUT: true; the input reads as it did. -/
def fnCircuitValidSpec : ChangeSpec := { name := "fnCircuitValid", fn := fun _ => fun
  | [d] => { results := [.lit (.bool true)], args := [d] }
  | _ => none }
def fnCircuitValidRow : OpenClaim := { program := "ytbhfkcneakocdaa", sum := "a09ea2f2f15c5e27c85c5b5d41cc19100cefc0c988eaf74a143511933d99b44c", func := "loop.example/reversiblecircuits/laws.FnCircuitValid", spec := "fnCircuitValid", unfollowed := true, recurses := true, apart := false }
def FnCircuitValidSaid : Prop := fnCircuitValidRow.holds Try.pinned (OpenSpec.ofChange fnCircuitValidSpec)

/-- ITS FALSE NEIGHBOUR: 'it returns false'. Refute it at one input. -/
def fnCircuitValidWrong : ChangeSpec := { name := "fnCircuitValid", fn := fun _ => fun
  | [d] => { results := [.lit (.bool false)], args := [d] }
  | _ => none }
def FnCircuitValidWrongFalsely : Prop := fnCircuitValidRow.holds Try.pinned (OpenSpec.ofChange fnCircuitValidWrong)

/-- 'laws.FnCircuitCost': WHATEVER THE INPUT: true; the input reads as it did. -/
def fnCircuitCostSpec : ChangeSpec := { name := "fnCircuitCost", fn := fun _ => fun
  | [d] => { results := [.lit (.bool true)], args := [d] }
  | _ => none }
def fnCircuitCostRow : OpenClaim := { program := "ytbhfkcneakocdaa", sum := "a09ea2f2f15c5e27c85c5b5d41cc19100cefc0c988eaf74a143511933d99b44c", func := "loop.example/reversiblecircuits/laws.FnCircuitCost", spec := "fnCircuitCost", unfollowed := true, recurses := true, apart := false }
def FnCircuitCostSaid : Prop := fnCircuitCostRow.holds Try.pinned (OpenSpec.ofChange fnCircuitCostSpec)

/-- ITS FALSE NEIGHBOUR: 'it returns false'. Refute it at one input. -/
def fnCircuitCostWrong : ChangeSpec := { name := "fnCircuitCost", fn := fun _ => fun
  | [d] => { results := [.lit (.bool false)], args := [d] }
  | _ => none }
def FnCircuitCostWrongFalsely : Prop := fnCircuitCostRow.holds Try.pinned (OpenSpec.ofChange fnCircuitCostWrong)

/-- 'laws.FnCircuitSteps': WHATEVER THE INPUT: true; the input reads as it did. -/
def fnCircuitStepsSpec : ChangeSpec := { name := "fnCircuitSteps", fn := fun _ => fun
  | [d] => { results := [.lit (.bool true)], args := [d] }
  | _ => none }
def fnCircuitStepsRow : OpenClaim := { program := "ytbhfkcneakocdaa", sum := "a09ea2f2f15c5e27c85c5b5d41cc19100cefc0c988eaf74a143511933d99b44c", func := "loop.example/reversiblecircuits/laws.FnCircuitSteps", spec := "fnCircuitSteps", unfollowed := true, recurses := true, apart := false }
def FnCircuitStepsSaid : Prop := fnCircuitStepsRow.holds Try.pinned (OpenSpec.ofChange fnCircuitStepsSpec)

/-- ITS FALSE NEIGHBOUR: 'it returns false'. Refute it at one input. -/
def fnCircuitStepsWrong : ChangeSpec := { name := "fnCircuitSteps", fn := fun _ => fun
  | [d] => { results := [.lit (.bool false)], args := [d] }
  | _ => none }
def FnCircuitStepsWrongFalsely : Prop := fnCircuitStepsRow.holds Try.pinned (OpenSpec.ofChange fnCircuitStepsWrong)

/-- 'laws.FnCircuitDepth': WHATEVER THE INPUT: true; the input reads as it did. -/
def fnCircuitDepthSpec : ChangeSpec := { name := "fnCircuitDepth", fn := fun _ => fun
  | [d] => { results := [.lit (.bool true)], args := [d] }
  | _ => none }
def fnCircuitDepthRow : OpenClaim := { program := "ytbhfkcneakocdaa", sum := "a09ea2f2f15c5e27c85c5b5d41cc19100cefc0c988eaf74a143511933d99b44c", func := "loop.example/reversiblecircuits/laws.FnCircuitDepth", spec := "fnCircuitDepth", unfollowed := true, recurses := true, apart := false }
def FnCircuitDepthSaid : Prop := fnCircuitDepthRow.holds Try.pinned (OpenSpec.ofChange fnCircuitDepthSpec)

/-- ITS FALSE NEIGHBOUR: 'it returns false'. Refute it at one input. -/
def fnCircuitDepthWrong : ChangeSpec := { name := "fnCircuitDepth", fn := fun _ => fun
  | [d] => { results := [.lit (.bool false)], args := [d] }
  | _ => none }
def FnCircuitDepthWrongFalsely : Prop := fnCircuitDepthRow.holds Try.pinned (OpenSpec.ofChange fnCircuitDepthWrong)

/-- 'laws.FnExactCircuitShort': WHATEVER THE INPUT: true; the input reads as it did. -/
def fnExactCircuitShortSpec : ChangeSpec := { name := "fnExactCircuitShort", fn := fun _ => fun
  | [d1, d2] => { results := [.lit (.bool true)], args := [d1, d2] }
  | _ => none }
def fnExactCircuitShortRow : OpenClaim := { program := "ytbhfkcneakocdaa", sum := "a09ea2f2f15c5e27c85c5b5d41cc19100cefc0c988eaf74a143511933d99b44c", func := "loop.example/reversiblecircuits/laws.FnExactCircuitShort", spec := "fnExactCircuitShort", unfollowed := true, recurses := true, apart := false }
def FnExactCircuitShortSaid : Prop := fnExactCircuitShortRow.holds Try.pinned (OpenSpec.ofChange fnExactCircuitShortSpec)

/-- ITS FALSE NEIGHBOUR: 'it returns false'. Refute it at one input. -/
def fnExactCircuitShortWrong : ChangeSpec := { name := "fnExactCircuitShort", fn := fun _ => fun
  | [d1, d2] => { results := [.lit (.bool false)], args := [d1, d2] }
  | _ => none }
def FnExactCircuitShortWrongFalsely : Prop := fnExactCircuitShortRow.holds Try.pinned (OpenSpec.ofChange fnExactCircuitShortWrong)

/- THE SECOND FORM. 'bulk': how many values and letters a reading holds, each counted each time it is reached (what is shared counts as often as it is met; a slice's spare places count too). A statement '..UptoSaid' is the law's where the arguments, and the package variables that the reading takes, are together of bulk at most 1048576: NARROWER than '..Said'. Prove '..Said' where nothing that the law and all that it calls make is longer than what came in: it says more and counts as full. Else prove '..UptoSaid'. A law counts once. -/
mutual
def uptoBulk {H : Type} : DataW H → Nat
  | .lit (.string bytes) => bytes.length + 1
  | .lit _ => 1
  | .nil => 1
  | .ptr d => uptoBulk d + 1
  | .slice elems spare => uptoBulkAll elems + uptoBulkAll spare + 1
  | .agg parts => uptoBulkAll parts + 1
  | .iface _ d => uptoBulk d + 1
  | .map entries => uptoBulkEntries entries + 1
  | .held _ => 1
def uptoBulkAll {H : Type} : List (DataW H) → Nat
  | [] => 0
  | d :: r => uptoBulk d + uptoBulkAll r
def uptoBulkEntries {H : Type} : List (Lit × DataW H) → Nat
  | [] => 0
  | x :: r => uptoBulkEntry x + uptoBulkEntries r
def uptoBulkEntry {H : Type} : Lit × DataW H → Nat
  | (.string bytes, d) => bytes.length + uptoBulk d + 1
  | (_, d) => uptoBulk d + 1
 end
def uptoSmall : (H : Type) → List (DataW H) → Bool := fun _ ds => decide (uptoBulkAll ds ≤ 1048576)
def OpenSpec.upto (s : _root_.Go.ChangeSpec) : _root_.Go.OpenSpec := { _root_.Go.OpenSpec.ofChange s with cond := some uptoSmall }

/-- 'laws.FnCircuitValid', WHERE WHAT IT READS IS OF BULK AT MOST 1048576: true; the input reads as it did. -/
def fnCircuitValidUptoRow : OpenClaim := { program := "ytbhfkcneakocdaa", sum := "a09ea2f2f15c5e27c85c5b5d41cc19100cefc0c988eaf74a143511933d99b44c", func := "loop.example/reversiblecircuits/laws.FnCircuitValid", spec := "fnCircuitValid", unfollowed := true, recurses := true, apart := false, narrowed := true }
def FnCircuitValidUptoSaid : Prop := fnCircuitValidUptoRow.holds Try.pinned (OpenSpec.upto fnCircuitValidSpec)

/-- 'laws.FnCircuitCost', WHERE WHAT IT READS IS OF BULK AT MOST 1048576: true; the input reads as it did. -/
def fnCircuitCostUptoRow : OpenClaim := { program := "ytbhfkcneakocdaa", sum := "a09ea2f2f15c5e27c85c5b5d41cc19100cefc0c988eaf74a143511933d99b44c", func := "loop.example/reversiblecircuits/laws.FnCircuitCost", spec := "fnCircuitCost", unfollowed := true, recurses := true, apart := false, narrowed := true }
def FnCircuitCostUptoSaid : Prop := fnCircuitCostUptoRow.holds Try.pinned (OpenSpec.upto fnCircuitCostSpec)

/-- 'laws.FnCircuitSteps', WHERE WHAT IT READS IS OF BULK AT MOST 1048576: true; the input reads as it did. -/
def fnCircuitStepsUptoRow : OpenClaim := { program := "ytbhfkcneakocdaa", sum := "a09ea2f2f15c5e27c85c5b5d41cc19100cefc0c988eaf74a143511933d99b44c", func := "loop.example/reversiblecircuits/laws.FnCircuitSteps", spec := "fnCircuitSteps", unfollowed := true, recurses := true, apart := false, narrowed := true }
def FnCircuitStepsUptoSaid : Prop := fnCircuitStepsUptoRow.holds Try.pinned (OpenSpec.upto fnCircuitStepsSpec)

/-- 'laws.FnCircuitDepth', WHERE WHAT IT READS IS OF BULK AT MOST 1048576: true; the input reads as it did. -/
def fnCircuitDepthUptoRow : OpenClaim := { program := "ytbhfkcneakocdaa", sum := "a09ea2f2f15c5e27c85c5b5d41cc19100cefc0c988eaf74a143511933d99b44c", func := "loop.example/reversiblecircuits/laws.FnCircuitDepth", spec := "fnCircuitDepth", unfollowed := true, recurses := true, apart := false, narrowed := true }
def FnCircuitDepthUptoSaid : Prop := fnCircuitDepthUptoRow.holds Try.pinned (OpenSpec.upto fnCircuitDepthSpec)

/-- 'laws.FnExactCircuitShort', WHERE WHAT IT READS IS OF BULK AT MOST 1048576: true; the input reads as it did. -/
def fnExactCircuitShortUptoRow : OpenClaim := { program := "ytbhfkcneakocdaa", sum := "a09ea2f2f15c5e27c85c5b5d41cc19100cefc0c988eaf74a143511933d99b44c", func := "loop.example/reversiblecircuits/laws.FnExactCircuitShort", spec := "fnExactCircuitShort", unfollowed := true, recurses := true, apart := false, narrowed := true }
def FnExactCircuitShortUptoSaid : Prop := fnExactCircuitShortUptoRow.holds Try.pinned (OpenSpec.upto fnExactCircuitShortSpec)

end Rows
end Go.Proofs.Ytbhfkcneakocdaa
