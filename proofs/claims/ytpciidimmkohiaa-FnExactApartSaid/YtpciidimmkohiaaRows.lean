/-
  No cell of these rows narrows 'for every input' (looked for: loops, veiled, ifaces, maps, wideKeys, modest, calm, conditions, laid).
  DERIVED. THE GIVEN ROWS OF THIS SEAT. 12 by the template 'for every input the law returns true; each argument reads behind the call as it read before'; 0 by the template 'total and deterministic' (their statements: YtpciidimmkohiaaTotals.lean).
  GIVEN WITH THE SEED: the statements are not yours to turn. If you find one false, say at which input.
  Laid BY PROGRAM, IN A SANDBOX (cutbox-rows.mjs): the forced cells as the released guide's own fill.sh prints them over the translation 003877dcddb0d0e9… (all of the seat's roots in one cut). By AI agents, Wed Nov 11 2026. No macro, syntax, notation, axiom, sorry.
-/
import Derived.Test.YtpciidimmkohiaaChecked
import GoSem.Claim
import GoSem.ClaimJoined
import GoSem.ClaimMapViews
import Derived.JoinedTies
import Derived.KernelRfl
namespace Go.Proofs.Ytpciidimmkohiaa
/- THE CELL 'sum', in the pinned program and in every row, IS THE sha256 OF THE DUMP (.gsa) THAT YtpciidimmkohiaaProg.lean LOADS. Nothing in Lean hashes anything: it is a label: what it is worth is what the hold of that sum in a sandbox is worth. -/
noncomputable def Try.pinned : Pinned := { name := "ytpciidimmkohiaa", sum := "003877dcddb0d0e95344315986d629243d613d1933a647dacbd4870704ef4152", checked := Try.checked }
namespace Rows
def none {H : Type} : Left H := { results := [], args := [] }

/-- 'laws.FnExactRipple': WHATEVER THE INPUT: true; the input reads as it did. -/
def fnExactRippleSpec : ChangeSpec := { name := "fnExactRipple", fn := fun _ => fun
  | [d] => { results := [.lit (.bool true)], args := [d] }
  | _ => none }
def fnExactRippleRow : OpenClaim := { program := "ytpciidimmkohiaa", sum := "003877dcddb0d0e95344315986d629243d613d1933a647dacbd4870704ef4152", func := "loop.example/reversiblecircuits/laws.FnExactRipple", spec := "fnExactRipple", apart := false }
def FnExactRippleSaid : Prop := fnExactRippleRow.holds Try.pinned (OpenSpec.ofChange fnExactRippleSpec)

/-- ITS FALSE NEIGHBOUR: 'it returns false'. Refute it at one input. -/
def fnExactRippleWrong : ChangeSpec := { name := "fnExactRipple", fn := fun _ => fun
  | [d] => { results := [.lit (.bool false)], args := [d] }
  | _ => none }
def FnExactRippleWrongFalsely : Prop := fnExactRippleRow.holds Try.pinned (OpenSpec.ofChange fnExactRippleWrong)

/-- 'laws.FnExactChanges': WHATEVER THE INPUT: true; the input reads as it did. -/
def fnExactChangesSpec : ChangeSpec := { name := "fnExactChanges", fn := fun _ => fun
  | [d1, d2] => { results := [.lit (.bool true)], args := [d1, d2] }
  | _ => none }
def fnExactChangesRow : OpenClaim := { program := "ytpciidimmkohiaa", sum := "003877dcddb0d0e95344315986d629243d613d1933a647dacbd4870704ef4152", func := "loop.example/reversiblecircuits/laws.FnExactChanges", spec := "fnExactChanges", recurses := true, apart := false }
def FnExactChangesSaid : Prop := fnExactChangesRow.holds Try.pinned (OpenSpec.ofChange fnExactChangesSpec)

/-- ITS FALSE NEIGHBOUR: 'it returns false'. Refute it at one input. -/
def fnExactChangesWrong : ChangeSpec := { name := "fnExactChanges", fn := fun _ => fun
  | [d1, d2] => { results := [.lit (.bool false)], args := [d1, d2] }
  | _ => none }
def FnExactChangesWrongFalsely : Prop := fnExactChangesRow.holds Try.pinned (OpenSpec.ofChange fnExactChangesWrong)

/-- 'laws.FnExactApart': WHATEVER THE INPUT: true; the input reads as it did. -/
def fnExactApartSpec : ChangeSpec := { name := "fnExactApart", fn := fun _ => fun
  | [d1, d2, d3] => { results := [.lit (.bool true)], args := [d1, d2, d3] }
  | _ => none }
def fnExactApartRow : OpenClaim := { program := "ytpciidimmkohiaa", sum := "003877dcddb0d0e95344315986d629243d613d1933a647dacbd4870704ef4152", func := "loop.example/reversiblecircuits/laws.FnExactApart", spec := "fnExactApart", unfollowed := true, recurses := true, apart := false }
def FnExactApartSaid : Prop := fnExactApartRow.holds Try.pinned (OpenSpec.ofChange fnExactApartSpec)

/-- ITS FALSE NEIGHBOUR: 'it returns false'. Refute it at one input. -/
def fnExactApartWrong : ChangeSpec := { name := "fnExactApart", fn := fun _ => fun
  | [d1, d2, d3] => { results := [.lit (.bool false)], args := [d1, d2, d3] }
  | _ => none }
def FnExactApartWrongFalsely : Prop := fnExactApartRow.holds Try.pinned (OpenSpec.ofChange fnExactApartWrong)

/-- 'laws.FnExactCircuitValid': WHATEVER THE INPUT: true; the input reads as it did. -/
def fnExactCircuitValidSpec : ChangeSpec := { name := "fnExactCircuitValid", fn := fun _ => fun
  | [d1, d2] => { results := [.lit (.bool true)], args := [d1, d2] }
  | _ => none }
def fnExactCircuitValidRow : OpenClaim := { program := "ytpciidimmkohiaa", sum := "003877dcddb0d0e95344315986d629243d613d1933a647dacbd4870704ef4152", func := "loop.example/reversiblecircuits/laws.FnExactCircuitValid", spec := "fnExactCircuitValid", unfollowed := true, recurses := true, apart := false }
def FnExactCircuitValidSaid : Prop := fnExactCircuitValidRow.holds Try.pinned (OpenSpec.ofChange fnExactCircuitValidSpec)

/-- ITS FALSE NEIGHBOUR: 'it returns false'. Refute it at one input. -/
def fnExactCircuitValidWrong : ChangeSpec := { name := "fnExactCircuitValid", fn := fun _ => fun
  | [d1, d2] => { results := [.lit (.bool false)], args := [d1, d2] }
  | _ => none }
def FnExactCircuitValidWrongFalsely : Prop := fnExactCircuitValidRow.holds Try.pinned (OpenSpec.ofChange fnExactCircuitValidWrong)

/-- 'laws.FnExactCircuitCost': WHATEVER THE INPUT: true; the input reads as it did. -/
def fnExactCircuitCostSpec : ChangeSpec := { name := "fnExactCircuitCost", fn := fun _ => fun
  | [d1, d2] => { results := [.lit (.bool true)], args := [d1, d2] }
  | _ => none }
def fnExactCircuitCostRow : OpenClaim := { program := "ytpciidimmkohiaa", sum := "003877dcddb0d0e95344315986d629243d613d1933a647dacbd4870704ef4152", func := "loop.example/reversiblecircuits/laws.FnExactCircuitCost", spec := "fnExactCircuitCost", unfollowed := true, recurses := true, apart := false }
def FnExactCircuitCostSaid : Prop := fnExactCircuitCostRow.holds Try.pinned (OpenSpec.ofChange fnExactCircuitCostSpec)

/-- ITS FALSE NEIGHBOUR: 'it returns false'. Refute it at one input. -/
def fnExactCircuitCostWrong : ChangeSpec := { name := "fnExactCircuitCost", fn := fun _ => fun
  | [d1, d2] => { results := [.lit (.bool false)], args := [d1, d2] }
  | _ => none }
def FnExactCircuitCostWrongFalsely : Prop := fnExactCircuitCostRow.holds Try.pinned (OpenSpec.ofChange fnExactCircuitCostWrong)

/-- 'laws.FnExactCircuitBack': WHATEVER THE INPUT: true; the input reads as it did. -/
def fnExactCircuitBackSpec : ChangeSpec := { name := "fnExactCircuitBack", fn := fun _ => fun
  | [d1, d2] => { results := [.lit (.bool true)], args := [d1, d2] }
  | _ => none }
def fnExactCircuitBackRow : OpenClaim := { program := "ytpciidimmkohiaa", sum := "003877dcddb0d0e95344315986d629243d613d1933a647dacbd4870704ef4152", func := "loop.example/reversiblecircuits/laws.FnExactCircuitBack", spec := "fnExactCircuitBack", unfollowed := true, recurses := true, apart := false }
def FnExactCircuitBackSaid : Prop := fnExactCircuitBackRow.holds Try.pinned (OpenSpec.ofChange fnExactCircuitBackSpec)

/-- ITS FALSE NEIGHBOUR: 'it returns false'. Refute it at one input. -/
def fnExactCircuitBackWrong : ChangeSpec := { name := "fnExactCircuitBack", fn := fun _ => fun
  | [d1, d2] => { results := [.lit (.bool false)], args := [d1, d2] }
  | _ => none }
def FnExactCircuitBackWrongFalsely : Prop := fnExactCircuitBackRow.holds Try.pinned (OpenSpec.ofChange fnExactCircuitBackWrong)

/-- 'laws.FnExactCircuitDepth': WHATEVER THE INPUT: true; the input reads as it did. -/
def fnExactCircuitDepthSpec : ChangeSpec := { name := "fnExactCircuitDepth", fn := fun _ => fun
  | [d1, d2] => { results := [.lit (.bool true)], args := [d1, d2] }
  | _ => none }
def fnExactCircuitDepthRow : OpenClaim := { program := "ytpciidimmkohiaa", sum := "003877dcddb0d0e95344315986d629243d613d1933a647dacbd4870704ef4152", func := "loop.example/reversiblecircuits/laws.FnExactCircuitDepth", spec := "fnExactCircuitDepth", unfollowed := true, recurses := true, apart := false }
def FnExactCircuitDepthSaid : Prop := fnExactCircuitDepthRow.holds Try.pinned (OpenSpec.ofChange fnExactCircuitDepthSpec)

/-- ITS FALSE NEIGHBOUR: 'it returns false'. Refute it at one input. -/
def fnExactCircuitDepthWrong : ChangeSpec := { name := "fnExactCircuitDepth", fn := fun _ => fun
  | [d1, d2] => { results := [.lit (.bool false)], args := [d1, d2] }
  | _ => none }
def FnExactCircuitDepthWrongFalsely : Prop := fnExactCircuitDepthRow.holds Try.pinned (OpenSpec.ofChange fnExactCircuitDepthWrong)

/-- 'laws.FnExactSplitSwaps': WHATEVER THE INPUT: true; the input reads as it did. -/
def fnExactSplitSwapsSpec : ChangeSpec := { name := "fnExactSplitSwaps", fn := fun _ => fun
  | [d1, d2] => { results := [.lit (.bool true)], args := [d1, d2] }
  | _ => none }
def fnExactSplitSwapsRow : OpenClaim := { program := "ytpciidimmkohiaa", sum := "003877dcddb0d0e95344315986d629243d613d1933a647dacbd4870704ef4152", func := "loop.example/reversiblecircuits/laws.FnExactSplitSwaps", spec := "fnExactSplitSwaps", unfollowed := true, recurses := true, apart := false }
def FnExactSplitSwapsSaid : Prop := fnExactSplitSwapsRow.holds Try.pinned (OpenSpec.ofChange fnExactSplitSwapsSpec)

/-- ITS FALSE NEIGHBOUR: 'it returns false'. Refute it at one input. -/
def fnExactSplitSwapsWrong : ChangeSpec := { name := "fnExactSplitSwaps", fn := fun _ => fun
  | [d1, d2] => { results := [.lit (.bool false)], args := [d1, d2] }
  | _ => none }
def FnExactSplitSwapsWrongFalsely : Prop := fnExactSplitSwapsRow.holds Try.pinned (OpenSpec.ofChange fnExactSplitSwapsWrong)

/-- 'laws.FnExactCircuitJoin': WHATEVER THE INPUT: true; the input reads as it did. -/
def fnExactCircuitJoinSpec : ChangeSpec := { name := "fnExactCircuitJoin", fn := fun _ => fun
  | [d1, d2, d3] => { results := [.lit (.bool true)], args := [d1, d2, d3] }
  | _ => none }
def fnExactCircuitJoinRow : OpenClaim := { program := "ytpciidimmkohiaa", sum := "003877dcddb0d0e95344315986d629243d613d1933a647dacbd4870704ef4152", func := "loop.example/reversiblecircuits/laws.FnExactCircuitJoin", spec := "fnExactCircuitJoin", unfollowed := true, recurses := true, apart := false }
def FnExactCircuitJoinSaid : Prop := fnExactCircuitJoinRow.holds Try.pinned (OpenSpec.ofChange fnExactCircuitJoinSpec)

/-- ITS FALSE NEIGHBOUR: 'it returns false'. Refute it at one input. -/
def fnExactCircuitJoinWrong : ChangeSpec := { name := "fnExactCircuitJoin", fn := fun _ => fun
  | [d1, d2, d3] => { results := [.lit (.bool false)], args := [d1, d2, d3] }
  | _ => none }
def FnExactCircuitJoinWrongFalsely : Prop := fnExactCircuitJoinRow.holds Try.pinned (OpenSpec.ofChange fnExactCircuitJoinWrong)

/-- 'laws.FnExactCircuitSteps': WHATEVER THE INPUT: true; the input reads as it did. -/
def fnExactCircuitStepsSpec : ChangeSpec := { name := "fnExactCircuitSteps", fn := fun _ => fun
  | [d1, d2] => { results := [.lit (.bool true)], args := [d1, d2] }
  | _ => none }
def fnExactCircuitStepsRow : OpenClaim := { program := "ytpciidimmkohiaa", sum := "003877dcddb0d0e95344315986d629243d613d1933a647dacbd4870704ef4152", func := "loop.example/reversiblecircuits/laws.FnExactCircuitSteps", spec := "fnExactCircuitSteps", unfollowed := true, recurses := true, apart := false }
def FnExactCircuitStepsSaid : Prop := fnExactCircuitStepsRow.holds Try.pinned (OpenSpec.ofChange fnExactCircuitStepsSpec)

/-- ITS FALSE NEIGHBOUR: 'it returns false'. Refute it at one input. -/
def fnExactCircuitStepsWrong : ChangeSpec := { name := "fnExactCircuitSteps", fn := fun _ => fun
  | [d1, d2] => { results := [.lit (.bool false)], args := [d1, d2] }
  | _ => none }
def FnExactCircuitStepsWrongFalsely : Prop := fnExactCircuitStepsRow.holds Try.pinned (OpenSpec.ofChange fnExactCircuitStepsWrong)

/-- 'laws.FnExactRename': WHATEVER THE INPUT: true; the input reads as it did. -/
def fnExactRenameSpec : ChangeSpec := { name := "fnExactRename", fn := fun _ => fun
  | [d1, d2, d3] => { results := [.lit (.bool true)], args := [d1, d2, d3] }
  | _ => none }
def fnExactRenameRow : OpenClaim := { program := "ytpciidimmkohiaa", sum := "003877dcddb0d0e95344315986d629243d613d1933a647dacbd4870704ef4152", func := "loop.example/reversiblecircuits/laws.FnExactRename", spec := "fnExactRename", unfollowed := true, recurses := true, apart := false }
def FnExactRenameSaid : Prop := fnExactRenameRow.holds Try.pinned (OpenSpec.ofChange fnExactRenameSpec)

/-- ITS FALSE NEIGHBOUR: 'it returns false'. Refute it at one input. -/
def fnExactRenameWrong : ChangeSpec := { name := "fnExactRename", fn := fun _ => fun
  | [d1, d2, d3] => { results := [.lit (.bool false)], args := [d1, d2, d3] }
  | _ => none }
def FnExactRenameWrongFalsely : Prop := fnExactRenameRow.holds Try.pinned (OpenSpec.ofChange fnExactRenameWrong)

/-- 'laws.FnExactUselessPair': WHATEVER THE INPUT: true; the input reads as it did. -/
def fnExactUselessPairSpec : ChangeSpec := { name := "fnExactUselessPair", fn := fun _ => fun
  | [d1, d2] => { results := [.lit (.bool true)], args := [d1, d2] }
  | _ => none }
def fnExactUselessPairRow : OpenClaim := { program := "ytpciidimmkohiaa", sum := "003877dcddb0d0e95344315986d629243d613d1933a647dacbd4870704ef4152", func := "loop.example/reversiblecircuits/laws.FnExactUselessPair", spec := "fnExactUselessPair", unfollowed := true, recurses := true, apart := false }
def FnExactUselessPairSaid : Prop := fnExactUselessPairRow.holds Try.pinned (OpenSpec.ofChange fnExactUselessPairSpec)

/-- ITS FALSE NEIGHBOUR: 'it returns false'. Refute it at one input. -/
def fnExactUselessPairWrong : ChangeSpec := { name := "fnExactUselessPair", fn := fun _ => fun
  | [d1, d2] => { results := [.lit (.bool false)], args := [d1, d2] }
  | _ => none }
def FnExactUselessPairWrongFalsely : Prop := fnExactUselessPairRow.holds Try.pinned (OpenSpec.ofChange fnExactUselessPairWrong)

/- THE SECOND FORM. 'bulk': how many values and letters a reading holds, each counted each time it is reached (what is shared counts as often as it is met; a slice's spare places count too). A statement '..UptoSaid' is the law's where the arguments, and the package variables that the reading takes, are together of bulk at most 1048576: NARROWER than '..Said'. Prove '..Said' where nothing that the law and all that it calls make is longer than what came in: it says more and counts as full. Else prove '..UptoSaid'. A law counts once. -/
mutual
def uptoBulk {H : Type} : DataW H → Nat
  | .lit (.string bytes) => bytes.length + 1
  | .lit _ => 1
  | .nil => 1
  | .ptr d => uptoBulk d + 1
  | .slice elems spare => uptoBulkAll elems + uptoBulkAll spare + 1
  | .agg parts => uptoBulkAll parts + 1
  | .iface _ d => uptoBulk d + 1
  | .map entries => uptoBulkEntries entries + 1
  | .held _ => 1
def uptoBulkAll {H : Type} : List (DataW H) → Nat
  | [] => 0
  | d :: r => uptoBulk d + uptoBulkAll r
def uptoBulkEntries {H : Type} : List (Lit × DataW H) → Nat
  | [] => 0
  | x :: r => uptoBulkEntry x + uptoBulkEntries r
def uptoBulkEntry {H : Type} : Lit × DataW H → Nat
  | (.string bytes, d) => bytes.length + uptoBulk d + 1
  | (_, d) => uptoBulk d + 1
 end
def uptoSmall : (H : Type) → List (DataW H) → Bool := fun _ ds => decide (uptoBulkAll ds ≤ 1048576)
def OpenSpec.upto (s : _root_.Go.ChangeSpec) : _root_.Go.OpenSpec := { _root_.Go.OpenSpec.ofChange s with cond := some uptoSmall }

/-- 'laws.FnExactRipple', WHERE WHAT IT READS IS OF BULK AT MOST 1048576: true; the input reads as it did. -/
def fnExactRippleUptoRow : OpenClaim := { program := "ytpciidimmkohiaa", sum := "003877dcddb0d0e95344315986d629243d613d1933a647dacbd4870704ef4152", func := "loop.example/reversiblecircuits/laws.FnExactRipple", spec := "fnExactRipple", apart := false, narrowed := true }
def FnExactRippleUptoSaid : Prop := fnExactRippleUptoRow.holds Try.pinned (OpenSpec.upto fnExactRippleSpec)

/-- 'laws.FnExactChanges', WHERE WHAT IT READS IS OF BULK AT MOST 1048576: true; the input reads as it did. -/
def fnExactChangesUptoRow : OpenClaim := { program := "ytpciidimmkohiaa", sum := "003877dcddb0d0e95344315986d629243d613d1933a647dacbd4870704ef4152", func := "loop.example/reversiblecircuits/laws.FnExactChanges", spec := "fnExactChanges", recurses := true, apart := false, narrowed := true }
def FnExactChangesUptoSaid : Prop := fnExactChangesUptoRow.holds Try.pinned (OpenSpec.upto fnExactChangesSpec)

/-- 'laws.FnExactApart', WHERE WHAT IT READS IS OF BULK AT MOST 1048576: true; the input reads as it did. -/
def fnExactApartUptoRow : OpenClaim := { program := "ytpciidimmkohiaa", sum := "003877dcddb0d0e95344315986d629243d613d1933a647dacbd4870704ef4152", func := "loop.example/reversiblecircuits/laws.FnExactApart", spec := "fnExactApart", unfollowed := true, recurses := true, apart := false, narrowed := true }
def FnExactApartUptoSaid : Prop := fnExactApartUptoRow.holds Try.pinned (OpenSpec.upto fnExactApartSpec)

/-- 'laws.FnExactCircuitValid', WHERE WHAT IT READS IS OF BULK AT MOST 1048576: true; the input reads as it did. -/
def fnExactCircuitValidUptoRow : OpenClaim := { program := "ytpciidimmkohiaa", sum := "003877dcddb0d0e95344315986d629243d613d1933a647dacbd4870704ef4152", func := "loop.example/reversiblecircuits/laws.FnExactCircuitValid", spec := "fnExactCircuitValid", unfollowed := true, recurses := true, apart := false, narrowed := true }
def FnExactCircuitValidUptoSaid : Prop := fnExactCircuitValidUptoRow.holds Try.pinned (OpenSpec.upto fnExactCircuitValidSpec)

/-- 'laws.FnExactCircuitCost', WHERE WHAT IT READS IS OF BULK AT MOST 1048576: true; the input reads as it did. -/
def fnExactCircuitCostUptoRow : OpenClaim := { program := "ytpciidimmkohiaa", sum := "003877dcddb0d0e95344315986d629243d613d1933a647dacbd4870704ef4152", func := "loop.example/reversiblecircuits/laws.FnExactCircuitCost", spec := "fnExactCircuitCost", unfollowed := true, recurses := true, apart := false, narrowed := true }
def FnExactCircuitCostUptoSaid : Prop := fnExactCircuitCostUptoRow.holds Try.pinned (OpenSpec.upto fnExactCircuitCostSpec)

/-- 'laws.FnExactCircuitBack', WHERE WHAT IT READS IS OF BULK AT MOST 1048576: true; the input reads as it did. -/
def fnExactCircuitBackUptoRow : OpenClaim := { program := "ytpciidimmkohiaa", sum := "003877dcddb0d0e95344315986d629243d613d1933a647dacbd4870704ef4152", func := "loop.example/reversiblecircuits/laws.FnExactCircuitBack", spec := "fnExactCircuitBack", unfollowed := true, recurses := true, apart := false, narrowed := true }
def FnExactCircuitBackUptoSaid : Prop := fnExactCircuitBackUptoRow.holds Try.pinned (OpenSpec.upto fnExactCircuitBackSpec)

/-- 'laws.FnExactCircuitDepth', WHERE WHAT IT READS IS OF BULK AT MOST 1048576: true; the input reads as it did. -/
def fnExactCircuitDepthUptoRow : OpenClaim := { program := "ytpciidimmkohiaa", sum := "003877dcddb0d0e95344315986d629243d613d1933a647dacbd4870704ef4152", func := "loop.example/reversiblecircuits/laws.FnExactCircuitDepth", spec := "fnExactCircuitDepth", unfollowed := true, recurses := true, apart := false, narrowed := true }
def FnExactCircuitDepthUptoSaid : Prop := fnExactCircuitDepthUptoRow.holds Try.pinned (OpenSpec.upto fnExactCircuitDepthSpec)

/-- 'laws.FnExactSplitSwaps', WHERE WHAT IT READS IS OF BULK AT MOST 1048576: true; the input reads as it did. -/
def fnExactSplitSwapsUptoRow : OpenClaim := { program := "ytpciidimmkohiaa", sum := "003877dcddb0d0e95344315986d629243d613d1933a647dacbd4870704ef4152", func := "loop.example/reversiblecircuits/laws.FnExactSplitSwaps", spec := "fnExactSplitSwaps", unfollowed := true, recurses := true, apart := false, narrowed := true }
def FnExactSplitSwapsUptoSaid : Prop := fnExactSplitSwapsUptoRow.holds Try.pinned (OpenSpec.upto fnExactSplitSwapsSpec)

/-- 'laws.FnExactCircuitJoin', WHERE WHAT IT READS IS OF BULK AT MOST 1048576: true; the input reads as it did. -/
def fnExactCircuitJoinUptoRow : OpenClaim := { program := "ytpciidimmkohiaa", sum := "003877dcddb0d0e95344315986d629243d613d1933a647dacbd4870704ef4152", func := "loop.example/reversiblecircuits/laws.FnExactCircuitJoin", spec := "fnExactCircuitJoin", unfollowed := true, recurses := true, apart := false, narrowed := true }
def FnExactCircuitJoinUptoSaid : Prop := fnExactCircuitJoinUptoRow.holds Try.pinned (OpenSpec.upto fnExactCircuitJoinSpec)

/-- 'laws.FnExactCircuitSteps', WHERE WHAT IT READS IS OF BULK AT MOST 1048576: true; the input reads as it did. -/
def fnExactCircuitStepsUptoRow : OpenClaim := { program := "ytpciidimmkohiaa", sum := "003877dcddb0d0e95344315986d629243d613d1933a647dacbd4870704ef4152", func := "loop.example/reversiblecircuits/laws.FnExactCircuitSteps", spec := "fnExactCircuitSteps", unfollowed := true, recurses := true, apart := false, narrowed := true }
def FnExactCircuitStepsUptoSaid : Prop := fnExactCircuitStepsUptoRow.holds Try.pinned (OpenSpec.upto fnExactCircuitStepsSpec)

/-- 'laws.FnExactRename', WHERE WHAT IT READS IS OF BULK AT MOST 1048576: true; the input reads as it did. -/
def fnExactRenameUptoRow : OpenClaim := { program := "ytpciidimmkohiaa", sum := "003877dcddb0d0e95344315986d629243d613d1933a647dacbd4870704ef4152", func := "loop.example/reversiblecircuits/laws.FnExactRename", spec := "fnExactRename", unfollowed := true, recurses := true, apart := false, narrowed := true }
def FnExactRenameUptoSaid : Prop := fnExactRenameUptoRow.holds Try.pinned (OpenSpec.upto fnExactRenameSpec)

/-- 'laws.FnExactUselessPair', WHERE WHAT IT READS IS OF BULK AT MOST 1048576: true; the input reads as it did. -/
def fnExactUselessPairUptoRow : OpenClaim := { program := "ytpciidimmkohiaa", sum := "003877dcddb0d0e95344315986d629243d613d1933a647dacbd4870704ef4152", func := "loop.example/reversiblecircuits/laws.FnExactUselessPair", spec := "fnExactUselessPair", unfollowed := true, recurses := true, apart := false, narrowed := true }
def FnExactUselessPairUptoSaid : Prop := fnExactUselessPairUptoRow.holds Try.pinned (OpenSpec.upto fnExactUselessPairSpec)

end Rows
end Go.Proofs.Ytpciidimmkohiaa
