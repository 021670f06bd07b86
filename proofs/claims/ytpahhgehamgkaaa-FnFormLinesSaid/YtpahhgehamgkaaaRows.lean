/-
  No cell of these rows narrows 'for every input' (looked for: loops, veiled, ifaces, maps, wideKeys, modest, calm, conditions, laid).
  DERIVED. THE GIVEN ROWS OF THIS SEAT. 4 by the template 'for every input the law returns true; each argument reads behind the call as it read before'; 0 by the template 'total and deterministic' (their statements: YtpahhgehamgkaaaTotals.lean).
  GIVEN WITH THE SEED: the statements are not yours to turn. If you find one false, say at which input.
  Laid BY PROGRAM, IN A SANDBOX (cutbox-rows.mjs): the forced cells as the released guide's own fill.sh prints them over the translation d362e55046d497a4… (all of the seat's roots in one cut). By AI agents, Wed Nov 11 2026. No macro, syntax, notation, axiom, sorry.
-/
import Derived.Test.YtpahhgehamgkaaaChecked
import GoSem.Claim
import GoSem.ClaimJoined
import GoSem.ClaimMapViews
import Derived.JoinedTies
import Derived.KernelRfl
namespace Go.Proofs.Ytpahhgehamgkaaa
/- THE CELL 'sum', in the pinned program and in every row, IS THE sha256 OF THE DUMP (.gsa) THAT YtpahhgehamgkaaaProg.lean LOADS. Nothing in Lean hashes anything: it is a label: what it is worth is what the hold of that sum in a sandbox is worth. -/
noncomputable def Try.pinned : Pinned := { name := "ytpahhgehamgkaaa", sum := "d362e55046d497a49a60b170d8f6cfafffb7eabd33f313ecf345b9eff45836de", checked := Try.checked }
namespace Rows
def none {H : Type} : Left H := { results := [], args := [] }

/-- 'laws.FnExactUselessPair': WHATEVER THE INPUT: true; the input reads as it did. -/
def fnExactUselessPairSpec : ChangeSpec := { name := "fnExactUselessPair", fn := fun _ => fun
  | [d1, d2] => { results := [.lit (.bool true)], args := [d1, d2] }
  | _ => none }
def fnExactUselessPairRow : OpenClaim := { program := "ytpahhgehamgkaaa", sum := "d362e55046d497a49a60b170d8f6cfafffb7eabd33f313ecf345b9eff45836de", func := "loop.example/reversiblecircuits/laws.FnExactUselessPair", spec := "fnExactUselessPair", unfollowed := true, recurses := true, apart := false }
def FnExactUselessPairSaid : Prop := fnExactUselessPairRow.holds Try.pinned (OpenSpec.ofChange fnExactUselessPairSpec)

/-- ITS FALSE NEIGHBOUR: 'it returns false'. Refute it at one input. -/
def fnExactUselessPairWrong : ChangeSpec := { name := "fnExactUselessPair", fn := fun _ => fun
  | [d1, d2] => { results := [.lit (.bool false)], args := [d1, d2] }
  | _ => none }
def FnExactUselessPairWrongFalsely : Prop := fnExactUselessPairRow.holds Try.pinned (OpenSpec.ofChange fnExactUselessPairWrong)

/-- 'laws.FnExactCircuitShort': WHATEVER THE INPUT: true; the input reads as it did. -/
def fnExactCircuitShortSpec : ChangeSpec := { name := "fnExactCircuitShort", fn := fun _ => fun
  | [d1, d2] => { results := [.lit (.bool true)], args := [d1, d2] }
  | _ => none }
def fnExactCircuitShortRow : OpenClaim := { program := "ytpahhgehamgkaaa", sum := "d362e55046d497a49a60b170d8f6cfafffb7eabd33f313ecf345b9eff45836de", func := "loop.example/reversiblecircuits/laws.FnExactCircuitShort", spec := "fnExactCircuitShort", unfollowed := true, recurses := true, apart := false }
def FnExactCircuitShortSaid : Prop := fnExactCircuitShortRow.holds Try.pinned (OpenSpec.ofChange fnExactCircuitShortSpec)

/-- ITS FALSE NEIGHBOUR: 'it returns false'. Refute it at one input. -/
def fnExactCircuitShortWrong : ChangeSpec := { name := "fnExactCircuitShort", fn := fun _ => fun
  | [d1, d2] => { results := [.lit (.bool false)], args := [d1, d2] }
  | _ => none }
def FnExactCircuitShortWrongFalsely : Prop := fnExactCircuitShortRow.holds Try.pinned (OpenSpec.ofChange fnExactCircuitShortWrong)

/-- 'laws.FnExactStepGates': WHATEVER THE INPUT: true; the input reads as it did. -/
def fnExactStepGatesSpec : ChangeSpec := { name := "fnExactStepGates", fn := fun _ => fun
  | [d1, d2] => { results := [.lit (.bool true)], args := [d1, d2] }
  | _ => none }
def fnExactStepGatesRow : OpenClaim := { program := "ytpahhgehamgkaaa", sum := "d362e55046d497a49a60b170d8f6cfafffb7eabd33f313ecf345b9eff45836de", func := "loop.example/reversiblecircuits/laws.FnExactStepGates", spec := "fnExactStepGates", unfollowed := true, recurses := true, apart := false }
def FnExactStepGatesSaid : Prop := fnExactStepGatesRow.holds Try.pinned (OpenSpec.ofChange fnExactStepGatesSpec)

/-- ITS FALSE NEIGHBOUR: 'it returns false'. Refute it at one input. -/
def fnExactStepGatesWrong : ChangeSpec := { name := "fnExactStepGates", fn := fun _ => fun
  | [d1, d2] => { results := [.lit (.bool false)], args := [d1, d2] }
  | _ => none }
def FnExactStepGatesWrongFalsely : Prop := fnExactStepGatesRow.holds Try.pinned (OpenSpec.ofChange fnExactStepGatesWrong)

/-- 'laws.FnFormLines': WHATEVER THE INPUT: true; the input reads as it did. -/
def fnFormLinesSpec : ChangeSpec := { name := "fnFormLines", fn := fun _ => fun
  | [d] => { results := [.lit (.bool true)], args := [d] }
  | _ => none }
def fnFormLinesRow : OpenClaim := { program := "ytpahhgehamgkaaa", sum := "d362e55046d497a49a60b170d8f6cfafffb7eabd33f313ecf345b9eff45836de", func := "loop.example/reversiblecircuits/laws.FnFormLines", spec := "fnFormLines", unfollowed := true, recurses := true, apart := false }
def FnFormLinesSaid : Prop := fnFormLinesRow.holds Try.pinned (OpenSpec.ofChange fnFormLinesSpec)

/-- ITS FALSE NEIGHBOUR: 'it returns false'. Refute it at one input. -/
def fnFormLinesWrong : ChangeSpec := { name := "fnFormLines", fn := fun _ => fun
  | [d] => { results := [.lit (.bool false)], args := [d] }
  | _ => none }
def FnFormLinesWrongFalsely : Prop := fnFormLinesRow.holds Try.pinned (OpenSpec.ofChange fnFormLinesWrong)

/- THE SECOND FORM. 'bulk': how many values and letters a reading holds, each counted each time it is reached (what is shared counts as often as it is met; a slice's spare places count too). A statement '..UptoSaid' is the law's where the arguments, and the package variables that the reading takes, are together of bulk at most 1048576: NARROWER than '..Said'. Prove '..Said' where nothing that the law and all that it calls make is longer than what came in: it says more and counts as full. Else prove '..UptoSaid'. A law counts once. -/
mutual
def uptoBulk {H : Type} : DataW H → Nat
  | .lit (.string bytes) => bytes.length + 1
  | .lit _ => 1
  | .nil => 1
  | .ptr d => uptoBulk d + 1
  | .slice elems spare => uptoBulkAll elems + uptoBulkAll spare + 1
  | .agg parts => uptoBulkAll parts + 1
  | .iface _ d => uptoBulk d + 1
  | .map entries => uptoBulkEntries entries + 1
  | .held _ => 1
def uptoBulkAll {H : Type} : List (DataW H) → Nat
  | [] => 0
  | d :: r => uptoBulk d + uptoBulkAll r
def uptoBulkEntries {H : Type} : List (Lit × DataW H) → Nat
  | [] => 0
  | x :: r => uptoBulkEntry x + uptoBulkEntries r
def uptoBulkEntry {H : Type} : Lit × DataW H → Nat
  | (.string bytes, d) => bytes.length + uptoBulk d + 1
  | (_, d) => uptoBulk d + 1
 end
def uptoSmall : (H : Type) → List (DataW H) → Bool := fun _ ds => decide (uptoBulkAll ds ≤ 1048576)
def OpenSpec.upto (s : _root_.Go.ChangeSpec) : _root_.Go.OpenSpec := { _root_.Go.OpenSpec.ofChange s with cond := some uptoSmall }

/-- 'laws.FnExactUselessPair', WHERE WHAT IT READS IS OF BULK AT MOST 1048576: true; the input reads as it did. -/
def fnExactUselessPairUptoRow : OpenClaim := { program := "ytpahhgehamgkaaa", sum := "d362e55046d497a49a60b170d8f6cfafffb7eabd33f313ecf345b9eff45836de", func := "loop.example/reversiblecircuits/laws.FnExactUselessPair", spec := "fnExactUselessPair", unfollowed := true, recurses := true, apart := false, narrowed := true }
def FnExactUselessPairUptoSaid : Prop := fnExactUselessPairUptoRow.holds Try.pinned (OpenSpec.upto fnExactUselessPairSpec)

/-- 'laws.FnExactCircuitShort', WHERE WHAT IT READS IS OF BULK AT MOST 1048576: true; the input reads as it did. -/
def fnExactCircuitShortUptoRow : OpenClaim := { program := "ytpahhgehamgkaaa", sum := "d362e55046d497a49a60b170d8f6cfafffb7eabd33f313ecf345b9eff45836de", func := "loop.example/reversiblecircuits/laws.FnExactCircuitShort", spec := "fnExactCircuitShort", unfollowed := true, recurses := true, apart := false, narrowed := true }
def FnExactCircuitShortUptoSaid : Prop := fnExactCircuitShortUptoRow.holds Try.pinned (OpenSpec.upto fnExactCircuitShortSpec)

/-- 'laws.FnExactStepGates', WHERE WHAT IT READS IS OF BULK AT MOST 1048576: true; the input reads as it did. -/
def fnExactStepGatesUptoRow : OpenClaim := { program := "ytpahhgehamgkaaa", sum := "d362e55046d497a49a60b170d8f6cfafffb7eabd33f313ecf345b9eff45836de", func := "loop.example/reversiblecircuits/laws.FnExactStepGates", spec := "fnExactStepGates", unfollowed := true, recurses := true, apart := false, narrowed := true }
def FnExactStepGatesUptoSaid : Prop := fnExactStepGatesUptoRow.holds Try.pinned (OpenSpec.upto fnExactStepGatesSpec)

/-- 'laws.FnFormLines', WHERE WHAT IT READS IS OF BULK AT MOST 1048576: true; the input reads as it did. -/
def fnFormLinesUptoRow : OpenClaim := { program := "ytpahhgehamgkaaa", sum := "d362e55046d497a49a60b170d8f6cfafffb7eabd33f313ecf345b9eff45836de", func := "loop.example/reversiblecircuits/laws.FnFormLines", spec := "fnFormLines", unfollowed := true, recurses := true, apart := false, narrowed := true }
def FnFormLinesUptoSaid : Prop := fnFormLinesUptoRow.holds Try.pinned (OpenSpec.upto fnFormLinesSpec)

end Rows
end Go.Proofs.Ytpahhgehamgkaaa
