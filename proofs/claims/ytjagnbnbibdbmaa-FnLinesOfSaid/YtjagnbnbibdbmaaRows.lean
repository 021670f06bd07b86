/-
  No cell of these rows narrows 'for every input' (looked for: loops, veiled, ifaces, maps, wideKeys, modest, calm, conditions, laid).
  DERIVED. THE GIVEN ROWS OF THIS SEAT. 14 by the template 'for every input the law returns true; each argument reads behind the call as it read before'; 0 by the template 'total and deterministic' (their statements: YtjagnbnbibdbmaaTotals.lean).
  GIVEN WITH THE SEED: the statements are not yours to turn. If you find one false, say at which input.
  Laid BY PROGRAM, IN A SANDBOX (cutbox-rows.mjs): the forced cells as the released guide's own fill.sh prints them over the translation 16724f31cfaf5cab… (all of the seat's roots in one cut). By AI agents, Wed Nov 11 2026. No macro, syntax, notation, axiom, sorry.
-/
import Derived.Test.YtjagnbnbibdbmaaChecked
import GoSem.Claim
import GoSem.ClaimJoined
import GoSem.ClaimMapViews
import Derived.JoinedTies
import Derived.KernelRfl
namespace Go.Proofs.Ytjagnbnbibdbmaa
/- THE CELL 'sum', in the pinned program and in every row, IS THE sha256 OF THE DUMP (.gsa) THAT YtjagnbnbibdbmaaProg.lean LOADS. Nothing in Lean hashes anything: it is a label: what it is worth is what the hold of that sum in a sandbox is worth. -/
noncomputable def Try.pinned : Pinned := { name := "ytjagnbnbibdbmaa", sum := "16724f31cfaf5cab79981b5c50297fb7049e962b0dbf3bbd6cf5c35c90d939d9", checked := Try.checked }
namespace Rows
def none {H : Type} : Left H := { results := [], args := [] }

/-- 'laws.FnExactConstants': WHATEVER THE INPUT: true; the input reads as it did. -/
def fnExactConstantsSpec : ChangeSpec := { name := "fnExactConstants", fn := fun _ => fun
  | [] => { results := [.lit (.bool true)], args := [] }
  | _ => none }
def fnExactConstantsRow : OpenClaim := { program := "ytjagnbnbibdbmaa", sum := "16724f31cfaf5cab79981b5c50297fb7049e962b0dbf3bbd6cf5c35c90d939d9", func := "loop.example/reversiblecircuits/laws.FnExactConstants", spec := "fnExactConstants", apart := false }
def FnExactConstantsSaid : Prop := fnExactConstantsRow.holds Try.pinned (OpenSpec.ofChange fnExactConstantsSpec)

/-- ITS FALSE NEIGHBOUR: 'it returns false'. Refute it at one input. -/
def fnExactConstantsWrong : ChangeSpec := { name := "fnExactConstants", fn := fun _ => fun
  | [] => { results := [.lit (.bool false)], args := [] }
  | _ => none }
def FnExactConstantsWrongFalsely : Prop := fnExactConstantsRow.holds Try.pinned (OpenSpec.ofChange fnExactConstantsWrong)

/-- 'laws.FnExactWordValid': WHATEVER THE INPUT: true; the input reads as it did. -/
def fnExactWordValidSpec : ChangeSpec := { name := "fnExactWordValid", fn := fun _ => fun
  | [d1, d2] => { results := [.lit (.bool true)], args := [d1, d2] }
  | _ => none }
def fnExactWordValidRow : OpenClaim := { program := "ytjagnbnbibdbmaa", sum := "16724f31cfaf5cab79981b5c50297fb7049e962b0dbf3bbd6cf5c35c90d939d9", func := "loop.example/reversiblecircuits/laws.FnExactWordValid", spec := "fnExactWordValid", apart := false }
def FnExactWordValidSaid : Prop := fnExactWordValidRow.holds Try.pinned (OpenSpec.ofChange fnExactWordValidSpec)

/-- ITS FALSE NEIGHBOUR: 'it returns false'. Refute it at one input. -/
def fnExactWordValidWrong : ChangeSpec := { name := "fnExactWordValid", fn := fun _ => fun
  | [d1, d2] => { results := [.lit (.bool false)], args := [d1, d2] }
  | _ => none }
def FnExactWordValidWrongFalsely : Prop := fnExactWordValidRow.holds Try.pinned (OpenSpec.ofChange fnExactWordValidWrong)

/-- 'laws.FnExactBitOf': WHATEVER THE INPUT: true; the input reads as it did. -/
def fnExactBitOfSpec : ChangeSpec := { name := "fnExactBitOf", fn := fun _ => fun
  | [d1, d2, d3] => { results := [.lit (.bool true)], args := [d1, d2, d3] }
  | _ => none }
def fnExactBitOfRow : OpenClaim := { program := "ytjagnbnbibdbmaa", sum := "16724f31cfaf5cab79981b5c50297fb7049e962b0dbf3bbd6cf5c35c90d939d9", func := "loop.example/reversiblecircuits/laws.FnExactBitOf", spec := "fnExactBitOf", apart := false }
def FnExactBitOfSaid : Prop := fnExactBitOfRow.holds Try.pinned (OpenSpec.ofChange fnExactBitOfSpec)

/-- ITS FALSE NEIGHBOUR: 'it returns false'. Refute it at one input. -/
def fnExactBitOfWrong : ChangeSpec := { name := "fnExactBitOf", fn := fun _ => fun
  | [d1, d2, d3] => { results := [.lit (.bool false)], args := [d1, d2, d3] }
  | _ => none }
def FnExactBitOfWrongFalsely : Prop := fnExactBitOfRow.holds Try.pinned (OpenSpec.ofChange fnExactBitOfWrong)

/-- 'laws.FnWordValid': WHATEVER THE INPUT: true; the input reads as it did. -/
def fnWordValidSpec : ChangeSpec := { name := "fnWordValid", fn := fun _ => fun
  | [d] => { results := [.lit (.bool true)], args := [d] }
  | _ => none }
def fnWordValidRow : OpenClaim := { program := "ytjagnbnbibdbmaa", sum := "16724f31cfaf5cab79981b5c50297fb7049e962b0dbf3bbd6cf5c35c90d939d9", func := "loop.example/reversiblecircuits/laws.FnWordValid", spec := "fnWordValid", apart := false }
def FnWordValidSaid : Prop := fnWordValidRow.holds Try.pinned (OpenSpec.ofChange fnWordValidSpec)

/-- ITS FALSE NEIGHBOUR: 'it returns false'. Refute it at one input. -/
def fnWordValidWrong : ChangeSpec := { name := "fnWordValid", fn := fun _ => fun
  | [d] => { results := [.lit (.bool false)], args := [d] }
  | _ => none }
def FnWordValidWrongFalsely : Prop := fnWordValidRow.holds Try.pinned (OpenSpec.ofChange fnWordValidWrong)

/-- 'laws.FnExactWeight': WHATEVER THE INPUT: true; the input reads as it did. -/
def fnExactWeightSpec : ChangeSpec := { name := "fnExactWeight", fn := fun _ => fun
  | [d1, d2] => { results := [.lit (.bool true)], args := [d1, d2] }
  | _ => none }
def fnExactWeightRow : OpenClaim := { program := "ytjagnbnbibdbmaa", sum := "16724f31cfaf5cab79981b5c50297fb7049e962b0dbf3bbd6cf5c35c90d939d9", func := "loop.example/reversiblecircuits/laws.FnExactWeight", spec := "fnExactWeight", apart := false }
def FnExactWeightSaid : Prop := fnExactWeightRow.holds Try.pinned (OpenSpec.ofChange fnExactWeightSpec)

/-- ITS FALSE NEIGHBOUR: 'it returns false'. Refute it at one input. -/
def fnExactWeightWrong : ChangeSpec := { name := "fnExactWeight", fn := fun _ => fun
  | [d1, d2] => { results := [.lit (.bool false)], args := [d1, d2] }
  | _ => none }
def FnExactWeightWrongFalsely : Prop := fnExactWeightRow.holds Try.pinned (OpenSpec.ofChange fnExactWeightWrong)

/-- 'laws.FnBitOf': WHATEVER THE INPUT: true; the input reads as it did. -/
def fnBitOfSpec : ChangeSpec := { name := "fnBitOf", fn := fun _ => fun
  | [d] => { results := [.lit (.bool true)], args := [d] }
  | _ => none }
def fnBitOfRow : OpenClaim := { program := "ytjagnbnbibdbmaa", sum := "16724f31cfaf5cab79981b5c50297fb7049e962b0dbf3bbd6cf5c35c90d939d9", func := "loop.example/reversiblecircuits/laws.FnBitOf", spec := "fnBitOf", apart := false }
def FnBitOfSaid : Prop := fnBitOfRow.holds Try.pinned (OpenSpec.ofChange fnBitOfSpec)

/-- ITS FALSE NEIGHBOUR: 'it returns false'. Refute it at one input. -/
def fnBitOfWrong : ChangeSpec := { name := "fnBitOf", fn := fun _ => fun
  | [d] => { results := [.lit (.bool false)], args := [d] }
  | _ => none }
def FnBitOfWrongFalsely : Prop := fnBitOfRow.holds Try.pinned (OpenSpec.ofChange fnBitOfWrong)

/-- 'laws.FnExactDiffer': WHATEVER THE INPUT: true; the input reads as it did. -/
def fnExactDifferSpec : ChangeSpec := { name := "fnExactDiffer", fn := fun _ => fun
  | [d1, d2, d3] => { results := [.lit (.bool true)], args := [d1, d2, d3] }
  | _ => none }
def fnExactDifferRow : OpenClaim := { program := "ytjagnbnbibdbmaa", sum := "16724f31cfaf5cab79981b5c50297fb7049e962b0dbf3bbd6cf5c35c90d939d9", func := "loop.example/reversiblecircuits/laws.FnExactDiffer", spec := "fnExactDiffer", apart := false }
def FnExactDifferSaid : Prop := fnExactDifferRow.holds Try.pinned (OpenSpec.ofChange fnExactDifferSpec)

/-- ITS FALSE NEIGHBOUR: 'it returns false'. Refute it at one input. -/
def fnExactDifferWrong : ChangeSpec := { name := "fnExactDiffer", fn := fun _ => fun
  | [d1, d2, d3] => { results := [.lit (.bool false)], args := [d1, d2, d3] }
  | _ => none }
def FnExactDifferWrongFalsely : Prop := fnExactDifferRow.holds Try.pinned (OpenSpec.ofChange fnExactDifferWrong)

/-- 'laws.FnExactLinesOf': WHATEVER THE INPUT: true; the input reads as it did. -/
def fnExactLinesOfSpec : ChangeSpec := { name := "fnExactLinesOf", fn := fun _ => fun
  | [d] => { results := [.lit (.bool true)], args := [d] }
  | _ => none }
def fnExactLinesOfRow : OpenClaim := { program := "ytjagnbnbibdbmaa", sum := "16724f31cfaf5cab79981b5c50297fb7049e962b0dbf3bbd6cf5c35c90d939d9", func := "loop.example/reversiblecircuits/laws.FnExactLinesOf", spec := "fnExactLinesOf", apart := false }
def FnExactLinesOfSaid : Prop := fnExactLinesOfRow.holds Try.pinned (OpenSpec.ofChange fnExactLinesOfSpec)

/-- ITS FALSE NEIGHBOUR: 'it returns false'. Refute it at one input. -/
def fnExactLinesOfWrong : ChangeSpec := { name := "fnExactLinesOf", fn := fun _ => fun
  | [d] => { results := [.lit (.bool false)], args := [d] }
  | _ => none }
def FnExactLinesOfWrongFalsely : Prop := fnExactLinesOfRow.holds Try.pinned (OpenSpec.ofChange fnExactLinesOfWrong)

/-- 'laws.FnExactGateValid': WHATEVER THE INPUT: true; the input reads as it did. -/
def fnExactGateValidSpec : ChangeSpec := { name := "fnExactGateValid", fn := fun _ => fun
  | [d1, d2] => { results := [.lit (.bool true)], args := [d1, d2] }
  | _ => none }
def fnExactGateValidRow : OpenClaim := { program := "ytjagnbnbibdbmaa", sum := "16724f31cfaf5cab79981b5c50297fb7049e962b0dbf3bbd6cf5c35c90d939d9", func := "loop.example/reversiblecircuits/laws.FnExactGateValid", spec := "fnExactGateValid", apart := false }
def FnExactGateValidSaid : Prop := fnExactGateValidRow.holds Try.pinned (OpenSpec.ofChange fnExactGateValidSpec)

/-- ITS FALSE NEIGHBOUR: 'it returns false'. Refute it at one input. -/
def fnExactGateValidWrong : ChangeSpec := { name := "fnExactGateValid", fn := fun _ => fun
  | [d1, d2] => { results := [.lit (.bool false)], args := [d1, d2] }
  | _ => none }
def FnExactGateValidWrongFalsely : Prop := fnExactGateValidRow.holds Try.pinned (OpenSpec.ofChange fnExactGateValidWrong)

/-- 'laws.FnExactKeeps': WHATEVER THE INPUT: true; the input reads as it did. -/
def fnExactKeepsSpec : ChangeSpec := { name := "fnExactKeeps", fn := fun _ => fun
  | [d1, d2] => { results := [.lit (.bool true)], args := [d1, d2] }
  | _ => none }
def fnExactKeepsRow : OpenClaim := { program := "ytjagnbnbibdbmaa", sum := "16724f31cfaf5cab79981b5c50297fb7049e962b0dbf3bbd6cf5c35c90d939d9", func := "loop.example/reversiblecircuits/laws.FnExactKeeps", spec := "fnExactKeeps", apart := false }
def FnExactKeepsSaid : Prop := fnExactKeepsRow.holds Try.pinned (OpenSpec.ofChange fnExactKeepsSpec)

/-- ITS FALSE NEIGHBOUR: 'it returns false'. Refute it at one input. -/
def fnExactKeepsWrong : ChangeSpec := { name := "fnExactKeeps", fn := fun _ => fun
  | [d1, d2] => { results := [.lit (.bool false)], args := [d1, d2] }
  | _ => none }
def FnExactKeepsWrongFalsely : Prop := fnExactKeepsRow.holds Try.pinned (OpenSpec.ofChange fnExactKeepsWrong)

/-- 'laws.FnWeight': WHATEVER THE INPUT: true; the input reads as it did. -/
def fnWeightSpec : ChangeSpec := { name := "fnWeight", fn := fun _ => fun
  | [d] => { results := [.lit (.bool true)], args := [d] }
  | _ => none }
def fnWeightRow : OpenClaim := { program := "ytjagnbnbibdbmaa", sum := "16724f31cfaf5cab79981b5c50297fb7049e962b0dbf3bbd6cf5c35c90d939d9", func := "loop.example/reversiblecircuits/laws.FnWeight", spec := "fnWeight", apart := false }
def FnWeightSaid : Prop := fnWeightRow.holds Try.pinned (OpenSpec.ofChange fnWeightSpec)

/-- ITS FALSE NEIGHBOUR: 'it returns false'. Refute it at one input. -/
def fnWeightWrong : ChangeSpec := { name := "fnWeight", fn := fun _ => fun
  | [d] => { results := [.lit (.bool false)], args := [d] }
  | _ => none }
def FnWeightWrongFalsely : Prop := fnWeightRow.holds Try.pinned (OpenSpec.ofChange fnWeightWrong)

/-- 'laws.FnDiffer': WHATEVER THE INPUT: true; the input reads as it did. -/
def fnDifferSpec : ChangeSpec := { name := "fnDiffer", fn := fun _ => fun
  | [d1, d2] => { results := [.lit (.bool true)], args := [d1, d2] }
  | _ => none }
def fnDifferRow : OpenClaim := { program := "ytjagnbnbibdbmaa", sum := "16724f31cfaf5cab79981b5c50297fb7049e962b0dbf3bbd6cf5c35c90d939d9", func := "loop.example/reversiblecircuits/laws.FnDiffer", spec := "fnDiffer", apart := false }
def FnDifferSaid : Prop := fnDifferRow.holds Try.pinned (OpenSpec.ofChange fnDifferSpec)

/-- ITS FALSE NEIGHBOUR: 'it returns false'. Refute it at one input. -/
def fnDifferWrong : ChangeSpec := { name := "fnDiffer", fn := fun _ => fun
  | [d1, d2] => { results := [.lit (.bool false)], args := [d1, d2] }
  | _ => none }
def FnDifferWrongFalsely : Prop := fnDifferRow.holds Try.pinned (OpenSpec.ofChange fnDifferWrong)

/-- 'laws.FnLinesOf': WHATEVER THE INPUT: true; the input reads as it did. -/
def fnLinesOfSpec : ChangeSpec := { name := "fnLinesOf", fn := fun _ => fun
  | [d] => { results := [.lit (.bool true)], args := [d] }
  | _ => none }
def fnLinesOfRow : OpenClaim := { program := "ytjagnbnbibdbmaa", sum := "16724f31cfaf5cab79981b5c50297fb7049e962b0dbf3bbd6cf5c35c90d939d9", func := "loop.example/reversiblecircuits/laws.FnLinesOf", spec := "fnLinesOf", apart := false }
def FnLinesOfSaid : Prop := fnLinesOfRow.holds Try.pinned (OpenSpec.ofChange fnLinesOfSpec)

/-- ITS FALSE NEIGHBOUR: 'it returns false'. Refute it at one input. -/
def fnLinesOfWrong : ChangeSpec := { name := "fnLinesOf", fn := fun _ => fun
  | [d] => { results := [.lit (.bool false)], args := [d] }
  | _ => none }
def FnLinesOfWrongFalsely : Prop := fnLinesOfRow.holds Try.pinned (OpenSpec.ofChange fnLinesOfWrong)

/-- 'laws.FnGateValid': WHATEVER THE INPUT: true; the input reads as it did. -/
def fnGateValidSpec : ChangeSpec := { name := "fnGateValid", fn := fun _ => fun
  | [d] => { results := [.lit (.bool true)], args := [d] }
  | _ => none }
def fnGateValidRow : OpenClaim := { program := "ytjagnbnbibdbmaa", sum := "16724f31cfaf5cab79981b5c50297fb7049e962b0dbf3bbd6cf5c35c90d939d9", func := "loop.example/reversiblecircuits/laws.FnGateValid", spec := "fnGateValid", apart := false }
def FnGateValidSaid : Prop := fnGateValidRow.holds Try.pinned (OpenSpec.ofChange fnGateValidSpec)

/-- ITS FALSE NEIGHBOUR: 'it returns false'. Refute it at one input. -/
def fnGateValidWrong : ChangeSpec := { name := "fnGateValid", fn := fun _ => fun
  | [d] => { results := [.lit (.bool false)], args := [d] }
  | _ => none }
def FnGateValidWrongFalsely : Prop := fnGateValidRow.holds Try.pinned (OpenSpec.ofChange fnGateValidWrong)

/- THE SECOND FORM. 'bulk': how many values and letters a reading holds, each counted each time it is reached (what is shared counts as often as it is met; a slice's spare places count too). A statement '..UptoSaid' is the law's where the arguments, and the package variables that the reading takes, are together of bulk at most 1048576: NARROWER than '..Said'. Prove '..Said' where nothing that the law and all that it calls make is longer than what came in: it says more and counts as full. Else prove '..UptoSaid'. A law counts once. -/
mutual
def uptoBulk {H : Type} : DataW H → Nat
  | .lit (.string bytes) => bytes.length + 1
  | .lit _ => 1
  | .nil => 1
  | .ptr d => uptoBulk d + 1
  | .slice elems spare => uptoBulkAll elems + uptoBulkAll spare + 1
  | .agg parts => uptoBulkAll parts + 1
  | .iface _ d => uptoBulk d + 1
  | .map entries => uptoBulkEntries entries + 1
  | .held _ => 1
def uptoBulkAll {H : Type} : List (DataW H) → Nat
  | [] => 0
  | d :: r => uptoBulk d + uptoBulkAll r
def uptoBulkEntries {H : Type} : List (Lit × DataW H) → Nat
  | [] => 0
  | x :: r => uptoBulkEntry x + uptoBulkEntries r
def uptoBulkEntry {H : Type} : Lit × DataW H → Nat
  | (.string bytes, d) => bytes.length + uptoBulk d + 1
  | (_, d) => uptoBulk d + 1
 end
def uptoSmall : (H : Type) → List (DataW H) → Bool := fun _ ds => decide (uptoBulkAll ds ≤ 1048576)
def OpenSpec.upto (s : _root_.Go.ChangeSpec) : _root_.Go.OpenSpec := { _root_.Go.OpenSpec.ofChange s with cond := some uptoSmall }

/-- 'laws.FnExactConstants', WHERE WHAT IT READS IS OF BULK AT MOST 1048576: true; the input reads as it did. -/
def fnExactConstantsUptoRow : OpenClaim := { program := "ytjagnbnbibdbmaa", sum := "16724f31cfaf5cab79981b5c50297fb7049e962b0dbf3bbd6cf5c35c90d939d9", func := "loop.example/reversiblecircuits/laws.FnExactConstants", spec := "fnExactConstants", apart := false, narrowed := true }
def FnExactConstantsUptoSaid : Prop := fnExactConstantsUptoRow.holds Try.pinned (OpenSpec.upto fnExactConstantsSpec)

/-- 'laws.FnExactWordValid', WHERE WHAT IT READS IS OF BULK AT MOST 1048576: true; the input reads as it did. -/
def fnExactWordValidUptoRow : OpenClaim := { program := "ytjagnbnbibdbmaa", sum := "16724f31cfaf5cab79981b5c50297fb7049e962b0dbf3bbd6cf5c35c90d939d9", func := "loop.example/reversiblecircuits/laws.FnExactWordValid", spec := "fnExactWordValid", apart := false, narrowed := true }
def FnExactWordValidUptoSaid : Prop := fnExactWordValidUptoRow.holds Try.pinned (OpenSpec.upto fnExactWordValidSpec)

/-- 'laws.FnExactBitOf', WHERE WHAT IT READS IS OF BULK AT MOST 1048576: true; the input reads as it did. -/
def fnExactBitOfUptoRow : OpenClaim := { program := "ytjagnbnbibdbmaa", sum := "16724f31cfaf5cab79981b5c50297fb7049e962b0dbf3bbd6cf5c35c90d939d9", func := "loop.example/reversiblecircuits/laws.FnExactBitOf", spec := "fnExactBitOf", apart := false, narrowed := true }
def FnExactBitOfUptoSaid : Prop := fnExactBitOfUptoRow.holds Try.pinned (OpenSpec.upto fnExactBitOfSpec)

/-- 'laws.FnWordValid', WHERE WHAT IT READS IS OF BULK AT MOST 1048576: true; the input reads as it did. -/
def fnWordValidUptoRow : OpenClaim := { program := "ytjagnbnbibdbmaa", sum := "16724f31cfaf5cab79981b5c50297fb7049e962b0dbf3bbd6cf5c35c90d939d9", func := "loop.example/reversiblecircuits/laws.FnWordValid", spec := "fnWordValid", apart := false, narrowed := true }
def FnWordValidUptoSaid : Prop := fnWordValidUptoRow.holds Try.pinned (OpenSpec.upto fnWordValidSpec)

/-- 'laws.FnExactWeight', WHERE WHAT IT READS IS OF BULK AT MOST 1048576: true; the input reads as it did. -/
def fnExactWeightUptoRow : OpenClaim := { program := "ytjagnbnbibdbmaa", sum := "16724f31cfaf5cab79981b5c50297fb7049e962b0dbf3bbd6cf5c35c90d939d9", func := "loop.example/reversiblecircuits/laws.FnExactWeight", spec := "fnExactWeight", apart := false, narrowed := true }
def FnExactWeightUptoSaid : Prop := fnExactWeightUptoRow.holds Try.pinned (OpenSpec.upto fnExactWeightSpec)

/-- 'laws.FnBitOf', WHERE WHAT IT READS IS OF BULK AT MOST 1048576: true; the input reads as it did. -/
def fnBitOfUptoRow : OpenClaim := { program := "ytjagnbnbibdbmaa", sum := "16724f31cfaf5cab79981b5c50297fb7049e962b0dbf3bbd6cf5c35c90d939d9", func := "loop.example/reversiblecircuits/laws.FnBitOf", spec := "fnBitOf", apart := false, narrowed := true }
def FnBitOfUptoSaid : Prop := fnBitOfUptoRow.holds Try.pinned (OpenSpec.upto fnBitOfSpec)

/-- 'laws.FnExactDiffer', WHERE WHAT IT READS IS OF BULK AT MOST 1048576: true; the input reads as it did. -/
def fnExactDifferUptoRow : OpenClaim := { program := "ytjagnbnbibdbmaa", sum := "16724f31cfaf5cab79981b5c50297fb7049e962b0dbf3bbd6cf5c35c90d939d9", func := "loop.example/reversiblecircuits/laws.FnExactDiffer", spec := "fnExactDiffer", apart := false, narrowed := true }
def FnExactDifferUptoSaid : Prop := fnExactDifferUptoRow.holds Try.pinned (OpenSpec.upto fnExactDifferSpec)

/-- 'laws.FnExactLinesOf', WHERE WHAT IT READS IS OF BULK AT MOST 1048576: true; the input reads as it did. -/
def fnExactLinesOfUptoRow : OpenClaim := { program := "ytjagnbnbibdbmaa", sum := "16724f31cfaf5cab79981b5c50297fb7049e962b0dbf3bbd6cf5c35c90d939d9", func := "loop.example/reversiblecircuits/laws.FnExactLinesOf", spec := "fnExactLinesOf", apart := false, narrowed := true }
def FnExactLinesOfUptoSaid : Prop := fnExactLinesOfUptoRow.holds Try.pinned (OpenSpec.upto fnExactLinesOfSpec)

/-- 'laws.FnExactGateValid', WHERE WHAT IT READS IS OF BULK AT MOST 1048576: true; the input reads as it did. -/
def fnExactGateValidUptoRow : OpenClaim := { program := "ytjagnbnbibdbmaa", sum := "16724f31cfaf5cab79981b5c50297fb7049e962b0dbf3bbd6cf5c35c90d939d9", func := "loop.example/reversiblecircuits/laws.FnExactGateValid", spec := "fnExactGateValid", apart := false, narrowed := true }
def FnExactGateValidUptoSaid : Prop := fnExactGateValidUptoRow.holds Try.pinned (OpenSpec.upto fnExactGateValidSpec)

/-- 'laws.FnExactKeeps', WHERE WHAT IT READS IS OF BULK AT MOST 1048576: true; the input reads as it did. -/
def fnExactKeepsUptoRow : OpenClaim := { program := "ytjagnbnbibdbmaa", sum := "16724f31cfaf5cab79981b5c50297fb7049e962b0dbf3bbd6cf5c35c90d939d9", func := "loop.example/reversiblecircuits/laws.FnExactKeeps", spec := "fnExactKeeps", apart := false, narrowed := true }
def FnExactKeepsUptoSaid : Prop := fnExactKeepsUptoRow.holds Try.pinned (OpenSpec.upto fnExactKeepsSpec)

/-- 'laws.FnWeight', WHERE WHAT IT READS IS OF BULK AT MOST 1048576: true; the input reads as it did. -/
def fnWeightUptoRow : OpenClaim := { program := "ytjagnbnbibdbmaa", sum := "16724f31cfaf5cab79981b5c50297fb7049e962b0dbf3bbd6cf5c35c90d939d9", func := "loop.example/reversiblecircuits/laws.FnWeight", spec := "fnWeight", apart := false, narrowed := true }
def FnWeightUptoSaid : Prop := fnWeightUptoRow.holds Try.pinned (OpenSpec.upto fnWeightSpec)

/-- 'laws.FnDiffer', WHERE WHAT IT READS IS OF BULK AT MOST 1048576: true; the input reads as it did. -/
def fnDifferUptoRow : OpenClaim := { program := "ytjagnbnbibdbmaa", sum := "16724f31cfaf5cab79981b5c50297fb7049e962b0dbf3bbd6cf5c35c90d939d9", func := "loop.example/reversiblecircuits/laws.FnDiffer", spec := "fnDiffer", apart := false, narrowed := true }
def FnDifferUptoSaid : Prop := fnDifferUptoRow.holds Try.pinned (OpenSpec.upto fnDifferSpec)

/-- 'laws.FnLinesOf', WHERE WHAT IT READS IS OF BULK AT MOST 1048576: true; the input reads as it did. -/
def fnLinesOfUptoRow : OpenClaim := { program := "ytjagnbnbibdbmaa", sum := "16724f31cfaf5cab79981b5c50297fb7049e962b0dbf3bbd6cf5c35c90d939d9", func := "loop.example/reversiblecircuits/laws.FnLinesOf", spec := "fnLinesOf", apart := false, narrowed := true }
def FnLinesOfUptoSaid : Prop := fnLinesOfUptoRow.holds Try.pinned (OpenSpec.upto fnLinesOfSpec)

/-- 'laws.FnGateValid', WHERE WHAT IT READS IS OF BULK AT MOST 1048576: true; the input reads as it did. -/
def fnGateValidUptoRow : OpenClaim := { program := "ytjagnbnbibdbmaa", sum := "16724f31cfaf5cab79981b5c50297fb7049e962b0dbf3bbd6cf5c35c90d939d9", func := "loop.example/reversiblecircuits/laws.FnGateValid", spec := "fnGateValid", apart := false, narrowed := true }
def FnGateValidUptoSaid : Prop := fnGateValidUptoRow.holds Try.pinned (OpenSpec.upto fnGateValidSpec)

end Rows
end Go.Proofs.Ytjagnbnbibdbmaa
