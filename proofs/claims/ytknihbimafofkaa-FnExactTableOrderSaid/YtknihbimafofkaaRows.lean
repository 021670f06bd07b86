/-
  No cell of these rows narrows 'for every input' (looked for: loops, veiled, ifaces, maps, wideKeys, modest, calm, conditions, laid).
  DERIVED. THE GIVEN ROWS OF THIS SEAT. 12 by the template 'for every input the law returns true; each argument reads behind the call as it read before'; 0 by the template 'total and deterministic' (their statements: YtknihbimafofkaaTotals.lean).
  GIVEN WITH THE SEED: the statements are not yours to turn. If you find one false, say at which input.
  Laid BY PROGRAM, IN A SANDBOX (cutbox-rows.mjs): the forced cells as the released guide's own fill.sh prints them over the translation b125f9f75e4f2742… (all of the seat's roots in one cut). By AI agents, Wed Nov 11 2026. No macro, syntax, notation, axiom, sorry.
-/
import Derived.Test.YtknihbimafofkaaChecked
import GoSem.Claim
import GoSem.ClaimJoined
import GoSem.ClaimMapViews
import Derived.JoinedTies
import Derived.KernelRfl
namespace Go.Proofs.Ytknihbimafofkaa
/- THE CELL 'sum', in the pinned program and in every row, IS THE sha256 OF THE DUMP (.gsa) THAT YtknihbimafofkaaProg.lean LOADS. Nothing in Lean hashes anything: it is a label: what it is worth is what the hold of that sum in a sandbox is worth. -/
noncomputable def Try.pinned : Pinned := { name := "ytknihbimafofkaa", sum := "b125f9f75e4f27420d299768ea40e203ab32460147eb0c00edce06d8a0c84010", checked := Try.checked }
namespace Rows
def none {H : Type} : Left H := { results := [], args := [] }

/-- 'laws.FnExactTableValid': WHATEVER THE INPUT: true; the input reads as it did. -/
def fnExactTableValidSpec : ChangeSpec := { name := "fnExactTableValid", fn := fun _ => fun
  | [d1, d2] => { results := [.lit (.bool true)], args := [d1, d2] }
  | _ => none }
def fnExactTableValidRow : OpenClaim := { program := "ytknihbimafofkaa", sum := "b125f9f75e4f27420d299768ea40e203ab32460147eb0c00edce06d8a0c84010", func := "loop.example/reversiblecircuits/laws.FnExactTableValid", spec := "fnExactTableValid", apart := false }
def FnExactTableValidSaid : Prop := fnExactTableValidRow.holds Try.pinned (OpenSpec.ofChange fnExactTableValidSpec)

/-- ITS FALSE NEIGHBOUR: 'it returns false'. Refute it at one input. -/
def fnExactTableValidWrong : ChangeSpec := { name := "fnExactTableValid", fn := fun _ => fun
  | [d1, d2] => { results := [.lit (.bool false)], args := [d1, d2] }
  | _ => none }
def FnExactTableValidWrongFalsely : Prop := fnExactTableValidRow.holds Try.pinned (OpenSpec.ofChange fnExactTableValidWrong)

/-- 'laws.FnExactTableThen': WHATEVER THE INPUT: true; the input reads as it did. -/
def fnExactTableThenSpec : ChangeSpec := { name := "fnExactTableThen", fn := fun _ => fun
  | [d1, d2, d3] => { results := [.lit (.bool true)], args := [d1, d2, d3] }
  | _ => none }
def fnExactTableThenRow : OpenClaim := { program := "ytknihbimafofkaa", sum := "b125f9f75e4f27420d299768ea40e203ab32460147eb0c00edce06d8a0c84010", func := "loop.example/reversiblecircuits/laws.FnExactTableThen", spec := "fnExactTableThen", apart := false }
def FnExactTableThenSaid : Prop := fnExactTableThenRow.holds Try.pinned (OpenSpec.ofChange fnExactTableThenSpec)

/-- ITS FALSE NEIGHBOUR: 'it returns false'. Refute it at one input. -/
def fnExactTableThenWrong : ChangeSpec := { name := "fnExactTableThen", fn := fun _ => fun
  | [d1, d2, d3] => { results := [.lit (.bool false)], args := [d1, d2, d3] }
  | _ => none }
def FnExactTableThenWrongFalsely : Prop := fnExactTableThenRow.holds Try.pinned (OpenSpec.ofChange fnExactTableThenWrong)

/-- 'laws.FnExactTableBack': WHATEVER THE INPUT: true; the input reads as it did. -/
def fnExactTableBackSpec : ChangeSpec := { name := "fnExactTableBack", fn := fun _ => fun
  | [d1, d2] => { results := [.lit (.bool true)], args := [d1, d2] }
  | _ => none }
def fnExactTableBackRow : OpenClaim := { program := "ytknihbimafofkaa", sum := "b125f9f75e4f27420d299768ea40e203ab32460147eb0c00edce06d8a0c84010", func := "loop.example/reversiblecircuits/laws.FnExactTableBack", spec := "fnExactTableBack", apart := false }
def FnExactTableBackSaid : Prop := fnExactTableBackRow.holds Try.pinned (OpenSpec.ofChange fnExactTableBackSpec)

/-- ITS FALSE NEIGHBOUR: 'it returns false'. Refute it at one input. -/
def fnExactTableBackWrong : ChangeSpec := { name := "fnExactTableBack", fn := fun _ => fun
  | [d1, d2] => { results := [.lit (.bool false)], args := [d1, d2] }
  | _ => none }
def FnExactTableBackWrongFalsely : Prop := fnExactTableBackRow.holds Try.pinned (OpenSpec.ofChange fnExactTableBackWrong)

/-- 'laws.FnExactTableOdd': WHATEVER THE INPUT: true; the input reads as it did. -/
def fnExactTableOddSpec : ChangeSpec := { name := "fnExactTableOdd", fn := fun _ => fun
  | [d1, d2] => { results := [.lit (.bool true)], args := [d1, d2] }
  | _ => none }
def fnExactTableOddRow : OpenClaim := { program := "ytknihbimafofkaa", sum := "b125f9f75e4f27420d299768ea40e203ab32460147eb0c00edce06d8a0c84010", func := "loop.example/reversiblecircuits/laws.FnExactTableOdd", spec := "fnExactTableOdd", apart := false }
def FnExactTableOddSaid : Prop := fnExactTableOddRow.holds Try.pinned (OpenSpec.ofChange fnExactTableOddSpec)

/-- ITS FALSE NEIGHBOUR: 'it returns false'. Refute it at one input. -/
def fnExactTableOddWrong : ChangeSpec := { name := "fnExactTableOdd", fn := fun _ => fun
  | [d1, d2] => { results := [.lit (.bool false)], args := [d1, d2] }
  | _ => none }
def FnExactTableOddWrongFalsely : Prop := fnExactTableOddRow.holds Try.pinned (OpenSpec.ofChange fnExactTableOddWrong)

/-- 'laws.FnExactTableCycles': WHATEVER THE INPUT: true; the input reads as it did. -/
def fnExactTableCyclesSpec : ChangeSpec := { name := "fnExactTableCycles", fn := fun _ => fun
  | [d1, d2] => { results := [.lit (.bool true)], args := [d1, d2] }
  | _ => none }
def fnExactTableCyclesRow : OpenClaim := { program := "ytknihbimafofkaa", sum := "b125f9f75e4f27420d299768ea40e203ab32460147eb0c00edce06d8a0c84010", func := "loop.example/reversiblecircuits/laws.FnExactTableCycles", spec := "fnExactTableCycles", apart := false }
def FnExactTableCyclesSaid : Prop := fnExactTableCyclesRow.holds Try.pinned (OpenSpec.ofChange fnExactTableCyclesSpec)

/-- ITS FALSE NEIGHBOUR: 'it returns false'. Refute it at one input. -/
def fnExactTableCyclesWrong : ChangeSpec := { name := "fnExactTableCycles", fn := fun _ => fun
  | [d1, d2] => { results := [.lit (.bool false)], args := [d1, d2] }
  | _ => none }
def FnExactTableCyclesWrongFalsely : Prop := fnExactTableCyclesRow.holds Try.pinned (OpenSpec.ofChange fnExactTableCyclesWrong)

/-- 'laws.FnExactTableOrder': WHATEVER THE INPUT: true; the input reads as it did. -/
def fnExactTableOrderSpec : ChangeSpec := { name := "fnExactTableOrder", fn := fun _ => fun
  | [d1, d2] => { results := [.lit (.bool true)], args := [d1, d2] }
  | _ => none }
def fnExactTableOrderRow : OpenClaim := { program := "ytknihbimafofkaa", sum := "b125f9f75e4f27420d299768ea40e203ab32460147eb0c00edce06d8a0c84010", func := "loop.example/reversiblecircuits/laws.FnExactTableOrder", spec := "fnExactTableOrder", apart := false }
def FnExactTableOrderSaid : Prop := fnExactTableOrderRow.holds Try.pinned (OpenSpec.ofChange fnExactTableOrderSpec)

/-- ITS FALSE NEIGHBOUR: 'it returns false'. Refute it at one input. -/
def fnExactTableOrderWrong : ChangeSpec := { name := "fnExactTableOrder", fn := fun _ => fun
  | [d1, d2] => { results := [.lit (.bool false)], args := [d1, d2] }
  | _ => none }
def FnExactTableOrderWrongFalsely : Prop := fnExactTableOrderRow.holds Try.pinned (OpenSpec.ofChange fnExactTableOrderWrong)

/-- 'laws.FnExactTableKeeps': WHATEVER THE INPUT: true; the input reads as it did. -/
def fnExactTableKeepsSpec : ChangeSpec := { name := "fnExactTableKeeps", fn := fun _ => fun
  | [d1, d2] => { results := [.lit (.bool true)], args := [d1, d2] }
  | _ => none }
def fnExactTableKeepsRow : OpenClaim := { program := "ytknihbimafofkaa", sum := "b125f9f75e4f27420d299768ea40e203ab32460147eb0c00edce06d8a0c84010", func := "loop.example/reversiblecircuits/laws.FnExactTableKeeps", spec := "fnExactTableKeeps", apart := false }
def FnExactTableKeepsSaid : Prop := fnExactTableKeepsRow.holds Try.pinned (OpenSpec.ofChange fnExactTableKeepsSpec)

/-- ITS FALSE NEIGHBOUR: 'it returns false'. Refute it at one input. -/
def fnExactTableKeepsWrong : ChangeSpec := { name := "fnExactTableKeeps", fn := fun _ => fun
  | [d1, d2] => { results := [.lit (.bool false)], args := [d1, d2] }
  | _ => none }
def FnExactTableKeepsWrongFalsely : Prop := fnExactTableKeepsRow.holds Try.pinned (OpenSpec.ofChange fnExactTableKeepsWrong)

/-- 'laws.FnTableValid': WHATEVER THE INPUT: true; the input reads as it did. -/
def fnTableValidSpec : ChangeSpec := { name := "fnTableValid", fn := fun _ => fun
  | [d] => { results := [.lit (.bool true)], args := [d] }
  | _ => none }
def fnTableValidRow : OpenClaim := { program := "ytknihbimafofkaa", sum := "b125f9f75e4f27420d299768ea40e203ab32460147eb0c00edce06d8a0c84010", func := "loop.example/reversiblecircuits/laws.FnTableValid", spec := "fnTableValid", apart := false }
def FnTableValidSaid : Prop := fnTableValidRow.holds Try.pinned (OpenSpec.ofChange fnTableValidSpec)

/-- ITS FALSE NEIGHBOUR: 'it returns false'. Refute it at one input. -/
def fnTableValidWrong : ChangeSpec := { name := "fnTableValid", fn := fun _ => fun
  | [d] => { results := [.lit (.bool false)], args := [d] }
  | _ => none }
def FnTableValidWrongFalsely : Prop := fnTableValidRow.holds Try.pinned (OpenSpec.ofChange fnTableValidWrong)

/-- 'laws.FnTableBack': WHATEVER THE INPUT: true; the input reads as it did. -/
def fnTableBackSpec : ChangeSpec := { name := "fnTableBack", fn := fun _ => fun
  | [d] => { results := [.lit (.bool true)], args := [d] }
  | _ => none }
def fnTableBackRow : OpenClaim := { program := "ytknihbimafofkaa", sum := "b125f9f75e4f27420d299768ea40e203ab32460147eb0c00edce06d8a0c84010", func := "loop.example/reversiblecircuits/laws.FnTableBack", spec := "fnTableBack", apart := false }
def FnTableBackSaid : Prop := fnTableBackRow.holds Try.pinned (OpenSpec.ofChange fnTableBackSpec)

/-- ITS FALSE NEIGHBOUR: 'it returns false'. Refute it at one input. -/
def fnTableBackWrong : ChangeSpec := { name := "fnTableBack", fn := fun _ => fun
  | [d] => { results := [.lit (.bool false)], args := [d] }
  | _ => none }
def FnTableBackWrongFalsely : Prop := fnTableBackRow.holds Try.pinned (OpenSpec.ofChange fnTableBackWrong)

/-- 'laws.FnTableCycles': WHATEVER THE INPUT: true; the input reads as it did. -/
def fnTableCyclesSpec : ChangeSpec := { name := "fnTableCycles", fn := fun _ => fun
  | [d] => { results := [.lit (.bool true)], args := [d] }
  | _ => none }
def fnTableCyclesRow : OpenClaim := { program := "ytknihbimafofkaa", sum := "b125f9f75e4f27420d299768ea40e203ab32460147eb0c00edce06d8a0c84010", func := "loop.example/reversiblecircuits/laws.FnTableCycles", spec := "fnTableCycles", apart := false }
def FnTableCyclesSaid : Prop := fnTableCyclesRow.holds Try.pinned (OpenSpec.ofChange fnTableCyclesSpec)

/-- ITS FALSE NEIGHBOUR: 'it returns false'. Refute it at one input. -/
def fnTableCyclesWrong : ChangeSpec := { name := "fnTableCycles", fn := fun _ => fun
  | [d] => { results := [.lit (.bool false)], args := [d] }
  | _ => none }
def FnTableCyclesWrongFalsely : Prop := fnTableCyclesRow.holds Try.pinned (OpenSpec.ofChange fnTableCyclesWrong)

/-- 'laws.FnTableThen': WHATEVER THE INPUT: true; the input reads as it did. -/
def fnTableThenSpec : ChangeSpec := { name := "fnTableThen", fn := fun _ => fun
  | [d] => { results := [.lit (.bool true)], args := [d] }
  | _ => none }
def fnTableThenRow : OpenClaim := { program := "ytknihbimafofkaa", sum := "b125f9f75e4f27420d299768ea40e203ab32460147eb0c00edce06d8a0c84010", func := "loop.example/reversiblecircuits/laws.FnTableThen", spec := "fnTableThen", apart := false }
def FnTableThenSaid : Prop := fnTableThenRow.holds Try.pinned (OpenSpec.ofChange fnTableThenSpec)

/-- ITS FALSE NEIGHBOUR: 'it returns false'. Refute it at one input. -/
def fnTableThenWrong : ChangeSpec := { name := "fnTableThen", fn := fun _ => fun
  | [d] => { results := [.lit (.bool false)], args := [d] }
  | _ => none }
def FnTableThenWrongFalsely : Prop := fnTableThenRow.holds Try.pinned (OpenSpec.ofChange fnTableThenWrong)

/-- 'laws.FnTableOrder': WHATEVER THE INPUT: true; the input reads as it did. -/
def fnTableOrderSpec : ChangeSpec := { name := "fnTableOrder", fn := fun _ => fun
  | [d] => { results := [.lit (.bool true)], args := [d] }
  | _ => none }
def fnTableOrderRow : OpenClaim := { program := "ytknihbimafofkaa", sum := "b125f9f75e4f27420d299768ea40e203ab32460147eb0c00edce06d8a0c84010", func := "loop.example/reversiblecircuits/laws.FnTableOrder", spec := "fnTableOrder", apart := false }
def FnTableOrderSaid : Prop := fnTableOrderRow.holds Try.pinned (OpenSpec.ofChange fnTableOrderSpec)

/-- ITS FALSE NEIGHBOUR: 'it returns false'. Refute it at one input. -/
def fnTableOrderWrong : ChangeSpec := { name := "fnTableOrder", fn := fun _ => fun
  | [d] => { results := [.lit (.bool false)], args := [d] }
  | _ => none }
def FnTableOrderWrongFalsely : Prop := fnTableOrderRow.holds Try.pinned (OpenSpec.ofChange fnTableOrderWrong)

/- THE SECOND FORM. 'bulk': how many values and letters a reading holds, each counted each time it is reached (what is shared counts as often as it is met; a slice's spare places count too). A statement '..UptoSaid' is the law's where the arguments, and the package variables that the reading takes, are together of bulk at most 1048576: NARROWER than '..Said'. Prove '..Said' where nothing that the law and all that it calls make is longer than what came in: it says more and counts as full. Else prove '..UptoSaid'. A law counts once. -/
mutual
def uptoBulk {H : Type} : DataW H → Nat
  | .lit (.string bytes) => bytes.length + 1
  | .lit _ => 1
  | .nil => 1
  | .ptr d => uptoBulk d + 1
  | .slice elems spare => uptoBulkAll elems + uptoBulkAll spare + 1
  | .agg parts => uptoBulkAll parts + 1
  | .iface _ d => uptoBulk d + 1
  | .map entries => uptoBulkEntries entries + 1
  | .held _ => 1
def uptoBulkAll {H : Type} : List (DataW H) → Nat
  | [] => 0
  | d :: r => uptoBulk d + uptoBulkAll r
def uptoBulkEntries {H : Type} : List (Lit × DataW H) → Nat
  | [] => 0
  | x :: r => uptoBulkEntry x + uptoBulkEntries r
def uptoBulkEntry {H : Type} : Lit × DataW H → Nat
  | (.string bytes, d) => bytes.length + uptoBulk d + 1
  | (_, d) => uptoBulk d + 1
 end
def uptoSmall : (H : Type) → List (DataW H) → Bool := fun _ ds => decide (uptoBulkAll ds ≤ 1048576)
def OpenSpec.upto (s : _root_.Go.ChangeSpec) : _root_.Go.OpenSpec := { _root_.Go.OpenSpec.ofChange s with cond := some uptoSmall }

/-- 'laws.FnExactTableValid', WHERE WHAT IT READS IS OF BULK AT MOST 1048576: true; the input reads as it did. -/
def fnExactTableValidUptoRow : OpenClaim := { program := "ytknihbimafofkaa", sum := "b125f9f75e4f27420d299768ea40e203ab32460147eb0c00edce06d8a0c84010", func := "loop.example/reversiblecircuits/laws.FnExactTableValid", spec := "fnExactTableValid", apart := false, narrowed := true }
def FnExactTableValidUptoSaid : Prop := fnExactTableValidUptoRow.holds Try.pinned (OpenSpec.upto fnExactTableValidSpec)

/-- 'laws.FnExactTableThen', WHERE WHAT IT READS IS OF BULK AT MOST 1048576: true; the input reads as it did. -/
def fnExactTableThenUptoRow : OpenClaim := { program := "ytknihbimafofkaa", sum := "b125f9f75e4f27420d299768ea40e203ab32460147eb0c00edce06d8a0c84010", func := "loop.example/reversiblecircuits/laws.FnExactTableThen", spec := "fnExactTableThen", apart := false, narrowed := true }
def FnExactTableThenUptoSaid : Prop := fnExactTableThenUptoRow.holds Try.pinned (OpenSpec.upto fnExactTableThenSpec)

/-- 'laws.FnExactTableBack', WHERE WHAT IT READS IS OF BULK AT MOST 1048576: true; the input reads as it did. -/
def fnExactTableBackUptoRow : OpenClaim := { program := "ytknihbimafofkaa", sum := "b125f9f75e4f27420d299768ea40e203ab32460147eb0c00edce06d8a0c84010", func := "loop.example/reversiblecircuits/laws.FnExactTableBack", spec := "fnExactTableBack", apart := false, narrowed := true }
def FnExactTableBackUptoSaid : Prop := fnExactTableBackUptoRow.holds Try.pinned (OpenSpec.upto fnExactTableBackSpec)

/-- 'laws.FnExactTableOdd', WHERE WHAT IT READS IS OF BULK AT MOST 1048576: true; the input reads as it did. -/
def fnExactTableOddUptoRow : OpenClaim := { program := "ytknihbimafofkaa", sum := "b125f9f75e4f27420d299768ea40e203ab32460147eb0c00edce06d8a0c84010", func := "loop.example/reversiblecircuits/laws.FnExactTableOdd", spec := "fnExactTableOdd", apart := false, narrowed := true }
def FnExactTableOddUptoSaid : Prop := fnExactTableOddUptoRow.holds Try.pinned (OpenSpec.upto fnExactTableOddSpec)

/-- 'laws.FnExactTableCycles', WHERE WHAT IT READS IS OF BULK AT MOST 1048576: true; the input reads as it did. -/
def fnExactTableCyclesUptoRow : OpenClaim := { program := "ytknihbimafofkaa", sum := "b125f9f75e4f27420d299768ea40e203ab32460147eb0c00edce06d8a0c84010", func := "loop.example/reversiblecircuits/laws.FnExactTableCycles", spec := "fnExactTableCycles", apart := false, narrowed := true }
def FnExactTableCyclesUptoSaid : Prop := fnExactTableCyclesUptoRow.holds Try.pinned (OpenSpec.upto fnExactTableCyclesSpec)

/-- 'laws.FnExactTableOrder', WHERE WHAT IT READS IS OF BULK AT MOST 1048576: true; the input reads as it did. -/
def fnExactTableOrderUptoRow : OpenClaim := { program := "ytknihbimafofkaa", sum := "b125f9f75e4f27420d299768ea40e203ab32460147eb0c00edce06d8a0c84010", func := "loop.example/reversiblecircuits/laws.FnExactTableOrder", spec := "fnExactTableOrder", apart := false, narrowed := true }
def FnExactTableOrderUptoSaid : Prop := fnExactTableOrderUptoRow.holds Try.pinned (OpenSpec.upto fnExactTableOrderSpec)

/-- 'laws.FnExactTableKeeps', WHERE WHAT IT READS IS OF BULK AT MOST 1048576: true; the input reads as it did. -/
def fnExactTableKeepsUptoRow : OpenClaim := { program := "ytknihbimafofkaa", sum := "b125f9f75e4f27420d299768ea40e203ab32460147eb0c00edce06d8a0c84010", func := "loop.example/reversiblecircuits/laws.FnExactTableKeeps", spec := "fnExactTableKeeps", apart := false, narrowed := true }
def FnExactTableKeepsUptoSaid : Prop := fnExactTableKeepsUptoRow.holds Try.pinned (OpenSpec.upto fnExactTableKeepsSpec)

/-- 'laws.FnTableValid', WHERE WHAT IT READS IS OF BULK AT MOST 1048576: true; the input reads as it did. -/
def fnTableValidUptoRow : OpenClaim := { program := "ytknihbimafofkaa", sum := "b125f9f75e4f27420d299768ea40e203ab32460147eb0c00edce06d8a0c84010", func := "loop.example/reversiblecircuits/laws.FnTableValid", spec := "fnTableValid", apart := false, narrowed := true }
def FnTableValidUptoSaid : Prop := fnTableValidUptoRow.holds Try.pinned (OpenSpec.upto fnTableValidSpec)

/-- 'laws.FnTableBack', WHERE WHAT IT READS IS OF BULK AT MOST 1048576: true; the input reads as it did. -/
def fnTableBackUptoRow : OpenClaim := { program := "ytknihbimafofkaa", sum := "b125f9f75e4f27420d299768ea40e203ab32460147eb0c00edce06d8a0c84010", func := "loop.example/reversiblecircuits/laws.FnTableBack", spec := "fnTableBack", apart := false, narrowed := true }
def FnTableBackUptoSaid : Prop := fnTableBackUptoRow.holds Try.pinned (OpenSpec.upto fnTableBackSpec)

/-- 'laws.FnTableCycles', WHERE WHAT IT READS IS OF BULK AT MOST 1048576: true; the input reads as it did. -/
def fnTableCyclesUptoRow : OpenClaim := { program := "ytknihbimafofkaa", sum := "b125f9f75e4f27420d299768ea40e203ab32460147eb0c00edce06d8a0c84010", func := "loop.example/reversiblecircuits/laws.FnTableCycles", spec := "fnTableCycles", apart := false, narrowed := true }
def FnTableCyclesUptoSaid : Prop := fnTableCyclesUptoRow.holds Try.pinned (OpenSpec.upto fnTableCyclesSpec)

/-- 'laws.FnTableThen', WHERE WHAT IT READS IS OF BULK AT MOST 1048576: true; the input reads as it did. -/
def fnTableThenUptoRow : OpenClaim := { program := "ytknihbimafofkaa", sum := "b125f9f75e4f27420d299768ea40e203ab32460147eb0c00edce06d8a0c84010", func := "loop.example/reversiblecircuits/laws.FnTableThen", spec := "fnTableThen", apart := false, narrowed := true }
def FnTableThenUptoSaid : Prop := fnTableThenUptoRow.holds Try.pinned (OpenSpec.upto fnTableThenSpec)

/-- 'laws.FnTableOrder', WHERE WHAT IT READS IS OF BULK AT MOST 1048576: true; the input reads as it did. -/
def fnTableOrderUptoRow : OpenClaim := { program := "ytknihbimafofkaa", sum := "b125f9f75e4f27420d299768ea40e203ab32460147eb0c00edce06d8a0c84010", func := "loop.example/reversiblecircuits/laws.FnTableOrder", spec := "fnTableOrder", apart := false, narrowed := true }
def FnTableOrderUptoSaid : Prop := fnTableOrderUptoRow.holds Try.pinned (OpenSpec.upto fnTableOrderSpec)

end Rows
end Go.Proofs.Ytknihbimafofkaa
