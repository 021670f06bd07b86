/-
  No cell of these rows narrows 'for every input' (looked for: loops, veiled, ifaces, maps, wideKeys, modest, calm, conditions, laid).
  DERIVED. THE GIVEN ROWS OF THIS SEAT. 5 by the template 'for every input the law returns true; each argument reads behind the call as it read before'; 0 by the template 'total and deterministic' (their statements: YtfpnjahdjppeaaaTotals.lean).
  GIVEN WITH THE SEED: the statements are not yours to turn. If you find one false, say at which input.
  Laid BY PROGRAM, IN A SANDBOX (cutbox-rows.mjs): the forced cells as the released guide's own fill.sh prints them over the translation 191923311219dab7… (all of the seat's roots in one cut). By AI agents, Wed Nov 11 2026. No macro, syntax, notation, axiom, sorry.
-/
import Derived.Test.YtfpnjahdjppeaaaChecked
import GoSem.Claim
import GoSem.ClaimJoined
import GoSem.ClaimMapViews
import Derived.JoinedTies
import Derived.KernelRfl
namespace Go.Proofs.Ytfpnjahdjppeaaa
/- THE CELL 'sum', in the pinned program and in every row, IS THE sha256 OF THE DUMP (.gsa) THAT YtfpnjahdjppeaaaProg.lean LOADS. Nothing in Lean hashes anything: it is a label: what it is worth is what the hold of that sum in a sandbox is worth. -/
noncomputable def Try.pinned : Pinned := { name := "ytfpnjahdjppeaaa", sum := "191923311219dab7625f64e3e1b65d937b4f401ea4a13e0a10e1a3f6254ecca5", checked := Try.checked }
namespace Rows
def none {H : Type} : Left H := { results := [], args := [] }

/-- 'laws.FnTableValid': WHATEVER THE INPUT: true; the input reads as it did. -/
def fnTableValidSpec : ChangeSpec := { name := "fnTableValid", fn := fun _ => fun
  | [d] => { results := [.lit (.bool true)], args := [d] }
  | _ => none }
def fnTableValidRow : OpenClaim := { program := "ytfpnjahdjppeaaa", sum := "191923311219dab7625f64e3e1b65d937b4f401ea4a13e0a10e1a3f6254ecca5", func := "loop.example/reversiblecircuits/laws.FnTableValid", spec := "fnTableValid", apart := false }
def FnTableValidSaid : Prop := fnTableValidRow.holds Try.pinned (OpenSpec.ofChange fnTableValidSpec)

/-- ITS FALSE NEIGHBOUR: 'it returns false'. Refute it at one input. -/
def fnTableValidWrong : ChangeSpec := { name := "fnTableValid", fn := fun _ => fun
  | [d] => { results := [.lit (.bool false)], args := [d] }
  | _ => none }
def FnTableValidWrongFalsely : Prop := fnTableValidRow.holds Try.pinned (OpenSpec.ofChange fnTableValidWrong)

/-- 'laws.FnTableBack': WHATEVER THE INPUT: true; the input reads as it did. -/
def fnTableBackSpec : ChangeSpec := { name := "fnTableBack", fn := fun _ => fun
  | [d] => { results := [.lit (.bool true)], args := [d] }
  | _ => none }
def fnTableBackRow : OpenClaim := { program := "ytfpnjahdjppeaaa", sum := "191923311219dab7625f64e3e1b65d937b4f401ea4a13e0a10e1a3f6254ecca5", func := "loop.example/reversiblecircuits/laws.FnTableBack", spec := "fnTableBack", apart := false }
def FnTableBackSaid : Prop := fnTableBackRow.holds Try.pinned (OpenSpec.ofChange fnTableBackSpec)

/-- ITS FALSE NEIGHBOUR: 'it returns false'. Refute it at one input. -/
def fnTableBackWrong : ChangeSpec := { name := "fnTableBack", fn := fun _ => fun
  | [d] => { results := [.lit (.bool false)], args := [d] }
  | _ => none }
def FnTableBackWrongFalsely : Prop := fnTableBackRow.holds Try.pinned (OpenSpec.ofChange fnTableBackWrong)

/-- 'laws.FnTableCycles': WHATEVER THE INPUT: true; the input reads as it did. -/
def fnTableCyclesSpec : ChangeSpec := { name := "fnTableCycles", fn := fun _ => fun
  | [d] => { results := [.lit (.bool true)], args := [d] }
  | _ => none }
def fnTableCyclesRow : OpenClaim := { program := "ytfpnjahdjppeaaa", sum := "191923311219dab7625f64e3e1b65d937b4f401ea4a13e0a10e1a3f6254ecca5", func := "loop.example/reversiblecircuits/laws.FnTableCycles", spec := "fnTableCycles", apart := false }
def FnTableCyclesSaid : Prop := fnTableCyclesRow.holds Try.pinned (OpenSpec.ofChange fnTableCyclesSpec)

/-- ITS FALSE NEIGHBOUR: 'it returns false'. Refute it at one input. -/
def fnTableCyclesWrong : ChangeSpec := { name := "fnTableCycles", fn := fun _ => fun
  | [d] => { results := [.lit (.bool false)], args := [d] }
  | _ => none }
def FnTableCyclesWrongFalsely : Prop := fnTableCyclesRow.holds Try.pinned (OpenSpec.ofChange fnTableCyclesWrong)

/-- 'laws.FnTableThen': WHATEVER THE INPUT: true; the input reads as it did. -/
def fnTableThenSpec : ChangeSpec := { name := "fnTableThen", fn := fun _ => fun
  | [d] => { results := [.lit (.bool true)], args := [d] }
  | _ => none }
def fnTableThenRow : OpenClaim := { program := "ytfpnjahdjppeaaa", sum := "191923311219dab7625f64e3e1b65d937b4f401ea4a13e0a10e1a3f6254ecca5", func := "loop.example/reversiblecircuits/laws.FnTableThen", spec := "fnTableThen", apart := false }
def FnTableThenSaid : Prop := fnTableThenRow.holds Try.pinned (OpenSpec.ofChange fnTableThenSpec)

/-- ITS FALSE NEIGHBOUR: 'it returns false'. Refute it at one input. -/
def fnTableThenWrong : ChangeSpec := { name := "fnTableThen", fn := fun _ => fun
  | [d] => { results := [.lit (.bool false)], args := [d] }
  | _ => none }
def FnTableThenWrongFalsely : Prop := fnTableThenRow.holds Try.pinned (OpenSpec.ofChange fnTableThenWrong)

/-- 'laws.FnTableOrder': WHATEVER THE INPUT: true; the input reads as it did. -/
def fnTableOrderSpec : ChangeSpec := { name := "fnTableOrder", fn := fun _ => fun
  | [d] => { results := [.lit (.bool true)], args := [d] }
  | _ => none }
def fnTableOrderRow : OpenClaim := { program := "ytfpnjahdjppeaaa", sum := "191923311219dab7625f64e3e1b65d937b4f401ea4a13e0a10e1a3f6254ecca5", func := "loop.example/reversiblecircuits/laws.FnTableOrder", spec := "fnTableOrder", apart := false }
def FnTableOrderSaid : Prop := fnTableOrderRow.holds Try.pinned (OpenSpec.ofChange fnTableOrderSpec)

/-- ITS FALSE NEIGHBOUR: 'it returns false'. Refute it at one input. -/
def fnTableOrderWrong : ChangeSpec := { name := "fnTableOrder", fn := fun _ => fun
  | [d] => { results := [.lit (.bool false)], args := [d] }
  | _ => none }
def FnTableOrderWrongFalsely : Prop := fnTableOrderRow.holds Try.pinned (OpenSpec.ofChange fnTableOrderWrong)

/- THE SECOND FORM. 'bulk': how many values and letters a reading holds, each counted each time it is reached (what is shared counts as often as it is met; a slice's spare places count too). A statement '..UptoSaid' is the law's where the arguments, and the package variables that the reading takes, are together of bulk at most 1048576: NARROWER than '..Said'. Prove '..Said' where nothing that the law and all that it calls make is longer than what came in: it says more and counts as full. Else prove '..UptoSaid'. A law counts once. -/
mutual
def uptoBulk {H : Type} : DataW H → Nat
  | .lit (.string bytes) => bytes.length + 1
  | .lit _ => 1
  | .nil => 1
  | .ptr d => uptoBulk d + 1
  | .slice elems spare => uptoBulkAll elems + uptoBulkAll spare + 1
  | .agg parts => uptoBulkAll parts + 1
  | .iface _ d => uptoBulk d + 1
  | .map entries => uptoBulkEntries entries + 1
  | .held _ => 1
def uptoBulkAll {H : Type} : List (DataW H) → Nat
  | [] => 0
  | d :: r => uptoBulk d + uptoBulkAll r
def uptoBulkEntries {H : Type} : List (Lit × DataW H) → Nat
  | [] => 0
  | x :: r => uptoBulkEntry x + uptoBulkEntries r
def uptoBulkEntry {H : Type} : Lit × DataW H → Nat
  | (.string bytes, d) => bytes.length + uptoBulk d + 1
  | (_, d) => uptoBulk d + 1
 end
def uptoSmall : (H : Type) → List (DataW H) → Bool := fun _ ds => decide (uptoBulkAll ds ≤ 1048576)
def OpenSpec.upto (s : _root_.Go.ChangeSpec) : _root_.Go.OpenSpec := { _root_.Go.OpenSpec.ofChange s with cond := some uptoSmall }

/-- 'laws.FnTableValid', WHERE WHAT IT READS IS OF BULK AT MOST 1048576: true; the input reads as it did. -/
def fnTableValidUptoRow : OpenClaim := { program := "ytfpnjahdjppeaaa", sum := "191923311219dab7625f64e3e1b65d937b4f401ea4a13e0a10e1a3f6254ecca5", func := "loop.example/reversiblecircuits/laws.FnTableValid", spec := "fnTableValid", apart := false, narrowed := true }
def FnTableValidUptoSaid : Prop := fnTableValidUptoRow.holds Try.pinned (OpenSpec.upto fnTableValidSpec)

/-- 'laws.FnTableBack', WHERE WHAT IT READS IS OF BULK AT MOST 1048576: true; the input reads as it did. -/
def fnTableBackUptoRow : OpenClaim := { program := "ytfpnjahdjppeaaa", sum := "191923311219dab7625f64e3e1b65d937b4f401ea4a13e0a10e1a3f6254ecca5", func := "loop.example/reversiblecircuits/laws.FnTableBack", spec := "fnTableBack", apart := false, narrowed := true }
def FnTableBackUptoSaid : Prop := fnTableBackUptoRow.holds Try.pinned (OpenSpec.upto fnTableBackSpec)

/-- 'laws.FnTableCycles', WHERE WHAT IT READS IS OF BULK AT MOST 1048576: true; the input reads as it did. -/
def fnTableCyclesUptoRow : OpenClaim := { program := "ytfpnjahdjppeaaa", sum := "191923311219dab7625f64e3e1b65d937b4f401ea4a13e0a10e1a3f6254ecca5", func := "loop.example/reversiblecircuits/laws.FnTableCycles", spec := "fnTableCycles", apart := false, narrowed := true }
def FnTableCyclesUptoSaid : Prop := fnTableCyclesUptoRow.holds Try.pinned (OpenSpec.upto fnTableCyclesSpec)

/-- 'laws.FnTableThen', WHERE WHAT IT READS IS OF BULK AT MOST 1048576: true; the input reads as it did. -/
def fnTableThenUptoRow : OpenClaim := { program := "ytfpnjahdjppeaaa", sum := "191923311219dab7625f64e3e1b65d937b4f401ea4a13e0a10e1a3f6254ecca5", func := "loop.example/reversiblecircuits/laws.FnTableThen", spec := "fnTableThen", apart := false, narrowed := true }
def FnTableThenUptoSaid : Prop := fnTableThenUptoRow.holds Try.pinned (OpenSpec.upto fnTableThenSpec)

/-- 'laws.FnTableOrder', WHERE WHAT IT READS IS OF BULK AT MOST 1048576: true; the input reads as it did. -/
def fnTableOrderUptoRow : OpenClaim := { program := "ytfpnjahdjppeaaa", sum := "191923311219dab7625f64e3e1b65d937b4f401ea4a13e0a10e1a3f6254ecca5", func := "loop.example/reversiblecircuits/laws.FnTableOrder", spec := "fnTableOrder", apart := false, narrowed := true }
def FnTableOrderUptoSaid : Prop := fnTableOrderUptoRow.holds Try.pinned (OpenSpec.upto fnTableOrderSpec)

end Rows
end Go.Proofs.Ytfpnjahdjppeaaa
