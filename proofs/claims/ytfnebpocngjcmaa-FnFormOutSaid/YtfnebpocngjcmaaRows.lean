/-
  No cell of these rows narrows 'for every input' (looked for: loops, veiled, ifaces, maps, wideKeys, modest, calm, conditions, laid).
  DERIVED. THE GIVEN ROWS OF THIS SEAT. 11 by the template 'for every input the law returns true; each argument reads behind the call as it read before'; 0 by the template 'total and deterministic' (their statements: YtfnebpocngjcmaaTotals.lean).
  GIVEN WITH THE SEED: the statements are not yours to turn. If you find one false, say at which input.
  Laid BY PROGRAM, IN A SANDBOX (cutbox-rows.mjs): the forced cells as the released guide's own fill.sh prints them over the translation 3a13cebbedd98d35… (all of the seat's roots in one cut). By AI agents, Wed Nov 11 2026. No macro, syntax, notation, axiom, sorry.
-/
import Derived.Test.YtfnebpocngjcmaaChecked
import GoSem.Claim
import GoSem.ClaimJoined
import GoSem.ClaimMapViews
import Derived.JoinedTies
import Derived.KernelRfl
namespace Go.Proofs.Ytfnebpocngjcmaa
/- THE CELL 'sum', in the pinned program and in every row, IS THE sha256 OF THE DUMP (.gsa) THAT YtfnebpocngjcmaaProg.lean LOADS. Nothing in Lean hashes anything: it is a label: what it is worth is what the hold of that sum in a sandbox is worth. -/
noncomputable def Try.pinned : Pinned := { name := "ytfnebpocngjcmaa", sum := "3a13cebbedd98d35dd365e4d204b1dff9f7cbccc53aa4ca596754d2e467e0323", checked := Try.checked }
namespace Rows
def none {H : Type} : Left H := { results := [], args := [] }

/-- 'laws.FnExactFormValid': WHATEVER THE INPUT: true; the input reads as it did. -/
def fnExactFormValidSpec : ChangeSpec := { name := "fnExactFormValid", fn := fun _ => fun
  | [d1, d2] => { results := [.lit (.bool true)], args := [d1, d2] }
  | _ => none }
def fnExactFormValidRow : OpenClaim := { program := "ytfnebpocngjcmaa", sum := "3a13cebbedd98d35dd365e4d204b1dff9f7cbccc53aa4ca596754d2e467e0323", func := "loop.example/reversiblecircuits/laws.FnExactFormValid", spec := "fnExactFormValid", apart := false }
def FnExactFormValidSaid : Prop := fnExactFormValidRow.holds Try.pinned (OpenSpec.ofChange fnExactFormValidSpec)

/-- ITS FALSE NEIGHBOUR: 'it returns false'. Refute it at one input. -/
def fnExactFormValidWrong : ChangeSpec := { name := "fnExactFormValid", fn := fun _ => fun
  | [d1, d2] => { results := [.lit (.bool false)], args := [d1, d2] }
  | _ => none }
def FnExactFormValidWrongFalsely : Prop := fnExactFormValidRow.holds Try.pinned (OpenSpec.ofChange fnExactFormValidWrong)

/-- 'laws.FnExactFormLines': WHATEVER THE INPUT: true; the input reads as it did. -/
def fnExactFormLinesSpec : ChangeSpec := { name := "fnExactFormLines", fn := fun _ => fun
  | [d1, d2] => { results := [.lit (.bool true)], args := [d1, d2] }
  | _ => none }
def fnExactFormLinesRow : OpenClaim := { program := "ytfnebpocngjcmaa", sum := "3a13cebbedd98d35dd365e4d204b1dff9f7cbccc53aa4ca596754d2e467e0323", func := "loop.example/reversiblecircuits/laws.FnExactFormLines", spec := "fnExactFormLines", apart := false }
def FnExactFormLinesSaid : Prop := fnExactFormLinesRow.holds Try.pinned (OpenSpec.ofChange fnExactFormLinesSpec)

/-- ITS FALSE NEIGHBOUR: 'it returns false'. Refute it at one input. -/
def fnExactFormLinesWrong : ChangeSpec := { name := "fnExactFormLines", fn := fun _ => fun
  | [d1, d2] => { results := [.lit (.bool false)], args := [d1, d2] }
  | _ => none }
def FnExactFormLinesWrongFalsely : Prop := fnExactFormLinesRow.holds Try.pinned (OpenSpec.ofChange fnExactFormLinesWrong)

/-- 'laws.FnFormValid': WHATEVER THE INPUT: true; the input reads as it did. -/
def fnFormValidSpec : ChangeSpec := { name := "fnFormValid", fn := fun _ => fun
  | [d] => { results := [.lit (.bool true)], args := [d] }
  | _ => none }
def fnFormValidRow : OpenClaim := { program := "ytfnebpocngjcmaa", sum := "3a13cebbedd98d35dd365e4d204b1dff9f7cbccc53aa4ca596754d2e467e0323", func := "loop.example/reversiblecircuits/laws.FnFormValid", spec := "fnFormValid", apart := false }
def FnFormValidSaid : Prop := fnFormValidRow.holds Try.pinned (OpenSpec.ofChange fnFormValidSpec)

/-- ITS FALSE NEIGHBOUR: 'it returns false'. Refute it at one input. -/
def fnFormValidWrong : ChangeSpec := { name := "fnFormValid", fn := fun _ => fun
  | [d] => { results := [.lit (.bool false)], args := [d] }
  | _ => none }
def FnFormValidWrongFalsely : Prop := fnFormValidRow.holds Try.pinned (OpenSpec.ofChange fnFormValidWrong)

/-- 'laws.FnExactFormOut': WHATEVER THE INPUT: true; the input reads as it did. -/
def fnExactFormOutSpec : ChangeSpec := { name := "fnExactFormOut", fn := fun _ => fun
  | [d1, d2, d3] => { results := [.lit (.bool true)], args := [d1, d2, d3] }
  | _ => none }
def fnExactFormOutRow : OpenClaim := { program := "ytfnebpocngjcmaa", sum := "3a13cebbedd98d35dd365e4d204b1dff9f7cbccc53aa4ca596754d2e467e0323", func := "loop.example/reversiblecircuits/laws.FnExactFormOut", spec := "fnExactFormOut", unfollowed := true, recurses := true, apart := false }
def FnExactFormOutSaid : Prop := fnExactFormOutRow.holds Try.pinned (OpenSpec.ofChange fnExactFormOutSpec)

/-- ITS FALSE NEIGHBOUR: 'it returns false'. Refute it at one input. -/
def fnExactFormOutWrong : ChangeSpec := { name := "fnExactFormOut", fn := fun _ => fun
  | [d1, d2, d3] => { results := [.lit (.bool false)], args := [d1, d2, d3] }
  | _ => none }
def FnExactFormOutWrongFalsely : Prop := fnExactFormOutRow.holds Try.pinned (OpenSpec.ofChange fnExactFormOutWrong)

/-- 'laws.FnExactFormOnes': WHATEVER THE INPUT: true; the input reads as it did. -/
def fnExactFormOnesSpec : ChangeSpec := { name := "fnExactFormOnes", fn := fun _ => fun
  | [d1, d2] => { results := [.lit (.bool true)], args := [d1, d2] }
  | _ => none }
def fnExactFormOnesRow : OpenClaim := { program := "ytfnebpocngjcmaa", sum := "3a13cebbedd98d35dd365e4d204b1dff9f7cbccc53aa4ca596754d2e467e0323", func := "loop.example/reversiblecircuits/laws.FnExactFormOnes", spec := "fnExactFormOnes", unfollowed := true, recurses := true, apart := false }
def FnExactFormOnesSaid : Prop := fnExactFormOnesRow.holds Try.pinned (OpenSpec.ofChange fnExactFormOnesSpec)

/-- ITS FALSE NEIGHBOUR: 'it returns false'. Refute it at one input. -/
def fnExactFormOnesWrong : ChangeSpec := { name := "fnExactFormOnes", fn := fun _ => fun
  | [d1, d2] => { results := [.lit (.bool false)], args := [d1, d2] }
  | _ => none }
def FnExactFormOnesWrongFalsely : Prop := fnExactFormOnesRow.holds Try.pinned (OpenSpec.ofChange fnExactFormOnesWrong)

/-- 'laws.FnExactFormBits': WHATEVER THE INPUT: true; the input reads as it did. -/
def fnExactFormBitsSpec : ChangeSpec := { name := "fnExactFormBits", fn := fun _ => fun
  | [d1, d2, d3] => { results := [.lit (.bool true)], args := [d1, d2, d3] }
  | _ => none }
def fnExactFormBitsRow : OpenClaim := { program := "ytfnebpocngjcmaa", sum := "3a13cebbedd98d35dd365e4d204b1dff9f7cbccc53aa4ca596754d2e467e0323", func := "loop.example/reversiblecircuits/laws.FnExactFormBits", spec := "fnExactFormBits", unfollowed := true, recurses := true, apart := false }
def FnExactFormBitsSaid : Prop := fnExactFormBitsRow.holds Try.pinned (OpenSpec.ofChange fnExactFormBitsSpec)

/-- ITS FALSE NEIGHBOUR: 'it returns false'. Refute it at one input. -/
def fnExactFormBitsWrong : ChangeSpec := { name := "fnExactFormBits", fn := fun _ => fun
  | [d1, d2, d3] => { results := [.lit (.bool false)], args := [d1, d2, d3] }
  | _ => none }
def FnExactFormBitsWrongFalsely : Prop := fnExactFormBitsRow.holds Try.pinned (OpenSpec.ofChange fnExactFormBitsWrong)

/-- 'laws.FnFormBits': WHATEVER THE INPUT: true; the input reads as it did. -/
def fnFormBitsSpec : ChangeSpec := { name := "fnFormBits", fn := fun _ => fun
  | [d] => { results := [.lit (.bool true)], args := [d] }
  | _ => none }
def fnFormBitsRow : OpenClaim := { program := "ytfnebpocngjcmaa", sum := "3a13cebbedd98d35dd365e4d204b1dff9f7cbccc53aa4ca596754d2e467e0323", func := "loop.example/reversiblecircuits/laws.FnFormBits", spec := "fnFormBits", unfollowed := true, recurses := true, apart := false }
def FnFormBitsSaid : Prop := fnFormBitsRow.holds Try.pinned (OpenSpec.ofChange fnFormBitsSpec)

/-- ITS FALSE NEIGHBOUR: 'it returns false'. Refute it at one input. -/
def fnFormBitsWrong : ChangeSpec := { name := "fnFormBits", fn := fun _ => fun
  | [d] => { results := [.lit (.bool false)], args := [d] }
  | _ => none }
def FnFormBitsWrongFalsely : Prop := fnFormBitsRow.holds Try.pinned (OpenSpec.ofChange fnFormBitsWrong)

/-- 'laws.FnFormOut': WHATEVER THE INPUT: true; the input reads as it did. -/
def fnFormOutSpec : ChangeSpec := { name := "fnFormOut", fn := fun _ => fun
  | [d] => { results := [.lit (.bool true)], args := [d] }
  | _ => none }
def fnFormOutRow : OpenClaim := { program := "ytfnebpocngjcmaa", sum := "3a13cebbedd98d35dd365e4d204b1dff9f7cbccc53aa4ca596754d2e467e0323", func := "loop.example/reversiblecircuits/laws.FnFormOut", spec := "fnFormOut", unfollowed := true, recurses := true, apart := false }
def FnFormOutSaid : Prop := fnFormOutRow.holds Try.pinned (OpenSpec.ofChange fnFormOutSpec)

/-- ITS FALSE NEIGHBOUR: 'it returns false'. Refute it at one input. -/
def fnFormOutWrong : ChangeSpec := { name := "fnFormOut", fn := fun _ => fun
  | [d] => { results := [.lit (.bool false)], args := [d] }
  | _ => none }
def FnFormOutWrongFalsely : Prop := fnFormOutRow.holds Try.pinned (OpenSpec.ofChange fnFormOutWrong)

/-- 'laws.FnFormOnes': WHATEVER THE INPUT: true; the input reads as it did. -/
def fnFormOnesSpec : ChangeSpec := { name := "fnFormOnes", fn := fun _ => fun
  | [d] => { results := [.lit (.bool true)], args := [d] }
  | _ => none }
def fnFormOnesRow : OpenClaim := { program := "ytfnebpocngjcmaa", sum := "3a13cebbedd98d35dd365e4d204b1dff9f7cbccc53aa4ca596754d2e467e0323", func := "loop.example/reversiblecircuits/laws.FnFormOnes", spec := "fnFormOnes", unfollowed := true, recurses := true, apart := false }
def FnFormOnesSaid : Prop := fnFormOnesRow.holds Try.pinned (OpenSpec.ofChange fnFormOnesSpec)

/-- ITS FALSE NEIGHBOUR: 'it returns false'. Refute it at one input. -/
def fnFormOnesWrong : ChangeSpec := { name := "fnFormOnes", fn := fun _ => fun
  | [d] => { results := [.lit (.bool false)], args := [d] }
  | _ => none }
def FnFormOnesWrongFalsely : Prop := fnFormOnesRow.holds Try.pinned (OpenSpec.ofChange fnFormOnesWrong)

/-- 'laws.FnExactStepGates': WHATEVER THE INPUT: true; the input reads as it did. -/
def fnExactStepGatesSpec : ChangeSpec := { name := "fnExactStepGates", fn := fun _ => fun
  | [d1, d2] => { results := [.lit (.bool true)], args := [d1, d2] }
  | _ => none }
def fnExactStepGatesRow : OpenClaim := { program := "ytfnebpocngjcmaa", sum := "3a13cebbedd98d35dd365e4d204b1dff9f7cbccc53aa4ca596754d2e467e0323", func := "loop.example/reversiblecircuits/laws.FnExactStepGates", spec := "fnExactStepGates", unfollowed := true, recurses := true, apart := false }
def FnExactStepGatesSaid : Prop := fnExactStepGatesRow.holds Try.pinned (OpenSpec.ofChange fnExactStepGatesSpec)

/-- ITS FALSE NEIGHBOUR: 'it returns false'. Refute it at one input. -/
def fnExactStepGatesWrong : ChangeSpec := { name := "fnExactStepGates", fn := fun _ => fun
  | [d1, d2] => { results := [.lit (.bool false)], args := [d1, d2] }
  | _ => none }
def FnExactStepGatesWrongFalsely : Prop := fnExactStepGatesRow.holds Try.pinned (OpenSpec.ofChange fnExactStepGatesWrong)

/-- 'laws.FnFormLines': WHATEVER THE INPUT: true; the input reads as it did. -/
def fnFormLinesSpec : ChangeSpec := { name := "fnFormLines", fn := fun _ => fun
  | [d] => { results := [.lit (.bool true)], args := [d] }
  | _ => none }
def fnFormLinesRow : OpenClaim := { program := "ytfnebpocngjcmaa", sum := "3a13cebbedd98d35dd365e4d204b1dff9f7cbccc53aa4ca596754d2e467e0323", func := "loop.example/reversiblecircuits/laws.FnFormLines", spec := "fnFormLines", unfollowed := true, recurses := true, apart := false }
def FnFormLinesSaid : Prop := fnFormLinesRow.holds Try.pinned (OpenSpec.ofChange fnFormLinesSpec)

/-- ITS FALSE NEIGHBOUR: 'it returns false'. Refute it at one input. -/
def fnFormLinesWrong : ChangeSpec := { name := "fnFormLines", fn := fun _ => fun
  | [d] => { results := [.lit (.bool false)], args := [d] }
  | _ => none }
def FnFormLinesWrongFalsely : Prop := fnFormLinesRow.holds Try.pinned (OpenSpec.ofChange fnFormLinesWrong)

/- THE SECOND FORM. 'bulk': how many values and letters a reading holds, each counted each time it is reached (what is shared counts as often as it is met; a slice's spare places count too). A statement '..UptoSaid' is the law's where the arguments, and the package variables that the reading takes, are together of bulk at most 1048576: NARROWER than '..Said'. Prove '..Said' where nothing that the law and all that it calls make is longer than what came in: it says more and counts as full. Else prove '..UptoSaid'. A law counts once. -/
mutual
def uptoBulk {H : Type} : DataW H → Nat
  | .lit (.string bytes) => bytes.length + 1
  | .lit _ => 1
  | .nil => 1
  | .ptr d => uptoBulk d + 1
  | .slice elems spare => uptoBulkAll elems + uptoBulkAll spare + 1
  | .agg parts => uptoBulkAll parts + 1
  | .iface _ d => uptoBulk d + 1
  | .map entries => uptoBulkEntries entries + 1
  | .held _ => 1
def uptoBulkAll {H : Type} : List (DataW H) → Nat
  | [] => 0
  | d :: r => uptoBulk d + uptoBulkAll r
def uptoBulkEntries {H : Type} : List (Lit × DataW H) → Nat
  | [] => 0
  | x :: r => uptoBulkEntry x + uptoBulkEntries r
def uptoBulkEntry {H : Type} : Lit × DataW H → Nat
  | (.string bytes, d) => bytes.length + uptoBulk d + 1
  | (_, d) => uptoBulk d + 1
 end
def uptoSmall : (H : Type) → List (DataW H) → Bool := fun _ ds => decide (uptoBulkAll ds ≤ 1048576)
def OpenSpec.upto (s : _root_.Go.ChangeSpec) : _root_.Go.OpenSpec := { _root_.Go.OpenSpec.ofChange s with cond := some uptoSmall }

/-- 'laws.FnExactFormValid', WHERE WHAT IT READS IS OF BULK AT MOST 1048576: true; the input reads as it did. -/
def fnExactFormValidUptoRow : OpenClaim := { program := "ytfnebpocngjcmaa", sum := "3a13cebbedd98d35dd365e4d204b1dff9f7cbccc53aa4ca596754d2e467e0323", func := "loop.example/reversiblecircuits/laws.FnExactFormValid", spec := "fnExactFormValid", apart := false, narrowed := true }
def FnExactFormValidUptoSaid : Prop := fnExactFormValidUptoRow.holds Try.pinned (OpenSpec.upto fnExactFormValidSpec)

/-- 'laws.FnExactFormLines', WHERE WHAT IT READS IS OF BULK AT MOST 1048576: true; the input reads as it did. -/
def fnExactFormLinesUptoRow : OpenClaim := { program := "ytfnebpocngjcmaa", sum := "3a13cebbedd98d35dd365e4d204b1dff9f7cbccc53aa4ca596754d2e467e0323", func := "loop.example/reversiblecircuits/laws.FnExactFormLines", spec := "fnExactFormLines", apart := false, narrowed := true }
def FnExactFormLinesUptoSaid : Prop := fnExactFormLinesUptoRow.holds Try.pinned (OpenSpec.upto fnExactFormLinesSpec)

/-- 'laws.FnFormValid', WHERE WHAT IT READS IS OF BULK AT MOST 1048576: true; the input reads as it did. -/
def fnFormValidUptoRow : OpenClaim := { program := "ytfnebpocngjcmaa", sum := "3a13cebbedd98d35dd365e4d204b1dff9f7cbccc53aa4ca596754d2e467e0323", func := "loop.example/reversiblecircuits/laws.FnFormValid", spec := "fnFormValid", apart := false, narrowed := true }
def FnFormValidUptoSaid : Prop := fnFormValidUptoRow.holds Try.pinned (OpenSpec.upto fnFormValidSpec)

/-- 'laws.FnExactFormOut', WHERE WHAT IT READS IS OF BULK AT MOST 1048576: true; the input reads as it did. -/
def fnExactFormOutUptoRow : OpenClaim := { program := "ytfnebpocngjcmaa", sum := "3a13cebbedd98d35dd365e4d204b1dff9f7cbccc53aa4ca596754d2e467e0323", func := "loop.example/reversiblecircuits/laws.FnExactFormOut", spec := "fnExactFormOut", unfollowed := true, recurses := true, apart := false, narrowed := true }
def FnExactFormOutUptoSaid : Prop := fnExactFormOutUptoRow.holds Try.pinned (OpenSpec.upto fnExactFormOutSpec)

/-- 'laws.FnExactFormOnes', WHERE WHAT IT READS IS OF BULK AT MOST 1048576: true; the input reads as it did. -/
def fnExactFormOnesUptoRow : OpenClaim := { program := "ytfnebpocngjcmaa", sum := "3a13cebbedd98d35dd365e4d204b1dff9f7cbccc53aa4ca596754d2e467e0323", func := "loop.example/reversiblecircuits/laws.FnExactFormOnes", spec := "fnExactFormOnes", unfollowed := true, recurses := true, apart := false, narrowed := true }
def FnExactFormOnesUptoSaid : Prop := fnExactFormOnesUptoRow.holds Try.pinned (OpenSpec.upto fnExactFormOnesSpec)

/-- 'laws.FnExactFormBits', WHERE WHAT IT READS IS OF BULK AT MOST 1048576: true; the input reads as it did. -/
def fnExactFormBitsUptoRow : OpenClaim := { program := "ytfnebpocngjcmaa", sum := "3a13cebbedd98d35dd365e4d204b1dff9f7cbccc53aa4ca596754d2e467e0323", func := "loop.example/reversiblecircuits/laws.FnExactFormBits", spec := "fnExactFormBits", unfollowed := true, recurses := true, apart := false, narrowed := true }
def FnExactFormBitsUptoSaid : Prop := fnExactFormBitsUptoRow.holds Try.pinned (OpenSpec.upto fnExactFormBitsSpec)

/-- 'laws.FnFormBits', WHERE WHAT IT READS IS OF BULK AT MOST 1048576: true; the input reads as it did. -/
def fnFormBitsUptoRow : OpenClaim := { program := "ytfnebpocngjcmaa", sum := "3a13cebbedd98d35dd365e4d204b1dff9f7cbccc53aa4ca596754d2e467e0323", func := "loop.example/reversiblecircuits/laws.FnFormBits", spec := "fnFormBits", unfollowed := true, recurses := true, apart := false, narrowed := true }
def FnFormBitsUptoSaid : Prop := fnFormBitsUptoRow.holds Try.pinned (OpenSpec.upto fnFormBitsSpec)

/-- 'laws.FnFormOut', WHERE WHAT IT READS IS OF BULK AT MOST 1048576: true; the input reads as it did. -/
def fnFormOutUptoRow : OpenClaim := { program := "ytfnebpocngjcmaa", sum := "3a13cebbedd98d35dd365e4d204b1dff9f7cbccc53aa4ca596754d2e467e0323", func := "loop.example/reversiblecircuits/laws.FnFormOut", spec := "fnFormOut", unfollowed := true, recurses := true, apart := false, narrowed := true }
def FnFormOutUptoSaid : Prop := fnFormOutUptoRow.holds Try.pinned (OpenSpec.upto fnFormOutSpec)

/-- 'laws.FnFormOnes', WHERE WHAT IT READS IS OF BULK AT MOST 1048576: true; the input reads as it did. -/
def fnFormOnesUptoRow : OpenClaim := { program := "ytfnebpocngjcmaa", sum := "3a13cebbedd98d35dd365e4d204b1dff9f7cbccc53aa4ca596754d2e467e0323", func := "loop.example/reversiblecircuits/laws.FnFormOnes", spec := "fnFormOnes", unfollowed := true, recurses := true, apart := false, narrowed := true }
def FnFormOnesUptoSaid : Prop := fnFormOnesUptoRow.holds Try.pinned (OpenSpec.upto fnFormOnesSpec)

/-- 'laws.FnExactStepGates', WHERE WHAT IT READS IS OF BULK AT MOST 1048576: true; the input reads as it did. -/
def fnExactStepGatesUptoRow : OpenClaim := { program := "ytfnebpocngjcmaa", sum := "3a13cebbedd98d35dd365e4d204b1dff9f7cbccc53aa4ca596754d2e467e0323", func := "loop.example/reversiblecircuits/laws.FnExactStepGates", spec := "fnExactStepGates", unfollowed := true, recurses := true, apart := false, narrowed := true }
def FnExactStepGatesUptoSaid : Prop := fnExactStepGatesUptoRow.holds Try.pinned (OpenSpec.upto fnExactStepGatesSpec)

/-- 'laws.FnFormLines', WHERE WHAT IT READS IS OF BULK AT MOST 1048576: true; the input reads as it did. -/
def fnFormLinesUptoRow : OpenClaim := { program := "ytfnebpocngjcmaa", sum := "3a13cebbedd98d35dd365e4d204b1dff9f7cbccc53aa4ca596754d2e467e0323", func := "loop.example/reversiblecircuits/laws.FnFormLines", spec := "fnFormLines", unfollowed := true, recurses := true, apart := false, narrowed := true }
def FnFormLinesUptoSaid : Prop := fnFormLinesUptoRow.holds Try.pinned (OpenSpec.upto fnFormLinesSpec)

end Rows
end Go.Proofs.Ytfnebpocngjcmaa
