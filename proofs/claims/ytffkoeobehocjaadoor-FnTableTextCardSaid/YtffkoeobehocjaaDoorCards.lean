/-
  DERIVED. GIVEN WITH THE SEED: THE CARDS: each row of YtffkoeobehocjaaDoorRows.lean that lists a variable, with what it lists TIED to the program's text (the seventh form; the later family's looks); each row that meets fmt, with fmt's text TOLD by the authors' own Lean function (tested against real Go, not proved from fmt's source: count such statements apart). THE CARD IS WHAT COUNTS. Prove the row's statement (the work); the ties are given (YtffkoeobehocjaaDoorTie.lean); close each card by the builder's one call (the guide's Derived/Test/ToyasCard.lean, 'card_holds'). Laid BY PROGRAM, IN A SANDBOX (cutbox-door.mjs). By AI agents, Wed Nov 11 2026. No macro, syntax, notation, axiom, sorry.
-/
import Derived.Test.YtffkoeobehocjaaDoorRows
import GoSem.ClaimSeven
namespace Go.Proofs.YtffkoeobehocjaaDoor
namespace Rows

/-- THE TIED CARD OF 'laws.FnExactReadTable'. -/
def fnExactReadTableCard : Claim7 := { stood := { row := fnExactReadTableRow, standIns := [], harness := (true, "3f60392c111eaac85d75894e24f9b7134815da1754fb0d75aa5c030ebf79ccdd"), looks := true }, kinds := [], alts := [], laidByText := true, laidKinds := [.data, .data, .data, .data, .sentinel, .sentinel, .pinned], laidTests := true, laidLooks := .later }
def FnExactReadTableCardSaid : Prop := Claim7.holds Tryd.pinned (.plain (OpenSpec.ofChange fnExactReadTableSpec)) fnExactReadTableCard

/-- THE TIED CARD OF 'laws.FnTableText'. -/
def fnTableTextCard : Claim7 := { stood := { row := fnTableTextRow, standIns := [], harness := (true, "3f60392c111eaac85d75894e24f9b7134815da1754fb0d75aa5c030ebf79ccdd"), looks := true }, kinds := [], alts := [], laidByText := true, laidKinds := [.data, .data, .data, .data, .sentinel, .sentinel, .pinned], laidTests := true, laidLooks := .later }
def FnTableTextCardSaid : Prop := Claim7.holds Tryd.pinned (.plain (OpenSpec.ofChange fnTableTextSpec)) fnTableTextCard

/-- THE TIED CARD OF 'laws.FnReadTable'. -/
def fnReadTableCard : Claim7 := { stood := { row := fnReadTableRow, standIns := [], harness := (true, "3f60392c111eaac85d75894e24f9b7134815da1754fb0d75aa5c030ebf79ccdd"), looks := true }, kinds := [], alts := [], laidByText := true, laidKinds := [.data, .data, .data, .data, .sentinel, .sentinel, .pinned], laidTests := true, laidLooks := .later }
def FnReadTableCardSaid : Prop := Claim7.holds Tryd.pinned (.plain (OpenSpec.ofChange fnReadTableSpec)) fnReadTableCard

/-- THE TIED CARD OF 'laws.FnExactTableText'. -/
def fnExactTableTextCard : Claim7 := { stood := { row := fnExactTableTextRow, standIns := [], harness := (true, "3f60392c111eaac85d75894e24f9b7134815da1754fb0d75aa5c030ebf79ccdd"), looks := true }, kinds := [], alts := [], laidByText := true, laidKinds := [.data, .data, .data], laidTests := true, laidLooks := .later }
def FnExactTableTextCardSaid : Prop := Claim7.holds Tryd.pinned (.plain (OpenSpec.ofChange fnExactTableTextSpec)) fnExactTableTextCard

/-- THE TIED CARD OF 'laws.FnExactGateText'. -/
def fnExactGateTextCard : Claim7 := { stood := { row := fnExactGateTextRow, standIns := [], harness := (true, "3f60392c111eaac85d75894e24f9b7134815da1754fb0d75aa5c030ebf79ccdd"), looks := true }, kinds := [], alts := [], laidByText := true, laidKinds := [.data, .data, .data], laidTests := true, laidLooks := .later }
def FnExactGateTextCardSaid : Prop := Claim7.holds Tryd.pinned (.plain (OpenSpec.ofChange fnExactGateTextSpec)) fnExactGateTextCard

/-- THE TIED CARD OF 'laws.FnExactReadGate'. -/
def fnExactReadGateCard : Claim7 := { stood := { row := fnExactReadGateRow, standIns := [], harness := (true, "3f60392c111eaac85d75894e24f9b7134815da1754fb0d75aa5c030ebf79ccdd"), looks := true }, kinds := [], alts := [], laidByText := true, laidKinds := [.data, .data, .data, .data, .pinned], laidTests := true, laidLooks := .later }
def FnExactReadGateCardSaid : Prop := Claim7.holds Tryd.pinned (.plain (OpenSpec.ofChange fnExactReadGateSpec)) fnExactReadGateCard

/-- THE TIED CARD OF 'laws.FnGateText'. -/
def fnGateTextCard : Claim7 := { stood := { row := fnGateTextRow, standIns := [], harness := (true, "3f60392c111eaac85d75894e24f9b7134815da1754fb0d75aa5c030ebf79ccdd"), looks := true }, kinds := [], alts := [], laidByText := true, laidKinds := [.data, .data, .data, .data, .pinned], laidTests := true, laidLooks := .later }
def FnGateTextCardSaid : Prop := Claim7.holds Tryd.pinned (.plain (OpenSpec.ofChange fnGateTextSpec)) fnGateTextCard

/-- THE TIED CARD OF 'laws.FnReadGate'. -/
def fnReadGateCard : Claim7 := { stood := { row := fnReadGateRow, standIns := [], harness := (true, "3f60392c111eaac85d75894e24f9b7134815da1754fb0d75aa5c030ebf79ccdd"), looks := true }, kinds := [], alts := [], laidByText := true, laidKinds := [.data, .data, .data, .data, .pinned], laidTests := true, laidLooks := .later }
def FnReadGateCardSaid : Prop := Claim7.holds Tryd.pinned (.plain (OpenSpec.ofChange fnReadGateSpec)) fnReadGateCard

/-- THE SECOND FORM's CARD OF 'laws.FnExactReadTable'. -/
def fnExactReadTableUptoCard : Claim7 := { stood := { row := fnExactReadTableUptoRow, standIns := [], harness := (true, "3f60392c111eaac85d75894e24f9b7134815da1754fb0d75aa5c030ebf79ccdd"), looks := true }, kinds := [], alts := [], laidByText := true, laidKinds := [.data, .data, .data, .data, .sentinel, .sentinel, .pinned], laidTests := true, laidLooks := .later }
def FnExactReadTableUptoCardSaid : Prop := Claim7.holds Tryd.pinned (.plain (OpenSpec.upto fnExactReadTableSpec)) fnExactReadTableUptoCard

/-- THE SECOND FORM's CARD OF 'laws.FnTableText'. -/
def fnTableTextUptoCard : Claim7 := { stood := { row := fnTableTextUptoRow, standIns := [], harness := (true, "3f60392c111eaac85d75894e24f9b7134815da1754fb0d75aa5c030ebf79ccdd"), looks := true }, kinds := [], alts := [], laidByText := true, laidKinds := [.data, .data, .data, .data, .sentinel, .sentinel, .pinned], laidTests := true, laidLooks := .later }
def FnTableTextUptoCardSaid : Prop := Claim7.holds Tryd.pinned (.plain (OpenSpec.upto fnTableTextSpec)) fnTableTextUptoCard

/-- THE SECOND FORM's CARD OF 'laws.FnReadTable'. -/
def fnReadTableUptoCard : Claim7 := { stood := { row := fnReadTableUptoRow, standIns := [], harness := (true, "3f60392c111eaac85d75894e24f9b7134815da1754fb0d75aa5c030ebf79ccdd"), looks := true }, kinds := [], alts := [], laidByText := true, laidKinds := [.data, .data, .data, .data, .sentinel, .sentinel, .pinned], laidTests := true, laidLooks := .later }
def FnReadTableUptoCardSaid : Prop := Claim7.holds Tryd.pinned (.plain (OpenSpec.upto fnReadTableSpec)) fnReadTableUptoCard

/-- THE SECOND FORM's CARD OF 'laws.FnExactTableText'. -/
def fnExactTableTextUptoCard : Claim7 := { stood := { row := fnExactTableTextUptoRow, standIns := [], harness := (true, "3f60392c111eaac85d75894e24f9b7134815da1754fb0d75aa5c030ebf79ccdd"), looks := true }, kinds := [], alts := [], laidByText := true, laidKinds := [.data, .data, .data], laidTests := true, laidLooks := .later }
def FnExactTableTextUptoCardSaid : Prop := Claim7.holds Tryd.pinned (.plain (OpenSpec.upto fnExactTableTextSpec)) fnExactTableTextUptoCard

/-- THE SECOND FORM's CARD OF 'laws.FnExactGateText'. -/
def fnExactGateTextUptoCard : Claim7 := { stood := { row := fnExactGateTextUptoRow, standIns := [], harness := (true, "3f60392c111eaac85d75894e24f9b7134815da1754fb0d75aa5c030ebf79ccdd"), looks := true }, kinds := [], alts := [], laidByText := true, laidKinds := [.data, .data, .data], laidTests := true, laidLooks := .later }
def FnExactGateTextUptoCardSaid : Prop := Claim7.holds Tryd.pinned (.plain (OpenSpec.upto fnExactGateTextSpec)) fnExactGateTextUptoCard

/-- THE SECOND FORM's CARD OF 'laws.FnExactReadGate'. -/
def fnExactReadGateUptoCard : Claim7 := { stood := { row := fnExactReadGateUptoRow, standIns := [], harness := (true, "3f60392c111eaac85d75894e24f9b7134815da1754fb0d75aa5c030ebf79ccdd"), looks := true }, kinds := [], alts := [], laidByText := true, laidKinds := [.data, .data, .data, .data, .pinned], laidTests := true, laidLooks := .later }
def FnExactReadGateUptoCardSaid : Prop := Claim7.holds Tryd.pinned (.plain (OpenSpec.upto fnExactReadGateSpec)) fnExactReadGateUptoCard

/-- THE SECOND FORM's CARD OF 'laws.FnGateText'. -/
def fnGateTextUptoCard : Claim7 := { stood := { row := fnGateTextUptoRow, standIns := [], harness := (true, "3f60392c111eaac85d75894e24f9b7134815da1754fb0d75aa5c030ebf79ccdd"), looks := true }, kinds := [], alts := [], laidByText := true, laidKinds := [.data, .data, .data, .data, .pinned], laidTests := true, laidLooks := .later }
def FnGateTextUptoCardSaid : Prop := Claim7.holds Tryd.pinned (.plain (OpenSpec.upto fnGateTextSpec)) fnGateTextUptoCard

/-- THE SECOND FORM's CARD OF 'laws.FnReadGate'. -/
def fnReadGateUptoCard : Claim7 := { stood := { row := fnReadGateUptoRow, standIns := [], harness := (true, "3f60392c111eaac85d75894e24f9b7134815da1754fb0d75aa5c030ebf79ccdd"), looks := true }, kinds := [], alts := [], laidByText := true, laidKinds := [.data, .data, .data, .data, .pinned], laidTests := true, laidLooks := .later }
def FnReadGateUptoCardSaid : Prop := Claim7.holds Tryd.pinned (.plain (OpenSpec.upto fnReadGateSpec)) fnReadGateUptoCard
end Rows
end Go.Proofs.YtffkoeobehocjaaDoor
