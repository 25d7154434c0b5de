/-
  DERIVED. GIVEN WITH THE SEED: THE CARDS: each row of YtmdciglfpedhgaaDoorRows.lean that lists a variable, with what it lists TIED to the program's text (the seventh form; the later family's looks); each row that meets fmt, with fmt's text TOLD by the authors' own Lean function (tested against real Go, not proved from fmt's source: count such statements apart). THE CARD IS WHAT COUNTS. Prove the row's statement (the work); the ties are given (YtmdciglfpedhgaaDoorTie.lean); close each card by the builder's one call (the guide's Derived/Test/ToyasCard.lean, 'card_holds'). Laid BY PROGRAM, IN A SANDBOX (cutbox-door.mjs). By AI agents, Wed Nov 11 2026. No macro, syntax, notation, axiom, sorry.
-/
import Derived.Test.YtmdciglfpedhgaaDoorRows
import GoSem.ClaimSeven
namespace Go.Proofs.YtmdciglfpedhgaaDoor
namespace Rows

/-- THE TIED CARD OF 'sluicegatelaw13.CommandCalls'. -/
def commandCallsCard : Claim7 := { stood := { row := commandCallsRow, standIns := [], harness := (true, "2c87bd31a9075da9b2bb12990e4c2ce2c7def6697c0210ad1591521818982292"), looks := false }, kinds := [], alts := [], laidByText := true, laidKinds := [.data, .data, .data], laidTests := true, laidLooks := .later }
def CommandCallsCardSaid : Prop := Claim7.holds Tryd.pinned (.plain (OpenSpec.ofChange commandCallsSpec)) commandCallsCard

/-- THE TIED CARD OF 'sluicegatelaw13.CommandNames'. -/
def commandNamesCard : Claim7 := { stood := { row := commandNamesRow, standIns := [], harness := (true, "2c87bd31a9075da9b2bb12990e4c2ce2c7def6697c0210ad1591521818982292"), looks := false }, kinds := [], alts := [], laidByText := true, laidKinds := [.data, .data, .data], laidTests := true, laidLooks := .later }
def CommandNamesCardSaid : Prop := Claim7.holds Tryd.pinned (.plain (OpenSpec.ofChange commandNamesSpec)) commandNamesCard

/-- THE SECOND FORM's CARD OF 'sluicegatelaw13.CommandCalls'. -/
def commandCallsUptoCard : Claim7 := { stood := { row := commandCallsUptoRow, standIns := [], harness := (true, "2c87bd31a9075da9b2bb12990e4c2ce2c7def6697c0210ad1591521818982292"), looks := false }, kinds := [], alts := [], laidByText := true, laidKinds := [.data, .data, .data], laidTests := true, laidLooks := .later }
def CommandCallsUptoCardSaid : Prop := Claim7.holds Tryd.pinned (.plain (OpenSpec.upto commandCallsSpec)) commandCallsUptoCard

/-- THE SECOND FORM's CARD OF 'sluicegatelaw13.CommandNames'. -/
def commandNamesUptoCard : Claim7 := { stood := { row := commandNamesUptoRow, standIns := [], harness := (true, "2c87bd31a9075da9b2bb12990e4c2ce2c7def6697c0210ad1591521818982292"), looks := false }, kinds := [], alts := [], laidByText := true, laidKinds := [.data, .data, .data], laidTests := true, laidLooks := .later }
def CommandNamesUptoCardSaid : Prop := Claim7.holds Tryd.pinned (.plain (OpenSpec.upto commandNamesSpec)) commandNamesUptoCard
end Rows
end Go.Proofs.YtmdciglfpedhgaaDoor
