/-
  DERIVED. GIVEN WITH THE SEED: THE CARDS: each row of YtafdnpcamepbmaaDoorRows.lean that lists a variable, with what it lists TIED to the program's text (the seventh form; the later family's looks); each row that meets fmt, with fmt's text TOLD by the authors' own Lean function (tested against real Go, not proved from fmt's source: count such statements apart). THE CARD IS WHAT COUNTS. Prove the row's statement (the work); the ties are given (YtafdnpcamepbmaaDoorTie.lean); close each card by the builder's one call (the guide's Derived/Test/ToyasCard.lean, 'card_holds'). Laid BY PROGRAM, IN A SANDBOX (cutbox-door.mjs). By AI agents, Wed Nov 11 2026. No macro, syntax, notation, axiom, sorry.
-/
import Derived.Test.YtafdnpcamepbmaaDoorRows
import GoSem.ClaimSeven
namespace Go.Proofs.YtafdnpcamepbmaaDoor
namespace Rows

/-- THE TIED CARD OF 'sluicegatelaw17.RowNames'. -/
def rowNamesCard : Claim7 := { stood := { row := rowNamesRow, standIns := [], harness := (true, "06a8a641e340d9fb2e267542762391f544679531cfad358fafb31014c36fc05f"), looks := false }, kinds := [], alts := [], laidByText := true, laidKinds := [.data, .data, .data], laidTests := true, laidLooks := .later }
def RowNamesCardSaid : Prop := Claim7.holds Tryd.pinned (.plain (OpenSpec.ofChange rowNamesSpec)) rowNamesCard

/-- THE TIED CARD OF 'sluicegatelaw17.RowTurned'. -/
def rowTurnedCard : Claim7 := { stood := { row := rowTurnedRow, standIns := [], harness := (true, "06a8a641e340d9fb2e267542762391f544679531cfad358fafb31014c36fc05f"), looks := false }, kinds := [], alts := [], laidByText := true, laidKinds := [.data, .data, .data], laidTests := true, laidLooks := .later }
def RowTurnedCardSaid : Prop := Claim7.holds Tryd.pinned (.plain (OpenSpec.ofChange rowTurnedSpec)) rowTurnedCard

/-- THE SECOND FORM's CARD OF 'sluicegatelaw17.RowNames'. -/
def rowNamesUptoCard : Claim7 := { stood := { row := rowNamesUptoRow, standIns := [], harness := (true, "06a8a641e340d9fb2e267542762391f544679531cfad358fafb31014c36fc05f"), looks := false }, kinds := [], alts := [], laidByText := true, laidKinds := [.data, .data, .data], laidTests := true, laidLooks := .later }
def RowNamesUptoCardSaid : Prop := Claim7.holds Tryd.pinned (.plain (OpenSpec.upto rowNamesSpec)) rowNamesUptoCard

/-- THE SECOND FORM's CARD OF 'sluicegatelaw17.RowTurned'. -/
def rowTurnedUptoCard : Claim7 := { stood := { row := rowTurnedUptoRow, standIns := [], harness := (true, "06a8a641e340d9fb2e267542762391f544679531cfad358fafb31014c36fc05f"), looks := false }, kinds := [], alts := [], laidByText := true, laidKinds := [.data, .data, .data], laidTests := true, laidLooks := .later }
def RowTurnedUptoCardSaid : Prop := Claim7.holds Tryd.pinned (.plain (OpenSpec.upto rowTurnedSpec)) rowTurnedUptoCard
end Rows
end Go.Proofs.YtafdnpcamepbmaaDoor
