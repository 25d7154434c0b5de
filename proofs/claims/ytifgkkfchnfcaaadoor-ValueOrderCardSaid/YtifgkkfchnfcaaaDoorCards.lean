/-
  DERIVED. GIVEN WITH THE SEED: THE CARDS: each row of YtifgkkfchnfcaaaDoorRows.lean that lists a variable, with what it lists TIED to the program's text (the seventh form; the later family's looks); each row that meets fmt, with fmt's text TOLD by the authors' own Lean function (tested against real Go, not proved from fmt's source: count such statements apart). THE CARD IS WHAT COUNTS. Prove the row's statement (the work); the ties are given (YtifgkkfchnfcaaaDoorTie.lean); close each card by the builder's one call (the guide's Derived/Test/ToyasCard.lean, 'card_holds'). Laid BY PROGRAM, IN A SANDBOX (cutbox-door.mjs). By AI agents, Wed Nov 11 2026. No macro, syntax, notation, axiom, sorry.
-/
import Derived.Test.YtifgkkfchnfcaaaDoorRows
import GoSem.ClaimSeven
namespace Go.Proofs.YtifgkkfchnfcaaaDoor
namespace Rows

/-- THE TIED CARD OF 'sluicegatelaw16.ValueCalls'. -/
def valueCallsCard : Claim7 := { stood := { row := valueCallsRow, standIns := [], harness := (true, "3ae6f35da708e6031a35c6690994060ef9276a0859b906425e2a9094eb077d7e"), looks := false }, kinds := [], alts := [], laidByText := true, laidKinds := [.data, .data, .data], laidTests := true, laidLooks := .later }
def ValueCallsCardSaid : Prop := Claim7.holds Tryd.pinned (.plain (OpenSpec.ofChange valueCallsSpec)) valueCallsCard

/-- THE TIED CARD OF 'sluicegatelaw16.ValueOrder'. -/
def valueOrderCard : Claim7 := { stood := { row := valueOrderRow, standIns := [], harness := (true, "3ae6f35da708e6031a35c6690994060ef9276a0859b906425e2a9094eb077d7e"), looks := false }, kinds := [], alts := [], laidByText := true, laidKinds := [.data, .data, .data], laidTests := true, laidLooks := .later }
def ValueOrderCardSaid : Prop := Claim7.holds Tryd.pinned (.plain (OpenSpec.ofChange valueOrderSpec)) valueOrderCard

/-- THE TIED CARD OF 'sluicegatelaw16.ValueShort'. -/
def valueShortCard : Claim7 := { stood := { row := valueShortRow, standIns := [], harness := (true, "3ae6f35da708e6031a35c6690994060ef9276a0859b906425e2a9094eb077d7e"), looks := false }, kinds := [], alts := [], laidByText := true, laidKinds := [.data, .data, .data], laidTests := true, laidLooks := .later }
def ValueShortCardSaid : Prop := Claim7.holds Tryd.pinned (.plain (OpenSpec.ofChange valueShortSpec)) valueShortCard

/-- THE SECOND FORM's CARD OF 'sluicegatelaw16.ValueCalls'. -/
def valueCallsUptoCard : Claim7 := { stood := { row := valueCallsUptoRow, standIns := [], harness := (true, "3ae6f35da708e6031a35c6690994060ef9276a0859b906425e2a9094eb077d7e"), looks := false }, kinds := [], alts := [], laidByText := true, laidKinds := [.data, .data, .data], laidTests := true, laidLooks := .later }
def ValueCallsUptoCardSaid : Prop := Claim7.holds Tryd.pinned (.plain (OpenSpec.upto valueCallsSpec)) valueCallsUptoCard

/-- THE SECOND FORM's CARD OF 'sluicegatelaw16.ValueOrder'. -/
def valueOrderUptoCard : Claim7 := { stood := { row := valueOrderUptoRow, standIns := [], harness := (true, "3ae6f35da708e6031a35c6690994060ef9276a0859b906425e2a9094eb077d7e"), looks := false }, kinds := [], alts := [], laidByText := true, laidKinds := [.data, .data, .data], laidTests := true, laidLooks := .later }
def ValueOrderUptoCardSaid : Prop := Claim7.holds Tryd.pinned (.plain (OpenSpec.upto valueOrderSpec)) valueOrderUptoCard

/-- THE SECOND FORM's CARD OF 'sluicegatelaw16.ValueShort'. -/
def valueShortUptoCard : Claim7 := { stood := { row := valueShortUptoRow, standIns := [], harness := (true, "3ae6f35da708e6031a35c6690994060ef9276a0859b906425e2a9094eb077d7e"), looks := false }, kinds := [], alts := [], laidByText := true, laidKinds := [.data, .data, .data], laidTests := true, laidLooks := .later }
def ValueShortUptoCardSaid : Prop := Claim7.holds Tryd.pinned (.plain (OpenSpec.upto valueShortSpec)) valueShortUptoCard
end Rows
end Go.Proofs.YtifgkkfchnfcaaaDoor
