/-
  DERIVED. GIVEN WITH THE SEED: THE CARDS: each row of YtpokjcmljefncaaDoorRows.lean that lists a variable, with what it lists TIED to the program's text (the seventh form; the later family's looks); each row that meets fmt, with fmt's text TOLD by the authors' own Lean function (tested against real Go, not proved from fmt's source: count such statements apart). THE CARD IS WHAT COUNTS. Prove the row's statement (the work); the ties are given (YtpokjcmljefncaaDoorTie.lean); close each card by the builder's one call (the guide's Derived/Test/ToyasCard.lean, 'card_holds'). Laid BY PROGRAM, IN A SANDBOX (cutbox-door.mjs). By AI agents, Wed Nov 11 2026. No macro, syntax, notation, axiom, sorry.
-/
import Derived.Test.YtpokjcmljefncaaDoorRows
import GoSem.ClaimSeven
namespace Go.Proofs.YtpokjcmljefncaaDoor
namespace Rows

/-- THE TIED CARD OF 'sluicegatelaw17.RowNames'. -/
def rowNamesCard : Claim7 := { stood := { row := rowNamesRow, standIns := [], harness := (true, "f9f7da42ea1989ad422d8581213956e66cbadd06d6083ca7bda598d5586477f4"), looks := false }, kinds := [], alts := [], laidByText := true, laidKinds := [.data, .data, .data], laidTests := true, laidLooks := .later }
def RowNamesCardSaid : Prop := Claim7.holds Tryd.pinned (.plain (OpenSpec.ofChange rowNamesSpec)) rowNamesCard

/-- THE SECOND FORM's CARD OF 'sluicegatelaw17.RowNames'. -/
def rowNamesUptoCard : Claim7 := { stood := { row := rowNamesUptoRow, standIns := [], harness := (true, "f9f7da42ea1989ad422d8581213956e66cbadd06d6083ca7bda598d5586477f4"), looks := false }, kinds := [], alts := [], laidByText := true, laidKinds := [.data, .data, .data], laidTests := true, laidLooks := .later }
def RowNamesUptoCardSaid : Prop := Claim7.holds Tryd.pinned (.plain (OpenSpec.upto rowNamesSpec)) rowNamesUptoCard
end Rows
end Go.Proofs.YtpokjcmljefncaaDoor
