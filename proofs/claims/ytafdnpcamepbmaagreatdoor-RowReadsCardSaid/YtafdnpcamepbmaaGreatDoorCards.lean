/-
  DERIVED. GIVEN WITH THE SEED: THE CARDS: each row of YtafdnpcamepbmaaGreatDoorRows.lean that lists a variable, with what it lists TIED to the program's text (the seventh form; the later family's looks); each row that meets fmt, with fmt's text TOLD by the authors' own Lean function (tested against real Go, not proved from fmt's source: count such statements apart). THE CARD IS WHAT COUNTS. Prove the row's statement (the work); the ties are given (YtafdnpcamepbmaaGreatDoorTie.lean); close each card by the builder's one call (the guide's Derived/Test/ToyasCard.lean, 'card_holds'). Laid BY PROGRAM, IN A SANDBOX (cutbox-door.mjs). By AI agents, Wed Nov 11 2026. No macro, syntax, notation, axiom, sorry.
-/
import Derived.Test.YtafdnpcamepbmaaGreatDoorRows
import GoSem.ClaimSeven
namespace Go.Proofs.YtafdnpcamepbmaaGreatDoor
namespace Rows

/-- THE TIED CARD OF 'sluicegatelaw17.RowReads'. -/
def rowReadsCard : Claim7 := { stood := { row := rowReadsRow, standIns := [], harness := (true, "20b0087917f482ae8014e1d24dafda7a69fae7f27c5723d3917c3956921f6644"), looks := false }, kinds := [], alts := [], laidByText := true, laidKinds := [.data, .data, .data], laidTests := true, laidLooks := .later }
def RowReadsCardSaid : Prop := Claim7.holds Tryz.pinned (.plain (OpenSpec.ofChange rowReadsSpec)) rowReadsCard

/-- THE SECOND FORM's CARD OF 'sluicegatelaw17.RowReads'. -/
def rowReadsUptoCard : Claim7 := { stood := { row := rowReadsUptoRow, standIns := [], harness := (true, "20b0087917f482ae8014e1d24dafda7a69fae7f27c5723d3917c3956921f6644"), looks := false }, kinds := [], alts := [], laidByText := true, laidKinds := [.data, .data, .data], laidTests := true, laidLooks := .later }
def RowReadsUptoCardSaid : Prop := Claim7.holds Tryz.pinned (.plain (OpenSpec.upto rowReadsSpec)) rowReadsUptoCard
end Rows
end Go.Proofs.YtafdnpcamepbmaaGreatDoor
