/-
  DERIVED. GIVEN WITH THE SEED: THE CARDS: each row of YtkgchoknkakcgaaDoorRows.lean that lists a variable, with what it lists TIED to the program's text (the seventh form; the later family's looks); each row that meets fmt, with fmt's text TOLD by the authors' own Lean function (tested against real Go, not proved from fmt's source: count such statements apart). THE CARD IS WHAT COUNTS. Prove the row's statement (the work); the ties are given (YtkgchoknkakcgaaDoorTie.lean); close each card by the builder's one call (the guide's Derived/Test/ToyasCard.lean, 'card_holds'). Laid BY PROGRAM, IN A SANDBOX (cutbox-door.mjs). By AI agents, Wed Nov 11 2026. No macro, syntax, notation, axiom, sorry.
-/
import Derived.Test.YtkgchoknkakcgaaDoorRows
import GoSem.ClaimSeven
namespace Go.Proofs.YtkgchoknkakcgaaDoor
namespace Rows

/-- THE TIED CARD OF 'sluicegatelaw15.ColumnCalls'. -/
def columnCallsCard : Claim7 := { stood := { row := columnCallsRow, standIns := [], harness := (true, "2cc09712232579b9ef0770f54b9d0160c17a2474230ab2ef2ac42d85f5510f1e"), looks := false }, kinds := [], alts := [], laidByText := true, laidKinds := [.data, .data, .data], laidTests := true, laidLooks := .later }
def ColumnCallsCardSaid : Prop := Claim7.holds Tryd.pinned (.plain (OpenSpec.ofChange columnCallsSpec)) columnCallsCard

/-- THE TIED CARD OF 'sluicegatelaw15.ColumnApart'. -/
def columnApartCard : Claim7 := { stood := { row := columnApartRow, standIns := [], harness := (true, "2cc09712232579b9ef0770f54b9d0160c17a2474230ab2ef2ac42d85f5510f1e"), looks := false }, kinds := [], alts := [], laidByText := true, laidKinds := [.data, .data, .data], laidTests := true, laidLooks := .later }
def ColumnApartCardSaid : Prop := Claim7.holds Tryd.pinned (.plain (OpenSpec.ofChange columnApartSpec)) columnApartCard

/-- THE TIED CARD OF 'sluicegatelaw15.ColumnNames'. -/
def columnNamesCard : Claim7 := { stood := { row := columnNamesRow, standIns := [], harness := (true, "2cc09712232579b9ef0770f54b9d0160c17a2474230ab2ef2ac42d85f5510f1e"), looks := false }, kinds := [], alts := [], laidByText := true, laidKinds := [.data, .data, .data], laidTests := true, laidLooks := .later }
def ColumnNamesCardSaid : Prop := Claim7.holds Tryd.pinned (.plain (OpenSpec.ofChange columnNamesSpec)) columnNamesCard

/-- THE SECOND FORM's CARD OF 'sluicegatelaw15.ColumnCalls'. -/
def columnCallsUptoCard : Claim7 := { stood := { row := columnCallsUptoRow, standIns := [], harness := (true, "2cc09712232579b9ef0770f54b9d0160c17a2474230ab2ef2ac42d85f5510f1e"), looks := false }, kinds := [], alts := [], laidByText := true, laidKinds := [.data, .data, .data], laidTests := true, laidLooks := .later }
def ColumnCallsUptoCardSaid : Prop := Claim7.holds Tryd.pinned (.plain (OpenSpec.upto columnCallsSpec)) columnCallsUptoCard

/-- THE SECOND FORM's CARD OF 'sluicegatelaw15.ColumnApart'. -/
def columnApartUptoCard : Claim7 := { stood := { row := columnApartUptoRow, standIns := [], harness := (true, "2cc09712232579b9ef0770f54b9d0160c17a2474230ab2ef2ac42d85f5510f1e"), looks := false }, kinds := [], alts := [], laidByText := true, laidKinds := [.data, .data, .data], laidTests := true, laidLooks := .later }
def ColumnApartUptoCardSaid : Prop := Claim7.holds Tryd.pinned (.plain (OpenSpec.upto columnApartSpec)) columnApartUptoCard

/-- THE SECOND FORM's CARD OF 'sluicegatelaw15.ColumnNames'. -/
def columnNamesUptoCard : Claim7 := { stood := { row := columnNamesUptoRow, standIns := [], harness := (true, "2cc09712232579b9ef0770f54b9d0160c17a2474230ab2ef2ac42d85f5510f1e"), looks := false }, kinds := [], alts := [], laidByText := true, laidKinds := [.data, .data, .data], laidTests := true, laidLooks := .later }
def ColumnNamesUptoCardSaid : Prop := Claim7.holds Tryd.pinned (.plain (OpenSpec.upto columnNamesSpec)) columnNamesUptoCard
end Rows
end Go.Proofs.YtkgchoknkakcgaaDoor
