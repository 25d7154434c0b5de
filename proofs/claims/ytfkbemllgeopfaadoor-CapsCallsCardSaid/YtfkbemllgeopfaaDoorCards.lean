/-
  DERIVED. GIVEN WITH THE SEED: THE CARDS: each row of YtfkbemllgeopfaaDoorRows.lean that lists a variable, with what it lists TIED to the program's text (the seventh form; the later family's looks); each row that meets fmt, with fmt's text TOLD by the authors' own Lean function (tested against real Go, not proved from fmt's source: count such statements apart). THE CARD IS WHAT COUNTS. Prove the row's statement (the work); the ties are given (YtfkbemllgeopfaaDoorTie.lean); close each card by the builder's one call (the guide's Derived/Test/ToyasCard.lean, 'card_holds'). Laid BY PROGRAM, IN A SANDBOX (cutbox-door.mjs). By AI agents, Wed Nov 11 2026. No macro, syntax, notation, axiom, sorry.
-/
import Derived.Test.YtfkbemllgeopfaaDoorRows
import GoSem.ClaimSeven
namespace Go.Proofs.YtfkbemllgeopfaaDoor
namespace Rows

/-- THE TIED CARD OF 'sluicegatelaw11.CapsBoth'. -/
def capsBothCard : Claim7 := { stood := { row := capsBothRow, standIns := [], harness := (true, "e1a89c20f2859e1ede10f478735cb4ef32a0616888032d0052aea556b14c07ca"), looks := false }, kinds := [], alts := [], laidByText := true, laidKinds := [.data, .data, .data, .listed, .data], laidTests := true, laidLooks := .later }
def CapsBothCardSaid : Prop := Claim7.holds Tryd.pinned (.plain (OpenSpec.ofChange capsBothSpec)) capsBothCard

/-- THE TIED CARD OF 'sluicegatelaw11.CapsBack'. -/
def capsBackCard : Claim7 := { stood := { row := capsBackRow, standIns := [], harness := (true, "e1a89c20f2859e1ede10f478735cb4ef32a0616888032d0052aea556b14c07ca"), looks := false }, kinds := [], alts := [], laidByText := true, laidKinds := [.data, .data, .data, .listed, .data], laidTests := true, laidLooks := .later }
def CapsBackCardSaid : Prop := Claim7.holds Tryd.pinned (.plain (OpenSpec.ofChange capsBackSpec)) capsBackCard

/-- THE TIED CARD OF 'sluicegatelaw11.CapsNames'. -/
def capsNamesCard : Claim7 := { stood := { row := capsNamesRow, standIns := [], harness := (true, "e1a89c20f2859e1ede10f478735cb4ef32a0616888032d0052aea556b14c07ca"), looks := false }, kinds := [], alts := [], laidByText := true, laidKinds := [.data, .data, .data, .listed, .data], laidTests := true, laidLooks := .later }
def CapsNamesCardSaid : Prop := Claim7.holds Tryd.pinned (.plain (OpenSpec.ofChange capsNamesSpec)) capsNamesCard

/-- THE TIED CARD OF 'sluicegatelaw11.CapsCalls'. -/
def capsCallsCard : Claim7 := { stood := { row := capsCallsRow, standIns := [], harness := (true, "e1a89c20f2859e1ede10f478735cb4ef32a0616888032d0052aea556b14c07ca"), looks := false }, kinds := [], alts := [], laidByText := true, laidKinds := [.data, .data, .data, .listed, .data], laidTests := true, laidLooks := .later }
def CapsCallsCardSaid : Prop := Claim7.holds Tryd.pinned (.plain (OpenSpec.ofChange capsCallsSpec)) capsCallsCard

/-- THE SECOND FORM's CARD OF 'sluicegatelaw11.CapsBoth'. -/
def capsBothUptoCard : Claim7 := { stood := { row := capsBothUptoRow, standIns := [], harness := (true, "e1a89c20f2859e1ede10f478735cb4ef32a0616888032d0052aea556b14c07ca"), looks := false }, kinds := [], alts := [], laidByText := true, laidKinds := [.data, .data, .data, .listed, .data], laidTests := true, laidLooks := .later }
def CapsBothUptoCardSaid : Prop := Claim7.holds Tryd.pinned (.plain (OpenSpec.upto capsBothSpec)) capsBothUptoCard

/-- THE SECOND FORM's CARD OF 'sluicegatelaw11.CapsBack'. -/
def capsBackUptoCard : Claim7 := { stood := { row := capsBackUptoRow, standIns := [], harness := (true, "e1a89c20f2859e1ede10f478735cb4ef32a0616888032d0052aea556b14c07ca"), looks := false }, kinds := [], alts := [], laidByText := true, laidKinds := [.data, .data, .data, .listed, .data], laidTests := true, laidLooks := .later }
def CapsBackUptoCardSaid : Prop := Claim7.holds Tryd.pinned (.plain (OpenSpec.upto capsBackSpec)) capsBackUptoCard

/-- THE SECOND FORM's CARD OF 'sluicegatelaw11.CapsNames'. -/
def capsNamesUptoCard : Claim7 := { stood := { row := capsNamesUptoRow, standIns := [], harness := (true, "e1a89c20f2859e1ede10f478735cb4ef32a0616888032d0052aea556b14c07ca"), looks := false }, kinds := [], alts := [], laidByText := true, laidKinds := [.data, .data, .data, .listed, .data], laidTests := true, laidLooks := .later }
def CapsNamesUptoCardSaid : Prop := Claim7.holds Tryd.pinned (.plain (OpenSpec.upto capsNamesSpec)) capsNamesUptoCard

/-- THE SECOND FORM's CARD OF 'sluicegatelaw11.CapsCalls'. -/
def capsCallsUptoCard : Claim7 := { stood := { row := capsCallsUptoRow, standIns := [], harness := (true, "e1a89c20f2859e1ede10f478735cb4ef32a0616888032d0052aea556b14c07ca"), looks := false }, kinds := [], alts := [], laidByText := true, laidKinds := [.data, .data, .data, .listed, .data], laidTests := true, laidLooks := .later }
def CapsCallsUptoCardSaid : Prop := Claim7.holds Tryd.pinned (.plain (OpenSpec.upto capsCallsSpec)) capsCallsUptoCard
end Rows
end Go.Proofs.YtfkbemllgeopfaaDoor
