/- The list of names, by evaluation; lives. -/
import Derived.Test.YtfkbemllgeopfaaDoorC5
namespace Go.Proofs.YtfkbemllgeopfaaDoor
open Go.AM
set_option linter.unusedSimpArgs false
set_option linter.unusedVariables false

/-- the names of the bits that have one -/
def nmL : List (List UInt8) := [[108, 111, 110, 103, 45, 112, 97, 115, 115, 119, 111, 114, 100], [102, 111, 117, 110, 100, 45, 114, 111, 119, 115], [108, 111, 110, 103, 45, 102, 108, 97, 103], [99, 111, 110, 110, 101, 99, 116, 45, 119, 105, 116, 104, 45, 100, 98], [110, 111, 45, 115, 99, 104, 101, 109, 97], [99, 111, 109, 112, 114, 101, 115, 115], [111, 100, 98, 99], [108, 111, 99, 97, 108, 45, 102, 105, 108, 101, 115], [105, 103, 110, 111, 114, 101, 45, 115, 112, 97, 99, 101], [112, 114, 111, 116, 111, 99, 111, 108, 45, 52, 49], [105, 110, 116, 101, 114, 97, 99, 116, 105, 118, 101], [115, 115, 108], [105, 103, 110, 111, 114, 101, 45, 115, 105, 103, 112, 105, 112, 101], [116, 114, 97, 110, 115, 97, 99, 116, 105, 111, 110, 115], [114, 101, 115, 101, 114, 118, 101, 100], [115, 101, 99, 117, 114, 101], [109, 117, 108, 116, 105, 45, 115, 116, 97, 116, 101, 109, 101, 110, 116], [109, 117, 108, 116, 105, 45, 114, 101, 115, 117, 108, 116, 115], [112, 115, 45, 109, 117, 108, 116, 105, 45, 114, 101, 115, 117, 108, 116, 115], [112, 108, 117, 103, 105, 110, 45, 97, 117, 116, 104], [99, 111, 110, 110, 101, 99, 116, 45, 97, 116, 116, 114, 115], [108, 101, 110, 101, 110, 99, 45, 97, 117, 116, 104], [101, 120, 112, 105, 114, 101, 100], [115, 101, 115, 115, 105, 111, 110, 45, 116, 114, 97, 99, 107], [100, 101, 112, 114, 101, 99, 97, 116, 101, 45, 101, 111, 102]]

def nmOb : AM.Obj := ⟨tx nmL, 0, some 25, 1, true, false, 0⟩
def row0 : Row1 := ⟨24, [], .sl 0 0 25 0, [some nmOb]⟩
def rows0 : List Row1 := row0 :: []
set_option maxRecDepth 100000 in
theorem rows0_ok : RowsOk X rows0 := RowsOk.cons (rowT_below RowsOk.nil) RowsOk.nil (n := 400) (by kernel_rfl)

theorem lives_ev (H : AM.Heap) : Ev1 X 7 [] H (.bool true, H) :=
  Ev1.triedP (rowT_below rows0_ok) (n := 400) (f := 7) (args := []) (v := .bool true) (by kernel_rfl) rfl H

theorem names_ev (H : AM.Heap) : Ev1 X 24 [] H (.sl H.length 0 25 0, H ++ [some nmOb]) := by
  have := Ev1.frame (rows0_ok row0 (List.mem_singleton.2 rfl)).1 rfl H
  simpa [row0, shiftV, shiftH, ren, renObj, shiftN, nmOb, tx, nmL, renL] using this

end Go.Proofs.YtfkbemllgeopfaaDoor
