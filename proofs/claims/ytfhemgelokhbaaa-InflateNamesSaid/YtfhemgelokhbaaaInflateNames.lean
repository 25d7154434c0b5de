/- InflateNames: the closed statement returns true; proved by running the abstract machine on it, call by call. No conditions. -/
import Derived.Test.YtfhemgelokhbaaaRows
import Derived.Test.YtfhemgelokhbaaaAm3
import Derived.Test.YtfhemgelokhbaaaInflateRows
namespace Go.Proofs.Ytfhemgelokhbaaa
open Go.ChangeShapes Go.WideShapes Go.ChangeAt Go.RowKit

def row12 : AM.Row1 := ⟨4, [.ro 1 (.pb [1, 2, 0, 253, 255, 97, 98]) 1, .int .i64 1], .tup [.sl 0 0 0 0, .int .i64 0, .int .i64 3], [some ⟨.pb [], 0, .none, 0, true, false, 0⟩]⟩
def rows12 : List AM.Row1 := row12 :: rows11
set_option maxRecDepth 100000 in
theorem rows12_ok : AM.RowsOk X rows12 := AM.RowsOk.cons (AM.rowT_below rows11_ok) rows11_ok (n := 1000) (by kernel_rfl)
def row13 : AM.Row1 := ⟨4, [.ro 1 (.pb [7]) 1, .int .i64 1], .tup [.sl 0 0 0 0, .int .i64 0, .int .i64 5], [some ⟨.pb [], 0, .none, 0, true, false, 0⟩]⟩
def rows13 : List AM.Row1 := row13 :: rows12
set_option maxRecDepth 100000 in
theorem rows13_ok : AM.RowsOk X rows13 := AM.RowsOk.cons (AM.rowT_below rows12_ok) rows12_ok (n := 1000) (by kernel_rfl)
def row14 : AM.Row1 := ⟨4, [.ro 1 (.pb [1, 2, 0, 0, 0, 97, 98]) 1, .int .i64 100], .tup [.sl 0 0 0 0, .int .i64 0, .int .i64 5], [some ⟨.pb [], 0, .none, 0, true, false, 0⟩]⟩
def rows14 : List AM.Row1 := row14 :: rows13
set_option maxRecDepth 100000 in
theorem rows14_ok : AM.RowsOk X rows14 := AM.RowsOk.cons (AM.rowT_below rows13_ok) rows13_ok (n := 1000) (by kernel_rfl)
def row15 : AM.Row1 := ⟨20, [.ro 2 (.pi .i64 [8, 8, 8, 8, 8, 8, 8, 8, 8, 8, 8, 8, 8, 8, 8, 8, 8, 8, 8, 8, 8, 8, 8, 8, 8, 8, 8, 8, 8, 8, 8, 8, 8, 8, 8, 8, 8, 8, 8, 8, 8, 8, 8, 8, 8, 8, 8, 8, 8, 8, 8, 8, 8, 8, 8, 8, 8, 8, 8, 8, 8, 8, 8, 8, 8, 8, 8, 8, 8, 8, 8, 8, 8, 8, 8, 8, 8, 8, 8, 8, 8, 8, 8, 8, 8, 8, 8, 8, 8, 8, 8, 8, 8, 8, 8, 8, 8, 8, 8, 8, 8, 8, 8, 8, 8, 8, 8, 8, 8, 8, 8, 8, 8, 8, 8, 8, 8, 8, 8, 8, 8, 8, 8, 8, 8, 8, 8, 8, 8, 8, 8, 8, 8, 8, 8, 8, 8, 8, 8, 8, 8, 8, 8, 8, 9, 9, 9, 9, 9, 9, 9, 9, 9, 9, 9, 9, 9, 9, 9, 9, 9, 9, 9, 9, 9, 9, 9, 9, 9, 9, 9, 9, 9, 9, 9, 9, 9, 9, 9, 9, 9, 9, 9, 9, 9, 9, 9, 9, 9, 9, 9, 9, 9, 9, 9, 9, 9, 9, 9, 9, 9, 9, 9, 9, 9, 9, 9, 9, 9, 9, 9, 9, 9, 9, 9, 9, 9, 9, 9, 9, 9, 9, 9, 9, 9, 9, 9, 9, 9, 9, 9, 9, 9, 9, 9, 9, 9, 9, 9, 9, 9, 9, 9, 9, 9, 9, 9, 9, 9, 9, 9, 9, 9, 9, 9, 9, 7, 7, 7, 7, 7, 7, 7, 7, 7, 7, 7, 7, 7, 7, 7, 7, 7, 7, 7, 7, 7, 7, 7, 7, 8, 8, 8, 8, 8, 8, 8, 8]) 1, .ro 1 (.pb [75, 132, 0, 0]) 2, .int .i64 3], .tup [.int .i64 97, .int .i64 8, .int .i64 0], []⟩
def rows15 : List AM.Row1 := row15 :: rows14
set_option maxRecDepth 100000 in
theorem rows15_ok : AM.RowsOk X rows15 := AM.RowsOk.cons (AM.rowT_below rows14_ok) rows14_ok (n := 1000) (by kernel_rfl)
def row16 : AM.Row1 := ⟨20, [.ro 2 (.pi .i64 [8, 8, 8, 8, 8, 8, 8, 8, 8, 8, 8, 8, 8, 8, 8, 8, 8, 8, 8, 8, 8, 8, 8, 8, 8, 8, 8, 8, 8, 8, 8, 8, 8, 8, 8, 8, 8, 8, 8, 8, 8, 8, 8, 8, 8, 8, 8, 8, 8, 8, 8, 8, 8, 8, 8, 8, 8, 8, 8, 8, 8, 8, 8, 8, 8, 8, 8, 8, 8, 8, 8, 8, 8, 8, 8, 8, 8, 8, 8, 8, 8, 8, 8, 8, 8, 8, 8, 8, 8, 8, 8, 8, 8, 8, 8, 8, 8, 8, 8, 8, 8, 8, 8, 8, 8, 8, 8, 8, 8, 8, 8, 8, 8, 8, 8, 8, 8, 8, 8, 8, 8, 8, 8, 8, 8, 8, 8, 8, 8, 8, 8, 8, 8, 8, 8, 8, 8, 8, 8, 8, 8, 8, 8, 8, 9, 9, 9, 9, 9, 9, 9, 9, 9, 9, 9, 9, 9, 9, 9, 9, 9, 9, 9, 9, 9, 9, 9, 9, 9, 9, 9, 9, 9, 9, 9, 9, 9, 9, 9, 9, 9, 9, 9, 9, 9, 9, 9, 9, 9, 9, 9, 9, 9, 9, 9, 9, 9, 9, 9, 9, 9, 9, 9, 9, 9, 9, 9, 9, 9, 9, 9, 9, 9, 9, 9, 9, 9, 9, 9, 9, 9, 9, 9, 9, 9, 9, 9, 9, 9, 9, 9, 9, 9, 9, 9, 9, 9, 9, 9, 9, 9, 9, 9, 9, 9, 9, 9, 9, 9, 9, 9, 9, 9, 9, 9, 9, 7, 7, 7, 7, 7, 7, 7, 7, 7, 7, 7, 7, 7, 7, 7, 7, 7, 7, 7, 7, 7, 7, 7, 7, 8, 8, 8, 8, 8, 8, 8, 8]) 1, .ro 1 (.pb [75, 132, 0, 0]) 2, .int .i64 11], .tup [.int .i64 260, .int .i64 7, .int .i64 0], []⟩
def rows16 : List AM.Row1 := row16 :: rows15
set_option maxRecDepth 100000 in
theorem rows16_ok : AM.RowsOk X rows16 := AM.RowsOk.cons (AM.rowT_below rows15_ok) rows15_ok (n := 1000) (by kernel_rfl)
def row17 : AM.Row1 := ⟨21, [.ro 2 (.pi .i64 [5, 5, 5, 5, 5, 5, 5, 5, 5, 5, 5, 5, 5, 5, 5, 5, 5, 5, 5, 5, 5, 5, 5, 5, 5, 5, 5, 5, 5, 5, 5, 5]) 1], .tup [.agg (.pi .i64 [0, 0, 0, 0, 0, 32, 0, 0, 0, 0, 0, 0, 0, 0, 0, 0]), .int .i64 0], []⟩
def rows17 : List AM.Row1 := row17 :: rows16
set_option maxRecDepth 100000 in
theorem rows17_ok : AM.RowsOk X rows17 := AM.RowsOk.cons (AM.rowT_below rows16_ok) rows16_ok (n := 1000) (by kernel_rfl)
def row18 : AM.Row1 := ⟨16, [.ro 2 (.pi .i64 [5, 5, 5, 5, 5, 5, 5, 5, 5, 5, 5, 5, 5, 5, 5, 5, 5, 5, 5, 5, 5, 5, 5, 5, 5, 5, 5, 5, 5, 5, 5, 5]) 1], .tup [.bool true, .int .i64 0], []⟩
def rows18 : List AM.Row1 := row18 :: rows17
set_option maxRecDepth 100000 in
theorem rows18_ok : AM.RowsOk X rows18 := AM.RowsOk.cons (AM.rowT_below rows17_ok) rows17_ok (n := 1000) (by kernel_rfl)
def row19 : AM.Row1 := ⟨24, [.agg (.pi .i64 [0, 0, 0, 0, 0, 32, 0, 0, 0, 0, 0, 0, 0, 0, 0, 0])], .agg (.pi .i64 [0, 0, 0, 0, 0, 0, 64, 128, 256, 512, 1024, 2048, 4096, 8192, 16384, 32768, 65536]), []⟩
def rows19 : List AM.Row1 := row19 :: rows18
set_option maxRecDepth 100000 in
theorem rows19_ok : AM.RowsOk X rows19 := AM.RowsOk.cons (AM.rowT_below rows18_ok) rows18_ok (n := 1000) (by kernel_rfl)
def row20 : AM.Row1 := ⟨20, [.ro 2 (.pi .i64 [5, 5, 5, 5, 5, 5, 5, 5, 5, 5, 5, 5, 5, 5, 5, 5, 5, 5, 5, 5, 5, 5, 5, 5, 5, 5, 5, 5, 5, 5, 5, 5]) 1, .ro 1 (.pb [75, 132, 0, 0]) 2, .int .i64 18], .tup [.int .i64 0, .int .i64 5, .int .i64 0], []⟩
def rows20 : List AM.Row1 := row20 :: rows19
set_option maxRecDepth 100000 in
theorem rows20_ok : AM.RowsOk X rows20 := AM.RowsOk.cons (AM.rowT_below rows19_ok) rows19_ok (n := 1000) (by kernel_rfl)
def row21 : AM.Row1 := ⟨20, [.ro 2 (.pi .i64 [8, 8, 8, 8, 8, 8, 8, 8, 8, 8, 8, 8, 8, 8, 8, 8, 8, 8, 8, 8, 8, 8, 8, 8, 8, 8, 8, 8, 8, 8, 8, 8, 8, 8, 8, 8, 8, 8, 8, 8, 8, 8, 8, 8, 8, 8, 8, 8, 8, 8, 8, 8, 8, 8, 8, 8, 8, 8, 8, 8, 8, 8, 8, 8, 8, 8, 8, 8, 8, 8, 8, 8, 8, 8, 8, 8, 8, 8, 8, 8, 8, 8, 8, 8, 8, 8, 8, 8, 8, 8, 8, 8, 8, 8, 8, 8, 8, 8, 8, 8, 8, 8, 8, 8, 8, 8, 8, 8, 8, 8, 8, 8, 8, 8, 8, 8, 8, 8, 8, 8, 8, 8, 8, 8, 8, 8, 8, 8, 8, 8, 8, 8, 8, 8, 8, 8, 8, 8, 8, 8, 8, 8, 8, 8, 9, 9, 9, 9, 9, 9, 9, 9, 9, 9, 9, 9, 9, 9, 9, 9, 9, 9, 9, 9, 9, 9, 9, 9, 9, 9, 9, 9, 9, 9, 9, 9, 9, 9, 9, 9, 9, 9, 9, 9, 9, 9, 9, 9, 9, 9, 9, 9, 9, 9, 9, 9, 9, 9, 9, 9, 9, 9, 9, 9, 9, 9, 9, 9, 9, 9, 9, 9, 9, 9, 9, 9, 9, 9, 9, 9, 9, 9, 9, 9, 9, 9, 9, 9, 9, 9, 9, 9, 9, 9, 9, 9, 9, 9, 9, 9, 9, 9, 9, 9, 9, 9, 9, 9, 9, 9, 9, 9, 9, 9, 9, 9, 7, 7, 7, 7, 7, 7, 7, 7, 7, 7, 7, 7, 7, 7, 7, 7, 7, 7, 7, 7, 7, 7, 7, 7, 8, 8, 8, 8, 8, 8, 8, 8]) 1, .ro 1 (.pb [75, 132, 0, 0]) 2, .int .i64 23], .tup [.int .i64 256, .int .i64 7, .int .i64 0], []⟩
def rows21 : List AM.Row1 := row21 :: rows20
set_option maxRecDepth 100000 in
theorem rows21_ok : AM.RowsOk X rows21 := AM.RowsOk.cons (AM.rowT_below rows20_ok) rows20_ok (n := 1000) (by kernel_rfl)
def row22 : AM.Row1 := ⟨4, [.ro 1 (.pb [75, 132, 0, 0]) 1, .int .i64 100], .tup [.sl 0 0 7 0, .int .i64 4, .int .i64 0], [some ⟨.pb [97, 97, 97, 97, 97, 97, 97], 0, .none, 1, true, false, 1⟩]⟩
def rows22 : List AM.Row1 := row22 :: rows21
set_option maxRecDepth 100000 in
theorem rows22_ok : AM.RowsOk X rows22 := AM.RowsOk.cons (AM.rowT_below rows21_ok) rows21_ok (n := 1000) (by kernel_rfl)
def row23 : AM.Row1 := ⟨4, [.ro 1 (.pb [1, 2, 0, 253, 255, 97, 98]) 1, .int .i64 100], .tup [.sl 0 0 2 0, .int .i64 7, .int .i64 0], [some ⟨.pb [97, 98], 0, .none, 1, true, false, 1⟩]⟩
def rows23 : List AM.Row1 := row23 :: rows22
set_option maxRecDepth 100000 in
theorem rows23_ok : AM.RowsOk X rows23 := AM.RowsOk.cons (AM.rowT_below rows22_ok) rows22_ok (n := 1000) (by kernel_rfl)

set_option maxRecDepth 100000 in
theorem inflateNames_run : ∃ n H', AM.callF X n 3 [] [] = some (.bool true, H') := AM.true_of_tab (AM.rowT_below rows23_ok) (n := 1000) (by kernel_rfl)

set_option maxRecDepth 100000 in
theorem inflateNames_lifted (os : Os) (started : os.Started) (H : Type) (enc : TypeId × Value → H) :
    ReturnsInHanded {} Try.checked os 3 .any (Rows.inflateNamesSpec.pre6 enc Try.prog Try.f3 Rows.inflateNamesRow.domain false) (Rows.inflateNamesSpec.post enc Try.prog Try.f3 false true false false) := by
  refine AM.law_lifted (D := Try.checked) (X := X) rfl ctxOk (fun _ => rfl) own started (by kernel_rfl) Try.func3
    (ChangeSpec.witness6 (enc := enc) (C := Try.checked) false ⟨#[], #[], []⟩ 8 (by kernel_rfl) (by kernel_rfl) (by kernel_rfl) (by kernel_rfl)) (by kernel_rfl) (by kernel_rfl) full (by intro t ht; cases ht) rfl rfl (by kernel_rfl) ?_ ?_
  · intro ds hd
    cases ds with
    | nil => rfl
    | cons => cases hd
  · intro W base args ds ps _ hA
    obtain ⟨n, H', h⟩ := inflateNames_run
    have hA' : DataW.TrodAll enc Try.prog W 0 (fun _ => true) true [] args.toList ds ps := hA
    obtain ⟨rfl, _, _⟩ := trodAll_none hA'
    exact ⟨n, [], H', h, trivial⟩

theorem inflateNames_holds : Rows.InflateNamesSaid :=
  OpenClaim.holds_of_wide 3 Try.f3 rfl rfl rfl rfl rfl rfl rfl ⟨rfl, rfl, rfl, rfl, rfl⟩ rfl rfl rfl rfl rfl (by kernel_rfl) Try.func3 (by kernel_rfl)
    (of_decide_eq_true (by kernel_rfl)) (by unfold Func.isWrapper; first | (rw [if_pos (by decide +kernel)]; kernel_rfl) | (rw [if_neg (by decide +kernel)]; exact ⟨rfl, rfl⟩))
    (fun os started H enc _ => inflateNames_lifted os started H enc)

end Go.Proofs.Ytfhemgelokhbaaa
