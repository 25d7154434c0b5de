/- CapsNames: the closed statement returns true, as its tied card says; proved by running the abstract machine on it, call by call. No conditions. -/
import Derived.Test.YtfkbemllgeopfaaDoorRows
import Derived.Test.YtfkbemllgeopfaaDoorCards
import Derived.Test.YtfkbemllgeopfaaDoorTie
import Derived.Lay
import Derived.Test.YtfkbemllgeopfaaDoorAm3
namespace Go.Proofs.YtfkbemllgeopfaaDoor
open Go.ChangeShapes Go.WideShapes Go.ChangeAt Go.RowKit

def keepT : List (List (List Nat)) := [[], [], [[]], [[0, 1, 2], [0, 1, 2, 10], [6], [0, 1, 2, 7], [0, 1, 7, 8], [6]], [[0, 1], [0, 1, 8], [4], [0, 1, 5, 6], [4]], [[], [1], [1, 2], [1, 2, 4], [1, 2, 4, 6], [1, 2, 4, 6, 7], [0]], [[0, 1, 2, 3], [0, 1, 2, 3, 14], [8], [0, 1, 2, 3, 17], [8], [0, 1, 2, 3, 9, 10], [0, 1, 3, 9, 10, 11, 12], [8]], [[], [1, 2], [0]], [[0, 1], [5], [5, 11, 12, 13], [5, 11, 12, 13, 14], [5, 7, 11, 12, 13], [5, 7, 11, 12, 13, 21], [5, 11, 12, 13], [5, 11, 12, 13], [4]], [[0, 3], [0, 3, 4], [0, 3, 4, 5], [0, 3, 4, 5, 6], [0, 3, 4, 5, 6, 12], [0, 3, 4, 5, 6], [0, 3, 4, 5, 6], [3, 4, 5, 21, 22, 23], [3, 4, 5, 21, 22, 23, 24], [3, 4, 5, 7, 8, 21, 22, 23], [3, 4, 5, 7, 9, 21, 22, 23], [3, 4, 5, 7, 9, 21, 22, 23, 32], [2, 3], [3, 4, 5, 21, 22, 23], [3, 4, 5, 21, 22, 23], [2, 3]], [[0], [0, 3], [0, 3, 4], [0, 3, 4, 7], [0, 3, 4, 7, 8], [0, 3, 4, 5, 7], [0, 3, 4, 7], [0, 3, 4, 5, 7, 16], [0, 3, 4, 5, 7, 22], [0, 3, 4, 7], [0, 3, 4, 7], [2]], [[0, 1], [0, 1, 10], [4], [0, 1, 5], [0, 1, 5, 14], [0, 1, 5], [0, 1, 5, 25], [4], [4]], [[0], [0, 3], [0, 3, 4], [0, 3, 4, 10], [0, 3, 4, 10, 11], [0, 3, 4, 5, 10], [0, 3, 4, 5, 10, 17], [0, 3, 4, 5, 6, 7, 10], [0, 3, 4, 5, 6, 10, 25], [0, 3, 4, 6, 10], [0, 3, 4, 10], [0, 3, 4, 10], [2]], [[], [0]], [[0], [7], [2], [2]], [[], [0]], [[0, 3], [0, 3, 4], [0, 3, 4, 5], [0, 3, 4, 5, 11], [0, 3, 4, 5], [0, 3, 4, 5, 6], [0, 3, 4, 5, 6, 7], [0, 3, 4, 5, 6, 7, 15], [0, 3, 4, 5, 6, 7], [0, 3, 4, 5, 6, 7, 24], [0, 3, 4, 5, 6, 7], [0, 3, 4, 5, 6, 27], [2, 3], [0, 3, 4, 5], [2, 3]], [[], [0]], [[], [0]], [[0, 1], [5], [5], [5], [4]], [[0], [7], [2], [2]], [[0], [0, 3], [0, 3, 4], [0, 3, 4, 6], [0, 3, 4], [0, 3, 4, 14], [0, 3, 4], [2]], [[0], [0, 3], [0, 3, 4], [0, 3, 4, 6], [0, 3, 4], [0, 3, 4, 14], [0, 3, 4, 15], [0, 3, 4], [0, 3, 4, 15, 21], [0, 3, 4], [0, 3, 4, 15, 26], [0, 3, 4], [0, 3, 4, 15, 31], [0, 3, 4], [0, 3, 4, 15, 36], [0, 3, 4], [0, 3, 4, 15, 41], [0, 3, 4], [0, 3, 4, 15, 46], [0, 3, 4], [0, 3, 4, 51], [0, 3, 4], [2]], [[], [1], [0]], [[], [0]], [[0], [2]], [[0, 1], [0, 1, 7, 8], [0, 1, 7, 8, 9], [0, 1, 5, 7, 8], [0, 1, 5, 7, 8, 16], [4], [0, 1, 7, 8], [4]], [[0], [0, 3], [0, 3, 8], [2], [2]], [[0, 1, 2], [0, 2, 10], [6], [6]], [[0], [0, 4], [2], [2]], [[0], [0, 3], [0, 3, 4], [0, 3, 4, 5], [0, 3, 4, 5, 6], [0, 3, 4, 5, 6, 16], [0, 3, 4, 5, 6], [0, 3, 4, 5, 6, 7], [0, 3, 4, 5, 6, 7], [0, 3, 4, 5, 6, 8], [0, 3, 5, 6, 8], [0, 3, 4, 5, 6], [0, 3, 37], [2], [0, 9], [0, 9, 10], [0, 9, 10], [0, 9, 10, 12], [0, 9, 10, 12, 53], [0, 9, 10, 12], [0, 9, 10, 11, 12], [0, 9, 10, 11, 12, 60], [0, 9, 10, 11, 12, 66], [0, 9, 10, 11, 12], [0, 9, 10, 12], [0, 9, 10, 12], [0, 9, 10, 12], [0, 9, 10, 12, 91], [0, 9, 10, 12], [0, 9, 10, 11, 12], [0, 9, 10, 11, 98], [9], [2]], [[0], [2]], [[0, 1], [0, 1, 5], [0, 1, 5, 6], [0, 1, 5, 6, 14], [0, 1, 5, 6, 14, 15, 16], [0, 1, 5, 6, 7, 8, 14], [0, 1, 5, 6, 7, 14, 21], [0, 1, 5, 6, 7, 14, 23], [0, 1, 5, 6, 14], [0, 1, 5, 6, 14], [0, 1, 5, 6, 7, 14, 33], [0, 1, 5, 6, 14], [0, 5, 6, 36], [0, 5], [0, 5, 9], [0, 9, 47, 48, 49], [0, 9, 47, 48, 49, 50], [0, 9, 10, 11, 47, 48, 49], [0, 9, 47, 48, 49], [0, 9, 47, 48, 49], [4]], [[0], [0, 5], [6], [6, 7], [6, 7], [6, 7], [6, 7], [6, 7], [6, 7], [6, 7], [7], [2], [2], [2]], [[0, 1], [0, 1, 11], [0, 17], [4], [0, 5], [0, 5, 6], [0, 5, 6, 23], [0, 5, 6], [0, 5, 6, 7], [0, 5, 7], [5, 7, 34], [5, 7], [4], [4], [9], [4]], [[0, 1], [0, 1, 5], [0, 1, 5, 6], [0, 1, 5, 6, 32], [4], [1, 7], [1, 7, 54], [4], [4]], [[0], [0, 4], [2], [2]], [[0], [0, 3], [2]], [[0, 1, 4], [0, 1, 4, 20], [0, 1, 4, 5], [0, 1, 4, 5], [0, 1, 4, 6, 7], [0, 1, 4, 6, 8, 9], [0, 1, 4, 8, 9, 10, 11], [0, 1, 4, 8, 10, 11], [0, 1, 4, 10, 11], [0, 1, 4, 10], [0, 1, 4], [0, 1, 4], [0, 4, 12], [0, 4, 12, 99], [0, 4, 12, 13], [0, 4, 12, 13], [0, 4, 12, 14, 15], [0, 4, 12, 14], [0, 4, 12], [0, 4, 12], [0, 4, 12, 139], [0, 4, 12, 16], [0, 4, 12, 16], [0, 4, 12], [0, 4, 12], [0, 12, 161], []], [[0, 1, 2, 3, 4, 10, 11], [0, 1, 2, 3, 4, 10, 11, 28], [0, 1, 2, 3, 4, 10, 11], [0, 1, 2, 3, 4, 10, 11, 12], [0, 1, 2, 3, 4, 10, 11, 12, 13], [0, 1, 2, 3, 4, 10, 11, 12, 13, 30], [0, 1, 2, 3, 4, 10, 11, 12, 13], [0, 1, 2, 3, 4, 10, 11, 12, 13, 34], [0, 1, 2, 3, 4, 10, 11, 12, 13, 14], [0, 1, 2, 3, 4, 10, 11, 12, 13, 14, 15], [0, 1, 3, 4, 10, 11, 12, 13, 14, 15, 16], [0, 1, 3, 4, 10, 11, 12, 13, 14, 15, 16, 46], [0, 1, 3, 4, 10, 11, 12, 13, 14, 15, 16], [0, 1, 3, 4, 10, 11, 12, 13, 14, 15, 16], [0, 1, 3, 4, 10, 11, 12, 13, 14, 15, 16], [0, 1, 3, 4, 10, 11, 12, 13], [0, 3, 4, 10, 11, 12, 13], [0, 1, 3, 4, 10, 11, 12, 13, 17], [0, 1, 3, 4, 10, 11, 12, 13, 17, 68], [0, 1, 3, 4, 10, 11, 12, 13, 17], [0, 1, 3, 4, 10, 11, 12, 13, 17, 18], [0, 3, 4, 10, 11, 12, 13, 17, 18], [0, 1, 3, 4, 10, 11, 12, 13, 17], [0, 1, 3, 4, 10, 11, 12, 13], [0, 3, 4, 10, 11, 12, 13], [0, 4, 10, 11, 12, 13, 89], [0, 4, 10, 11, 12, 13], [0, 4, 10, 11, 12, 13], [0, 10, 11, 12, 13, 94], [10, 11], [10, 11]], [[0, 1], [0, 1, 17], [0, 1, 19, 20], [0, 1, 19, 20, 21], [0, 1, 5, 19, 20], [0, 1, 6, 19, 20], [0, 1, 6, 19, 20, 31], [4], [0, 1, 6, 19, 20, 37], [4], [0, 1, 19, 20], [4], [0, 1, 7], [0, 1, 7, 8], [0, 1, 7, 8, 62], [0, 1, 7, 8, 9], [0, 1, 7, 8, 9, 10], [0, 1, 7, 8, 9, 10, 85], [4], [0, 1, 7, 8, 9, 110], [0, 1, 7, 8], [0, 1, 7, 8], [4]], [[0, 1], [0, 1, 13], [0, 1, 15, 16], [0, 1, 15, 16, 17], [0, 1, 5, 15, 16], [0, 1, 6, 15, 16], [0, 1, 6, 15, 16, 27], [4], [0, 1, 6, 15, 16, 33], [4], [0, 1, 15, 16], [4], [0, 1, 7], [0, 1, 7, 8], [0, 1, 7, 8, 58], [0, 1, 7, 8, 9], [0, 1, 7, 8, 9, 10], [0, 1, 7, 8, 9, 10, 78], [4], [0, 1, 7, 8, 9, 95], [0, 1, 7, 8], [0, 1, 7, 8], [4]], [[0], [2]], [[0, 2], [0, 2, 4], [0], [0, 2], [0, 2, 8], [0, 2], [0, 2], [0, 2, 14], [0, 2], [0, 2], [2]], [[0], [3], [2], [2]], [[0], [2]], [[0], [2], [2]], [[0], [0, 4], [2], [2]], [[0], [0, 4], [2], [2]], [], [], [], [], [], [], [], [], [], [], [], [], [], [], [], [], [], [], [], [], [], [], [], [], [], [], [[], [], [], [], [], []]]

def globs : List (Nat × AM.AV) := [(0, .pb [0, 0, 0, 0, 0, 0, 0, 0, 0, 1, 1, 1, 1, 1, 0, 0, 0, 0, 0, 0, 0, 0, 0, 0, 0, 0, 0, 0, 0, 0, 0, 0, 1, 0, 0, 0, 0, 0, 0, 0, 0, 0, 0, 0, 0, 0, 0, 0, 0, 0, 0, 0, 0, 0, 0, 0, 0, 0, 0, 0, 0, 0, 0, 0, 0, 0, 0, 0, 0, 0, 0, 0, 0, 0, 0, 0, 0, 0, 0, 0, 0, 0, 0, 0, 0, 0, 0, 0, 0, 0, 0, 0, 0, 0, 0, 0, 0, 0, 0, 0, 0, 0, 0, 0, 0, 0, 0, 0, 0, 0, 0, 0, 0, 0, 0, 0, 0, 0, 0, 0, 0, 0, 0, 0, 0, 0, 0, 0, 0, 0, 0, 0, 0, 0, 0, 0, 0, 0, 0, 0, 0, 0, 0, 0, 0, 0, 0, 0, 0, 0, 0, 0, 0, 0, 0, 0, 0, 0, 0, 0, 0, 0, 0, 0, 0, 0, 0, 0, 0, 0, 0, 0, 0, 0, 0, 0, 0, 0, 0, 0, 0, 0, 0, 0, 0, 0, 0, 0, 0, 0, 0, 0, 0, 0, 0, 0, 0, 0, 0, 0, 0, 0, 0, 0, 0, 0, 0, 0, 0, 0, 0, 0, 0, 0, 0, 0, 0, 0, 0, 0, 0, 0, 0, 0, 0, 0, 0, 0, 0, 0, 0, 0, 0, 0, 0, 0, 0, 0, 0, 0, 0, 0, 0, 0, 0, 0, 0, 0, 0, 0, 0, 0, 0, 0, 0, 0])]

noncomputable def X : AM.Ctx := { P := Tryd.prog, G := AM.globF globs, rw := fun _ _ => false, keep := fun f i => ((keepT[f]?).getD [])[i]?, norm := fun _ _ => false, dr := fun _ _ => true, dy := fun f id => [(16, 9)].contains (f, id) }

theorem own : ownKnob Tryd.prog.godebug = .none := by kernel_rfl
theorem full : ∀ t e, t < Tryd.prog.types.size → Tryd.prog.underlying t = some (.slice e) → 0 < Tryd.prog.cellsOf e := slices_full_of Tryd.prog (by kernel_rfl)
theorem ctxOk : AM.CtxOk X := AM.ctxOk_of (by kernel_rfl) (by kernel_rfl)

set_option maxRecDepth 100000 in
theorem gOk (W : World) (h : laidMetH Tryd.prog Rows.capsNamesRow.laid W) : AM.GOk X W := by
  rw [Go.MakeChecks.laidMetH_plain _ _ _ (by kernel_rfl)] at h
  refine AM.gok_list (L := globs) rfl fun x hx => ?_
  simp only [globs, List.mem_cons, List.not_mem_nil, or_false] at hx
  rcases hx with hx
  · subst hx
    exact AM.gone_bytes (P := Tryd.prog) (l := [0, 0, 0, 0, 0, 0, 0, 0, 0, 1, 1, 1, 1, 1, 0, 0, 0, 0, 0, 0, 0, 0, 0, 0, 0, 0, 0, 0, 0, 0, 0, 0, 1, 0, 0, 0, 0, 0, 0, 0, 0, 0, 0, 0, 0, 0, 0, 0, 0, 0, 0, 0, 0, 0, 0, 0, 0, 0, 0, 0, 0, 0, 0, 0, 0, 0, 0, 0, 0, 0, 0, 0, 0, 0, 0, 0, 0, 0, 0, 0, 0, 0, 0, 0, 0, 0, 0, 0, 0, 0, 0, 0, 0, 0, 0, 0, 0, 0, 0, 0, 0, 0, 0, 0, 0, 0, 0, 0, 0, 0, 0, 0, 0, 0, 0, 0, 0, 0, 0, 0, 0, 0, 0, 0, 0, 0, 0, 0, 0, 0, 0, 0, 0, 0, 0, 0, 0, 0, 0, 0, 0, 0, 0, 0, 0, 0, 0, 0, 0, 0, 0, 0, 0, 0, 0, 0, 0, 0, 0, 0, 0, 0, 0, 0, 0, 0, 0, 0, 0, 0, 0, 0, 0, 0, 0, 0, 0, 0, 0, 0, 0, 0, 0, 0, 0, 0, 0, 0, 0, 0, 0, 0, 0, 0, 0, 0, 0, 0, 0, 0, 0, 0, 0, 0, 0, 0, 0, 0, 0, 0, 0, 0, 0, 0, 0, 0, 0, 0, 0, 0, 0, 0, 0, 0, 0, 0, 0, 0, 0, 0, 0, 0, 0, 0, 0, 0, 0, 0, 0, 0, 0, 0, 0, 0, 0, 0, 0, 0, 0, 0, 0, 0, 0, 0, 0, 0]) (AM.tab_cells (g := 0) (k := .u8) (zs := ([0, 0, 0, 0, 0, 0, 0, 0, 0, 1, 1, 1, 1, 1, 0, 0, 0, 0, 0, 0, 0, 0, 0, 0, 0, 0, 0, 0, 0, 0, 0, 0, 1, 0, 0, 0, 0, 0, 0, 0, 0, 0, 0, 0, 0, 0, 0, 0, 0, 0, 0, 0, 0, 0, 0, 0, 0, 0, 0, 0, 0, 0, 0, 0, 0, 0, 0, 0, 0, 0, 0, 0, 0, 0, 0, 0, 0, 0, 0, 0, 0, 0, 0, 0, 0, 0, 0, 0, 0, 0, 0, 0, 0, 0, 0, 0, 0, 0, 0, 0, 0, 0, 0, 0, 0, 0, 0, 0, 0, 0, 0, 0, 0, 0, 0, 0, 0, 0, 0, 0, 0, 0, 0, 0, 0, 0, 0, 0, 0, 0, 0, 0, 0, 0, 0, 0, 0, 0, 0, 0, 0, 0, 0, 0, 0, 0, 0, 0, 0, 0, 0, 0, 0, 0, 0, 0, 0, 0, 0, 0, 0, 0, 0, 0, 0, 0, 0, 0, 0, 0, 0, 0, 0, 0, 0, 0, 0, 0, 0, 0, 0, 0, 0, 0, 0, 0, 0, 0, 0, 0, 0, 0, 0, 0, 0, 0, 0, 0, 0, 0, 0, 0, 0, 0, 0, 0, 0, 0, 0, 0, 0, 0, 0, 0, 0, 0, 0, 0, 0, 0, 0, 0, 0, 0, 0, 0, 0, 0, 0, 0, 0, 0, 0, 0, 0, 0, 0, 0, 0, 0, 0, 0, 0, 0, 0, 0, 0, 0, 0, 0, 0, 0, 0, 0, 0, 0] : List UInt8).map fun b => (b.toNat : Int)) (t := 53) (e := 5) (n := 256) (show _ ∈ Rows.capsNamesRow.laid from .tail _ (.tail _ (.tail _ (.tail _ (.head _))))) (by kernel_rfl) (by kernel_rfl) (by kernel_rfl) (by kernel_rfl) (by kernel_rfl) (by kernel_rfl) h) (by kernel_rfl) (by kernel_rfl)

def row0 : AM.Row1 := ⟨24, [], .sl 0 0 25 0, [some ⟨.pc [.str [108, 111, 110, 103, 45, 112, 97, 115, 115, 119, 111, 114, 100], .str [102, 111, 117, 110, 100, 45, 114, 111, 119, 115], .str [108, 111, 110, 103, 45, 102, 108, 97, 103], .str [99, 111, 110, 110, 101, 99, 116, 45, 119, 105, 116, 104, 45, 100, 98], .str [110, 111, 45, 115, 99, 104, 101, 109, 97], .str [99, 111, 109, 112, 114, 101, 115, 115], .str [111, 100, 98, 99], .str [108, 111, 99, 97, 108, 45, 102, 105, 108, 101, 115], .str [105, 103, 110, 111, 114, 101, 45, 115, 112, 97, 99, 101], .str [112, 114, 111, 116, 111, 99, 111, 108, 45, 52, 49], .str [105, 110, 116, 101, 114, 97, 99, 116, 105, 118, 101], .str [115, 115, 108], .str [105, 103, 110, 111, 114, 101, 45, 115, 105, 103, 112, 105, 112, 101], .str [116, 114, 97, 110, 115, 97, 99, 116, 105, 111, 110, 115], .str [114, 101, 115, 101, 114, 118, 101, 100], .str [115, 101, 99, 117, 114, 101], .str [109, 117, 108, 116, 105, 45, 115, 116, 97, 116, 101, 109, 101, 110, 116], .str [109, 117, 108, 116, 105, 45, 114, 101, 115, 117, 108, 116, 115], .str [112, 115, 45, 109, 117, 108, 116, 105, 45, 114, 101, 115, 117, 108, 116, 115], .str [112, 108, 117, 103, 105, 110, 45, 97, 117, 116, 104], .str [99, 111, 110, 110, 101, 99, 116, 45, 97, 116, 116, 114, 115], .str [108, 101, 110, 101, 110, 99, 45, 97, 117, 116, 104], .str [101, 120, 112, 105, 114, 101, 100], .str [115, 101, 115, 115, 105, 111, 110, 45, 116, 114, 97, 99, 107], .str [100, 101, 112, 114, 101, 99, 97, 116, 101, 45, 101, 111, 102]], 0, some 25, 1, true, false, 0⟩]⟩
def rows0 : List AM.Row1 := row0 :: []
set_option maxRecDepth 100000 in
theorem rows0_ok : AM.RowsOk X rows0 := AM.RowsOk.cons (AM.rowT_below AM.RowsOk.nil) AM.RowsOk.nil (n := 400) (by kernel_rfl)

set_option maxRecDepth 100000 in
theorem capsNames_run : ∃ n H', AM.callF X n 5 [] [] = some (.bool true, H') := AM.true_of_tab (AM.rowT_below rows0_ok) (n := 400) (by kernel_rfl)

theorem witness_laid {H : Type} {enc : TypeId × Value → H} {C : Checked} {os : Os} {f : FuncId} {fn : Func} {s : ChangeSpec} {conds : List PathCond} {apart : Bool} {Y : World → Array Value → Prop} (w0 : World) (args : Array Value) (fuel : Nat) (hos : w0.os = os)
    (hsh : (w0.forCall (fun _ _ => 0) ⟨#[], args, []⟩).Shaped C.prog) (hok : Input.okWideB C.prog (w0.forCall (fun _ _ => 0) ⟨#[], args, []⟩) f ⟨#[], args, []⟩ = true)
    (hpre : s.preB enc C.prog fn conds apart (w0.forCall (fun _ _ => 0) ⟨#[], args, []⟩).memory args fuel = true) (hsz : s.sizedB enc C.prog fn apart (w0.forCall (fun _ _ => 0) ⟨#[], args, []⟩).memory args fuel = true)
    (hx : Y (w0.forCall (fun _ _ => 0) ⟨#[], args, []⟩).memory args) :
    ∃ (w : World) (tape : Tape) (i : Input), w.os = os ∧ (w.forCall tape i).Shaped C.prog ∧ i.vars = [] ∧ Input.okWide C.prog (w.forCall tape i) .any w.heap.size f i ∧
      ((s.pre enc C.prog fn conds apart (w.forCall tape i).memory i.args ∧ Y (w.forCall tape i).memory i.args) ∧ sizedMet enc C.prog fn (OpenSpec.ofChange s) apart (w.forCall tape i).memory i.args) ∧
      ({} : Assume).holds C.prog (lone (Frame.enter C.prog f i.args .normal) [] (w.forCall tape i)) := by
  refine ⟨w0, fun _ _ => 0, ⟨#[], args, []⟩, hos, hsh, (Input.okWide_of_okWideB (base := 0) hok).1, (Input.okWide_of_okWideB hok).2, ⟨⟨ChangeSpec.pre_of_preB hpre, hx⟩, sizedMet_of_sizedB hsz⟩, ?_⟩
  simp only [Assume.holds]
  exact ⟨by simp, by simp, fun _ => Modest.zero, by simp, by simp⟩

theorem capsNames_met (os : Os) (args : Array Value) : laidMetH Tryd.prog Rows.capsNamesRow.laid ((World.laidAll Tryd.prog os Rows.capsNamesRow.laid).forCall (fun _ _ => 0) ⟨#[], args, []⟩).memory := by
  rw [Go.MakeChecks.laidMetH_plain _ _ _ (by kernel_rfl)]
  exact laidMet_laidAll _ (by kernel_rfl) (by kernel_rfl)

set_option maxRecDepth 100000 in
theorem capsNames_lifted (os : Os) (started : os.Started) (H : Type) (enc : TypeId × Value → H) :
    ReturnsInHanded {} Tryd.checked os 5 .any (fun w args => (Rows.capsNamesSpec.pre enc Tryd.prog Tryd.f5 [] false w args ∧ laidMetH Tryd.prog Rows.capsNamesRow.laid w) ∧ sizedMet enc Tryd.prog Tryd.f5 (OpenSpec.ofChange Rows.capsNamesSpec) false w args)
      (Rows.capsNamesSpec.post enc Tryd.prog Tryd.f5 false true false false) := by
  refine AM.law_lifted_laid (D := Tryd.checked) (X := X) rfl ctxOk (fun W h => gOk W h) own started (by kernel_rfl) Tryd.func5
    (witness_laid (enc := enc) (C := Tryd.checked) (os := os) (Y := fun w _ => laidMetH Tryd.prog Rows.capsNamesRow.laid w) (World.laidAll Tryd.prog os Rows.capsNamesRow.laid) #[] 8 (World.laidAll_os _ _ _) (World.shaped_of_ZipB (by kernel_rfl) (by kernel_rfl)) (by kernel_rfl) (by kernel_rfl) (by kernel_rfl) (capsNames_met os _))
    (by kernel_rfl) (by kernel_rfl) full (by intro t ht; cases ht) rfl rfl (by kernel_rfl) ?_ ?_
  · intro ds hd
    cases ds with
    | nil => rfl
    | cons => cases hd
  · intro W base args ds ps _ hA
    obtain ⟨n, H', h⟩ := capsNames_run
    have hA' : DataW.TrodAll enc Tryd.prog W 0 (fun _ => true) true [] args.toList ds ps := hA
    obtain ⟨rfl, _, _⟩ := trodAll_none hA'
    exact ⟨n, [], H', h, trivial⟩

theorem capsNames_row : Rows.CapsNamesSaid :=
  OpenClaim.holds_of_wide 5 Tryd.f5 rfl rfl rfl rfl rfl rfl rfl ⟨rfl, rfl, rfl, rfl, rfl⟩ rfl rfl rfl rfl rfl (by kernel_rfl) Tryd.func5 (by kernel_rfl)
    (of_decide_eq_true (by kernel_rfl)) (by unfold Func.isWrapper; first | (rw [if_pos (by decide +kernel)]; kernel_rfl) | (rw [if_neg (by decide +kernel)]; exact ⟨rfl, rfl⟩))
    (fun os started H enc _ => capsNames_lifted os started H enc)

theorem capsNames_holds : Rows.CapsNamesCardSaid :=
  Claim7.holds_tied_plain_at .later [] [.data, .data, .data, .listed, .data] true (true, "e1a89c20f2859e1ede10f478735cb4ef32a0616888032d0052aea556b14c07ca") false
    capsNames_row (fun _ h => by cases h) (by kernel_rfl) (fun _ h => by cases h) capsNames_row_tie rfl ⟨rfl, rfl⟩ (by kernel_rfl) rfl
    (fun f fn hf hfn => by
      obtain rfl : f = 5 := Option.some.inj ((show Tryd.prog.funcNamed Rows.capsNamesRow.func = some 5 by kernel_rfl).symm.trans hf) |>.symm
      obtain rfl : fn = Tryd.f5 := (Option.some.inj (Tryd.func5.symm.trans hfn)).symm
      exact ⟨by kernel_rfl, fun j t ht => by
        have hp : Tryd.f5.params = #[] := rfl
        rw [hp] at ht
        simp at ht⟩)
    (by kernel_rfl)

end Go.Proofs.YtfkbemllgeopfaaDoor
