/- The seat's tables for the abstract machine, and what the set-up asks of the program. No conditions. -/
import Derived.Test.YtacgdhhappedoaaRows
import Derived.Test.YtacgdhhappedoaaAm3
namespace Go.Proofs.Ytacgdhhappedoaa

def keepT : List (List (List Nat)) := [[], [], [[]], [[0, 1, 2], [0, 1, 2, 18], [6], [0, 1, 2, 31], [6], [0, 1, 2, 7], [0, 1, 2, 8], [0, 1, 2, 8, 9, 10], [0, 1, 2, 8, 10, 11, 12], [0, 1, 2, 8, 10, 11, 12, 13, 14], [0, 1, 2, 8, 10, 11, 12, 14, 15, 16], [6]], [[0, 1, 2], [0, 1, 2, 9], [6], [0, 1, 2, 26], [6], [0, 1, 2, 7], [0, 7], [6]], [[], [1], [1, 2], [1, 2, 11], [1, 2], [1, 2], [1, 4], [1, 4, 6], [0]], [[0, 1], [0, 1, 10], [4], [0, 1, 23], [4], [0, 1, 5], [0, 1, 5, 6], [0, 1, 5, 6, 33], [0, 1, 5, 6], [0, 1, 6, 7, 8], [0, 1, 6, 7, 66], [4], [0, 1, 5, 6], [4]], [[], [1, 2], [0]], [[0], [2]], [[0, 1, 2], [0, 1, 2, 26], [6, 7], [1, 2, 8, 9], [2, 8, 9, 10, 11], [2, 9, 10, 11, 12], [2, 9, 11, 12, 13], [13, 14], [6, 7]], [[0, 1], [1, 5, 6], [1, 5, 6], [5, 6, 18, 19, 20], [5, 6, 18, 19, 20, 21], [5, 6, 8, 18, 19, 20], [5, 6, 18, 19, 20], [5, 6, 18, 19, 20], [5, 6, 18, 19, 20], [4]], [[0, 1, 2, 3], [0, 1, 2, 3, 21], [8, 9], [1, 2, 3, 10, 11], [1, 3, 11, 12], [11, 12, 13], [12, 14], [8, 9]], [[0], [3, 4], [2]], [[0], [2, 3]], [], [], [], [], [], [], [], [], [], [], [], [], [], [], [], []]

noncomputable def X : AM.Ctx := { P := Try.prog, G := fun _ => .none, rw := fun _ _ => false, keep := fun f i => ((keepT[f]?).getD [])[i]?, norm := fun _ _ => false, dr := fun _ _ => true, dy := fun f id => [].contains (f, id) }

theorem own : ownKnob Try.prog.godebug = .none := by kernel_rfl
theorem full : ∀ t e, t < Try.prog.types.size → Try.prog.underlying t = some (.slice e) → 0 < Try.prog.cellsOf e := slices_full_of Try.prog (by kernel_rfl)
theorem ctxOk : AM.CtxOk X := AM.ctxOk_of (by kernel_rfl) (by kernel_rfl)

end Go.Proofs.Ytacgdhhappedoaa
