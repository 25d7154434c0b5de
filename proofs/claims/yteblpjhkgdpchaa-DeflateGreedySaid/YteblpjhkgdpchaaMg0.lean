/- X to X: texts of this claim, one behind the other; what each shows stands at its head. -/
import Derived.Test.YteblpjhkgdpchaaRows
import Derived.Test.YteblpjhkgdpchaaAm3
/- The seat's tables for the abstract machine, and what walks ask of the program. No conditions. -/
namespace Go.Proofs.Yteblpjhkgdpchaa
open Go.AM

def keepT : List (List (List Nat)) := [[], [], [[]], [[], [1], [1, 2], [3], [3, 4], [3, 4, 6], [3, 4, 6, 8], [0]], [[0], [0, 5], [2], [0, 8], [2], [0, 3], [2]], [[0], [0, 10], [2], [0, 13], [2], [0, 3], [0, 3, 4], [0, 3, 4, 5], [0, 3, 4, 5, 19], [0, 3, 4, 5], [0, 3, 4, 5, 6], [0, 3, 4, 5, 6, 53], [2], [0, 3, 4, 5, 6, 7], [0, 3, 4, 5, 6, 7, 56], [0, 3, 4, 5, 6, 7], [0, 3, 4, 5, 6, 7, 8], [0, 3, 4, 5, 6, 7, 8, 85], [0, 3, 4, 5, 6, 7, 8], [0, 3, 4, 5, 6, 7, 116], [2], [0, 3, 4, 5], [2]], [[0], [0, 14], [2], [0, 17], [2], [0, 3, 4], [0, 3, 4, 5, 6], [0, 3, 4, 5, 6, 7, 8, 9], [0, 3, 4, 5, 6, 7, 8, 9, 10, 11, 12], [2]], [[0], [0, 11], [2], [0, 14], [2], [0, 3, 4], [3, 4, 5, 6], [3, 4, 5, 27], [2], [3, 5, 29], [2], [3, 5, 7, 8, 9], [2]], [[0], [0, 3], [0, 3, 4], [0, 3, 4, 8], [0, 3, 4], [0, 3, 4], [2]], [[0, 1], [0, 1, 10], [4], [0, 1, 5], [0, 1, 5, 14], [0, 1, 5], [0, 1, 5, 25], [4], [4]], [[1], [1, 3], [1, 3, 4], [1, 3, 4, 5], [1, 3, 4, 5, 6], [1, 3, 4, 5, 6, 18], [1, 3, 4, 5, 6, 7, 8], [1, 3, 4, 5, 6, 7, 8, 23], [1, 3, 4, 5, 6, 7, 8, 9], [1, 3, 4, 5, 6, 7, 8, 9, 10], [1, 3, 4, 5, 6, 7, 8, 9, 10, 58], [1, 3, 4, 5, 6, 7, 8, 9, 10], [1, 3, 4, 5, 6, 7, 8, 9, 10, 11], [1, 3, 4, 5, 6, 7, 8, 9, 10, 11, 70], [1, 3, 4, 5, 6, 7, 8, 9, 10], [1, 3, 4, 5, 6, 7, 8, 12], [1, 3, 4, 5, 6, 7, 8, 12, 84], [1, 3, 4, 5, 6, 12], [1, 3, 4, 5, 6, 12], [1, 3, 4, 5, 6, 94, 95], [1, 3, 4, 5, 6, 94, 95, 96], [1, 3, 4, 5, 6, 94, 95], [1, 3, 4, 5, 6, 94, 95], [1, 3, 4, 5, 6, 94, 95], [2]], [[0, 1], [4]], [[0], [0, 3], [3, 5], [3, 5, 18], [2], [2]], [[0], [0, 3], [0, 3, 4], [0, 3, 4, 5], [0, 3, 4, 5, 14], [0, 3, 4, 5], [0, 3, 4, 5], [0, 3, 4, 5], [0, 3, 4, 5], [0, 3, 4, 5], [0, 3, 4, 5], [0, 3, 4, 5], [0, 3, 5], [0, 3, 58], [2]], [[0], [0, 4], [4, 7, 8, 9], [4, 7, 8, 9, 10], [4, 6, 7, 8, 9], [4, 6, 7, 8, 9, 15], [2, 3], [4, 6, 7, 8, 9, 18], [4, 7, 8, 9], [4, 6, 7, 8, 9, 28], [2, 3], [4, 6, 7, 8, 9, 30, 31], [4, 6, 7, 8, 9, 30, 31, 32], [4, 6, 7, 8, 9, 30, 31], [4, 6, 7, 8, 9, 30, 31], [4, 7, 8, 9], [2, 3]], [[], [0]], [[0], [2]], [[0], [0, 3], [0, 3, 4], [0, 3, 4, 12], [0, 3, 4, 5, 6], [0, 3, 4, 5, 6, 7], [0, 3, 4, 5, 6, 7, 23], [0, 3, 4, 5, 6, 7], [0, 3, 4, 5, 6, 7, 8], [0, 3, 4, 5, 6, 7, 8, 32], [0, 3, 4, 5, 6, 7], [0, 3, 4, 5, 6, 36], [0, 3, 4, 5], [0, 3, 4], [0, 3, 4], [0, 3, 4], [2]], [[0], [0, 3], [0, 3, 4], [0, 3, 4, 14], [0, 3, 4, 5], [0, 3, 4, 5, 6], [0, 3, 4, 5, 6, 25], [0, 3, 4, 5, 6], [0, 3, 4, 5, 6], [0, 3, 4, 5, 6], [0, 3, 4, 6], [0, 3, 4, 54], [2], [2]], [[0], [0, 3], [3, 5], [3, 5, 18], [2], [2]], [[0, 1], [0, 1, 18], [4], [5], [5, 6], [5, 6, 33], [5, 6], [5, 6, 40], [4], [4]], [[0, 1], [0, 1, 9], [4, 5, 6], [7], [7], [7, 20], [4, 5, 6], [4, 5, 6]], [[0], [0, 5], [0, 5, 24], [2, 3], [0, 6, 7], [0, 6, 7, 8], [0, 6, 7, 8, 10], [0, 6, 7, 8, 10, 12], [0, 6, 7, 8, 10, 12], [0, 6, 7, 8, 10, 12], [6, 7, 8, 10, 12, 46, 47, 48], [6, 7, 8, 10, 12, 46, 47, 48, 49], [6, 7, 8, 10, 12, 14, 46, 47, 48], [6, 7, 8, 10, 12, 14, 46, 47, 48, 54], [6, 7, 8, 10, 12, 46, 47, 48], [6, 7, 8, 10, 12, 14, 15, 16, 17, 46, 47, 48], [6, 7, 8, 10, 12, 14, 16, 17, 46, 47, 48], [6, 7, 8, 10, 12, 14, 46, 47, 48], [6, 7, 8, 10, 12, 14, 15, 16, 17, 46, 47, 48], [6, 7, 8, 10, 12, 14, 16, 17, 46, 47, 48], [6, 7, 8, 10, 12, 46, 47, 48], [6, 7, 8, 10, 12, 46, 47, 48], [12], [2, 3]], [[0, 1, 2, 9], [0, 2, 4], []], [[0, 1, 2], [0, 1, 2, 7], [0, 1, 2, 7, 32], [0, 1, 2, 7], [6]], [[0, 1, 7, 8], [0, 1, 7, 8, 9], [0, 1, 6, 7, 8], [0, 1, 7, 8], [0, 1, 7, 8]], [[1], [1, 5], [2], [2]], [[0, 1, 2], [0, 1, 2, 7], [0, 1, 2, 7, 34], [0, 1, 2, 7], [6]], [[0], [0, 5], [0, 5, 24], [2, 3], [0, 6, 7], [0, 6, 7, 8], [0, 6, 7, 8, 10], [0, 6, 7, 8, 10, 12], [0, 6, 7, 8, 10, 12], [0, 6, 7, 8, 10, 12], [0, 6, 7, 8, 10, 12, 13], [0, 6, 7, 8, 10, 12, 13, 49], [0, 6, 7, 8, 10, 12, 13], [0, 6, 7, 8, 10, 12, 13, 57], [0, 6, 7, 8, 10, 12, 13, 14], [0, 6, 7, 8, 10, 12, 13], [0, 6, 7, 8, 10, 12, 13, 15], [0, 6, 7, 8, 10, 12, 13, 15, 16, 17], [0, 6, 7, 8, 10, 12, 13, 16, 17], [0, 6, 7, 8, 10, 12, 13], [0, 6, 7, 8, 10, 12, 13, 15], [0, 6, 7, 8, 10, 12, 13, 15, 16, 17], [0, 6, 7, 8, 10, 12, 13, 16, 17], [0, 6, 7, 8, 10, 12, 13], [12], [2, 3]], [[0], [0, 3], [0, 3, 4], [0, 3, 17], [0, 3, 5], [0, 3, 5, 6], [0, 3, 5, 6], [0, 3, 5, 6], [0, 3, 5, 6, 39], [0, 3, 5, 6, 41], [0, 3, 5, 6], [0, 3, 5, 6, 41, 44], [0, 3, 5, 6], [0, 3, 5, 6, 41, 48], [0, 3, 5, 6], [0, 3, 5, 6, 55], [0, 3, 5, 6, 7, 8], [0, 3, 5, 6], [0, 3, 5], [0, 3, 4], [2]], [[0, 1], [0, 1, 4], [0, 1, 4, 5], [0, 1, 2, 4], [0, 1, 2, 3, 4], [0, 1, 2, 3, 4, 7], [0, 1, 3, 4], [0, 1, 3, 4, 14], [0, 1, 3, 4], [0, 1, 4], [0, 1, 4], [0, 1, 26], [0, 1, 26, 27], [0, 1, 26], [0, 1, 26], [0, 1]], [[0], [0, 5], [0, 5, 18], [2, 3], [0, 6], [0, 8], [0, 8, 9], [8, 9, 30, 31, 32], [8, 9, 30, 31, 32, 33], [8, 9, 10, 11, 30, 31, 32], [8, 9, 10, 11, 30, 31, 32], [8, 9, 10, 11, 30, 31, 32, 41], [8, 9, 11, 30, 31, 32], [8, 9, 30, 31, 32], [8, 9, 30, 31, 32], [2, 3]], [[0, 1, 6], [0, 1, 6, 10], [0, 1, 6], [0, 1, 6]], [[0], [0, 6], [2, 3, 4], [0, 9], [2, 3, 4], [0, 2, 3], [0, 2, 3, 4], [0, 2, 3, 4], [0, 2, 3, 4, 15], [0, 2, 3, 4, 15, 16], [0, 2, 3, 4, 15, 22], [2, 3, 4], [0, 2, 3, 4, 15], [0, 2, 3, 4, 15]], [[0], [0, 6], [2, 3, 4], [0, 2, 3], [0, 2, 3, 4], [0, 2, 3, 4], [0, 2, 3, 4, 12], [0, 2, 3, 4, 12, 13], [0, 2, 3, 4, 12, 19], [2, 3, 4], [0, 2, 3, 4, 12], [0, 2, 3, 4, 12]], [[0, 1, 9], [0, 1], [0], []], [[0], [0, 4], [0, 4, 5], [0, 4, 5, 10], [0, 4, 5], [0, 4, 5, 18], [2, 3], [0, 4, 5, 24], [0, 4, 5], [0, 4, 5, 40], [2, 3], [0, 4, 5, 6], [0, 4, 5, 6, 47], [0, 4, 5, 6], [0, 4, 5, 6], [2, 3]], [[], [2, 3], [2, 3, 4], [2, 3, 4, 9], [2, 3, 4], [2, 3, 4], [2, 3, 4, 16], [2, 3, 4], [2, 3, 4, 21], [2, 3, 4], [2, 3, 4, 26], [2, 3, 4], [2, 3, 5], [2, 3, 5, 31], [2, 3, 5], [2, 3, 5], [0, 1]], [[0], [0, 5], [0, 5, 18], [2, 3], [0, 6], [0, 6, 7, 8], [0, 6, 7, 8, 9], [0, 6, 7, 8, 9, 24], [0, 6, 7, 8, 9], [0, 6, 7, 8, 9, 10], [0, 6, 7, 8, 9, 10, 30], [0, 6, 7, 8, 9, 10], [0, 6, 7, 8, 9, 10, 38], [0, 6, 7, 8, 9, 10, 40], [0, 6, 7, 9, 10], [0, 6, 7, 8, 9, 10], [0, 6, 11], [0, 6, 11, 56], [0, 6, 11], [0, 6, 11, 63], [0, 6, 11], [2, 3]], [[0, 1, 2, 6], [0, 1, 2, 6, 9], [0, 1, 2, 6], [0, 1, 2, 6], [0, 1, 2, 6]], [[0, 1, 6], [0, 1, 6, 10], [0, 1, 6], [0, 1, 6], [0, 1, 6]], [[0], [0, 8], [2], [0, 3], [0, 3, 4], [0, 3, 4, 10], [0, 3, 4], [0, 3, 4, 5], [0, 3, 4, 20], [0, 3, 4], [2]], [[0], [0, 6], [2, 3], [0, 8], [2, 3], [0, 4], [2, 3]], [[0], [0, 3], [0, 3, 4], [0, 3, 4, 8], [0, 3, 4], [0, 3, 4, 5], [0, 3, 4, 18], [0, 3, 4], [2]], [[0], [0, 6], [2, 3], [0, 4], [2, 3]], [[0, 1], [0, 1, 5], [0, 1, 5, 6], [0, 1, 5, 6, 16], [0, 1, 5, 6], [0, 1, 5, 6, 29], [], [4], [0, 1, 5, 6], [0, 1, 5, 6], [4]], [[0], [0, 2], [0, 2, 3], [0, 2, 29], [0, 2], [0, 2, 4], [0, 2, 4, 41], [0, 2, 4], [0, 2, 4]], [[0, 1, 2, 11], [0, 1, 2, 6], [0, 1, 2], [0, 1, 2, 6, 19], [0, 1, 2, 6, 29], [0, 1, 2]], [[0], [0, 4, 5, 6], [0, 4, 5, 6, 36], [0, 4, 5, 6], [0, 4, 5, 6, 7], [0, 4, 5, 6, 7, 8], [0, 4, 5, 7, 8, 41, 42], [0, 4, 5, 7, 8, 41, 42, 43], [0, 4, 5, 7, 8, 9, 41, 42], [0, 4, 5, 7, 8, 41, 42], [0, 4, 5, 7, 8, 41, 42], [0, 4, 5, 8, 57], [2, 3], [0, 4, 5, 8, 10, 11], [0, 4, 5, 8, 68], [], [2, 3], [0, 4, 12], [0, 4, 12, 81], [2, 3], [0, 2, 3], [0, 2, 3, 13, 14], [0, 2, 3, 109], [0, 2, 3], [0, 2, 3, 13, 14], [0, 2, 3, 132], [2, 3], [2, 3]], [[0, 1, 8], []], [[0], [3, 4], [3, 4, 13], [2, 3], [4, 5], [4, 5, 6], [4, 5, 6, 16], [4, 5, 6], [4, 5, 6], [5, 28], [2, 3], [2, 3]], [[0, 2], [0, 2, 4], [0, 2, 4, 9], [2, 3], [2, 4, 11, 12, 13], [2, 4, 11, 12, 13, 14], [2, 4, 6, 11, 12, 13], [2, 4, 6, 11, 12, 13, 22], [2, 3], [2, 4, 11, 12, 13], [2, 4, 11, 12, 13], [2, 3]], [[1, 2], [1, 2, 3], [1, 2, 3], [1, 2, 3, 4], [1, 2, 3, 4, 7], [1, 2, 3, 4], [1, 2, 3, 4], [2]], [[1], [1, 5], [2], [2]], [[0], [0, 8], [2, 3], [0, 4], [0, 4, 5], [0, 4, 5, 12], [0, 4, 5], [0, 4, 5, 26], [2, 3], [0, 4, 5, 31], [0, 4, 5], [4, 42], [2, 3], [2, 3]], [[0, 1, 2], [0, 1, 2, 9], [0, 1, 2], [0], [6]], [[0, 1, 8], [0, 1, 18], [], []], [[0, 1], [0, 1, 12], [4], [0, 5, 6, 7], [0, 5, 6, 7, 28], [0, 5, 6], [5], [4]], [[0, 1, 2, 6], [0, 1, 2, 6, 44], [], [0, 2, 7], [0, 7, 8], [0, 7, 8, 67], [0, 7, 8, 69], [], [0, 7, 8, 9], [0, 7, 8, 9, 75], [0, 7, 8, 10], [0, 7, 9], [0, 7, 9, 102], [0, 7, 9], [0, 7, 9, 11], [0, 7, 9, 11, 114], [0, 7, 9, 11], [0, 7, 9, 11]], [[1, 3, 5], [1, 3, 5, 7], [1, 3, 5, 7, 8], [1, 3, 5, 7, 8, 24], [1, 3, 5, 7, 8, 9], [1, 3, 5, 7, 8, 9, 28], [1, 3, 5, 7, 8], [1, 3, 5, 7, 8, 9, 28, 33], [1, 3, 5, 7, 8, 37], [1, 3, 5, 7, 8], [1, 3, 5, 7, 8, 10], [1, 3, 5, 7, 8, 10, 47], [1, 3, 5, 7, 8], [1, 3, 5, 7, 8, 9, 28, 57], [1, 3, 5, 7, 8, 11], [1, 3, 5, 7, 8, 11, 66], [1, 3, 5, 7, 8], [1, 3, 5, 7, 8, 9, 70], [1, 3, 5, 7, 8, 12], [1, 3, 5, 7, 8, 12, 79], [1, 3, 5, 7, 8], [6]], [[0], [0, 3, 4], [3, 4, 7, 8, 9], [3, 4, 7, 8, 9, 10], [3, 4, 6, 7, 8, 9], [3, 4, 6, 7, 8, 9, 14], [3, 4, 7, 8, 9], [3, 4, 7, 8, 9], [2]], [[0], [5, 6, 7], [5, 6, 7, 8], [4, 5, 6, 7], [5, 6, 7, 12], [2], [5, 6, 7], [2]], [[0, 1, 2], [0, 1, 2, 10], [0, 1, 2, 10, 17], [6, 7, 8], [0, 1, 2, 20], [6, 7, 8], [6, 7, 8]], [[0, 1, 2, 4, 12], [], [0, 2, 15, 16], [0, 2, 15, 16, 17], [0, 2, 15, 16], [0, 2, 15, 16]], [[0, 4, 5], [0, 4, 5, 7], [0, 4, 5, 7, 9], [0, 4, 5, 7, 9, 10], [0, 4, 5, 7, 9, 10, 11], [4, 5, 7, 9, 10, 11, 21, 22, 23], [4, 5, 7, 9, 10, 11, 21, 22, 23, 24], [4, 5, 7, 9, 10, 11, 12, 13, 21, 22, 23], [4, 5, 7, 9, 10, 11, 13, 21, 22, 23], [4, 5, 7, 9, 10, 11, 21, 22, 23], [4, 5, 7, 9, 10, 11, 21, 22, 23], [6]], [[0, 1, 2, 3, 4, 5], [0, 1, 2, 3, 4, 5, 9], [0, 1, 2, 3, 4, 5, 9, 10], [0, 1, 2, 3, 4, 5, 9, 10], [0, 1, 2, 3, 4, 5, 9, 10, 16], [6, 7, 8], [0, 1, 2, 3, 4, 5, 9, 10, 21], [6, 7, 8], [0, 1, 2, 3, 4, 5, 9, 10], [0, 1, 2, 3, 4, 5, 9, 10], [0, 1, 2, 3, 4, 5, 9, 10, 11], [0, 1, 2, 3, 4, 5, 9, 10, 11, 50], [6, 7, 8]], [], [], [], [], [], [], [], [], [], [], [], [], [], [], [], []]


noncomputable def X : AM.Ctx := { P := Try.prog, G := fun _ => .none, rw := fun _ _ => false, keep := fun f i => ((keepT[f]?).getD [])[i]?, norm := fun _ _ => false, dr := fun _ _ => true, dy := fun f id => [(21, 6), (21, 7), (23, 1), (29, 19), (37, 1), (48, 9), (48, 20), (58, 3)].contains (f, id) }

theorem own : ownKnob Try.prog.godebug = .none := by kernel_rfl
theorem full : ∀ t e, t < Try.prog.types.size → Try.prog.underlying t = some (.slice e) → 0 < Try.prog.cellsOf e := slices_full_of Try.prog (by kernel_rfl)
theorem ctxOk : AM.CtxOk X := AM.ctxOk_of (by kernel_rfl) (by kernel_rfl)
@[simp] theorem X_dr (f i : Nat) : X.dr f i = true := rfl
@[simp] theorem X_norm (f i : Nat) : X.norm f i = false := rfl
@[simp] theorem X_rw (f i : Nat) : X.rw f i = (false) := rfl
@[simp] theorem nt3 : ntOf X 3 = 82 := by kernel_rfl
@[simp] theorem bod3 : bodied X 3 = true := by kernel_rfl
@[simp] theorem par3 : paramsOf X 3 = [] := by kernel_rfl
@[simp] theorem nt4 : ntOf X 4 = 35 := by kernel_rfl
@[simp] theorem bod4 : bodied X 4 = true := by kernel_rfl
@[simp] theorem par4 : paramsOf X 4 = [28] := by kernel_rfl
@[simp] theorem nt5 : ntOf X 5 = 124 := by kernel_rfl
@[simp] theorem bod5 : bodied X 5 = true := by kernel_rfl
@[simp] theorem par5 : paramsOf X 5 = [28] := by kernel_rfl
@[simp] theorem nt6 : ntOf X 6 = 89 := by kernel_rfl
@[simp] theorem bod6 : bodied X 6 = true := by kernel_rfl
@[simp] theorem par6 : paramsOf X 6 = [28] := by kernel_rfl
@[simp] theorem nt7 : ntOf X 7 = 57 := by kernel_rfl
@[simp] theorem bod7 : bodied X 7 = true := by kernel_rfl
@[simp] theorem par7 : paramsOf X 7 = [22] := by kernel_rfl
@[simp] theorem nt8 : ntOf X 8 = 19 := by kernel_rfl
@[simp] theorem bod8 : bodied X 8 = true := by kernel_rfl
@[simp] theorem par8 : paramsOf X 8 = [9] := by kernel_rfl
@[simp] theorem nt9 : ntOf X 9 = 26 := by kernel_rfl
@[simp] theorem bod9 : bodied X 9 = true := by kernel_rfl
@[simp] theorem par9 : paramsOf X 9 = [22, 22] := by kernel_rfl
@[simp] theorem nt10 : ntOf X 10 = 104 := by kernel_rfl
@[simp] theorem bod10 : bodied X 10 = true := by kernel_rfl
@[simp] theorem par10 : paramsOf X 10 = [28] := by kernel_rfl
@[simp] theorem nt11 : ntOf X 11 = 10 := by kernel_rfl
@[simp] theorem bod11 : bodied X 11 = true := by kernel_rfl
@[simp] theorem par11 : paramsOf X 11 = [28, 28] := by kernel_rfl
@[simp] theorem nt12 : ntOf X 12 = 21 := by kernel_rfl
@[simp] theorem bod12 : bodied X 12 = true := by kernel_rfl
@[simp] theorem par12 : paramsOf X 12 = [28] := by kernel_rfl
@[simp] theorem nt13 : ntOf X 13 = 63 := by kernel_rfl
@[simp] theorem bod13 : bodied X 13 = true := by kernel_rfl
@[simp] theorem par13 : paramsOf X 13 = [28] := by kernel_rfl
@[simp] theorem nt14 : ntOf X 14 = 47 := by kernel_rfl
@[simp] theorem bod14 : bodied X 14 = true := by kernel_rfl
@[simp] theorem par14 : paramsOf X 14 = [22] := by kernel_rfl
@[simp] theorem nt15 : ntOf X 15 = 13 := by kernel_rfl
@[simp] theorem bod15 : bodied X 15 = true := by kernel_rfl
@[simp] theorem par15 : paramsOf X 15 = [] := by kernel_rfl
@[simp] theorem nt16 : ntOf X 16 = 14 := by kernel_rfl
@[simp] theorem bod16 : bodied X 16 = true := by kernel_rfl
@[simp] theorem par16 : paramsOf X 16 = [28] := by kernel_rfl
@[simp] theorem nt17 : ntOf X 17 = 57 := by kernel_rfl
@[simp] theorem bod17 : bodied X 17 = true := by kernel_rfl
@[simp] theorem par17 : paramsOf X 17 = [28] := by kernel_rfl
@[simp] theorem nt18 : ntOf X 18 = 57 := by kernel_rfl
@[simp] theorem bod18 : bodied X 18 = true := by kernel_rfl
@[simp] theorem par18 : paramsOf X 18 = [28] := by kernel_rfl
@[simp] theorem nt19 : ntOf X 19 = 21 := by kernel_rfl
@[simp] theorem bod19 : bodied X 19 = true := by kernel_rfl
@[simp] theorem par19 : paramsOf X 19 = [28] := by kernel_rfl
@[simp] theorem nt20 : ntOf X 20 = 41 := by kernel_rfl
@[simp] theorem bod20 : bodied X 20 = true := by kernel_rfl
@[simp] theorem par20 : paramsOf X 20 = [28, 28] := by kernel_rfl
@[simp] theorem nt21 : ntOf X 21 = 35 := by kernel_rfl
@[simp] theorem bod21 : bodied X 21 = true := by kernel_rfl
@[simp] theorem par21 : paramsOf X 21 = [28, 3] := by kernel_rfl
@[simp] theorem nt22 : ntOf X 22 = 128 := by kernel_rfl
@[simp] theorem bod22 : bodied X 22 = true := by kernel_rfl
@[simp] theorem par22 : paramsOf X 22 = [22] := by kernel_rfl
@[simp] theorem nt23 : ntOf X 23 = 33 := by kernel_rfl
@[simp] theorem bod23 : bodied X 23 = true := by kernel_rfl
@[simp] theorem par23 : paramsOf X 23 = [3] := by kernel_rfl
@[simp] theorem nt24 : ntOf X 24 = 36 := by kernel_rfl
@[simp] theorem bod24 : bodied X 24 = true := by kernel_rfl
@[simp] theorem par24 : paramsOf X 24 = [28, 3, 3] := by kernel_rfl
@[simp] theorem nt25 : ntOf X 25 = 17 := by kernel_rfl
@[simp] theorem bod25 : bodied X 25 = true := by kernel_rfl
@[simp] theorem par25 : paramsOf X 25 = [44, 3, 3] := by kernel_rfl
@[simp] theorem nt26 : ntOf X 26 = 32 := by kernel_rfl
@[simp] theorem bod26 : bodied X 26 = true := by kernel_rfl
@[simp] theorem par26 : paramsOf X 26 = [25] := by kernel_rfl
@[simp] theorem nt27 : ntOf X 27 = 38 := by kernel_rfl
@[simp] theorem bod27 : bodied X 27 = true := by kernel_rfl
@[simp] theorem par27 : paramsOf X 27 = [28, 3, 3] := by kernel_rfl
@[simp] theorem nt28 : ntOf X 28 = 148 := by kernel_rfl
@[simp] theorem bod28 : bodied X 28 = true := by kernel_rfl
@[simp] theorem par28 : paramsOf X 28 = [22] := by kernel_rfl
@[simp] theorem nt29 : ntOf X 29 = 81 := by kernel_rfl
@[simp] theorem bod29 : bodied X 29 = true := by kernel_rfl
@[simp] theorem par29 : paramsOf X 29 = [50] := by kernel_rfl
@[simp] theorem nt30 : ntOf X 30 = 34 := by kernel_rfl
@[simp] theorem bod30 : bodied X 30 = true := by kernel_rfl
@[simp] theorem par30 : paramsOf X 30 = [] := by kernel_rfl
@[simp] theorem nt31 : ntOf X 31 = 55 := by kernel_rfl
@[simp] theorem bod31 : bodied X 31 = true := by kernel_rfl
@[simp] theorem par31 : paramsOf X 31 = [41] := by kernel_rfl
@[simp] theorem nt32 : ntOf X 32 = 18 := by kernel_rfl
@[simp] theorem bod32 : bodied X 32 = true := by kernel_rfl
@[simp] theorem par32 : paramsOf X 32 = [44, 3, 3] := by kernel_rfl
@[simp] theorem nt33 : ntOf X 33 = 33 := by kernel_rfl
@[simp] theorem bod33 : bodied X 33 = true := by kernel_rfl
@[simp] theorem par33 : paramsOf X 33 = [3] := by kernel_rfl
@[simp] theorem nt34 : ntOf X 34 = 30 := by kernel_rfl
@[simp] theorem bod34 : bodied X 34 = true := by kernel_rfl
@[simp] theorem par34 : paramsOf X 34 = [3] := by kernel_rfl
@[simp] theorem nt35 : ntOf X 35 = 48 := by kernel_rfl
@[simp] theorem bod35 : bodied X 35 = true := by kernel_rfl
@[simp] theorem par35 : paramsOf X 35 = [44, 3] := by kernel_rfl
@[simp] theorem nt36 : ntOf X 36 = 65 := by kernel_rfl
@[simp] theorem bod36 : bodied X 36 = true := by kernel_rfl
@[simp] theorem par36 : paramsOf X 36 = [22] := by kernel_rfl
@[simp] theorem nt37 : ntOf X 37 = 39 := by kernel_rfl
@[simp] theorem bod37 : bodied X 37 = true := by kernel_rfl
@[simp] theorem par37 : paramsOf X 37 = [] := by kernel_rfl
@[simp] theorem nt38 : ntOf X 38 = 68 := by kernel_rfl
@[simp] theorem bod38 : bodied X 38 = true := by kernel_rfl
@[simp] theorem par38 : paramsOf X 38 = [41] := by kernel_rfl
@[simp] theorem nt39 : ntOf X 39 = 36 := by kernel_rfl
@[simp] theorem bod39 : bodied X 39 = true := by kernel_rfl
@[simp] theorem par39 : paramsOf X 39 = [61, 3, 3] := by kernel_rfl
@[simp] theorem nt40 : ntOf X 40 = 37 := by kernel_rfl
@[simp] theorem bod40 : bodied X 40 = true := by kernel_rfl
@[simp] theorem par40 : paramsOf X 40 = [61, 3, 3] := by kernel_rfl
@[simp] theorem nt41 : ntOf X 41 = 23 := by kernel_rfl
@[simp] theorem bod41 : bodied X 41 = true := by kernel_rfl
@[simp] theorem par41 : paramsOf X 41 = [3] := by kernel_rfl
@[simp] theorem nt42 : ntOf X 42 = 23 := by kernel_rfl
@[simp] theorem bod42 : bodied X 42 = true := by kernel_rfl
@[simp] theorem par42 : paramsOf X 42 = [3] := by kernel_rfl
@[simp] theorem nt43 : ntOf X 43 = 21 := by kernel_rfl
@[simp] theorem bod43 : bodied X 43 = true := by kernel_rfl
@[simp] theorem par43 : paramsOf X 43 = [3] := by kernel_rfl
@[simp] theorem nt44 : ntOf X 44 = 20 := by kernel_rfl
@[simp] theorem bod44 : bodied X 44 = true := by kernel_rfl
@[simp] theorem par44 : paramsOf X 44 = [3] := by kernel_rfl
@[simp] theorem nt45 : ntOf X 45 = 63 := by kernel_rfl
@[simp] theorem bod45 : bodied X 45 = true := by kernel_rfl
@[simp] theorem par45 : paramsOf X 45 = [50, 3] := by kernel_rfl
@[simp] theorem nt46 : ntOf X 46 = 49 := by kernel_rfl
@[simp] theorem bod46 : bodied X 46 = true := by kernel_rfl
@[simp] theorem par46 : paramsOf X 46 = [50] := by kernel_rfl
@[simp] theorem nt47 : ntOf X 47 = 36 := by kernel_rfl
@[simp] theorem bod47 : bodied X 47 = true := by kernel_rfl
@[simp] theorem par47 : paramsOf X 47 = [50, 41, 41] := by kernel_rfl
@[simp] theorem nt48 : ntOf X 48 = 137 := by kernel_rfl
@[simp] theorem bod48 : bodied X 48 = true := by kernel_rfl
@[simp] theorem par48 : paramsOf X 48 = [50] := by kernel_rfl
@[simp] theorem nt49 : ntOf X 49 = 13 := by kernel_rfl
@[simp] theorem bod49 : bodied X 49 = true := by kernel_rfl
@[simp] theorem par49 : paramsOf X 49 = [50, 31] := by kernel_rfl
@[simp] theorem nt50 : ntOf X 50 = 31 := by kernel_rfl
@[simp] theorem bod50 : bodied X 50 = true := by kernel_rfl
@[simp] theorem par50 : paramsOf X 50 = [41] := by kernel_rfl
@[simp] theorem nt51 : ntOf X 51 = 31 := by kernel_rfl
@[simp] theorem bod51 : bodied X 51 = true := by kernel_rfl
@[simp] theorem par51 : paramsOf X 51 = [41] := by kernel_rfl
@[simp] theorem nt52 : ntOf X 52 = 22 := by kernel_rfl
@[simp] theorem bod52 : bodied X 52 = true := by kernel_rfl
@[simp] theorem par52 : paramsOf X 52 = [73] := by kernel_rfl
@[simp] theorem nt53 : ntOf X 53 = 32 := by kernel_rfl
@[simp] theorem bod53 : bodied X 53 = true := by kernel_rfl
@[simp] theorem par53 : paramsOf X 53 = [25] := by kernel_rfl
@[simp] theorem nt54 : ntOf X 54 = 45 := by kernel_rfl
@[simp] theorem bod54 : bodied X 54 = true := by kernel_rfl
@[simp] theorem par54 : paramsOf X 54 = [41] := by kernel_rfl
@[simp] theorem nt55 : ntOf X 55 = 30 := by kernel_rfl
@[simp] theorem bod55 : bodied X 55 = true := by kernel_rfl
@[simp] theorem par55 : paramsOf X 55 = [28, 3, 3] := by kernel_rfl
@[simp] theorem nt56 : ntOf X 56 = 31 := by kernel_rfl
@[simp] theorem bod56 : bodied X 56 = true := by kernel_rfl
@[simp] theorem par56 : paramsOf X 56 = [50, 5] := by kernel_rfl
@[simp] theorem nt57 : ntOf X 57 = 41 := by kernel_rfl
@[simp] theorem bod57 : bodied X 57 = true := by kernel_rfl
@[simp] theorem par57 : paramsOf X 57 = [50, 41] := by kernel_rfl
@[simp] theorem nt58 : ntOf X 58 = 132 := by kernel_rfl
@[simp] theorem bod58 : bodied X 58 = true := by kernel_rfl
@[simp] theorem par58 : paramsOf X 58 = [50, 3, 41] := by kernel_rfl
@[simp] theorem nt59 : ntOf X 59 = 84 := by kernel_rfl
@[simp] theorem bod59 : bodied X 59 = true := by kernel_rfl
@[simp] theorem par59 : paramsOf X 59 = [50, 41, 3] := by kernel_rfl
@[simp] theorem nt60 : ntOf X 60 = 27 := by kernel_rfl
@[simp] theorem bod60 : bodied X 60 = true := by kernel_rfl
@[simp] theorem par60 : paramsOf X 60 = [41] := by kernel_rfl
@[simp] theorem nt61 : ntOf X 61 = 14 := by kernel_rfl
@[simp] theorem bod61 : bodied X 61 = true := by kernel_rfl
@[simp] theorem par61 : paramsOf X 61 = [41] := by kernel_rfl
@[simp] theorem nt62 : ntOf X 62 = 29 := by kernel_rfl
@[simp] theorem bod62 : bodied X 62 = true := by kernel_rfl
@[simp] theorem par62 : paramsOf X 62 = [41, 28, 3] := by kernel_rfl
@[simp] theorem nt63 : ntOf X 63 = 23 := by kernel_rfl
@[simp] theorem bod63 : bodied X 63 = true := by kernel_rfl
@[simp] theorem par63 : paramsOf X 63 = [3, 3] := by kernel_rfl
@[simp] theorem nt64 : ntOf X 64 = 41 := by kernel_rfl
@[simp] theorem bod64 : bodied X 64 = true := by kernel_rfl
@[simp] theorem par64 : paramsOf X 64 = [41, 28, 3] := by kernel_rfl
@[simp] theorem nt65 : ntOf X 65 = 58 := by kernel_rfl
@[simp] theorem bod65 : bodied X 65 = true := by kernel_rfl
@[simp] theorem par65 : paramsOf X 65 = [] := by kernel_rfl
@[simp] theorem keep3_0 : X.keep 3 0 = some [] := by kernel_rfl
@[simp] theorem keep3_1 : X.keep 3 1 = some [1] := by kernel_rfl
@[simp] theorem keep3_2 : X.keep 3 2 = some [1, 2] := by kernel_rfl
@[simp] theorem keep3_3 : X.keep 3 3 = some [3] := by kernel_rfl
@[simp] theorem keep3_4 : X.keep 3 4 = some [3, 4] := by kernel_rfl
@[simp] theorem keep3_5 : X.keep 3 5 = some [3, 4, 6] := by kernel_rfl
@[simp] theorem keep3_6 : X.keep 3 6 = some [3, 4, 6, 8] := by kernel_rfl
@[simp] theorem keep3_7 : X.keep 3 7 = some [0] := by kernel_rfl
@[simp] theorem keep4_0 : X.keep 4 0 = some [0] := by kernel_rfl
@[simp] theorem keep4_1 : X.keep 4 1 = some [0, 5] := by kernel_rfl
@[simp] theorem keep4_2 : X.keep 4 2 = some [2] := by kernel_rfl
@[simp] theorem keep4_3 : X.keep 4 3 = some [0, 8] := by kernel_rfl
@[simp] theorem keep4_4 : X.keep 4 4 = some [2] := by kernel_rfl
@[simp] theorem keep4_5 : X.keep 4 5 = some [0, 3] := by kernel_rfl
@[simp] theorem keep4_6 : X.keep 4 6 = some [2] := by kernel_rfl
@[simp] theorem keep5_0 : X.keep 5 0 = some [0] := by kernel_rfl
@[simp] theorem keep5_1 : X.keep 5 1 = some [0, 10] := by kernel_rfl
@[simp] theorem keep5_2 : X.keep 5 2 = some [2] := by kernel_rfl
@[simp] theorem keep5_3 : X.keep 5 3 = some [0, 13] := by kernel_rfl
@[simp] theorem keep5_4 : X.keep 5 4 = some [2] := by kernel_rfl
@[simp] theorem keep5_5 : X.keep 5 5 = some [0, 3] := by kernel_rfl
@[simp] theorem keep5_6 : X.keep 5 6 = some [0, 3, 4] := by kernel_rfl
@[simp] theorem keep5_7 : X.keep 5 7 = some [0, 3, 4, 5] := by kernel_rfl
@[simp] theorem keep5_8 : X.keep 5 8 = some [0, 3, 4, 5, 19] := by kernel_rfl
@[simp] theorem keep5_9 : X.keep 5 9 = some [0, 3, 4, 5] := by kernel_rfl
@[simp] theorem keep5_10 : X.keep 5 10 = some [0, 3, 4, 5, 6] := by kernel_rfl
@[simp] theorem keep5_11 : X.keep 5 11 = some [0, 3, 4, 5, 6, 53] := by kernel_rfl
@[simp] theorem keep5_12 : X.keep 5 12 = some [2] := by kernel_rfl
@[simp] theorem keep5_13 : X.keep 5 13 = some [0, 3, 4, 5, 6, 7] := by kernel_rfl
@[simp] theorem keep5_14 : X.keep 5 14 = some [0, 3, 4, 5, 6, 7, 56] := by kernel_rfl
@[simp] theorem keep5_15 : X.keep 5 15 = some [0, 3, 4, 5, 6, 7] := by kernel_rfl
@[simp] theorem keep5_16 : X.keep 5 16 = some [0, 3, 4, 5, 6, 7, 8] := by kernel_rfl
@[simp] theorem keep5_17 : X.keep 5 17 = some [0, 3, 4, 5, 6, 7, 8, 85] := by kernel_rfl
@[simp] theorem keep5_18 : X.keep 5 18 = some [0, 3, 4, 5, 6, 7, 8] := by kernel_rfl
@[simp] theorem keep5_19 : X.keep 5 19 = some [0, 3, 4, 5, 6, 7, 116] := by kernel_rfl
@[simp] theorem keep5_20 : X.keep 5 20 = some [2] := by kernel_rfl
@[simp] theorem keep5_21 : X.keep 5 21 = some [0, 3, 4, 5] := by kernel_rfl
@[simp] theorem keep5_22 : X.keep 5 22 = some [2] := by kernel_rfl
@[simp] theorem keep6_0 : X.keep 6 0 = some [0] := by kernel_rfl
@[simp] theorem keep6_1 : X.keep 6 1 = some [0, 14] := by kernel_rfl
@[simp] theorem keep6_2 : X.keep 6 2 = some [2] := by kernel_rfl
@[simp] theorem keep6_3 : X.keep 6 3 = some [0, 17] := by kernel_rfl
@[simp] theorem keep6_4 : X.keep 6 4 = some [2] := by kernel_rfl
@[simp] theorem keep6_5 : X.keep 6 5 = some [0, 3, 4] := by kernel_rfl
@[simp] theorem keep6_6 : X.keep 6 6 = some [0, 3, 4, 5, 6] := by kernel_rfl
@[simp] theorem keep6_7 : X.keep 6 7 = some [0, 3, 4, 5, 6, 7, 8, 9] := by kernel_rfl
@[simp] theorem keep6_8 : X.keep 6 8 = some [0, 3, 4, 5, 6, 7, 8, 9, 10, 11, 12] := by kernel_rfl
@[simp] theorem keep6_9 : X.keep 6 9 = some [2] := by kernel_rfl
@[simp] theorem keep7_0 : X.keep 7 0 = some [0] := by kernel_rfl
@[simp] theorem keep7_1 : X.keep 7 1 = some [0, 11] := by kernel_rfl
@[simp] theorem keep7_2 : X.keep 7 2 = some [2] := by kernel_rfl
@[simp] theorem keep7_3 : X.keep 7 3 = some [0, 14] := by kernel_rfl
@[simp] theorem keep7_4 : X.keep 7 4 = some [2] := by kernel_rfl
@[simp] theorem keep7_5 : X.keep 7 5 = some [0, 3, 4] := by kernel_rfl
@[simp] theorem keep7_6 : X.keep 7 6 = some [3, 4, 5, 6] := by kernel_rfl
@[simp] theorem keep7_7 : X.keep 7 7 = some [3, 4, 5, 27] := by kernel_rfl
@[simp] theorem keep7_8 : X.keep 7 8 = some [2] := by kernel_rfl
@[simp] theorem keep7_9 : X.keep 7 9 = some [3, 5, 29] := by kernel_rfl
@[simp] theorem keep7_10 : X.keep 7 10 = some [2] := by kernel_rfl
@[simp] theorem keep7_11 : X.keep 7 11 = some [3, 5, 7, 8, 9] := by kernel_rfl
@[simp] theorem keep7_12 : X.keep 7 12 = some [2] := by kernel_rfl
@[simp] theorem keep8_0 : X.keep 8 0 = some [0] := by kernel_rfl
@[simp] theorem keep8_1 : X.keep 8 1 = some [0, 3] := by kernel_rfl
@[simp] theorem keep8_2 : X.keep 8 2 = some [0, 3, 4] := by kernel_rfl
@[simp] theorem keep8_3 : X.keep 8 3 = some [0, 3, 4, 8] := by kernel_rfl
@[simp] theorem keep8_4 : X.keep 8 4 = some [0, 3, 4] := by kernel_rfl
@[simp] theorem keep8_5 : X.keep 8 5 = some [0, 3, 4] := by kernel_rfl
@[simp] theorem keep8_6 : X.keep 8 6 = some [2] := by kernel_rfl
@[simp] theorem keep9_0 : X.keep 9 0 = some [0, 1] := by kernel_rfl
@[simp] theorem keep9_1 : X.keep 9 1 = some [0, 1, 10] := by kernel_rfl
@[simp] theorem keep9_2 : X.keep 9 2 = some [4] := by kernel_rfl
@[simp] theorem keep9_3 : X.keep 9 3 = some [0, 1, 5] := by kernel_rfl
@[simp] theorem keep9_4 : X.keep 9 4 = some [0, 1, 5, 14] := by kernel_rfl
@[simp] theorem keep9_5 : X.keep 9 5 = some [0, 1, 5] := by kernel_rfl
@[simp] theorem keep9_6 : X.keep 9 6 = some [0, 1, 5, 25] := by kernel_rfl
@[simp] theorem keep9_7 : X.keep 9 7 = some [4] := by kernel_rfl
@[simp] theorem keep9_8 : X.keep 9 8 = some [4] := by kernel_rfl
@[simp] theorem keep10_0 : X.keep 10 0 = some [1] := by kernel_rfl
@[simp] theorem keep10_1 : X.keep 10 1 = some [1, 3] := by kernel_rfl
@[simp] theorem keep10_2 : X.keep 10 2 = some [1, 3, 4] := by kernel_rfl
@[simp] theorem keep10_3 : X.keep 10 3 = some [1, 3, 4, 5] := by kernel_rfl
@[simp] theorem keep10_4 : X.keep 10 4 = some [1, 3, 4, 5, 6] := by kernel_rfl
@[simp] theorem keep10_5 : X.keep 10 5 = some [1, 3, 4, 5, 6, 18] := by kernel_rfl
@[simp] theorem keep10_6 : X.keep 10 6 = some [1, 3, 4, 5, 6, 7, 8] := by kernel_rfl
@[simp] theorem keep10_7 : X.keep 10 7 = some [1, 3, 4, 5, 6, 7, 8, 23] := by kernel_rfl
@[simp] theorem keep10_8 : X.keep 10 8 = some [1, 3, 4, 5, 6, 7, 8, 9] := by kernel_rfl
@[simp] theorem keep10_9 : X.keep 10 9 = some [1, 3, 4, 5, 6, 7, 8, 9, 10] := by kernel_rfl
@[simp] theorem keep10_10 : X.keep 10 10 = some [1, 3, 4, 5, 6, 7, 8, 9, 10, 58] := by kernel_rfl
@[simp] theorem keep10_11 : X.keep 10 11 = some [1, 3, 4, 5, 6, 7, 8, 9, 10] := by kernel_rfl
@[simp] theorem keep10_12 : X.keep 10 12 = some [1, 3, 4, 5, 6, 7, 8, 9, 10, 11] := by kernel_rfl
@[simp] theorem keep10_13 : X.keep 10 13 = some [1, 3, 4, 5, 6, 7, 8, 9, 10, 11, 70] := by kernel_rfl
@[simp] theorem keep10_14 : X.keep 10 14 = some [1, 3, 4, 5, 6, 7, 8, 9, 10] := by kernel_rfl
@[simp] theorem keep10_15 : X.keep 10 15 = some [1, 3, 4, 5, 6, 7, 8, 12] := by kernel_rfl
@[simp] theorem keep10_16 : X.keep 10 16 = some [1, 3, 4, 5, 6, 7, 8, 12, 84] := by kernel_rfl
@[simp] theorem keep10_17 : X.keep 10 17 = some [1, 3, 4, 5, 6, 12] := by kernel_rfl
@[simp] theorem keep10_18 : X.keep 10 18 = some [1, 3, 4, 5, 6, 12] := by kernel_rfl
@[simp] theorem keep10_19 : X.keep 10 19 = some [1, 3, 4, 5, 6, 94, 95] := by kernel_rfl
@[simp] theorem keep10_20 : X.keep 10 20 = some [1, 3, 4, 5, 6, 94, 95, 96] := by kernel_rfl
@[simp] theorem keep10_21 : X.keep 10 21 = some [1, 3, 4, 5, 6, 94, 95] := by kernel_rfl
@[simp] theorem keep10_22 : X.keep 10 22 = some [1, 3, 4, 5, 6, 94, 95] := by kernel_rfl
@[simp] theorem keep10_23 : X.keep 10 23 = some [1, 3, 4, 5, 6, 94, 95] := by kernel_rfl
@[simp] theorem keep10_24 : X.keep 10 24 = some [2] := by kernel_rfl
@[simp] theorem keep11_0 : X.keep 11 0 = some [0, 1] := by kernel_rfl
@[simp] theorem keep11_1 : X.keep 11 1 = some [4] := by kernel_rfl
@[simp] theorem keep12_0 : X.keep 12 0 = some [0] := by kernel_rfl
@[simp] theorem keep12_1 : X.keep 12 1 = some [0, 3] := by kernel_rfl
@[simp] theorem keep12_2 : X.keep 12 2 = some [3, 5] := by kernel_rfl
@[simp] theorem keep12_3 : X.keep 12 3 = some [3, 5, 18] := by kernel_rfl
@[simp] theorem keep12_4 : X.keep 12 4 = some [2] := by kernel_rfl
@[simp] theorem keep12_5 : X.keep 12 5 = some [2] := by kernel_rfl
@[simp] theorem keep13_0 : X.keep 13 0 = some [0] := by kernel_rfl
@[simp] theorem keep13_1 : X.keep 13 1 = some [0, 3] := by kernel_rfl
@[simp] theorem keep13_2 : X.keep 13 2 = some [0, 3, 4] := by kernel_rfl
@[simp] theorem keep13_3 : X.keep 13 3 = some [0, 3, 4, 5] := by kernel_rfl
@[simp] theorem keep13_4 : X.keep 13 4 = some [0, 3, 4, 5, 14] := by kernel_rfl
@[simp] theorem keep13_5 : X.keep 13 5 = some [0, 3, 4, 5] := by kernel_rfl
@[simp] theorem keep13_6 : X.keep 13 6 = some [0, 3, 4, 5] := by kernel_rfl
@[simp] theorem keep13_7 : X.keep 13 7 = some [0, 3, 4, 5] := by kernel_rfl
@[simp] theorem keep13_8 : X.keep 13 8 = some [0, 3, 4, 5] := by kernel_rfl
@[simp] theorem keep13_9 : X.keep 13 9 = some [0, 3, 4, 5] := by kernel_rfl
@[simp] theorem keep13_10 : X.keep 13 10 = some [0, 3, 4, 5] := by kernel_rfl
@[simp] theorem keep13_11 : X.keep 13 11 = some [0, 3, 4, 5] := by kernel_rfl
@[simp] theorem keep13_12 : X.keep 13 12 = some [0, 3, 5] := by kernel_rfl
@[simp] theorem keep13_13 : X.keep 13 13 = some [0, 3, 58] := by kernel_rfl
@[simp] theorem keep13_14 : X.keep 13 14 = some [2] := by kernel_rfl
@[simp] theorem keep14_0 : X.keep 14 0 = some [0] := by kernel_rfl
@[simp] theorem keep14_1 : X.keep 14 1 = some [0, 4] := by kernel_rfl
@[simp] theorem keep14_2 : X.keep 14 2 = some [4, 7, 8, 9] := by kernel_rfl
@[simp] theorem keep14_3 : X.keep 14 3 = some [4, 7, 8, 9, 10] := by kernel_rfl
@[simp] theorem keep14_4 : X.keep 14 4 = some [4, 6, 7, 8, 9] := by kernel_rfl
@[simp] theorem keep14_5 : X.keep 14 5 = some [4, 6, 7, 8, 9, 15] := by kernel_rfl
@[simp] theorem keep14_6 : X.keep 14 6 = some [2, 3] := by kernel_rfl
@[simp] theorem keep14_7 : X.keep 14 7 = some [4, 6, 7, 8, 9, 18] := by kernel_rfl
@[simp] theorem keep14_8 : X.keep 14 8 = some [4, 7, 8, 9] := by kernel_rfl
@[simp] theorem keep14_9 : X.keep 14 9 = some [4, 6, 7, 8, 9, 28] := by kernel_rfl
@[simp] theorem keep14_10 : X.keep 14 10 = some [2, 3] := by kernel_rfl
@[simp] theorem keep14_11 : X.keep 14 11 = some [4, 6, 7, 8, 9, 30, 31] := by kernel_rfl
@[simp] theorem keep14_12 : X.keep 14 12 = some [4, 6, 7, 8, 9, 30, 31, 32] := by kernel_rfl
@[simp] theorem keep14_13 : X.keep 14 13 = some [4, 6, 7, 8, 9, 30, 31] := by kernel_rfl
@[simp] theorem keep14_14 : X.keep 14 14 = some [4, 6, 7, 8, 9, 30, 31] := by kernel_rfl
@[simp] theorem keep14_15 : X.keep 14 15 = some [4, 7, 8, 9] := by kernel_rfl
@[simp] theorem keep14_16 : X.keep 14 16 = some [2, 3] := by kernel_rfl
@[simp] theorem keep15_0 : X.keep 15 0 = some [] := by kernel_rfl
@[simp] theorem keep15_1 : X.keep 15 1 = some [0] := by kernel_rfl
@[simp] theorem keep16_0 : X.keep 16 0 = some [0] := by kernel_rfl
@[simp] theorem keep16_1 : X.keep 16 1 = some [2] := by kernel_rfl
@[simp] theorem keep17_0 : X.keep 17 0 = some [0] := by kernel_rfl
@[simp] theorem keep17_1 : X.keep 17 1 = some [0, 3] := by kernel_rfl
@[simp] theorem keep17_2 : X.keep 17 2 = some [0, 3, 4] := by kernel_rfl
@[simp] theorem keep17_3 : X.keep 17 3 = some [0, 3, 4, 12] := by kernel_rfl
@[simp] theorem keep17_4 : X.keep 17 4 = some [0, 3, 4, 5, 6] := by kernel_rfl
@[simp] theorem keep17_5 : X.keep 17 5 = some [0, 3, 4, 5, 6, 7] := by kernel_rfl
@[simp] theorem keep17_6 : X.keep 17 6 = some [0, 3, 4, 5, 6, 7, 23] := by kernel_rfl
@[simp] theorem keep17_7 : X.keep 17 7 = some [0, 3, 4, 5, 6, 7] := by kernel_rfl
@[simp] theorem keep17_8 : X.keep 17 8 = some [0, 3, 4, 5, 6, 7, 8] := by kernel_rfl
@[simp] theorem keep17_9 : X.keep 17 9 = some [0, 3, 4, 5, 6, 7, 8, 32] := by kernel_rfl
@[simp] theorem keep17_10 : X.keep 17 10 = some [0, 3, 4, 5, 6, 7] := by kernel_rfl
@[simp] theorem keep17_11 : X.keep 17 11 = some [0, 3, 4, 5, 6, 36] := by kernel_rfl
@[simp] theorem keep17_12 : X.keep 17 12 = some [0, 3, 4, 5] := by kernel_rfl
@[simp] theorem keep17_13 : X.keep 17 13 = some [0, 3, 4] := by kernel_rfl
@[simp] theorem keep17_14 : X.keep 17 14 = some [0, 3, 4] := by kernel_rfl
@[simp] theorem keep17_15 : X.keep 17 15 = some [0, 3, 4] := by kernel_rfl
@[simp] theorem keep17_16 : X.keep 17 16 = some [2] := by kernel_rfl
@[simp] theorem keep18_0 : X.keep 18 0 = some [0] := by kernel_rfl
@[simp] theorem keep18_1 : X.keep 18 1 = some [0, 3] := by kernel_rfl
@[simp] theorem keep18_2 : X.keep 18 2 = some [0, 3, 4] := by kernel_rfl
@[simp] theorem keep18_3 : X.keep 18 3 = some [0, 3, 4, 14] := by kernel_rfl
@[simp] theorem keep18_4 : X.keep 18 4 = some [0, 3, 4, 5] := by kernel_rfl
@[simp] theorem keep18_5 : X.keep 18 5 = some [0, 3, 4, 5, 6] := by kernel_rfl
@[simp] theorem keep18_6 : X.keep 18 6 = some [0, 3, 4, 5, 6, 25] := by kernel_rfl
@[simp] theorem keep18_7 : X.keep 18 7 = some [0, 3, 4, 5, 6] := by kernel_rfl
@[simp] theorem keep18_8 : X.keep 18 8 = some [0, 3, 4, 5, 6] := by kernel_rfl
@[simp] theorem keep18_9 : X.keep 18 9 = some [0, 3, 4, 5, 6] := by kernel_rfl
@[simp] theorem keep18_10 : X.keep 18 10 = some [0, 3, 4, 6] := by kernel_rfl
@[simp] theorem keep18_11 : X.keep 18 11 = some [0, 3, 4, 54] := by kernel_rfl
@[simp] theorem keep18_12 : X.keep 18 12 = some [2] := by kernel_rfl
@[simp] theorem keep18_13 : X.keep 18 13 = some [2] := by kernel_rfl
@[simp] theorem keep19_0 : X.keep 19 0 = some [0] := by kernel_rfl
@[simp] theorem keep19_1 : X.keep 19 1 = some [0, 3] := by kernel_rfl
@[simp] theorem keep19_2 : X.keep 19 2 = some [3, 5] := by kernel_rfl
@[simp] theorem keep19_3 : X.keep 19 3 = some [3, 5, 18] := by kernel_rfl
@[simp] theorem keep19_4 : X.keep 19 4 = some [2] := by kernel_rfl
@[simp] theorem keep19_5 : X.keep 19 5 = some [2] := by kernel_rfl
@[simp] theorem keep20_0 : X.keep 20 0 = some [0, 1] := by kernel_rfl
@[simp] theorem keep20_1 : X.keep 20 1 = some [0, 1, 18] := by kernel_rfl
@[simp] theorem keep20_2 : X.keep 20 2 = some [4] := by kernel_rfl
@[simp] theorem keep20_3 : X.keep 20 3 = some [5] := by kernel_rfl
@[simp] theorem keep20_4 : X.keep 20 4 = some [5, 6] := by kernel_rfl
@[simp] theorem keep20_5 : X.keep 20 5 = some [5, 6, 33] := by kernel_rfl
@[simp] theorem keep20_6 : X.keep 20 6 = some [5, 6] := by kernel_rfl
@[simp] theorem keep20_7 : X.keep 20 7 = some [5, 6, 40] := by kernel_rfl
@[simp] theorem keep20_8 : X.keep 20 8 = some [4] := by kernel_rfl
@[simp] theorem keep20_9 : X.keep 20 9 = some [4] := by kernel_rfl
@[simp] theorem keep21_0 : X.keep 21 0 = some [0, 1] := by kernel_rfl
@[simp] theorem keep21_1 : X.keep 21 1 = some [0, 1, 9] := by kernel_rfl
@[simp] theorem keep21_2 : X.keep 21 2 = some [4, 5, 6] := by kernel_rfl
@[simp] theorem keep21_3 : X.keep 21 3 = some [7] := by kernel_rfl
@[simp] theorem keep21_4 : X.keep 21 4 = some [7] := by kernel_rfl
@[simp] theorem keep21_5 : X.keep 21 5 = some [7, 20] := by kernel_rfl
@[simp] theorem keep21_6 : X.keep 21 6 = some [4, 5, 6] := by kernel_rfl
@[simp] theorem keep21_7 : X.keep 21 7 = some [4, 5, 6] := by kernel_rfl
@[simp] theorem keep22_0 : X.keep 22 0 = some [0] := by kernel_rfl
@[simp] theorem keep22_1 : X.keep 22 1 = some [0, 5] := by kernel_rfl
@[simp] theorem keep22_2 : X.keep 22 2 = some [0, 5, 24] := by kernel_rfl
@[simp] theorem keep22_3 : X.keep 22 3 = some [2, 3] := by kernel_rfl
@[simp] theorem keep22_4 : X.keep 22 4 = some [0, 6, 7] := by kernel_rfl
@[simp] theorem keep22_5 : X.keep 22 5 = some [0, 6, 7, 8] := by kernel_rfl
@[simp] theorem keep22_6 : X.keep 22 6 = some [0, 6, 7, 8, 10] := by kernel_rfl
@[simp] theorem keep22_7 : X.keep 22 7 = some [0, 6, 7, 8, 10, 12] := by kernel_rfl
@[simp] theorem keep22_8 : X.keep 22 8 = some [0, 6, 7, 8, 10, 12] := by kernel_rfl
@[simp] theorem keep22_9 : X.keep 22 9 = some [0, 6, 7, 8, 10, 12] := by kernel_rfl
@[simp] theorem keep22_10 : X.keep 22 10 = some [6, 7, 8, 10, 12, 46, 47, 48] := by kernel_rfl
@[simp] theorem keep22_11 : X.keep 22 11 = some [6, 7, 8, 10, 12, 46, 47, 48, 49] := by kernel_rfl
@[simp] theorem keep22_12 : X.keep 22 12 = some [6, 7, 8, 10, 12, 14, 46, 47, 48] := by kernel_rfl
@[simp] theorem keep22_13 : X.keep 22 13 = some [6, 7, 8, 10, 12, 14, 46, 47, 48, 54] := by kernel_rfl
@[simp] theorem keep22_14 : X.keep 22 14 = some [6, 7, 8, 10, 12, 46, 47, 48] := by kernel_rfl
@[simp] theorem keep22_15 : X.keep 22 15 = some [6, 7, 8, 10, 12, 14, 15, 16, 17, 46, 47, 48] := by kernel_rfl
@[simp] theorem keep22_16 : X.keep 22 16 = some [6, 7, 8, 10, 12, 14, 16, 17, 46, 47, 48] := by kernel_rfl
@[simp] theorem keep22_17 : X.keep 22 17 = some [6, 7, 8, 10, 12, 14, 46, 47, 48] := by kernel_rfl
@[simp] theorem keep22_18 : X.keep 22 18 = some [6, 7, 8, 10, 12, 14, 15, 16, 17, 46, 47, 48] := by kernel_rfl
@[simp] theorem keep22_19 : X.keep 22 19 = some [6, 7, 8, 10, 12, 14, 16, 17, 46, 47, 48] := by kernel_rfl
@[simp] theorem keep22_20 : X.keep 22 20 = some [6, 7, 8, 10, 12, 46, 47, 48] := by kernel_rfl
@[simp] theorem keep22_21 : X.keep 22 21 = some [6, 7, 8, 10, 12, 46, 47, 48] := by kernel_rfl
@[simp] theorem keep22_22 : X.keep 22 22 = some [12] := by kernel_rfl
@[simp] theorem keep22_23 : X.keep 22 23 = some [2, 3] := by kernel_rfl
@[simp] theorem keep23_0 : X.keep 23 0 = some [0, 1, 2, 9] := by kernel_rfl
@[simp] theorem keep23_1 : X.keep 23 1 = some [0, 2, 4] := by kernel_rfl
@[simp] theorem keep23_2 : X.keep 23 2 = some [] := by kernel_rfl
@[simp] theorem keep24_0 : X.keep 24 0 = some [0, 1, 2] := by kernel_rfl
@[simp] theorem keep24_1 : X.keep 24 1 = some [0, 1, 2, 7] := by kernel_rfl
@[simp] theorem keep24_2 : X.keep 24 2 = some [0, 1, 2, 7, 32] := by kernel_rfl
@[simp] theorem keep24_3 : X.keep 24 3 = some [0, 1, 2, 7] := by kernel_rfl
@[simp] theorem keep24_4 : X.keep 24 4 = some [6] := by kernel_rfl
@[simp] theorem keep25_0 : X.keep 25 0 = some [0, 1, 7, 8] := by kernel_rfl
@[simp] theorem keep25_1 : X.keep 25 1 = some [0, 1, 7, 8, 9] := by kernel_rfl
@[simp] theorem keep25_2 : X.keep 25 2 = some [0, 1, 6, 7, 8] := by kernel_rfl
@[simp] theorem keep25_3 : X.keep 25 3 = some [0, 1, 7, 8] := by kernel_rfl
@[simp] theorem keep25_4 : X.keep 25 4 = some [0, 1, 7, 8] := by kernel_rfl
@[simp] theorem keep26_0 : X.keep 26 0 = some [1] := by kernel_rfl
@[simp] theorem keep26_1 : X.keep 26 1 = some [1, 5] := by kernel_rfl
@[simp] theorem keep26_2 : X.keep 26 2 = some [2] := by kernel_rfl
@[simp] theorem keep26_3 : X.keep 26 3 = some [2] := by kernel_rfl
@[simp] theorem keep27_0 : X.keep 27 0 = some [0, 1, 2] := by kernel_rfl
@[simp] theorem keep27_1 : X.keep 27 1 = some [0, 1, 2, 7] := by kernel_rfl
@[simp] theorem keep27_2 : X.keep 27 2 = some [0, 1, 2, 7, 34] := by kernel_rfl
@[simp] theorem keep27_3 : X.keep 27 3 = some [0, 1, 2, 7] := by kernel_rfl
@[simp] theorem keep27_4 : X.keep 27 4 = some [6] := by kernel_rfl
@[simp] theorem keep28_0 : X.keep 28 0 = some [0] := by kernel_rfl
@[simp] theorem keep28_1 : X.keep 28 1 = some [0, 5] := by kernel_rfl
@[simp] theorem keep28_2 : X.keep 28 2 = some [0, 5, 24] := by kernel_rfl
@[simp] theorem keep28_3 : X.keep 28 3 = some [2, 3] := by kernel_rfl
@[simp] theorem keep28_4 : X.keep 28 4 = some [0, 6, 7] := by kernel_rfl
@[simp] theorem keep28_5 : X.keep 28 5 = some [0, 6, 7, 8] := by kernel_rfl
@[simp] theorem keep28_6 : X.keep 28 6 = some [0, 6, 7, 8, 10] := by kernel_rfl
@[simp] theorem keep28_7 : X.keep 28 7 = some [0, 6, 7, 8, 10, 12] := by kernel_rfl
@[simp] theorem keep28_8 : X.keep 28 8 = some [0, 6, 7, 8, 10, 12] := by kernel_rfl
@[simp] theorem keep28_9 : X.keep 28 9 = some [0, 6, 7, 8, 10, 12] := by kernel_rfl
@[simp] theorem keep28_10 : X.keep 28 10 = some [0, 6, 7, 8, 10, 12, 13] := by kernel_rfl
@[simp] theorem keep28_11 : X.keep 28 11 = some [0, 6, 7, 8, 10, 12, 13, 49] := by kernel_rfl
@[simp] theorem keep28_12 : X.keep 28 12 = some [0, 6, 7, 8, 10, 12, 13] := by kernel_rfl
@[simp] theorem keep28_13 : X.keep 28 13 = some [0, 6, 7, 8, 10, 12, 13, 57] := by kernel_rfl
@[simp] theorem keep28_14 : X.keep 28 14 = some [0, 6, 7, 8, 10, 12, 13, 14] := by kernel_rfl
@[simp] theorem keep28_15 : X.keep 28 15 = some [0, 6, 7, 8, 10, 12, 13] := by kernel_rfl
@[simp] theorem keep28_16 : X.keep 28 16 = some [0, 6, 7, 8, 10, 12, 13, 15] := by kernel_rfl
@[simp] theorem keep28_17 : X.keep 28 17 = some [0, 6, 7, 8, 10, 12, 13, 15, 16, 17] := by kernel_rfl
@[simp] theorem keep28_18 : X.keep 28 18 = some [0, 6, 7, 8, 10, 12, 13, 16, 17] := by kernel_rfl
@[simp] theorem keep28_19 : X.keep 28 19 = some [0, 6, 7, 8, 10, 12, 13] := by kernel_rfl
@[simp] theorem keep28_20 : X.keep 28 20 = some [0, 6, 7, 8, 10, 12, 13, 15] := by kernel_rfl
@[simp] theorem keep28_21 : X.keep 28 21 = some [0, 6, 7, 8, 10, 12, 13, 15, 16, 17] := by kernel_rfl
@[simp] theorem keep28_22 : X.keep 28 22 = some [0, 6, 7, 8, 10, 12, 13, 16, 17] := by kernel_rfl
@[simp] theorem keep28_23 : X.keep 28 23 = some [0, 6, 7, 8, 10, 12, 13] := by kernel_rfl
@[simp] theorem keep28_24 : X.keep 28 24 = some [12] := by kernel_rfl
@[simp] theorem keep28_25 : X.keep 28 25 = some [2, 3] := by kernel_rfl
@[simp] theorem keep29_0 : X.keep 29 0 = some [0] := by kernel_rfl
@[simp] theorem keep29_1 : X.keep 29 1 = some [0, 3] := by kernel_rfl
@[simp] theorem keep29_2 : X.keep 29 2 = some [0, 3, 4] := by kernel_rfl
@[simp] theorem keep29_3 : X.keep 29 3 = some [0, 3, 17] := by kernel_rfl
@[simp] theorem keep29_4 : X.keep 29 4 = some [0, 3, 5] := by kernel_rfl
@[simp] theorem keep29_5 : X.keep 29 5 = some [0, 3, 5, 6] := by kernel_rfl
@[simp] theorem keep29_6 : X.keep 29 6 = some [0, 3, 5, 6] := by kernel_rfl
@[simp] theorem keep29_7 : X.keep 29 7 = some [0, 3, 5, 6] := by kernel_rfl
@[simp] theorem keep29_8 : X.keep 29 8 = some [0, 3, 5, 6, 39] := by kernel_rfl
@[simp] theorem keep29_9 : X.keep 29 9 = some [0, 3, 5, 6, 41] := by kernel_rfl
@[simp] theorem keep29_10 : X.keep 29 10 = some [0, 3, 5, 6] := by kernel_rfl
@[simp] theorem keep29_11 : X.keep 29 11 = some [0, 3, 5, 6, 41, 44] := by kernel_rfl
@[simp] theorem keep29_12 : X.keep 29 12 = some [0, 3, 5, 6] := by kernel_rfl
@[simp] theorem keep29_13 : X.keep 29 13 = some [0, 3, 5, 6, 41, 48] := by kernel_rfl
@[simp] theorem keep29_14 : X.keep 29 14 = some [0, 3, 5, 6] := by kernel_rfl
@[simp] theorem keep29_15 : X.keep 29 15 = some [0, 3, 5, 6, 55] := by kernel_rfl
@[simp] theorem keep29_16 : X.keep 29 16 = some [0, 3, 5, 6, 7, 8] := by kernel_rfl
@[simp] theorem keep29_17 : X.keep 29 17 = some [0, 3, 5, 6] := by kernel_rfl
@[simp] theorem keep29_18 : X.keep 29 18 = some [0, 3, 5] := by kernel_rfl
@[simp] theorem keep29_19 : X.keep 29 19 = some [0, 3, 4] := by kernel_rfl
@[simp] theorem keep29_20 : X.keep 29 20 = some [2] := by kernel_rfl
@[simp] theorem keep30_0 : X.keep 30 0 = some [0, 1] := by kernel_rfl
@[simp] theorem keep30_1 : X.keep 30 1 = some [0, 1, 4] := by kernel_rfl
@[simp] theorem keep30_2 : X.keep 30 2 = some [0, 1, 4, 5] := by kernel_rfl
@[simp] theorem keep30_3 : X.keep 30 3 = some [0, 1, 2, 4] := by kernel_rfl
@[simp] theorem keep30_4 : X.keep 30 4 = some [0, 1, 2, 3, 4] := by kernel_rfl
@[simp] theorem keep30_5 : X.keep 30 5 = some [0, 1, 2, 3, 4, 7] := by kernel_rfl
@[simp] theorem keep30_6 : X.keep 30 6 = some [0, 1, 3, 4] := by kernel_rfl
@[simp] theorem keep30_7 : X.keep 30 7 = some [0, 1, 3, 4, 14] := by kernel_rfl
@[simp] theorem keep30_8 : X.keep 30 8 = some [0, 1, 3, 4] := by kernel_rfl
@[simp] theorem keep30_9 : X.keep 30 9 = some [0, 1, 4] := by kernel_rfl
@[simp] theorem keep30_10 : X.keep 30 10 = some [0, 1, 4] := by kernel_rfl
@[simp] theorem keep30_11 : X.keep 30 11 = some [0, 1, 26] := by kernel_rfl
@[simp] theorem keep30_12 : X.keep 30 12 = some [0, 1, 26, 27] := by kernel_rfl
@[simp] theorem keep30_13 : X.keep 30 13 = some [0, 1, 26] := by kernel_rfl
@[simp] theorem keep30_14 : X.keep 30 14 = some [0, 1, 26] := by kernel_rfl
@[simp] theorem keep30_15 : X.keep 30 15 = some [0, 1] := by kernel_rfl
@[simp] theorem keep31_0 : X.keep 31 0 = some [0] := by kernel_rfl
@[simp] theorem keep31_1 : X.keep 31 1 = some [0, 5] := by kernel_rfl
@[simp] theorem keep31_2 : X.keep 31 2 = some [0, 5, 18] := by kernel_rfl
@[simp] theorem keep31_3 : X.keep 31 3 = some [2, 3] := by kernel_rfl
@[simp] theorem keep31_4 : X.keep 31 4 = some [0, 6] := by kernel_rfl
@[simp] theorem keep31_5 : X.keep 31 5 = some [0, 8] := by kernel_rfl
@[simp] theorem keep31_6 : X.keep 31 6 = some [0, 8, 9] := by kernel_rfl
@[simp] theorem keep31_7 : X.keep 31 7 = some [8, 9, 30, 31, 32] := by kernel_rfl
@[simp] theorem keep31_8 : X.keep 31 8 = some [8, 9, 30, 31, 32, 33] := by kernel_rfl
@[simp] theorem keep31_9 : X.keep 31 9 = some [8, 9, 10, 11, 30, 31, 32] := by kernel_rfl
@[simp] theorem keep31_10 : X.keep 31 10 = some [8, 9, 10, 11, 30, 31, 32] := by kernel_rfl
@[simp] theorem keep31_11 : X.keep 31 11 = some [8, 9, 10, 11, 30, 31, 32, 41] := by kernel_rfl
@[simp] theorem keep31_12 : X.keep 31 12 = some [8, 9, 11, 30, 31, 32] := by kernel_rfl
@[simp] theorem keep31_13 : X.keep 31 13 = some [8, 9, 30, 31, 32] := by kernel_rfl
@[simp] theorem keep31_14 : X.keep 31 14 = some [8, 9, 30, 31, 32] := by kernel_rfl
@[simp] theorem keep31_15 : X.keep 31 15 = some [2, 3] := by kernel_rfl
@[simp] theorem keep32_0 : X.keep 32 0 = some [0, 1, 6] := by kernel_rfl
@[simp] theorem keep32_1 : X.keep 32 1 = some [0, 1, 6, 10] := by kernel_rfl
@[simp] theorem keep32_2 : X.keep 32 2 = some [0, 1, 6] := by kernel_rfl
@[simp] theorem keep32_3 : X.keep 32 3 = some [0, 1, 6] := by kernel_rfl
@[simp] theorem keep33_0 : X.keep 33 0 = some [0] := by kernel_rfl
@[simp] theorem keep33_1 : X.keep 33 1 = some [0, 6] := by kernel_rfl
@[simp] theorem keep33_2 : X.keep 33 2 = some [2, 3, 4] := by kernel_rfl
@[simp] theorem keep33_3 : X.keep 33 3 = some [0, 9] := by kernel_rfl
@[simp] theorem keep33_4 : X.keep 33 4 = some [2, 3, 4] := by kernel_rfl
@[simp] theorem keep33_5 : X.keep 33 5 = some [0, 2, 3] := by kernel_rfl
@[simp] theorem keep33_6 : X.keep 33 6 = some [0, 2, 3, 4] := by kernel_rfl
@[simp] theorem keep33_7 : X.keep 33 7 = some [0, 2, 3, 4] := by kernel_rfl
@[simp] theorem keep33_8 : X.keep 33 8 = some [0, 2, 3, 4, 15] := by kernel_rfl
@[simp] theorem keep33_9 : X.keep 33 9 = some [0, 2, 3, 4, 15, 16] := by kernel_rfl
@[simp] theorem keep33_10 : X.keep 33 10 = some [0, 2, 3, 4, 15, 22] := by kernel_rfl
@[simp] theorem keep33_11 : X.keep 33 11 = some [2, 3, 4] := by kernel_rfl
@[simp] theorem keep33_12 : X.keep 33 12 = some [0, 2, 3, 4, 15] := by kernel_rfl
@[simp] theorem keep33_13 : X.keep 33 13 = some [0, 2, 3, 4, 15] := by kernel_rfl
@[simp] theorem keep34_0 : X.keep 34 0 = some [0] := by kernel_rfl
@[simp] theorem keep34_1 : X.keep 34 1 = some [0, 6] := by kernel_rfl
@[simp] theorem keep34_2 : X.keep 34 2 = some [2, 3, 4] := by kernel_rfl
@[simp] theorem keep34_3 : X.keep 34 3 = some [0, 2, 3] := by kernel_rfl
@[simp] theorem keep34_4 : X.keep 34 4 = some [0, 2, 3, 4] := by kernel_rfl
@[simp] theorem keep34_5 : X.keep 34 5 = some [0, 2, 3, 4] := by kernel_rfl
@[simp] theorem keep34_6 : X.keep 34 6 = some [0, 2, 3, 4, 12] := by kernel_rfl
@[simp] theorem keep34_7 : X.keep 34 7 = some [0, 2, 3, 4, 12, 13] := by kernel_rfl
@[simp] theorem keep34_8 : X.keep 34 8 = some [0, 2, 3, 4, 12, 19] := by kernel_rfl
@[simp] theorem keep34_9 : X.keep 34 9 = some [2, 3, 4] := by kernel_rfl
@[simp] theorem keep34_10 : X.keep 34 10 = some [0, 2, 3, 4, 12] := by kernel_rfl
@[simp] theorem keep34_11 : X.keep 34 11 = some [0, 2, 3, 4, 12] := by kernel_rfl
@[simp] theorem keep35_0 : X.keep 35 0 = some [0, 1, 9] := by kernel_rfl
@[simp] theorem keep35_1 : X.keep 35 1 = some [0, 1] := by kernel_rfl
@[simp] theorem keep35_2 : X.keep 35 2 = some [0] := by kernel_rfl
@[simp] theorem keep35_3 : X.keep 35 3 = some [] := by kernel_rfl
@[simp] theorem keep36_0 : X.keep 36 0 = some [0] := by kernel_rfl
@[simp] theorem keep36_1 : X.keep 36 1 = some [0, 4] := by kernel_rfl
@[simp] theorem keep36_2 : X.keep 36 2 = some [0, 4, 5] := by kernel_rfl
@[simp] theorem keep36_3 : X.keep 36 3 = some [0, 4, 5, 10] := by kernel_rfl
@[simp] theorem keep36_4 : X.keep 36 4 = some [0, 4, 5] := by kernel_rfl
@[simp] theorem keep36_5 : X.keep 36 5 = some [0, 4, 5, 18] := by kernel_rfl
@[simp] theorem keep36_6 : X.keep 36 6 = some [2, 3] := by kernel_rfl
@[simp] theorem keep36_7 : X.keep 36 7 = some [0, 4, 5, 24] := by kernel_rfl
@[simp] theorem keep36_8 : X.keep 36 8 = some [0, 4, 5] := by kernel_rfl
@[simp] theorem keep36_9 : X.keep 36 9 = some [0, 4, 5, 40] := by kernel_rfl
@[simp] theorem keep36_10 : X.keep 36 10 = some [2, 3] := by kernel_rfl
@[simp] theorem keep36_11 : X.keep 36 11 = some [0, 4, 5, 6] := by kernel_rfl
@[simp] theorem keep36_12 : X.keep 36 12 = some [0, 4, 5, 6, 47] := by kernel_rfl
@[simp] theorem keep36_13 : X.keep 36 13 = some [0, 4, 5, 6] := by kernel_rfl
@[simp] theorem keep36_14 : X.keep 36 14 = some [0, 4, 5, 6] := by kernel_rfl
@[simp] theorem keep36_15 : X.keep 36 15 = some [2, 3] := by kernel_rfl
@[simp] theorem keep37_0 : X.keep 37 0 = some [] := by kernel_rfl
@[simp] theorem keep37_1 : X.keep 37 1 = some [2, 3] := by kernel_rfl
@[simp] theorem keep37_2 : X.keep 37 2 = some [2, 3, 4] := by kernel_rfl
@[simp] theorem keep37_3 : X.keep 37 3 = some [2, 3, 4, 9] := by kernel_rfl
@[simp] theorem keep37_4 : X.keep 37 4 = some [2, 3, 4] := by kernel_rfl
@[simp] theorem keep37_5 : X.keep 37 5 = some [2, 3, 4] := by kernel_rfl
@[simp] theorem keep37_6 : X.keep 37 6 = some [2, 3, 4, 16] := by kernel_rfl
@[simp] theorem keep37_7 : X.keep 37 7 = some [2, 3, 4] := by kernel_rfl
@[simp] theorem keep37_8 : X.keep 37 8 = some [2, 3, 4, 21] := by kernel_rfl
@[simp] theorem keep37_9 : X.keep 37 9 = some [2, 3, 4] := by kernel_rfl
@[simp] theorem keep37_10 : X.keep 37 10 = some [2, 3, 4, 26] := by kernel_rfl
@[simp] theorem keep37_11 : X.keep 37 11 = some [2, 3, 4] := by kernel_rfl
@[simp] theorem keep37_12 : X.keep 37 12 = some [2, 3, 5] := by kernel_rfl
@[simp] theorem keep37_13 : X.keep 37 13 = some [2, 3, 5, 31] := by kernel_rfl
@[simp] theorem keep37_14 : X.keep 37 14 = some [2, 3, 5] := by kernel_rfl
@[simp] theorem keep37_15 : X.keep 37 15 = some [2, 3, 5] := by kernel_rfl
@[simp] theorem keep37_16 : X.keep 37 16 = some [0, 1] := by kernel_rfl
@[simp] theorem keep38_0 : X.keep 38 0 = some [0] := by kernel_rfl
@[simp] theorem keep38_1 : X.keep 38 1 = some [0, 5] := by kernel_rfl
@[simp] theorem keep38_2 : X.keep 38 2 = some [0, 5, 18] := by kernel_rfl
@[simp] theorem keep38_3 : X.keep 38 3 = some [2, 3] := by kernel_rfl
@[simp] theorem keep38_4 : X.keep 38 4 = some [0, 6] := by kernel_rfl
@[simp] theorem keep38_5 : X.keep 38 5 = some [0, 6, 7, 8] := by kernel_rfl
@[simp] theorem keep38_6 : X.keep 38 6 = some [0, 6, 7, 8, 9] := by kernel_rfl
@[simp] theorem keep38_7 : X.keep 38 7 = some [0, 6, 7, 8, 9, 24] := by kernel_rfl
@[simp] theorem keep38_8 : X.keep 38 8 = some [0, 6, 7, 8, 9] := by kernel_rfl
@[simp] theorem keep38_9 : X.keep 38 9 = some [0, 6, 7, 8, 9, 10] := by kernel_rfl
@[simp] theorem keep38_10 : X.keep 38 10 = some [0, 6, 7, 8, 9, 10, 30] := by kernel_rfl
@[simp] theorem keep38_11 : X.keep 38 11 = some [0, 6, 7, 8, 9, 10] := by kernel_rfl
@[simp] theorem keep38_12 : X.keep 38 12 = some [0, 6, 7, 8, 9, 10, 38] := by kernel_rfl
@[simp] theorem keep38_13 : X.keep 38 13 = some [0, 6, 7, 8, 9, 10, 40] := by kernel_rfl
@[simp] theorem keep38_14 : X.keep 38 14 = some [0, 6, 7, 9, 10] := by kernel_rfl
@[simp] theorem keep38_15 : X.keep 38 15 = some [0, 6, 7, 8, 9, 10] := by kernel_rfl
@[simp] theorem keep38_16 : X.keep 38 16 = some [0, 6, 11] := by kernel_rfl
@[simp] theorem keep38_17 : X.keep 38 17 = some [0, 6, 11, 56] := by kernel_rfl
@[simp] theorem keep38_18 : X.keep 38 18 = some [0, 6, 11] := by kernel_rfl
@[simp] theorem keep38_19 : X.keep 38 19 = some [0, 6, 11, 63] := by kernel_rfl
@[simp] theorem keep38_20 : X.keep 38 20 = some [0, 6, 11] := by kernel_rfl
@[simp] theorem keep38_21 : X.keep 38 21 = some [2, 3] := by kernel_rfl
@[simp] theorem keep39_0 : X.keep 39 0 = some [0, 1, 2, 6] := by kernel_rfl
@[simp] theorem keep39_1 : X.keep 39 1 = some [0, 1, 2, 6, 9] := by kernel_rfl
@[simp] theorem keep39_2 : X.keep 39 2 = some [0, 1, 2, 6] := by kernel_rfl
@[simp] theorem keep39_3 : X.keep 39 3 = some [0, 1, 2, 6] := by kernel_rfl
@[simp] theorem keep39_4 : X.keep 39 4 = some [0, 1, 2, 6] := by kernel_rfl
@[simp] theorem keep40_0 : X.keep 40 0 = some [0, 1, 6] := by kernel_rfl
@[simp] theorem keep40_1 : X.keep 40 1 = some [0, 1, 6, 10] := by kernel_rfl
@[simp] theorem keep40_2 : X.keep 40 2 = some [0, 1, 6] := by kernel_rfl
@[simp] theorem keep40_3 : X.keep 40 3 = some [0, 1, 6] := by kernel_rfl
@[simp] theorem keep40_4 : X.keep 40 4 = some [0, 1, 6] := by kernel_rfl
@[simp] theorem keep41_0 : X.keep 41 0 = some [0] := by kernel_rfl
@[simp] theorem keep41_1 : X.keep 41 1 = some [0, 8] := by kernel_rfl
@[simp] theorem keep41_2 : X.keep 41 2 = some [2] := by kernel_rfl
@[simp] theorem keep41_3 : X.keep 41 3 = some [0, 3] := by kernel_rfl
@[simp] theorem keep41_4 : X.keep 41 4 = some [0, 3, 4] := by kernel_rfl
@[simp] theorem keep41_5 : X.keep 41 5 = some [0, 3, 4, 10] := by kernel_rfl
@[simp] theorem keep41_6 : X.keep 41 6 = some [0, 3, 4] := by kernel_rfl
@[simp] theorem keep41_7 : X.keep 41 7 = some [0, 3, 4, 5] := by kernel_rfl
@[simp] theorem keep41_8 : X.keep 41 8 = some [0, 3, 4, 20] := by kernel_rfl
@[simp] theorem keep41_9 : X.keep 41 9 = some [0, 3, 4] := by kernel_rfl
@[simp] theorem keep41_10 : X.keep 41 10 = some [2] := by kernel_rfl
@[simp] theorem keep42_0 : X.keep 42 0 = some [0] := by kernel_rfl
@[simp] theorem keep42_1 : X.keep 42 1 = some [0, 6] := by kernel_rfl
@[simp] theorem keep42_2 : X.keep 42 2 = some [2, 3] := by kernel_rfl
@[simp] theorem keep42_3 : X.keep 42 3 = some [0, 8] := by kernel_rfl
@[simp] theorem keep42_4 : X.keep 42 4 = some [2, 3] := by kernel_rfl
@[simp] theorem keep42_5 : X.keep 42 5 = some [0, 4] := by kernel_rfl
@[simp] theorem keep42_6 : X.keep 42 6 = some [2, 3] := by kernel_rfl
@[simp] theorem keep43_0 : X.keep 43 0 = some [0] := by kernel_rfl
@[simp] theorem keep43_1 : X.keep 43 1 = some [0, 3] := by kernel_rfl
@[simp] theorem keep43_2 : X.keep 43 2 = some [0, 3, 4] := by kernel_rfl
@[simp] theorem keep43_3 : X.keep 43 3 = some [0, 3, 4, 8] := by kernel_rfl
@[simp] theorem keep43_4 : X.keep 43 4 = some [0, 3, 4] := by kernel_rfl
@[simp] theorem keep43_5 : X.keep 43 5 = some [0, 3, 4, 5] := by kernel_rfl
@[simp] theorem keep43_6 : X.keep 43 6 = some [0, 3, 4, 18] := by kernel_rfl
@[simp] theorem keep43_7 : X.keep 43 7 = some [0, 3, 4] := by kernel_rfl
@[simp] theorem keep43_8 : X.keep 43 8 = some [2] := by kernel_rfl
@[simp] theorem keep44_0 : X.keep 44 0 = some [0] := by kernel_rfl
@[simp] theorem keep44_1 : X.keep 44 1 = some [0, 6] := by kernel_rfl
@[simp] theorem keep44_2 : X.keep 44 2 = some [2, 3] := by kernel_rfl
@[simp] theorem keep44_3 : X.keep 44 3 = some [0, 4] := by kernel_rfl
@[simp] theorem keep44_4 : X.keep 44 4 = some [2, 3] := by kernel_rfl
@[simp] theorem keep45_0 : X.keep 45 0 = some [0, 1] := by kernel_rfl
@[simp] theorem keep45_1 : X.keep 45 1 = some [0, 1, 5] := by kernel_rfl
@[simp] theorem keep45_2 : X.keep 45 2 = some [0, 1, 5, 6] := by kernel_rfl
@[simp] theorem keep45_3 : X.keep 45 3 = some [0, 1, 5, 6, 16] := by kernel_rfl
@[simp] theorem keep45_4 : X.keep 45 4 = some [0, 1, 5, 6] := by kernel_rfl
@[simp] theorem keep45_5 : X.keep 45 5 = some [0, 1, 5, 6, 29] := by kernel_rfl
@[simp] theorem keep45_6 : X.keep 45 6 = some [] := by kernel_rfl
@[simp] theorem keep45_7 : X.keep 45 7 = some [4] := by kernel_rfl
@[simp] theorem keep45_8 : X.keep 45 8 = some [0, 1, 5, 6] := by kernel_rfl
@[simp] theorem keep45_9 : X.keep 45 9 = some [0, 1, 5, 6] := by kernel_rfl
@[simp] theorem keep45_10 : X.keep 45 10 = some [4] := by kernel_rfl
@[simp] theorem keep46_0 : X.keep 46 0 = some [0] := by kernel_rfl
@[simp] theorem keep46_1 : X.keep 46 1 = some [0, 2] := by kernel_rfl
@[simp] theorem keep46_2 : X.keep 46 2 = some [0, 2, 3] := by kernel_rfl
@[simp] theorem keep46_3 : X.keep 46 3 = some [0, 2, 29] := by kernel_rfl
@[simp] theorem keep46_4 : X.keep 46 4 = some [0, 2] := by kernel_rfl
@[simp] theorem keep46_5 : X.keep 46 5 = some [0, 2, 4] := by kernel_rfl
@[simp] theorem keep46_6 : X.keep 46 6 = some [0, 2, 4, 41] := by kernel_rfl
@[simp] theorem keep46_7 : X.keep 46 7 = some [0, 2, 4] := by kernel_rfl
@[simp] theorem keep46_8 : X.keep 46 8 = some [0, 2, 4] := by kernel_rfl
@[simp] theorem keep47_0 : X.keep 47 0 = some [0, 1, 2, 11] := by kernel_rfl
@[simp] theorem keep47_1 : X.keep 47 1 = some [0, 1, 2, 6] := by kernel_rfl
@[simp] theorem keep47_2 : X.keep 47 2 = some [0, 1, 2] := by kernel_rfl
@[simp] theorem keep47_3 : X.keep 47 3 = some [0, 1, 2, 6, 19] := by kernel_rfl
@[simp] theorem keep47_4 : X.keep 47 4 = some [0, 1, 2, 6, 29] := by kernel_rfl
@[simp] theorem keep47_5 : X.keep 47 5 = some [0, 1, 2] := by kernel_rfl
@[simp] theorem keep48_0 : X.keep 48 0 = some [0] := by kernel_rfl
@[simp] theorem keep48_1 : X.keep 48 1 = some [0, 4, 5, 6] := by kernel_rfl
@[simp] theorem keep48_2 : X.keep 48 2 = some [0, 4, 5, 6, 36] := by kernel_rfl
@[simp] theorem keep48_3 : X.keep 48 3 = some [0, 4, 5, 6] := by kernel_rfl
@[simp] theorem keep48_4 : X.keep 48 4 = some [0, 4, 5, 6, 7] := by kernel_rfl
@[simp] theorem keep48_5 : X.keep 48 5 = some [0, 4, 5, 6, 7, 8] := by kernel_rfl
@[simp] theorem keep48_6 : X.keep 48 6 = some [0, 4, 5, 7, 8, 41, 42] := by kernel_rfl
@[simp] theorem keep48_7 : X.keep 48 7 = some [0, 4, 5, 7, 8, 41, 42, 43] := by kernel_rfl
@[simp] theorem keep48_8 : X.keep 48 8 = some [0, 4, 5, 7, 8, 9, 41, 42] := by kernel_rfl
@[simp] theorem keep48_9 : X.keep 48 9 = some [0, 4, 5, 7, 8, 41, 42] := by kernel_rfl
@[simp] theorem keep48_10 : X.keep 48 10 = some [0, 4, 5, 7, 8, 41, 42] := by kernel_rfl
@[simp] theorem keep48_11 : X.keep 48 11 = some [0, 4, 5, 8, 57] := by kernel_rfl
@[simp] theorem keep48_12 : X.keep 48 12 = some [2, 3] := by kernel_rfl
@[simp] theorem keep48_13 : X.keep 48 13 = some [0, 4, 5, 8, 10, 11] := by kernel_rfl
@[simp] theorem keep48_14 : X.keep 48 14 = some [0, 4, 5, 8, 68] := by kernel_rfl
@[simp] theorem keep48_15 : X.keep 48 15 = some [] := by kernel_rfl
@[simp] theorem keep48_16 : X.keep 48 16 = some [2, 3] := by kernel_rfl
@[simp] theorem keep48_17 : X.keep 48 17 = some [0, 4, 12] := by kernel_rfl
@[simp] theorem keep48_18 : X.keep 48 18 = some [0, 4, 12, 81] := by kernel_rfl
@[simp] theorem keep48_19 : X.keep 48 19 = some [2, 3] := by kernel_rfl
@[simp] theorem keep48_20 : X.keep 48 20 = some [0, 2, 3] := by kernel_rfl
@[simp] theorem keep48_21 : X.keep 48 21 = some [0, 2, 3, 13, 14] := by kernel_rfl
@[simp] theorem keep48_22 : X.keep 48 22 = some [0, 2, 3, 109] := by kernel_rfl
@[simp] theorem keep48_23 : X.keep 48 23 = some [0, 2, 3] := by kernel_rfl
@[simp] theorem keep48_24 : X.keep 48 24 = some [0, 2, 3, 13, 14] := by kernel_rfl
@[simp] theorem keep48_25 : X.keep 48 25 = some [0, 2, 3, 132] := by kernel_rfl
@[simp] theorem keep48_26 : X.keep 48 26 = some [2, 3] := by kernel_rfl
@[simp] theorem keep48_27 : X.keep 48 27 = some [2, 3] := by kernel_rfl
@[simp] theorem keep49_0 : X.keep 49 0 = some [0, 1, 8] := by kernel_rfl
@[simp] theorem keep49_1 : X.keep 49 1 = some [] := by kernel_rfl
@[simp] theorem keep50_0 : X.keep 50 0 = some [0] := by kernel_rfl
@[simp] theorem keep50_1 : X.keep 50 1 = some [3, 4] := by kernel_rfl
@[simp] theorem keep50_2 : X.keep 50 2 = some [3, 4, 13] := by kernel_rfl
@[simp] theorem keep50_3 : X.keep 50 3 = some [2, 3] := by kernel_rfl
@[simp] theorem keep50_4 : X.keep 50 4 = some [4, 5] := by kernel_rfl
@[simp] theorem keep50_5 : X.keep 50 5 = some [4, 5, 6] := by kernel_rfl
@[simp] theorem keep50_6 : X.keep 50 6 = some [4, 5, 6, 16] := by kernel_rfl
@[simp] theorem keep50_7 : X.keep 50 7 = some [4, 5, 6] := by kernel_rfl
@[simp] theorem keep50_8 : X.keep 50 8 = some [4, 5, 6] := by kernel_rfl
@[simp] theorem keep50_9 : X.keep 50 9 = some [5, 28] := by kernel_rfl
@[simp] theorem keep50_10 : X.keep 50 10 = some [2, 3] := by kernel_rfl
@[simp] theorem keep50_11 : X.keep 50 11 = some [2, 3] := by kernel_rfl
@[simp] theorem keep51_0 : X.keep 51 0 = some [0, 2] := by kernel_rfl
@[simp] theorem keep51_1 : X.keep 51 1 = some [0, 2, 4] := by kernel_rfl
@[simp] theorem keep51_2 : X.keep 51 2 = some [0, 2, 4, 9] := by kernel_rfl
@[simp] theorem keep51_3 : X.keep 51 3 = some [2, 3] := by kernel_rfl
@[simp] theorem keep51_4 : X.keep 51 4 = some [2, 4, 11, 12, 13] := by kernel_rfl
@[simp] theorem keep51_5 : X.keep 51 5 = some [2, 4, 11, 12, 13, 14] := by kernel_rfl
@[simp] theorem keep51_6 : X.keep 51 6 = some [2, 4, 6, 11, 12, 13] := by kernel_rfl
@[simp] theorem keep51_7 : X.keep 51 7 = some [2, 4, 6, 11, 12, 13, 22] := by kernel_rfl
@[simp] theorem keep51_8 : X.keep 51 8 = some [2, 3] := by kernel_rfl
@[simp] theorem keep51_9 : X.keep 51 9 = some [2, 4, 11, 12, 13] := by kernel_rfl
@[simp] theorem keep51_10 : X.keep 51 10 = some [2, 4, 11, 12, 13] := by kernel_rfl
@[simp] theorem keep51_11 : X.keep 51 11 = some [2, 3] := by kernel_rfl
@[simp] theorem keep52_0 : X.keep 52 0 = some [1, 2] := by kernel_rfl
@[simp] theorem keep52_1 : X.keep 52 1 = some [1, 2, 3] := by kernel_rfl
@[simp] theorem keep52_2 : X.keep 52 2 = some [1, 2, 3] := by kernel_rfl
@[simp] theorem keep52_3 : X.keep 52 3 = some [1, 2, 3, 4] := by kernel_rfl
@[simp] theorem keep52_4 : X.keep 52 4 = some [1, 2, 3, 4, 7] := by kernel_rfl
@[simp] theorem keep52_5 : X.keep 52 5 = some [1, 2, 3, 4] := by kernel_rfl
@[simp] theorem keep52_6 : X.keep 52 6 = some [1, 2, 3, 4] := by kernel_rfl
@[simp] theorem keep52_7 : X.keep 52 7 = some [2] := by kernel_rfl
@[simp] theorem keep53_0 : X.keep 53 0 = some [1] := by kernel_rfl
@[simp] theorem keep53_1 : X.keep 53 1 = some [1, 5] := by kernel_rfl
@[simp] theorem keep53_2 : X.keep 53 2 = some [2] := by kernel_rfl
@[simp] theorem keep53_3 : X.keep 53 3 = some [2] := by kernel_rfl
@[simp] theorem keep54_0 : X.keep 54 0 = some [0] := by kernel_rfl
@[simp] theorem keep54_1 : X.keep 54 1 = some [0, 8] := by kernel_rfl
@[simp] theorem keep54_2 : X.keep 54 2 = some [2, 3] := by kernel_rfl
@[simp] theorem keep54_3 : X.keep 54 3 = some [0, 4] := by kernel_rfl
@[simp] theorem keep54_4 : X.keep 54 4 = some [0, 4, 5] := by kernel_rfl
@[simp] theorem keep54_5 : X.keep 54 5 = some [0, 4, 5, 12] := by kernel_rfl
@[simp] theorem keep54_6 : X.keep 54 6 = some [0, 4, 5] := by kernel_rfl
@[simp] theorem keep54_7 : X.keep 54 7 = some [0, 4, 5, 26] := by kernel_rfl
@[simp] theorem keep54_8 : X.keep 54 8 = some [2, 3] := by kernel_rfl
@[simp] theorem keep54_9 : X.keep 54 9 = some [0, 4, 5, 31] := by kernel_rfl
@[simp] theorem keep54_10 : X.keep 54 10 = some [0, 4, 5] := by kernel_rfl
@[simp] theorem keep54_11 : X.keep 54 11 = some [4, 42] := by kernel_rfl
@[simp] theorem keep54_12 : X.keep 54 12 = some [2, 3] := by kernel_rfl
@[simp] theorem keep54_13 : X.keep 54 13 = some [2, 3] := by kernel_rfl
@[simp] theorem keep55_0 : X.keep 55 0 = some [0, 1, 2] := by kernel_rfl
@[simp] theorem keep55_1 : X.keep 55 1 = some [0, 1, 2, 9] := by kernel_rfl
@[simp] theorem keep55_2 : X.keep 55 2 = some [0, 1, 2] := by kernel_rfl
@[simp] theorem keep55_3 : X.keep 55 3 = some [0] := by kernel_rfl
@[simp] theorem keep55_4 : X.keep 55 4 = some [6] := by kernel_rfl
@[simp] theorem keep56_0 : X.keep 56 0 = some [0, 1, 8] := by kernel_rfl
@[simp] theorem keep56_1 : X.keep 56 1 = some [0, 1, 18] := by kernel_rfl
@[simp] theorem keep56_2 : X.keep 56 2 = some [] := by kernel_rfl
@[simp] theorem keep56_3 : X.keep 56 3 = some [] := by kernel_rfl
@[simp] theorem keep57_0 : X.keep 57 0 = some [0, 1] := by kernel_rfl
@[simp] theorem keep57_1 : X.keep 57 1 = some [0, 1, 12] := by kernel_rfl
@[simp] theorem keep57_2 : X.keep 57 2 = some [4] := by kernel_rfl
@[simp] theorem keep57_3 : X.keep 57 3 = some [0, 5, 6, 7] := by kernel_rfl
@[simp] theorem keep57_4 : X.keep 57 4 = some [0, 5, 6, 7, 28] := by kernel_rfl
@[simp] theorem keep57_5 : X.keep 57 5 = some [0, 5, 6] := by kernel_rfl
@[simp] theorem keep57_6 : X.keep 57 6 = some [5] := by kernel_rfl
@[simp] theorem keep57_7 : X.keep 57 7 = some [4] := by kernel_rfl
@[simp] theorem keep58_0 : X.keep 58 0 = some [0, 1, 2, 6] := by kernel_rfl
@[simp] theorem keep58_1 : X.keep 58 1 = some [0, 1, 2, 6, 44] := by kernel_rfl
@[simp] theorem keep58_2 : X.keep 58 2 = some [] := by kernel_rfl
@[simp] theorem keep58_3 : X.keep 58 3 = some [0, 2, 7] := by kernel_rfl
@[simp] theorem keep58_4 : X.keep 58 4 = some [0, 7, 8] := by kernel_rfl
@[simp] theorem keep58_5 : X.keep 58 5 = some [0, 7, 8, 67] := by kernel_rfl
@[simp] theorem keep58_6 : X.keep 58 6 = some [0, 7, 8, 69] := by kernel_rfl
@[simp] theorem keep58_7 : X.keep 58 7 = some [] := by kernel_rfl
@[simp] theorem keep58_8 : X.keep 58 8 = some [0, 7, 8, 9] := by kernel_rfl
@[simp] theorem keep58_9 : X.keep 58 9 = some [0, 7, 8, 9, 75] := by kernel_rfl
@[simp] theorem keep58_10 : X.keep 58 10 = some [0, 7, 8, 10] := by kernel_rfl
@[simp] theorem keep58_11 : X.keep 58 11 = some [0, 7, 9] := by kernel_rfl
@[simp] theorem keep58_12 : X.keep 58 12 = some [0, 7, 9, 102] := by kernel_rfl
@[simp] theorem keep58_13 : X.keep 58 13 = some [0, 7, 9] := by kernel_rfl
@[simp] theorem keep58_14 : X.keep 58 14 = some [0, 7, 9, 11] := by kernel_rfl
@[simp] theorem keep58_15 : X.keep 58 15 = some [0, 7, 9, 11, 114] := by kernel_rfl
@[simp] theorem keep58_16 : X.keep 58 16 = some [0, 7, 9, 11] := by kernel_rfl
@[simp] theorem keep58_17 : X.keep 58 17 = some [0, 7, 9, 11] := by kernel_rfl
@[simp] theorem keep59_0 : X.keep 59 0 = some [1, 3, 5] := by kernel_rfl
@[simp] theorem keep59_1 : X.keep 59 1 = some [1, 3, 5, 7] := by kernel_rfl
@[simp] theorem keep59_2 : X.keep 59 2 = some [1, 3, 5, 7, 8] := by kernel_rfl
@[simp] theorem keep59_3 : X.keep 59 3 = some [1, 3, 5, 7, 8, 24] := by kernel_rfl
@[simp] theorem keep59_4 : X.keep 59 4 = some [1, 3, 5, 7, 8, 9] := by kernel_rfl
@[simp] theorem keep59_5 : X.keep 59 5 = some [1, 3, 5, 7, 8, 9, 28] := by kernel_rfl
@[simp] theorem keep59_6 : X.keep 59 6 = some [1, 3, 5, 7, 8] := by kernel_rfl
@[simp] theorem keep59_7 : X.keep 59 7 = some [1, 3, 5, 7, 8, 9, 28, 33] := by kernel_rfl
@[simp] theorem keep59_8 : X.keep 59 8 = some [1, 3, 5, 7, 8, 37] := by kernel_rfl
@[simp] theorem keep59_9 : X.keep 59 9 = some [1, 3, 5, 7, 8] := by kernel_rfl
@[simp] theorem keep59_10 : X.keep 59 10 = some [1, 3, 5, 7, 8, 10] := by kernel_rfl
@[simp] theorem keep59_11 : X.keep 59 11 = some [1, 3, 5, 7, 8, 10, 47] := by kernel_rfl
@[simp] theorem keep59_12 : X.keep 59 12 = some [1, 3, 5, 7, 8] := by kernel_rfl
@[simp] theorem keep59_13 : X.keep 59 13 = some [1, 3, 5, 7, 8, 9, 28, 57] := by kernel_rfl
@[simp] theorem keep59_14 : X.keep 59 14 = some [1, 3, 5, 7, 8, 11] := by kernel_rfl
@[simp] theorem keep59_15 : X.keep 59 15 = some [1, 3, 5, 7, 8, 11, 66] := by kernel_rfl
@[simp] theorem keep59_16 : X.keep 59 16 = some [1, 3, 5, 7, 8] := by kernel_rfl
@[simp] theorem keep59_17 : X.keep 59 17 = some [1, 3, 5, 7, 8, 9, 70] := by kernel_rfl
@[simp] theorem keep59_18 : X.keep 59 18 = some [1, 3, 5, 7, 8, 12] := by kernel_rfl
@[simp] theorem keep59_19 : X.keep 59 19 = some [1, 3, 5, 7, 8, 12, 79] := by kernel_rfl
@[simp] theorem keep59_20 : X.keep 59 20 = some [1, 3, 5, 7, 8] := by kernel_rfl
@[simp] theorem keep59_21 : X.keep 59 21 = some [6] := by kernel_rfl
@[simp] theorem keep60_0 : X.keep 60 0 = some [0] := by kernel_rfl
@[simp] theorem keep60_1 : X.keep 60 1 = some [0, 3, 4] := by kernel_rfl
@[simp] theorem keep60_2 : X.keep 60 2 = some [3, 4, 7, 8, 9] := by kernel_rfl
@[simp] theorem keep60_3 : X.keep 60 3 = some [3, 4, 7, 8, 9, 10] := by kernel_rfl
@[simp] theorem keep60_4 : X.keep 60 4 = some [3, 4, 6, 7, 8, 9] := by kernel_rfl
@[simp] theorem keep60_5 : X.keep 60 5 = some [3, 4, 6, 7, 8, 9, 14] := by kernel_rfl
@[simp] theorem keep60_6 : X.keep 60 6 = some [3, 4, 7, 8, 9] := by kernel_rfl
@[simp] theorem keep60_7 : X.keep 60 7 = some [3, 4, 7, 8, 9] := by kernel_rfl
@[simp] theorem keep60_8 : X.keep 60 8 = some [2] := by kernel_rfl
@[simp] theorem keep61_0 : X.keep 61 0 = some [0] := by kernel_rfl
@[simp] theorem keep61_1 : X.keep 61 1 = some [5, 6, 7] := by kernel_rfl
@[simp] theorem keep61_2 : X.keep 61 2 = some [5, 6, 7, 8] := by kernel_rfl
@[simp] theorem keep61_3 : X.keep 61 3 = some [4, 5, 6, 7] := by kernel_rfl
@[simp] theorem keep61_4 : X.keep 61 4 = some [5, 6, 7, 12] := by kernel_rfl
@[simp] theorem keep61_5 : X.keep 61 5 = some [2] := by kernel_rfl
@[simp] theorem keep61_6 : X.keep 61 6 = some [5, 6, 7] := by kernel_rfl
@[simp] theorem keep61_7 : X.keep 61 7 = some [2] := by kernel_rfl
@[simp] theorem keep62_0 : X.keep 62 0 = some [0, 1, 2] := by kernel_rfl
@[simp] theorem keep62_1 : X.keep 62 1 = some [0, 1, 2, 10] := by kernel_rfl
@[simp] theorem keep62_2 : X.keep 62 2 = some [0, 1, 2, 10, 17] := by kernel_rfl
@[simp] theorem keep62_3 : X.keep 62 3 = some [6, 7, 8] := by kernel_rfl
@[simp] theorem keep62_4 : X.keep 62 4 = some [0, 1, 2, 20] := by kernel_rfl
@[simp] theorem keep62_5 : X.keep 62 5 = some [6, 7, 8] := by kernel_rfl
@[simp] theorem keep62_6 : X.keep 62 6 = some [6, 7, 8] := by kernel_rfl
@[simp] theorem keep63_0 : X.keep 63 0 = some [0, 1, 2, 4, 12] := by kernel_rfl
@[simp] theorem keep63_1 : X.keep 63 1 = some [] := by kernel_rfl
@[simp] theorem keep63_2 : X.keep 63 2 = some [0, 2, 15, 16] := by kernel_rfl
@[simp] theorem keep63_3 : X.keep 63 3 = some [0, 2, 15, 16, 17] := by kernel_rfl
@[simp] theorem keep63_4 : X.keep 63 4 = some [0, 2, 15, 16] := by kernel_rfl
@[simp] theorem keep63_5 : X.keep 63 5 = some [0, 2, 15, 16] := by kernel_rfl
@[simp] theorem keep64_0 : X.keep 64 0 = some [0, 4, 5] := by kernel_rfl
@[simp] theorem keep64_1 : X.keep 64 1 = some [0, 4, 5, 7] := by kernel_rfl
@[simp] theorem keep64_2 : X.keep 64 2 = some [0, 4, 5, 7, 9] := by kernel_rfl
@[simp] theorem keep64_3 : X.keep 64 3 = some [0, 4, 5, 7, 9, 10] := by kernel_rfl
@[simp] theorem keep64_4 : X.keep 64 4 = some [0, 4, 5, 7, 9, 10, 11] := by kernel_rfl
@[simp] theorem keep64_5 : X.keep 64 5 = some [4, 5, 7, 9, 10, 11, 21, 22, 23] := by kernel_rfl
@[simp] theorem keep64_6 : X.keep 64 6 = some [4, 5, 7, 9, 10, 11, 21, 22, 23, 24] := by kernel_rfl
@[simp] theorem keep64_7 : X.keep 64 7 = some [4, 5, 7, 9, 10, 11, 12, 13, 21, 22, 23] := by kernel_rfl
@[simp] theorem keep64_8 : X.keep 64 8 = some [4, 5, 7, 9, 10, 11, 13, 21, 22, 23] := by kernel_rfl
@[simp] theorem keep64_9 : X.keep 64 9 = some [4, 5, 7, 9, 10, 11, 21, 22, 23] := by kernel_rfl
@[simp] theorem keep64_10 : X.keep 64 10 = some [4, 5, 7, 9, 10, 11, 21, 22, 23] := by kernel_rfl
@[simp] theorem keep64_11 : X.keep 64 11 = some [6] := by kernel_rfl
@[simp] theorem keep65_0 : X.keep 65 0 = some [0, 1, 2, 3, 4, 5] := by kernel_rfl
@[simp] theorem keep65_1 : X.keep 65 1 = some [0, 1, 2, 3, 4, 5, 9] := by kernel_rfl
@[simp] theorem keep65_2 : X.keep 65 2 = some [0, 1, 2, 3, 4, 5, 9, 10] := by kernel_rfl
@[simp] theorem keep65_3 : X.keep 65 3 = some [0, 1, 2, 3, 4, 5, 9, 10] := by kernel_rfl
@[simp] theorem keep65_4 : X.keep 65 4 = some [0, 1, 2, 3, 4, 5, 9, 10, 16] := by kernel_rfl
@[simp] theorem keep65_5 : X.keep 65 5 = some [6, 7, 8] := by kernel_rfl
@[simp] theorem keep65_6 : X.keep 65 6 = some [0, 1, 2, 3, 4, 5, 9, 10, 21] := by kernel_rfl
@[simp] theorem keep65_7 : X.keep 65 7 = some [6, 7, 8] := by kernel_rfl
@[simp] theorem keep65_8 : X.keep 65 8 = some [0, 1, 2, 3, 4, 5, 9, 10] := by kernel_rfl
@[simp] theorem keep65_9 : X.keep 65 9 = some [0, 1, 2, 3, 4, 5, 9, 10] := by kernel_rfl
@[simp] theorem keep65_10 : X.keep 65 10 = some [0, 1, 2, 3, 4, 5, 9, 10, 11] := by kernel_rfl
@[simp] theorem keep65_11 : X.keep 65 11 = some [0, 1, 2, 3, 4, 5, 9, 10, 11, 50] := by kernel_rfl
@[simp] theorem keep65_12 : X.keep 65 12 = some [6, 7, 8] := by kernel_rfl
@[simp] theorem dy5_11 : X.dy 5 11 = false := by kernel_rfl
@[simp] theorem dy5_17 : X.dy 5 17 = false := by kernel_rfl
@[simp] theorem dy9_6 : X.dy 9 6 = false := by kernel_rfl
@[simp] theorem dy10_8 : X.dy 10 8 = false := by kernel_rfl
@[simp] theorem dy10_12 : X.dy 10 12 = false := by kernel_rfl
@[simp] theorem dy10_14 : X.dy 10 14 = false := by kernel_rfl
@[simp] theorem dy13_10 : X.dy 13 10 = false := by kernel_rfl
@[simp] theorem dy21_6 : X.dy 21 6 = true := by kernel_rfl
@[simp] theorem dy21_7 : X.dy 21 7 = true := by kernel_rfl
@[simp] theorem dy22_14 : X.dy 22 14 = false := by kernel_rfl
@[simp] theorem dy22_16 : X.dy 22 16 = false := by kernel_rfl
@[simp] theorem dy22_19 : X.dy 22 19 = false := by kernel_rfl
@[simp] theorem dy22_22 : X.dy 22 22 = false := by kernel_rfl
@[simp] theorem dy23_1 : X.dy 23 1 = true := by kernel_rfl
@[simp] theorem dy24_2 : X.dy 24 2 = false := by kernel_rfl
@[simp] theorem dy27_2 : X.dy 27 2 = false := by kernel_rfl
@[simp] theorem dy28_15 : X.dy 28 15 = false := by kernel_rfl
@[simp] theorem dy28_18 : X.dy 28 18 = false := by kernel_rfl
@[simp] theorem dy28_22 : X.dy 28 22 = false := by kernel_rfl
@[simp] theorem dy28_24 : X.dy 28 24 = false := by kernel_rfl
@[simp] theorem dy29_19 : X.dy 29 19 = true := by kernel_rfl
@[simp] theorem dy33_12 : X.dy 33 12 = false := by kernel_rfl
@[simp] theorem dy34_10 : X.dy 34 10 = false := by kernel_rfl
@[simp] theorem dy35_2 : X.dy 35 2 = false := by kernel_rfl
@[simp] theorem dy37_1 : X.dy 37 1 = true := by kernel_rfl
@[simp] theorem dy39_3 : X.dy 39 3 = false := by kernel_rfl
@[simp] theorem dy40_3 : X.dy 40 3 = false := by kernel_rfl
@[simp] theorem dy45_5 : X.dy 45 5 = false := by kernel_rfl
@[simp] theorem dy45_8 : X.dy 45 8 = false := by kernel_rfl
@[simp] theorem dy48_9 : X.dy 48 9 = true := by kernel_rfl
@[simp] theorem dy48_20 : X.dy 48 20 = true := by kernel_rfl
@[simp] theorem dy52_6 : X.dy 52 6 = false := by kernel_rfl
@[simp] theorem dy56_1 : X.dy 56 1 = false := by kernel_rfl
@[simp] theorem dy57_3 : X.dy 57 3 = false := by kernel_rfl
@[simp] theorem dy58_3 : X.dy 58 3 = true := by kernel_rfl
@[simp] theorem dy58_11 : X.dy 58 11 = false := by kernel_rfl
@[simp] theorem dy58_17 : X.dy 58 17 = false := by kernel_rfl
@[simp] theorem dy65_8 : X.dy 65 8 = false := by kernel_rfl
@[simp] theorem size0 : sizeT X 0 = 1 := by kernel_rfl
@[simp] theorem bytes0 : bytesT X 0 = 0 := by kernel_rfl
@[simp] theorem okT0 : okT X 0 = true := by kernel_rfl
@[simp] theorem isAgg0 : isAggT X 0 = false := by kernel_rfl
@[simp] theorem isInt0 : isIntT X 0 = false := by kernel_rfl
@[simp] theorem isArr0 : isArrT X 0 = false := by kernel_rfl
@[simp] theorem isU80 : isU8 X 0 = false := by kernel_rfl
@[simp] theorem zok0 : zeroOk X 0 = true := by kernel_rfl
@[simp] theorem und3 : und X 3 = .int .i64 := by kernel_rfl
@[simp] theorem size3 : sizeT X 3 = 1 := by kernel_rfl
@[simp] theorem bytes3 : bytesT X 3 = 8 := by kernel_rfl
@[simp] theorem okT3 : okT X 3 = true := by kernel_rfl
@[simp] theorem isAgg3 : isAggT X 3 = false := by kernel_rfl
@[simp] theorem isInt3 : isIntT X 3 = true := by kernel_rfl
@[simp] theorem isArr3 : isArrT X 3 = false := by kernel_rfl
@[simp] theorem isU83 : isU8 X 3 = false := by kernel_rfl
@[simp] theorem zok3 : zeroOk X 3 = true := by kernel_rfl
@[simp] theorem zero3 : zeroAV X 3 = .int .i64 0 := by kernel_rfl
@[simp] theorem und4 : und X 4 = .bool := by kernel_rfl
@[simp] theorem size4 : sizeT X 4 = 1 := by kernel_rfl
@[simp] theorem bytes4 : bytesT X 4 = 1 := by kernel_rfl
@[simp] theorem okT4 : okT X 4 = true := by kernel_rfl
@[simp] theorem isAgg4 : isAggT X 4 = false := by kernel_rfl
@[simp] theorem isInt4 : isIntT X 4 = false := by kernel_rfl
@[simp] theorem isArr4 : isArrT X 4 = false := by kernel_rfl
@[simp] theorem isU84 : isU8 X 4 = false := by kernel_rfl
@[simp] theorem zok4 : zeroOk X 4 = true := by kernel_rfl
@[simp] theorem zero4 : zeroAV X 4 = .bool false := by kernel_rfl
@[simp] theorem und5 : und X 5 = .int .u8 := by kernel_rfl
@[simp] theorem size5 : sizeT X 5 = 1 := by kernel_rfl
@[simp] theorem bytes5 : bytesT X 5 = 1 := by kernel_rfl
@[simp] theorem okT5 : okT X 5 = true := by kernel_rfl
@[simp] theorem isAgg5 : isAggT X 5 = false := by kernel_rfl
@[simp] theorem isInt5 : isIntT X 5 = true := by kernel_rfl
@[simp] theorem isArr5 : isArrT X 5 = false := by kernel_rfl
@[simp] theorem isU85 : isU8 X 5 = true := by kernel_rfl
@[simp] theorem zok5 : zeroOk X 5 = true := by kernel_rfl
@[simp] theorem zero5 : zeroAV X 5 = .int .u8 0 := by kernel_rfl
@[simp] theorem und9 : und X 9 = .string := by kernel_rfl
@[simp] theorem size9 : sizeT X 9 = 1 := by kernel_rfl
@[simp] theorem bytes9 : bytesT X 9 = 16 := by kernel_rfl
@[simp] theorem okT9 : okT X 9 = true := by kernel_rfl
@[simp] theorem isAgg9 : isAggT X 9 = false := by kernel_rfl
@[simp] theorem isInt9 : isIntT X 9 = false := by kernel_rfl
@[simp] theorem isArr9 : isArrT X 9 = false := by kernel_rfl
@[simp] theorem isU89 : isU8 X 9 = false := by kernel_rfl
@[simp] theorem zok9 : zeroOk X 9 = true := by kernel_rfl
@[simp] theorem zero9 : zeroAV X 9 = .str [] := by kernel_rfl
@[simp] theorem und22 : und X 22 = .slice 25 := by kernel_rfl
@[simp] theorem size22 : sizeT X 22 = 1 := by kernel_rfl
@[simp] theorem bytes22 : bytesT X 22 = 24 := by kernel_rfl
@[simp] theorem okT22 : okT X 22 = true := by kernel_rfl
@[simp] theorem isAgg22 : isAggT X 22 = false := by kernel_rfl
@[simp] theorem isInt22 : isIntT X 22 = false := by kernel_rfl
@[simp] theorem isArr22 : isArrT X 22 = false := by kernel_rfl
@[simp] theorem isU822 : isU8 X 22 = false := by kernel_rfl
@[simp] theorem zok22 : zeroOk X 22 = true := by kernel_rfl
@[simp] theorem zero22 : zeroAV X 22 = .ro 0 .pn 0 := by kernel_rfl
@[simp] theorem size25 : sizeT X 25 = 3 := by kernel_rfl
@[simp] theorem bytes25 : bytesT X 25 = 24 := by kernel_rfl
@[simp] theorem okT25 : okT X 25 = true := by kernel_rfl
@[simp] theorem isAgg25 : isAggT X 25 = true := by kernel_rfl
@[simp] theorem isInt25 : isIntT X 25 = false := by kernel_rfl
@[simp] theorem isArr25 : isArrT X 25 = false := by kernel_rfl
@[simp] theorem isU825 : isU8 X 25 = false := by kernel_rfl
@[simp] theorem zok25 : zeroOk X 25 = true := by kernel_rfl
@[simp] theorem zero25 : zeroAV X 25 = .agg (.pc [.int .i64 0, .int .i64 0, .int .u8 0]) := by kernel_rfl
@[simp] theorem und28 : und X 28 = .slice 5 := by kernel_rfl
@[simp] theorem size28 : sizeT X 28 = 1 := by kernel_rfl
@[simp] theorem bytes28 : bytesT X 28 = 24 := by kernel_rfl
@[simp] theorem okT28 : okT X 28 = true := by kernel_rfl
@[simp] theorem isAgg28 : isAggT X 28 = false := by kernel_rfl
@[simp] theorem isInt28 : isIntT X 28 = false := by kernel_rfl
@[simp] theorem isArr28 : isArrT X 28 = false := by kernel_rfl
@[simp] theorem isU828 : isU8 X 28 = false := by kernel_rfl
@[simp] theorem zok28 : zeroOk X 28 = true := by kernel_rfl
@[simp] theorem zero28 : zeroAV X 28 = .ro 0 .pn 0 := by kernel_rfl
@[simp] theorem und31 : und X 31 = .int .i64 := by kernel_rfl
@[simp] theorem size31 : sizeT X 31 = 1 := by kernel_rfl
@[simp] theorem bytes31 : bytesT X 31 = 8 := by kernel_rfl
@[simp] theorem okT31 : okT X 31 = true := by kernel_rfl
@[simp] theorem isAgg31 : isAggT X 31 = false := by kernel_rfl
@[simp] theorem isInt31 : isIntT X 31 = true := by kernel_rfl
@[simp] theorem isArr31 : isArrT X 31 = false := by kernel_rfl
@[simp] theorem isU831 : isU8 X 31 = false := by kernel_rfl
@[simp] theorem zok31 : zeroOk X 31 = true := by kernel_rfl
@[simp] theorem zero31 : zeroAV X 31 = .int .i64 0 := by kernel_rfl
@[simp] theorem size32 : sizeT X 32 = 1 := by kernel_rfl
@[simp] theorem bytes32 : bytesT X 32 = 0 := by kernel_rfl
@[simp] theorem okT32 : okT X 32 = true := by kernel_rfl
@[simp] theorem isAgg32 : isAggT X 32 = false := by kernel_rfl
@[simp] theorem isInt32 : isIntT X 32 = false := by kernel_rfl
@[simp] theorem isArr32 : isArrT X 32 = false := by kernel_rfl
@[simp] theorem isU832 : isU8 X 32 = false := by kernel_rfl
@[simp] theorem zok32 : zeroOk X 32 = true := by kernel_rfl
@[simp] theorem size36 : sizeT X 36 = 1 := by kernel_rfl
@[simp] theorem bytes36 : bytesT X 36 = 0 := by kernel_rfl
@[simp] theorem okT36 : okT X 36 = true := by kernel_rfl
@[simp] theorem isAgg36 : isAggT X 36 = false := by kernel_rfl
@[simp] theorem isInt36 : isIntT X 36 = false := by kernel_rfl
@[simp] theorem isArr36 : isArrT X 36 = false := by kernel_rfl
@[simp] theorem isU836 : isU8 X 36 = false := by kernel_rfl
@[simp] theorem zok36 : zeroOk X 36 = true := by kernel_rfl
@[simp] theorem und39 : und X 39 = .map 40 41 := by kernel_rfl
@[simp] theorem size39 : sizeT X 39 = 1 := by kernel_rfl
@[simp] theorem bytes39 : bytesT X 39 = 8 := by kernel_rfl
@[simp] theorem okT39 : okT X 39 = true := by kernel_rfl
@[simp] theorem isAgg39 : isAggT X 39 = false := by kernel_rfl
@[simp] theorem isInt39 : isIntT X 39 = false := by kernel_rfl
@[simp] theorem isArr39 : isArrT X 39 = false := by kernel_rfl
@[simp] theorem isU839 : isU8 X 39 = false := by kernel_rfl
@[simp] theorem zok39 : zeroOk X 39 = true := by kernel_rfl
@[simp] theorem zero39 : zeroAV X 39 = .nilmap := by kernel_rfl
@[simp] theorem und40 : und X 40 = .array 3 5 := by kernel_rfl
@[simp] theorem size40 : sizeT X 40 = 3 := by kernel_rfl
@[simp] theorem bytes40 : bytesT X 40 = 3 := by kernel_rfl
@[simp] theorem okT40 : okT X 40 = true := by kernel_rfl
@[simp] theorem isAgg40 : isAggT X 40 = true := by kernel_rfl
@[simp] theorem isInt40 : isIntT X 40 = false := by kernel_rfl
@[simp] theorem isArr40 : isArrT X 40 = true := by kernel_rfl
@[simp] theorem isU840 : isU8 X 40 = false := by kernel_rfl
@[simp] theorem zok40 : zeroOk X 40 = true := by kernel_rfl
@[simp] theorem zero40 : zeroAV X 40 = .agg (.pb [0, 0, 0]) := by kernel_rfl
@[simp] theorem und41 : und X 41 = .slice 3 := by kernel_rfl
@[simp] theorem size41 : sizeT X 41 = 1 := by kernel_rfl
@[simp] theorem bytes41 : bytesT X 41 = 24 := by kernel_rfl
@[simp] theorem okT41 : okT X 41 = true := by kernel_rfl
@[simp] theorem isAgg41 : isAggT X 41 = false := by kernel_rfl
@[simp] theorem isInt41 : isIntT X 41 = false := by kernel_rfl
@[simp] theorem isArr41 : isArrT X 41 = false := by kernel_rfl
@[simp] theorem isU841 : isU8 X 41 = false := by kernel_rfl
@[simp] theorem zok41 : zeroOk X 41 = true := by kernel_rfl
@[simp] theorem zero41 : zeroAV X 41 = .ro 0 .pn 0 := by kernel_rfl
@[simp] theorem size42 : sizeT X 42 = 1 := by kernel_rfl
@[simp] theorem bytes42 : bytesT X 42 = 8 := by kernel_rfl
@[simp] theorem okT42 : okT X 42 = true := by kernel_rfl
@[simp] theorem isAgg42 : isAggT X 42 = false := by kernel_rfl
@[simp] theorem isInt42 : isIntT X 42 = false := by kernel_rfl
@[simp] theorem isArr42 : isArrT X 42 = false := by kernel_rfl
@[simp] theorem isU842 : isU8 X 42 = false := by kernel_rfl
@[simp] theorem zok42 : zeroOk X 42 = true := by kernel_rfl
@[simp] theorem zero42 : zeroAV X 42 = .nilfn := by kernel_rfl
@[simp] theorem und44 : und X 44 = .pointer 46 := by kernel_rfl
@[simp] theorem size44 : sizeT X 44 = 1 := by kernel_rfl
@[simp] theorem bytes44 : bytesT X 44 = 8 := by kernel_rfl
@[simp] theorem okT44 : okT X 44 = true := by kernel_rfl
@[simp] theorem isAgg44 : isAggT X 44 = false := by kernel_rfl
@[simp] theorem isInt44 : isIntT X 44 = false := by kernel_rfl
@[simp] theorem isArr44 : isArrT X 44 = false := by kernel_rfl
@[simp] theorem isU844 : isU8 X 44 = false := by kernel_rfl
@[simp] theorem zok44 : zeroOk X 44 = true := by kernel_rfl
@[simp] theorem zero44 : zeroAV X 44 = .nilptr := by kernel_rfl
@[simp] theorem size46 : sizeT X 46 = 2 := by kernel_rfl
@[simp] theorem bytes46 : bytesT X 46 = 32 := by kernel_rfl
@[simp] theorem okT46 : okT X 46 = true := by kernel_rfl
@[simp] theorem isAgg46 : isAggT X 46 = true := by kernel_rfl
@[simp] theorem isInt46 : isIntT X 46 = false := by kernel_rfl
@[simp] theorem isArr46 : isArrT X 46 = false := by kernel_rfl
@[simp] theorem isU846 : isU8 X 46 = false := by kernel_rfl
@[simp] theorem zok46 : zeroOk X 46 = true := by kernel_rfl
@[simp] theorem zero46 : zeroAV X 46 = .agg (.pc [.ro 0 .pn 0, .int .i64 0]) := by kernel_rfl
@[simp] theorem size47 : sizeT X 47 = 1 := by kernel_rfl
@[simp] theorem bytes47 : bytesT X 47 = 8 := by kernel_rfl
@[simp] theorem okT47 : okT X 47 = true := by kernel_rfl
@[simp] theorem isAgg47 : isAggT X 47 = false := by kernel_rfl
@[simp] theorem isInt47 : isIntT X 47 = false := by kernel_rfl
@[simp] theorem isArr47 : isArrT X 47 = false := by kernel_rfl
@[simp] theorem isU847 : isU8 X 47 = false := by kernel_rfl
@[simp] theorem zok47 : zeroOk X 47 = true := by kernel_rfl
@[simp] theorem zero47 : zeroAV X 47 = .nilfn := by kernel_rfl
@[simp] theorem und49 : und X 49 = .int .u64 := by kernel_rfl
@[simp] theorem size49 : sizeT X 49 = 1 := by kernel_rfl
@[simp] theorem bytes49 : bytesT X 49 = 8 := by kernel_rfl
@[simp] theorem okT49 : okT X 49 = true := by kernel_rfl
@[simp] theorem isAgg49 : isAggT X 49 = false := by kernel_rfl
@[simp] theorem isInt49 : isIntT X 49 = true := by kernel_rfl
@[simp] theorem isArr49 : isArrT X 49 = false := by kernel_rfl
@[simp] theorem isU849 : isU8 X 49 = false := by kernel_rfl
@[simp] theorem zok49 : zeroOk X 49 = true := by kernel_rfl
@[simp] theorem zero49 : zeroAV X 49 = .int .u64 0 := by kernel_rfl
@[simp] theorem und50 : und X 50 = .pointer 52 := by kernel_rfl
@[simp] theorem size50 : sizeT X 50 = 1 := by kernel_rfl
@[simp] theorem bytes50 : bytesT X 50 = 8 := by kernel_rfl
@[simp] theorem okT50 : okT X 50 = true := by kernel_rfl
@[simp] theorem isAgg50 : isAggT X 50 = false := by kernel_rfl
@[simp] theorem isInt50 : isIntT X 50 = false := by kernel_rfl
@[simp] theorem isArr50 : isArrT X 50 = false := by kernel_rfl
@[simp] theorem isU850 : isU8 X 50 = false := by kernel_rfl
@[simp] theorem zok50 : zeroOk X 50 = true := by kernel_rfl
@[simp] theorem zero50 : zeroAV X 50 = .nilptr := by kernel_rfl
@[simp] theorem size52 : sizeT X 52 = 5 := by kernel_rfl
@[simp] theorem bytes52 : bytesT X 52 = 72 := by kernel_rfl
@[simp] theorem okT52 : okT X 52 = true := by kernel_rfl
@[simp] theorem isAgg52 : isAggT X 52 = true := by kernel_rfl
@[simp] theorem isInt52 : isIntT X 52 = false := by kernel_rfl
@[simp] theorem isArr52 : isArrT X 52 = false := by kernel_rfl
@[simp] theorem isU852 : isU8 X 52 = false := by kernel_rfl
@[simp] theorem zok52 : zeroOk X 52 = true := by kernel_rfl
@[simp] theorem zero52 : zeroAV X 52 = .agg (.pc [.ro 0 .pn 0, .int .i64 0, .ro 0 .pn 0, .int .i64 0, .int .i64 0]) := by kernel_rfl
@[simp] theorem und53 : und X 53 = .slice 68 := by kernel_rfl
@[simp] theorem size53 : sizeT X 53 = 1 := by kernel_rfl
@[simp] theorem bytes53 : bytesT X 53 = 24 := by kernel_rfl
@[simp] theorem okT53 : okT X 53 = true := by kernel_rfl
@[simp] theorem isAgg53 : isAggT X 53 = false := by kernel_rfl
@[simp] theorem isInt53 : isIntT X 53 = false := by kernel_rfl
@[simp] theorem isArr53 : isArrT X 53 = false := by kernel_rfl
@[simp] theorem isU853 : isU8 X 53 = false := by kernel_rfl
@[simp] theorem zok53 : zeroOk X 53 = true := by kernel_rfl
@[simp] theorem zero53 : zeroAV X 53 = .ro 0 .pn 0 := by kernel_rfl
@[simp] theorem size55 : sizeT X 55 = 1 := by kernel_rfl
@[simp] theorem bytes55 : bytesT X 55 = 0 := by kernel_rfl
@[simp] theorem okT55 : okT X 55 = true := by kernel_rfl
@[simp] theorem isAgg55 : isAggT X 55 = false := by kernel_rfl
@[simp] theorem isInt55 : isIntT X 55 = false := by kernel_rfl
@[simp] theorem isArr55 : isArrT X 55 = false := by kernel_rfl
@[simp] theorem isU855 : isU8 X 55 = false := by kernel_rfl
@[simp] theorem zok55 : zeroOk X 55 = true := by kernel_rfl
@[simp] theorem size57 : sizeT X 57 = 1 := by kernel_rfl
@[simp] theorem bytes57 : bytesT X 57 = 0 := by kernel_rfl
@[simp] theorem okT57 : okT X 57 = true := by kernel_rfl
@[simp] theorem isAgg57 : isAggT X 57 = false := by kernel_rfl
@[simp] theorem isInt57 : isIntT X 57 = false := by kernel_rfl
@[simp] theorem isArr57 : isArrT X 57 = false := by kernel_rfl
@[simp] theorem isU857 : isU8 X 57 = false := by kernel_rfl
@[simp] theorem zok57 : zeroOk X 57 = true := by kernel_rfl
@[simp] theorem size59 : sizeT X 59 = 1 := by kernel_rfl
@[simp] theorem bytes59 : bytesT X 59 = 0 := by kernel_rfl
@[simp] theorem okT59 : okT X 59 = true := by kernel_rfl
@[simp] theorem isAgg59 : isAggT X 59 = false := by kernel_rfl
@[simp] theorem isInt59 : isIntT X 59 = false := by kernel_rfl
@[simp] theorem isArr59 : isArrT X 59 = false := by kernel_rfl
@[simp] theorem isU859 : isU8 X 59 = false := by kernel_rfl
@[simp] theorem zok59 : zeroOk X 59 = true := by kernel_rfl
@[simp] theorem und61 : und X 61 = .pointer 63 := by kernel_rfl
@[simp] theorem size61 : sizeT X 61 = 1 := by kernel_rfl
@[simp] theorem bytes61 : bytesT X 61 = 8 := by kernel_rfl
@[simp] theorem okT61 : okT X 61 = true := by kernel_rfl
@[simp] theorem isAgg61 : isAggT X 61 = false := by kernel_rfl
@[simp] theorem isInt61 : isIntT X 61 = false := by kernel_rfl
@[simp] theorem isArr61 : isArrT X 61 = false := by kernel_rfl
@[simp] theorem isU861 : isU8 X 61 = false := by kernel_rfl
@[simp] theorem zok61 : zeroOk X 61 = true := by kernel_rfl
@[simp] theorem zero61 : zeroAV X 61 = .nilptr := by kernel_rfl
@[simp] theorem size63 : sizeT X 63 = 2 := by kernel_rfl
@[simp] theorem bytes63 : bytesT X 63 = 32 := by kernel_rfl
@[simp] theorem okT63 : okT X 63 = true := by kernel_rfl
@[simp] theorem isAgg63 : isAggT X 63 = true := by kernel_rfl
@[simp] theorem isInt63 : isIntT X 63 = false := by kernel_rfl
@[simp] theorem isArr63 : isArrT X 63 = false := by kernel_rfl
@[simp] theorem isU863 : isU8 X 63 = false := by kernel_rfl
@[simp] theorem zok63 : zeroOk X 63 = true := by kernel_rfl
@[simp] theorem zero63 : zeroAV X 63 = .agg (.pc [.ro 0 .pn 0, .int .i64 0]) := by kernel_rfl
@[simp] theorem size65 : sizeT X 65 = 1 := by kernel_rfl
@[simp] theorem bytes65 : bytesT X 65 = 0 := by kernel_rfl
@[simp] theorem okT65 : okT X 65 = true := by kernel_rfl
@[simp] theorem isAgg65 : isAggT X 65 = false := by kernel_rfl
@[simp] theorem isInt65 : isIntT X 65 = false := by kernel_rfl
@[simp] theorem isArr65 : isArrT X 65 = false := by kernel_rfl
@[simp] theorem isU865 : isU8 X 65 = false := by kernel_rfl
@[simp] theorem zok65 : zeroOk X 65 = true := by kernel_rfl
@[simp] theorem size68 : sizeT X 68 = 4 := by kernel_rfl
@[simp] theorem bytes68 : bytesT X 68 = 32 := by kernel_rfl
@[simp] theorem okT68 : okT X 68 = true := by kernel_rfl
@[simp] theorem isAgg68 : isAggT X 68 = true := by kernel_rfl
@[simp] theorem isInt68 : isIntT X 68 = false := by kernel_rfl
@[simp] theorem isArr68 : isArrT X 68 = false := by kernel_rfl
@[simp] theorem isU868 : isU8 X 68 = false := by kernel_rfl
@[simp] theorem zok68 : zeroOk X 68 = true := by kernel_rfl
@[simp] theorem zero68 : zeroAV X 68 = .agg (.pc [.int .i64 0, .bool false, .int .i64 0, .int .i64 0]) := by kernel_rfl
@[simp] theorem size71 : sizeT X 71 = 1 := by kernel_rfl
@[simp] theorem bytes71 : bytesT X 71 = 0 := by kernel_rfl
@[simp] theorem okT71 : okT X 71 = true := by kernel_rfl
@[simp] theorem isAgg71 : isAggT X 71 = false := by kernel_rfl
@[simp] theorem isInt71 : isIntT X 71 = false := by kernel_rfl
@[simp] theorem isArr71 : isArrT X 71 = false := by kernel_rfl
@[simp] theorem isU871 : isU8 X 71 = false := by kernel_rfl
@[simp] theorem zok71 : zeroOk X 71 = true := by kernel_rfl
@[simp] theorem und73 : und X 73 = .array 16 3 := by kernel_rfl
@[simp] theorem size73 : sizeT X 73 = 16 := by kernel_rfl
@[simp] theorem bytes73 : bytesT X 73 = 128 := by kernel_rfl
@[simp] theorem okT73 : okT X 73 = true := by kernel_rfl
@[simp] theorem isAgg73 : isAggT X 73 = true := by kernel_rfl
@[simp] theorem isInt73 : isIntT X 73 = false := by kernel_rfl
@[simp] theorem isArr73 : isArrT X 73 = true := by kernel_rfl
@[simp] theorem isU873 : isU8 X 73 = false := by kernel_rfl
@[simp] theorem zok73 : zeroOk X 73 = true := by kernel_rfl
@[simp] theorem zero73 : zeroAV X 73 = .agg (.pi .i64 [0, 0, 0, 0, 0, 0, 0, 0, 0, 0, 0, 0, 0, 0, 0, 0]) := by kernel_rfl
@[simp] theorem size74 : sizeT X 74 = 1 := by kernel_rfl
@[simp] theorem bytes74 : bytesT X 74 = 0 := by kernel_rfl
@[simp] theorem okT74 : okT X 74 = true := by kernel_rfl
@[simp] theorem isAgg74 : isAggT X 74 = false := by kernel_rfl
@[simp] theorem isInt74 : isIntT X 74 = false := by kernel_rfl
@[simp] theorem isArr74 : isArrT X 74 = false := by kernel_rfl
@[simp] theorem isU874 : isU8 X 74 = false := by kernel_rfl
@[simp] theorem zok74 : zeroOk X 74 = true := by kernel_rfl
@[simp] theorem und76 : und X 76 = .array 17 3 := by kernel_rfl
@[simp] theorem size76 : sizeT X 76 = 17 := by kernel_rfl
@[simp] theorem bytes76 : bytesT X 76 = 136 := by kernel_rfl
@[simp] theorem okT76 : okT X 76 = true := by kernel_rfl
@[simp] theorem isAgg76 : isAggT X 76 = true := by kernel_rfl
@[simp] theorem isInt76 : isIntT X 76 = false := by kernel_rfl
@[simp] theorem isArr76 : isArrT X 76 = true := by kernel_rfl
@[simp] theorem isU876 : isU8 X 76 = false := by kernel_rfl
@[simp] theorem zok76 : zeroOk X 76 = true := by kernel_rfl
@[simp] theorem zero76 : zeroAV X 76 = .agg (.pi .i64 [0, 0, 0, 0, 0, 0, 0, 0, 0, 0, 0, 0, 0, 0, 0, 0, 0]) := by kernel_rfl
@[simp] theorem und82 : und X 82 = .array 19 3 := by kernel_rfl
@[simp] theorem size82 : sizeT X 82 = 19 := by kernel_rfl
@[simp] theorem bytes82 : bytesT X 82 = 152 := by kernel_rfl
@[simp] theorem okT82 : okT X 82 = true := by kernel_rfl
@[simp] theorem isAgg82 : isAggT X 82 = true := by kernel_rfl
@[simp] theorem isInt82 : isIntT X 82 = false := by kernel_rfl
@[simp] theorem isArr82 : isArrT X 82 = true := by kernel_rfl
@[simp] theorem isU882 : isU8 X 82 = false := by kernel_rfl
@[simp] theorem zok82 : zeroOk X 82 = true := by kernel_rfl
@[simp] theorem zero82 : zeroAV X 82 = .agg (.pi .i64 [0, 0, 0, 0, 0, 0, 0, 0, 0, 0, 0, 0, 0, 0, 0, 0, 0, 0, 0]) := by kernel_rfl
@[simp] theorem size85 : sizeT X 85 = 1 := by kernel_rfl
@[simp] theorem bytes85 : bytesT X 85 = 0 := by kernel_rfl
@[simp] theorem okT85 : okT X 85 = true := by kernel_rfl
@[simp] theorem isAgg85 : isAggT X 85 = false := by kernel_rfl
@[simp] theorem isInt85 : isIntT X 85 = false := by kernel_rfl
@[simp] theorem isArr85 : isArrT X 85 = false := by kernel_rfl
@[simp] theorem isU885 : isU8 X 85 = false := by kernel_rfl
@[simp] theorem zok85 : zeroOk X 85 = true := by kernel_rfl
@[simp] theorem und87 : und X 87 = .array 2 3 := by kernel_rfl
@[simp] theorem size87 : sizeT X 87 = 2 := by kernel_rfl
@[simp] theorem bytes87 : bytesT X 87 = 16 := by kernel_rfl
@[simp] theorem okT87 : okT X 87 = true := by kernel_rfl
@[simp] theorem isAgg87 : isAggT X 87 = true := by kernel_rfl
@[simp] theorem isInt87 : isIntT X 87 = false := by kernel_rfl
@[simp] theorem isArr87 : isArrT X 87 = true := by kernel_rfl
@[simp] theorem isU887 : isU8 X 87 = false := by kernel_rfl
@[simp] theorem zok87 : zeroOk X 87 = true := by kernel_rfl
@[simp] theorem zero87 : zeroAV X 87 = .agg (.pi .i64 [0, 0]) := by kernel_rfl
@[simp] theorem und88 : und X 88 = .array 29 87 := by kernel_rfl
@[simp] theorem size88 : sizeT X 88 = 58 := by kernel_rfl
@[simp] theorem bytes88 : bytesT X 88 = 464 := by kernel_rfl
@[simp] theorem okT88 : okT X 88 = true := by kernel_rfl
@[simp] theorem isAgg88 : isAggT X 88 = true := by kernel_rfl
@[simp] theorem isInt88 : isIntT X 88 = false := by kernel_rfl
@[simp] theorem isArr88 : isArrT X 88 = true := by kernel_rfl
@[simp] theorem isU888 : isU8 X 88 = false := by kernel_rfl
@[simp] theorem zok88 : zeroOk X 88 = true := by kernel_rfl
@[simp] theorem zero88 : zeroAV X 88 = .agg (.pr 2 [.pc [.int .i64 0, .int .i64 0], .pc [.int .i64 0, .int .i64 0], .pc [.int .i64 0, .int .i64 0], .pc [.int .i64 0, .int .i64 0], .pc [.int .i64 0, .int .i64 0], .pc [.int .i64 0, .int .i64 0], .pc [.int .i64 0, .int .i64 0], .pc [.int .i64 0, .int .i64 0], .pc [.int .i64 0, .int .i64 0], .pc [.int .i64 0, .int .i64 0], .pc [.int .i64 0, .int .i64 0], .pc [.int .i64 0, .int .i64 0], .pc [.int .i64 0, .int .i64 0], .pc [.int .i64 0, .int .i64 0], .pc [.int .i64 0, .int .i64 0], .pc [.int .i64 0, .int .i64 0], .pc [.int .i64 0, .int .i64 0], .pc [.int .i64 0, .int .i64 0], .pc [.int .i64 0, .int .i64 0], .pc [.int .i64 0, .int .i64 0], .pc [.int .i64 0, .int .i64 0], .pc [.int .i64 0, .int .i64 0], .pc [.int .i64 0, .int .i64 0], .pc [.int .i64 0, .int .i64 0], .pc [.int .i64 0, .int .i64 0], .pc [.int .i64 0, .int .i64 0], .pc [.int .i64 0, .int .i64 0], .pc [.int .i64 0, .int .i64 0], .pc [.int .i64 0, .int .i64 0]]) := by kernel_rfl
@[simp] theorem size89 : sizeT X 89 = 1 := by kernel_rfl
@[simp] theorem bytes89 : bytesT X 89 = 8 := by kernel_rfl
@[simp] theorem okT89 : okT X 89 = true := by kernel_rfl
@[simp] theorem isAgg89 : isAggT X 89 = false := by kernel_rfl
@[simp] theorem isInt89 : isIntT X 89 = false := by kernel_rfl
@[simp] theorem isArr89 : isArrT X 89 = false := by kernel_rfl
@[simp] theorem isU889 : isU8 X 89 = false := by kernel_rfl
@[simp] theorem zok89 : zeroOk X 89 = true := by kernel_rfl
@[simp] theorem zero89 : zeroAV X 89 = .nilfn := by kernel_rfl
@[simp] theorem und91 : und X 91 = .array 16 41 := by kernel_rfl
@[simp] theorem size91 : sizeT X 91 = 16 := by kernel_rfl
@[simp] theorem bytes91 : bytesT X 91 = 384 := by kernel_rfl
@[simp] theorem okT91 : okT X 91 = true := by kernel_rfl
@[simp] theorem isAgg91 : isAggT X 91 = true := by kernel_rfl
@[simp] theorem isInt91 : isIntT X 91 = false := by kernel_rfl
@[simp] theorem isArr91 : isArrT X 91 = true := by kernel_rfl
@[simp] theorem isU891 : isU8 X 91 = false := by kernel_rfl
@[simp] theorem zok91 : zeroOk X 91 = true := by kernel_rfl
@[simp] theorem zero91 : zeroAV X 91 = .agg (.pc [.ro 0 .pn 0, .ro 0 .pn 0, .ro 0 .pn 0, .ro 0 .pn 0, .ro 0 .pn 0, .ro 0 .pn 0, .ro 0 .pn 0, .ro 0 .pn 0, .ro 0 .pn 0, .ro 0 .pn 0, .ro 0 .pn 0, .ro 0 .pn 0, .ro 0 .pn 0, .ro 0 .pn 0, .ro 0 .pn 0, .ro 0 .pn 0]) := by kernel_rfl
@[simp] theorem fa25_0 (H : AM.Heap) (x : AV) : fieldAddrV X H 25 x 0 = faV H x 0 := fieldAddr_of (ty := 3) (by kernel_rfl) (by kernel_rfl) H x
@[simp] theorem fv25_0 (x : AV) : fieldV X 25 x 0 = fvV X x 0 3 := field_of (by kernel_rfl) x
@[simp] theorem fa25_1 (H : AM.Heap) (x : AV) : fieldAddrV X H 25 x 1 = faV H x 1 := fieldAddr_of (ty := 3) (by kernel_rfl) (by kernel_rfl) H x
@[simp] theorem fv25_1 (x : AV) : fieldV X 25 x 1 = fvV X x 1 3 := field_of (by kernel_rfl) x
@[simp] theorem fa25_2 (H : AM.Heap) (x : AV) : fieldAddrV X H 25 x 2 = faV H x 2 := fieldAddr_of (ty := 5) (by kernel_rfl) (by kernel_rfl) H x
@[simp] theorem fv25_2 (x : AV) : fieldV X 25 x 2 = fvV X x 2 5 := field_of (by kernel_rfl) x
@[simp] theorem fa46_0 (H : AM.Heap) (x : AV) : fieldAddrV X H 46 x 0 = faV H x 0 := fieldAddr_of (ty := 28) (by kernel_rfl) (by kernel_rfl) H x
@[simp] theorem fv46_0 (x : AV) : fieldV X 46 x 0 = fvV X x 0 28 := field_of (by kernel_rfl) x
@[simp] theorem fa46_1 (H : AM.Heap) (x : AV) : fieldAddrV X H 46 x 1 = faV H x 1 := fieldAddr_of (ty := 3) (by kernel_rfl) (by kernel_rfl) H x
@[simp] theorem fv46_1 (x : AV) : fieldV X 46 x 1 = fvV X x 1 3 := field_of (by kernel_rfl) x
@[simp] theorem fa52_0 (H : AM.Heap) (x : AV) : fieldAddrV X H 52 x 0 = faV H x 0 := fieldAddr_of (ty := 28) (by kernel_rfl) (by kernel_rfl) H x
@[simp] theorem fv52_0 (x : AV) : fieldV X 52 x 0 = fvV X x 0 28 := field_of (by kernel_rfl) x
@[simp] theorem fa52_1 (H : AM.Heap) (x : AV) : fieldAddrV X H 52 x 1 = faV H x 1 := fieldAddr_of (ty := 3) (by kernel_rfl) (by kernel_rfl) H x
@[simp] theorem fv52_1 (x : AV) : fieldV X 52 x 1 = fvV X x 1 3 := field_of (by kernel_rfl) x
@[simp] theorem fa52_2 (H : AM.Heap) (x : AV) : fieldAddrV X H 52 x 2 = faV H x 2 := fieldAddr_of (ty := 28) (by kernel_rfl) (by kernel_rfl) H x
@[simp] theorem fv52_2 (x : AV) : fieldV X 52 x 2 = fvV X x 2 28 := field_of (by kernel_rfl) x
@[simp] theorem fa52_3 (H : AM.Heap) (x : AV) : fieldAddrV X H 52 x 3 = faV H x 3 := fieldAddr_of (ty := 3) (by kernel_rfl) (by kernel_rfl) H x
@[simp] theorem fv52_3 (x : AV) : fieldV X 52 x 3 = fvV X x 3 3 := field_of (by kernel_rfl) x
@[simp] theorem fa52_4 (H : AM.Heap) (x : AV) : fieldAddrV X H 52 x 4 = faV H x 4 := fieldAddr_of (ty := 31) (by kernel_rfl) (by kernel_rfl) H x
@[simp] theorem fv52_4 (x : AV) : fieldV X 52 x 4 = fvV X x 4 31 := field_of (by kernel_rfl) x
@[simp] theorem fa63_0 (H : AM.Heap) (x : AV) : fieldAddrV X H 63 x 0 = faV H x 0 := fieldAddr_of (ty := 28) (by kernel_rfl) (by kernel_rfl) H x
@[simp] theorem fv63_0 (x : AV) : fieldV X 63 x 0 = fvV X x 0 28 := field_of (by kernel_rfl) x
@[simp] theorem fa63_1 (H : AM.Heap) (x : AV) : fieldAddrV X H 63 x 1 = faV H x 1 := fieldAddr_of (ty := 3) (by kernel_rfl) (by kernel_rfl) H x
@[simp] theorem fv63_1 (x : AV) : fieldV X 63 x 1 = fvV X x 1 3 := field_of (by kernel_rfl) x
@[simp] theorem fa68_0 (H : AM.Heap) (x : AV) : fieldAddrV X H 68 x 0 = faV H x 0 := fieldAddr_of (ty := 3) (by kernel_rfl) (by kernel_rfl) H x
@[simp] theorem fv68_0 (x : AV) : fieldV X 68 x 0 = fvV X x 0 3 := field_of (by kernel_rfl) x
@[simp] theorem fa68_1 (H : AM.Heap) (x : AV) : fieldAddrV X H 68 x 1 = faV H x 1 := fieldAddr_of (ty := 4) (by kernel_rfl) (by kernel_rfl) H x
@[simp] theorem fv68_1 (x : AV) : fieldV X 68 x 1 = fvV X x 1 4 := field_of (by kernel_rfl) x
@[simp] theorem fa68_3 (H : AM.Heap) (x : AV) : fieldAddrV X H 68 x 3 = faV H x 3 := fieldAddr_of (ty := 3) (by kernel_rfl) (by kernel_rfl) H x
@[simp] theorem fv68_3 (x : AV) : fieldV X 68 x 3 = fvV X x 3 3 := field_of (by kernel_rfl) x

end Go.Proofs.Yteblpjhkgdpchaa
