/- X to X: texts of this claim, one behind the other; what each shows stands at its head. -/
import Derived.Test.YtafdnpcamepbmaaDoorRows
import Derived.Test.YtafdnpcamepbmaaDoorAm3
/- The seat's tables for the abstract machine, and what walks ask of the program. No conditions. -/
namespace Go.Proofs.YtafdnpcamepbmaaDoor
open Go.AM

def keepT : List (List (List Nat)) := [[], [], [[]], [[], [1], [1, 3], [1, 3, 4, 5], [1, 3, 4, 5, 7], [1, 3, 4, 5, 7, 9], [3, 4, 5, 7, 9, 10, 11], [0]], [[0, 1], [0, 1, 13], [4], [0, 1, 17], [4], [0, 1, 5, 6], [0, 1, 5, 25], [4], [0, 7, 8], [0, 7, 8, 33], [4], [0, 9, 10], [0, 9, 56], [4], [0, 9, 11], [0, 9, 11, 60], [0, 9, 11], [0, 9, 11, 94], [4], [4]], [[1, 2], [1, 2, 24], [4, 5], [1, 2, 25, 26, 27], [1, 2, 25, 26, 27, 28], [1, 2, 7, 25, 26, 27], [1, 2, 25, 26, 27, 33], [4, 5], [1, 2, 25, 26, 27], [1, 2, 8], [1, 2, 8, 9, 10], [1, 2, 8, 9, 10, 41], [4, 5], [1, 2, 8, 45], [4, 5], [1, 2, 10, 11], [1, 2, 10, 11, 60], [4, 5], [1, 2, 11, 12], [1, 2, 12, 65, 66], [1, 2, 12, 65, 66, 67], [1, 2, 12, 13, 65, 66], [1, 2, 12, 65, 66, 82], [4, 5], [1, 2, 12, 65, 66], [1, 2, 12, 84, 85, 86], [1, 2, 12, 84, 85, 86, 87], [1, 2, 12, 14, 15, 84, 85, 86], [1, 2, 12, 84, 85, 86, 100], [4, 5], [1, 2, 12, 84, 85, 86], [1, 2, 12, 16], [2, 12, 16, 102, 103, 104], [2, 12, 16, 102, 103, 104, 105], [2, 12, 16, 17, 18, 102, 103, 104], [2, 12, 16, 18, 102, 103, 104, 112], [2, 12, 16, 102, 103, 104], [2, 12, 16, 19, 20, 21, 102, 103, 104], [2, 12, 16, 19, 20, 21, 102, 103, 104, 125], [4, 5], [2, 12, 16, 102, 103, 104], [2, 12, 16, 102, 103, 104], [16, 137], [4, 5], [4, 5]], [[0, 1], [1, 6, 7], [1, 6, 7, 19], [4, 5], [6, 21, 22, 23], [6, 21, 22, 23, 24], [6, 8, 9, 21, 22, 23], [6, 8, 9, 21, 22, 23, 35], [4, 5], [6, 8, 9, 21, 22, 23, 41], [6, 8, 10, 21, 22, 23], [6, 21, 22, 23], [6, 21, 22, 23], [4, 5]], [[], [1, 2], [1, 2, 3, 4], [0]], [[0, 1], [0, 1, 10], [4], [0, 1, 5], [0, 1, 5, 14], [0, 1, 5], [0, 1, 5, 25], [4], [4]], [[0, 1], [4]], [[0, 1], [0, 1, 5], [0, 1, 5, 6], [0, 1, 5, 6, 14], [0, 1, 5, 6], [0, 1, 5, 6], [4]], [[0, 1, 2], [0, 1, 2, 17], [6, 7], [0, 1, 2, 22], [6, 7], [0, 1, 2, 23, 24, 25], [0, 1, 2, 23, 24, 25, 26], [0, 1, 2, 8, 9, 23, 24, 25], [0, 1, 2, 23, 24, 25, 36], [6, 7], [0, 1, 2, 23, 24, 25], [1, 2, 10], [1, 2, 10, 11], [1, 2, 10, 11, 12], [2, 10, 11, 12, 47, 48, 49], [2, 10, 11, 12, 47, 48, 49, 50], [2, 10, 11, 12, 13, 14, 47, 48, 49], [2, 10, 11, 12, 13, 14, 47, 48, 49, 56], [2, 10, 11, 12, 47, 48, 49], [2, 10, 11, 12, 47, 48, 49], [2, 10, 11, 12, 47, 48, 49], [6, 7]], [[0, 1], [0, 1, 15], [4, 5], [0, 1, 6], [0, 6, 16, 17], [0, 6, 16, 17, 18], [0, 6, 16, 17, 27], [0, 6, 16, 17], [0, 6, 7, 8, 9, 16, 17], [0, 6, 7, 8, 9, 16, 17, 41], [4, 5], [0, 6, 7, 8, 16, 17, 45], [4, 5], [0, 6, 16, 17], [0, 6, 16, 17], [6, 57], [4, 5], [4, 5]], [[1], [1, 4], [1, 4, 5], [1, 4, 5], [1, 4, 5], [1, 4, 5], [1, 4, 5], [1, 4, 5], [13], [2], [2], [1, 4, 14], [2], [1, 4, 16], [2], [1, 4, 18], [1, 4, 18], [1, 4, 18], [2], [1, 4, 22], [2], [1, 24], [2], [28], [2], [2]], [[0, 1], [0, 1, 9], [3, 4], [0, 1, 5], [5], [3, 4]], [[0, 1], [3]], [[0, 3, 4], [0, 3, 4, 7], [0, 3, 4, 7, 19], [0, 3, 4, 7, 19, 20], [4, 5, 6], [0, 3, 4, 7, 19, 23], [4, 5, 6], [0, 3, 4, 7, 19, 26], [0, 3, 4, 7, 19, 26], [4, 7, 8, 9, 10], [4, 7, 8, 9, 10, 38], [4, 5, 6], [4, 5, 6], [0, 3, 4, 7, 45], [4, 7, 11, 12, 13], [4, 7, 11, 12, 13, 53], [4, 5, 6], [4, 7, 11, 12, 58], [4, 5, 6], [4, 5, 6], [0, 4, 7, 14], [4, 6, 7, 14, 15], [4, 6, 7, 14, 15, 77], [4, 5, 6], [4, 7, 14, 15, 81], [4, 7, 14, 15, 16], [4, 5, 6], [4, 5, 6]], [[2, 3], [2, 3, 6], [2, 3, 6, 11], [4, 5], [2, 3, 14], [2, 3, 14, 15], [4, 5], [2, 3, 14, 20], [4, 5], [2, 3, 14, 25], [2, 3, 14, 25], [4, 5], [2, 33], [4, 5], [4, 5]], [[0, 1], [0, 1, 13], [4, 5], [0, 1, 14, 15, 16], [0, 1, 14, 15, 16, 17], [0, 1, 7, 14, 15, 16], [0, 1, 14, 15, 16, 23], [4, 5], [0, 1, 14, 15, 16], [1, 8], [8, 27, 28, 29], [8, 27, 28, 29, 30], [8, 10, 27, 28, 29], [8, 10, 27, 28, 29, 35], [8, 27, 28, 29], [8, 27, 28, 29], [8, 27, 28, 29], [4, 5]], [[2, 3], [2, 3, 5], [2, 3, 5, 11], [4], [2, 3, 5, 14], [4], [2, 3, 5, 6], [2, 3, 5, 6, 7], [2, 3, 5, 6, 7, 24], [2, 3, 5, 6, 7, 24, 25], [6], [2, 3, 5, 6, 7, 24, 27], [6], [2, 3, 5, 6, 7, 24, 60], [2, 3, 5, 6, 7, 24, 60], [2, 3, 5, 6, 7, 24, 60], [6], [2, 3, 5, 6, 24, 84], [2, 3, 5, 6, 24, 84], [6], [2, 5, 6, 103], [6], [121], [4], [4]], [[0], [0, 4], [2], [2]], [[0, 4, 5], [0, 4, 5, 8], [0, 4, 5, 24], [6, 7], [4, 5, 9], [4, 5, 9, 28], [4, 5, 9, 28, 29], [6, 7], [4, 5, 9, 28, 39], [4, 5, 9, 28, 39], [4, 5, 9, 28, 39], [6, 7], [4, 5, 9, 28, 50], [4, 5, 9, 28, 50], [6, 7], [4, 9, 59], [6, 7], [6, 7]], [[0], [0, 3, 4, 5], [0, 3, 4, 5, 13], [2, 3, 4], [0, 3, 5, 21], [2, 3, 4], [2, 3, 4]], [[0], [2]], [[0, 1, 4], [0, 1, 4, 7], [0, 1, 4, 7, 17], [4, 5, 6], [0, 1, 4, 7, 8], [0, 1, 4, 7, 8, 9], [0, 1, 4, 7, 8, 9, 25], [0, 1, 4, 7, 8, 9], [0, 1, 4, 7, 8, 9, 10], [0, 1, 4, 7, 8, 10, 27, 28, 29], [0, 1, 4, 7, 8, 10, 27, 28, 29, 30], [0, 1, 4, 7, 8, 10, 12, 27, 28, 29], [0, 1, 4, 7, 8, 10, 27, 28, 29], [0, 1, 4, 7, 8, 10, 27, 28, 29], [0, 1, 4, 7, 8, 41], [4, 5, 6], [0, 1, 4, 7, 8, 47], [4, 5, 6], [0, 1, 4, 7, 8, 13], [1, 4, 7, 8, 13], [1, 4, 7, 8, 13, 14], [1, 4, 7, 8, 13, 14, 58], [1, 4, 7, 8, 13, 14, 62], [4, 5, 6], [1, 4, 7, 8], [1, 4, 7, 8], [4, 7, 8, 97], [4, 5, 6], [4, 5, 6]], [[0], [3], [3, 4], [2], [3, 6], [3, 6], [2], [3, 9], [3, 9], [3, 9], [2], [3, 13], [13], [2], [2]], [[0, 1], [0, 1, 13], [4, 5], [0, 1, 17], [4, 5], [0, 1, 6], [0, 6, 18, 19], [0, 6, 18, 19, 20], [0, 6, 7, 18, 19], [0, 6, 18, 19], [0, 6, 18, 19], [4, 5]], [[0, 1], [4]], [[0, 1], [4]], [[1, 2], [1, 2, 5], [1, 2, 5, 22], [2, 5, 6], [2, 5, 6, 24], [2, 5, 6], [4], [1, 2, 5, 7], [2, 5, 7, 50], [4], [4]], [[0], [0]], [[0, 1], [4]], [[1, 2], [1, 2, 7], [4], [1, 2, 9], [4], [1, 2, 52], [4], [4]], [[0, 1, 2], [0, 1, 8, 9], [0, 1, 8, 9, 10], [0, 1, 7, 8, 9], [0, 1, 8, 9], [0, 1, 8, 9], [6]], [[0, 2, 4], [0, 4, 10], [0, 4], [0, 4, 14], [6], [0, 4, 21], [0, 4], [0, 4, 7], [0, 4, 7, 29], [0, 4, 7], [0, 4], [0, 4], [0, 4, 8], [0, 4, 8, 50], [6], [0, 4, 8, 57], [0, 4, 8], [0, 4, 8, 67], [0, 4, 8], [0, 4, 8], [0, 4, 88], [0, 4], [0, 4, 103], [0], [6]], [[0], [0, 8], [2, 3, 4], [0], [0, 11], [2, 3, 4], [0, 11, 16], [0, 5], [0, 11, 18], [0, 5], [0, 11, 20], [0, 5], [0, 11, 22], [0, 22], [2, 3, 4], [2, 4, 5], [2, 4, 5, 33], [2, 3, 4], [2, 3, 4]], [[0], [0]], [[0, 1, 2], [6], [5]], [[0, 1], [0, 1, 11], [0, 17], [4], [0, 5], [0, 5, 6], [0, 5, 6, 23], [0, 5, 6], [0, 5, 6, 7], [0, 5, 7], [5, 7, 34], [5, 7], [4], [4], [9], [4]], [[0, 1], [0, 1, 10], [0, 12], [4], [0, 5], [0, 5, 6], [5, 6], [4], [8], [4]], [[0, 1], [1, 5], [4]], [[0], [0, 4], [2], [2]], [[0, 1], [0, 1, 5, 6], [1, 5, 6, 7], [1, 5, 6, 7, 16], [1, 6, 7], [7], [4]], [[1], [2]], [[0, 1, 2], [6]], [[0], [0, 4], [2], [2]], [[0], [0, 3], [2]], [[0, 1, 4], [0, 1, 4, 20], [0, 1, 4, 5], [0, 1, 4, 5], [0, 1, 4, 6, 7], [0, 1, 4, 6, 8, 9], [0, 1, 4, 8, 9, 10, 11], [0, 1, 4, 8, 10, 11], [0, 1, 4, 10, 11], [0, 1, 4, 10], [0, 1, 4], [0, 1, 4], [0, 4, 12], [0, 4, 12, 99], [0, 4, 12, 13], [0, 4, 12, 13], [0, 4, 12, 14, 15], [0, 4, 12, 14], [0, 4, 12], [0, 4, 12], [0, 4, 12, 139], [0, 4, 12, 16], [0, 4, 12, 16], [0, 4, 12], [0, 4, 12], [0, 12, 161], []], [[0, 1, 2, 3, 4, 10, 11], [0, 1, 2, 3, 4, 10, 11, 28], [0, 1, 2, 3, 4, 10, 11], [0, 1, 2, 3, 4, 10, 11, 12], [0, 1, 2, 3, 4, 10, 11, 12, 13], [0, 1, 2, 3, 4, 10, 11, 12, 13, 30], [0, 1, 2, 3, 4, 10, 11, 12, 13], [0, 1, 2, 3, 4, 10, 11, 12, 13, 34], [0, 1, 2, 3, 4, 10, 11, 12, 13, 14], [0, 1, 2, 3, 4, 10, 11, 12, 13, 14, 15], [0, 1, 3, 4, 10, 11, 12, 13, 14, 15, 16], [0, 1, 3, 4, 10, 11, 12, 13, 14, 15, 16, 46], [0, 1, 3, 4, 10, 11, 12, 13, 14, 15, 16], [0, 1, 3, 4, 10, 11, 12, 13, 14, 15, 16], [0, 1, 3, 4, 10, 11, 12, 13, 14, 15, 16], [0, 1, 3, 4, 10, 11, 12, 13], [0, 3, 4, 10, 11, 12, 13], [0, 1, 3, 4, 10, 11, 12, 13, 17], [0, 1, 3, 4, 10, 11, 12, 13, 17, 68], [0, 1, 3, 4, 10, 11, 12, 13, 17], [0, 1, 3, 4, 10, 11, 12, 13, 17, 18], [0, 3, 4, 10, 11, 12, 13, 17, 18], [0, 1, 3, 4, 10, 11, 12, 13, 17], [0, 1, 3, 4, 10, 11, 12, 13], [0, 3, 4, 10, 11, 12, 13], [0, 4, 10, 11, 12, 13, 89], [0, 4, 10, 11, 12, 13], [0, 4, 10, 11, 12, 13], [0, 10, 11, 12, 13, 94], [10, 11], [10, 11]], [[0], [2]], [[0, 1], [0, 1, 11], [0, 1, 11, 12], [4], [0, 1, 14], [4], [0, 1, 18], [0, 1], [0, 5, 6], [0, 6, 34], [0, 6], [0, 7], [0, 7, 40], [4], [0, 7, 42], [0, 7, 42, 43], [0, 7, 42, 43], [0, 7, 42, 43], [0, 7, 42, 43], [0, 7, 43], [0, 7, 49], [4], [0, 7, 58], [4], [0, 7, 67], [4], [0, 7, 76], [4], [0, 7, 85], [4], [0, 7, 8], [0, 7, 8, 96], [0, 7, 8], [0, 7, 8, 104], [0, 7, 8], [0, 7, 8, 9], [0, 7, 8, 9], [7, 8, 9], [7, 8, 9, 113], [7, 8, 9, 10], [7, 8, 9], [4]], [[0], [0, 4], [2, 3], [0, 7], [2, 3], [10], [2, 3], [2, 3]], [[0, 1, 2], [0, 1, 2, 26], [6, 7], [1, 2, 8], [1, 8, 29, 30], [1, 8, 29, 30, 31], [1, 8, 9, 29, 30], [1, 8, 29, 30], [1, 8, 29, 30], [6, 7]], [[0], [2]], [[0, 2], [0, 2, 4], [0], [0, 2], [0, 2, 8], [0, 2], [0, 2], [0, 2, 14], [0, 2], [0, 2], [2]], [[0], [3], [2], [2]], [[0], [2]], [[0], [2], [2]], [[0], [2]], [[0, 1], [6, 7], [4, 5], [8, 9], [4, 5]], [[0, 1], [4]], [[0, 1], [0, 1, 7], [0, 1], [0, 1, 21], []], [[0, 1], [0, 1], [1], [4, 5]], [[0], [2]], [[0], [2]], [[0], [0, 4], [2], [2]], [[0], [0, 4], [2], [2]], [[0, 1], [6], [4, 5]], [[0, 1], [0, 1, 6], [0, 1, 6, 7], [0, 1, 6, 7, 8], [0, 1, 6, 7, 8, 9], [0, 1, 6, 7, 8, 9, 10], [0, 1, 6, 7, 9, 11], [0, 1, 6, 7, 9, 11, 12], [0, 1, 6, 7, 9, 12, 13], [0, 1, 7, 9, 12, 13], [0, 1, 4], [4, 5]], [[0, 1], [4]], [[0, 6], [], [19]], [[0, 4], [0, 4], []], [], [], [], [], [], [], [], [], [], [], [], [], [], [], [], [], [], [], [], [], [], [], [], [], [[], [], []]]

def globs : List (Nat × AM.AV) := [(0, .pi .u64 [1, 10, 100, 1000, 10000, 100000, 1000000, 10000000, 100000000, 1000000000, 10000000000, 100000000000, 1000000000000, 10000000000000, 100000000000000, 1000000000000000, 10000000000000000, 100000000000000000, 1000000000000000000, 10000000000000000000]), (1, .pb [0, 1, 28, 2, 29, 14, 24, 3, 30, 22, 20, 15, 25, 17, 4, 8, 31, 27, 13, 23, 21, 19, 16, 7, 26, 12, 18, 6, 11, 5, 10, 9]), (2, .pb [0, 1, 56, 2, 57, 49, 28, 3, 61, 58, 42, 50, 38, 29, 17, 4, 62, 47, 59, 36, 45, 43, 51, 22, 53, 39, 33, 30, 24, 18, 12, 5, 63, 55, 48, 27, 60, 41, 37, 16, 46, 35, 44, 21, 52, 32, 23, 11, 54, 26, 40, 15, 34, 20, 31, 10, 25, 14, 19, 9, 13, 8, 7, 6])]
noncomputable def X : AM.Ctx := { P := Tryd.prog, G := AM.globF globs, rw := fun f i => (f == 33 && i == 0) || (f == 34 && i == 0) || (f == 47 && i == 0), keep := fun f i => ((keepT[f]?).getD [])[i]?, norm := fun _ _ => false, dr := fun _ _ => true, dy := fun f id => [(5, 40), (12, 7), (12, 13), (18, 6), (21, 7), (21, 11), (24, 24), (29, 1), (29, 7), (34, 10), (34, 19), (64, 1), (71, 0)].contains (f, id) }

theorem own : ownKnob Tryd.prog.godebug = .none := by kernel_rfl
theorem full : ∀ t e, t < Tryd.prog.types.size → Tryd.prog.underlying t = some (.slice e) → 0 < Tryd.prog.cellsOf e := slices_full_of Tryd.prog (by kernel_rfl)
theorem ctxOk : AM.CtxOk X := AM.ctxOk_of (by kernel_rfl) (by kernel_rfl)
@[simp] theorem X_dr (f i : Nat) : X.dr f i = true := rfl
@[simp] theorem X_norm (f i : Nat) : X.norm f i = false := rfl
@[simp] theorem X_rw (f i : Nat) : X.rw f i = ((f == 33 && i == 0) || (f == 34 && i == 0) || (f == 47 && i == 0)) := rfl
@[simp] theorem nt3 : ntOf X 3 = 77 := by kernel_rfl
@[simp] theorem bod3 : bodied X 3 = true := by kernel_rfl
@[simp] theorem par3 : paramsOf X 3 = [] := by kernel_rfl
@[simp] theorem nt4 : ntOf X 4 = 95 := by kernel_rfl
@[simp] theorem bod4 : bodied X 4 = true := by kernel_rfl
@[simp] theorem par4 : paramsOf X 4 = [25, 24] := by kernel_rfl
@[simp] theorem nt5 : ntOf X 5 = 139 := by kernel_rfl
@[simp] theorem bod5 : bodied X 5 = true := by kernel_rfl
@[simp] theorem par5 : paramsOf X 5 = [29, 24] := by kernel_rfl
@[simp] theorem nt6 : ntOf X 6 = 61 := by kernel_rfl
@[simp] theorem bod6 : bodied X 6 = true := by kernel_rfl
@[simp] theorem par6 : paramsOf X 6 = [29, 24] := by kernel_rfl
@[simp] theorem nt7 : ntOf X 7 = 39 := by kernel_rfl
@[simp] theorem bod7 : bodied X 7 = true := by kernel_rfl
@[simp] theorem par7 : paramsOf X 7 = [] := by kernel_rfl
@[simp] theorem nt8 : ntOf X 8 = 26 := by kernel_rfl
@[simp] theorem bod8 : bodied X 8 = true := by kernel_rfl
@[simp] theorem par8 : paramsOf X 8 = [25, 25] := by kernel_rfl
@[simp] theorem nt9 : ntOf X 9 = 10 := by kernel_rfl
@[simp] theorem bod9 : bodied X 9 = true := by kernel_rfl
@[simp] theorem par9 : paramsOf X 9 = [29, 29] := by kernel_rfl
@[simp] theorem nt10 : ntOf X 10 = 37 := by kernel_rfl
@[simp] theorem bod10 : bodied X 10 = true := by kernel_rfl
@[simp] theorem par10 : paramsOf X 10 = [25, 24] := by kernel_rfl
@[simp] theorem nt11 : ntOf X 11 = 85 := by kernel_rfl
@[simp] theorem bod11 : bodied X 11 = true := by kernel_rfl
@[simp] theorem par11 : paramsOf X 11 = [29, 25, 24] := by kernel_rfl
@[simp] theorem nt12 : ntOf X 12 = 59 := by kernel_rfl
@[simp] theorem bod12 : bodied X 12 = true := by kernel_rfl
@[simp] theorem par12 : paramsOf X 12 = [29, 3] := by kernel_rfl
@[simp] theorem nt13 : ntOf X 13 = 29 := by kernel_rfl
@[simp] theorem bod13 : bodied X 13 = true := by kernel_rfl
@[simp] theorem par13 : paramsOf X 13 = [23] := by kernel_rfl
@[simp] theorem nt14 : ntOf X 14 = 17 := by kernel_rfl
@[simp] theorem bod14 : bodied X 14 = true := by kernel_rfl
@[simp] theorem par14 : paramsOf X 14 = [3] := by kernel_rfl
@[simp] theorem nt15 : ntOf X 15 = 14 := by kernel_rfl
@[simp] theorem bod15 : bodied X 15 = true := by kernel_rfl
@[simp] theorem par15 : paramsOf X 15 = [3] := by kernel_rfl
@[simp] theorem nt16 : ntOf X 16 = 98 := by kernel_rfl
@[simp] theorem bod16 : bodied X 16 = true := by kernel_rfl
@[simp] theorem par16 : paramsOf X 16 = [29, 23] := by kernel_rfl
@[simp] theorem nt17 : ntOf X 17 = 37 := by kernel_rfl
@[simp] theorem bod17 : bodied X 17 = true := by kernel_rfl
@[simp] theorem par17 : paramsOf X 17 = [38, 23] := by kernel_rfl
@[simp] theorem nt18 : ntOf X 18 = 45 := by kernel_rfl
@[simp] theorem bod18 : bodied X 18 = true := by kernel_rfl
@[simp] theorem par18 : paramsOf X 18 = [29, 25] := by kernel_rfl
@[simp] theorem nt19 : ntOf X 19 = 122 := by kernel_rfl
@[simp] theorem bod19 : bodied X 19 = true := by kernel_rfl
@[simp] theorem par19 : paramsOf X 19 = [38, 23] := by kernel_rfl
@[simp] theorem nt20 : ntOf X 20 = 8 := by kernel_rfl
@[simp] theorem bod20 : bodied X 20 = true := by kernel_rfl
@[simp] theorem par20 : paramsOf X 20 = [29] := by kernel_rfl
@[simp] theorem nt21 : ntOf X 21 = 66 := by kernel_rfl
@[simp] theorem bod21 : bodied X 21 = true := by kernel_rfl
@[simp] theorem par21 : paramsOf X 21 = [29, 38, 23] := by kernel_rfl
@[simp] theorem nt22 : ntOf X 22 = 34 := by kernel_rfl
@[simp] theorem bod22 : bodied X 22 = true := by kernel_rfl
@[simp] theorem par22 : paramsOf X 22 = [29] := by kernel_rfl
@[simp] theorem nt23 : ntOf X 23 = 7 := by kernel_rfl
@[simp] theorem bod23 : bodied X 23 = true := by kernel_rfl
@[simp] theorem par23 : paramsOf X 23 = [5] := by kernel_rfl
@[simp] theorem nt24 : ntOf X 24 = 102 := by kernel_rfl
@[simp] theorem bod24 : bodied X 24 = true := by kernel_rfl
@[simp] theorem par24 : paramsOf X 24 = [29, 5] := by kernel_rfl
@[simp] theorem nt25 : ntOf X 25 = 16 := by kernel_rfl
@[simp] theorem bod25 : bodied X 25 = true := by kernel_rfl
@[simp] theorem par25 : paramsOf X 25 = [5] := by kernel_rfl
@[simp] theorem nt26 : ntOf X 26 = 34 := by kernel_rfl
@[simp] theorem bod26 : bodied X 26 = true := by kernel_rfl
@[simp] theorem par26 : paramsOf X 26 = [29, 3] := by kernel_rfl
@[simp] theorem nt27 : ntOf X 27 = 8 := by kernel_rfl
@[simp] theorem bod27 : bodied X 27 = true := by kernel_rfl
@[simp] theorem par27 : paramsOf X 27 = [2, 3] := by kernel_rfl
@[simp] theorem nt28 : ntOf X 28 = 8 := by kernel_rfl
@[simp] theorem bod28 : bodied X 28 = true := by kernel_rfl
@[simp] theorem par28 : paramsOf X 28 = [34, 3] := by kernel_rfl
@[simp] theorem nt29 : ntOf X 29 = 60 := by kernel_rfl
@[simp] theorem bod29 : bodied X 29 = true := by kernel_rfl
@[simp] theorem par29 : paramsOf X 29 = [36, 5] := by kernel_rfl
@[simp] theorem nt30 : ntOf X 30 = 2 := by kernel_rfl
@[simp] theorem bod30 : bodied X 30 = true := by kernel_rfl
@[simp] theorem par30 : paramsOf X 30 = [] := by kernel_rfl
@[simp] theorem nt31 : ntOf X 31 = 12 := by kernel_rfl
@[simp] theorem bod31 : bodied X 31 = true := by kernel_rfl
@[simp] theorem par31 : paramsOf X 31 = [29, 9] := by kernel_rfl
@[simp] theorem nt32 : ntOf X 32 = 66 := by kernel_rfl
@[simp] theorem bod32 : bodied X 32 = true := by kernel_rfl
@[simp] theorem par32 : paramsOf X 32 = [36, 5] := by kernel_rfl
@[simp] theorem nt33 : ntOf X 33 = 22 := by kernel_rfl
@[simp] theorem bod33 : bodied X 33 = true := by kernel_rfl
@[simp] theorem par33 : paramsOf X 33 = [29, 34, 3] := by kernel_rfl
@[simp] theorem nt34 : ntOf X 34 = 110 := by kernel_rfl
@[simp] theorem bod34 : bodied X 34 = true := by kernel_rfl
@[simp] theorem par34 : paramsOf X 34 = [29, 36, 5] := by kernel_rfl
@[simp] theorem nt35 : ntOf X 35 = 38 := by kernel_rfl
@[simp] theorem bod35 : bodied X 35 = true := by kernel_rfl
@[simp] theorem par35 : paramsOf X 35 = [29] := by kernel_rfl
@[simp] theorem nt36 : ntOf X 36 = 2 := by kernel_rfl
@[simp] theorem bod36 : bodied X 36 = true := by kernel_rfl
@[simp] theorem par36 : paramsOf X 36 = [] := by kernel_rfl
@[simp] theorem nt37 : ntOf X 37 = 18 := by kernel_rfl
@[simp] theorem bod37 : bodied X 37 = true := by kernel_rfl
@[simp] theorem par37 : paramsOf X 37 = [3, 3] := by kernel_rfl
@[simp] theorem nt38 : ntOf X 38 = 54 := by kernel_rfl
@[simp] theorem bod38 : bodied X 38 = true := by kernel_rfl
@[simp] theorem par38 : paramsOf X 38 = [2, 3] := by kernel_rfl
@[simp] theorem nt39 : ntOf X 39 = 32 := by kernel_rfl
@[simp] theorem bod39 : bodied X 39 = true := by kernel_rfl
@[simp] theorem par39 : paramsOf X 39 = [34, 3] := by kernel_rfl
@[simp] theorem nt40 : ntOf X 40 = 16 := by kernel_rfl
@[simp] theorem bod40 : bodied X 40 = true := by kernel_rfl
@[simp] theorem par40 : paramsOf X 40 = [3, 3] := by kernel_rfl
@[simp] theorem nt41 : ntOf X 41 = 8 := by kernel_rfl
@[simp] theorem bod41 : bodied X 41 = true := by kernel_rfl
@[simp] theorem par41 : paramsOf X 41 = [3] := by kernel_rfl
@[simp] theorem nt42 : ntOf X 42 = 29 := by kernel_rfl
@[simp] theorem bod42 : bodied X 42 = true := by kernel_rfl
@[simp] theorem par42 : paramsOf X 42 = [29, 34] := by kernel_rfl
@[simp] theorem nt43 : ntOf X 43 = 21 := by kernel_rfl
@[simp] theorem bod43 : bodied X 43 = true := by kernel_rfl
@[simp] theorem par43 : paramsOf X 43 = [36] := by kernel_rfl
@[simp] theorem nt44 : ntOf X 44 = 15 := by kernel_rfl
@[simp] theorem bod44 : bodied X 44 = true := by kernel_rfl
@[simp] theorem par44 : paramsOf X 44 = [3, 3, 3] := by kernel_rfl
@[simp] theorem nt45 : ntOf X 45 = 15 := by kernel_rfl
@[simp] theorem bod45 : bodied X 45 = true := by kernel_rfl
@[simp] theorem par45 : paramsOf X 45 = [3] := by kernel_rfl
@[simp] theorem nt46 : ntOf X 46 = 15 := by kernel_rfl
@[simp] theorem bod46 : bodied X 46 = true := by kernel_rfl
@[simp] theorem par46 : paramsOf X 46 = [34] := by kernel_rfl
@[simp] theorem nt47 : ntOf X 47 = 167 := by kernel_rfl
@[simp] theorem bod47 : bodied X 47 = true := by kernel_rfl
@[simp] theorem par47 : paramsOf X 47 = [29, 34] := by kernel_rfl
@[simp] theorem nt48 : ntOf X 48 = 102 := by kernel_rfl
@[simp] theorem bod48 : bodied X 48 = true := by kernel_rfl
@[simp] theorem par48 : paramsOf X 48 = [29, 34, 3, 4, 4] := by kernel_rfl
@[simp] theorem nt49 : ntOf X 49 = 5 := by kernel_rfl
@[simp] theorem bod49 : bodied X 49 = true := by kernel_rfl
@[simp] theorem par49 : paramsOf X 49 = [3] := by kernel_rfl
@[simp] theorem nt50 : ntOf X 50 = 125 := by kernel_rfl
@[simp] theorem bod50 : bodied X 50 = true := by kernel_rfl
@[simp] theorem par50 : paramsOf X 50 = [9, 3] := by kernel_rfl
@[simp] theorem nt51 : ntOf X 51 = 13 := by kernel_rfl
@[simp] theorem bod51 : bodied X 51 = true := by kernel_rfl
@[simp] theorem par51 : paramsOf X 51 = [34] := by kernel_rfl
@[simp] theorem nt52 : ntOf X 52 = 43 := by kernel_rfl
@[simp] theorem bod52 : bodied X 52 = true := by kernel_rfl
@[simp] theorem par52 : paramsOf X 52 = [29, 34, 3] := by kernel_rfl
@[simp] theorem nt53 : ntOf X 53 = 6 := by kernel_rfl
@[simp] theorem bod53 : bodied X 53 = true := by kernel_rfl
@[simp] theorem par53 : paramsOf X 53 = [3] := by kernel_rfl
@[simp] theorem nt54 : ntOf X 54 = 25 := by kernel_rfl
@[simp] theorem bod54 : bodied X 54 = true := by kernel_rfl
@[simp] theorem par54 : paramsOf X 54 = [34] := by kernel_rfl
@[simp] theorem nt55 : ntOf X 55 = 4 := by kernel_rfl
@[simp] theorem bod55 : bodied X 55 = true := by kernel_rfl
@[simp] theorem par55 : paramsOf X 55 = [4] := by kernel_rfl
@[simp] theorem nt58 : ntOf X 58 = 5 := by kernel_rfl
@[simp] theorem bod58 : bodied X 58 = true := by kernel_rfl
@[simp] theorem par58 : paramsOf X 58 = [3] := by kernel_rfl
@[simp] theorem nt59 : ntOf X 59 = 30 := by kernel_rfl
@[simp] theorem bod59 : bodied X 59 = true := by kernel_rfl
@[simp] theorem par59 : paramsOf X 59 = [95, 95] := by kernel_rfl
@[simp] theorem nt60 : ntOf X 60 = 8 := by kernel_rfl
@[simp] theorem bod60 : bodied X 60 = true := by kernel_rfl
@[simp] theorem par60 : paramsOf X 60 = [9, 9] := by kernel_rfl
@[simp] theorem nt61 : ntOf X 61 = 25 := by kernel_rfl
@[simp] theorem bod61 : bodied X 61 = true := by kernel_rfl
@[simp] theorem par61 : paramsOf X 61 = [100, 3] := by kernel_rfl
@[simp] theorem nt62 : ntOf X 62 = 19 := by kernel_rfl
@[simp] theorem bod62 : bodied X 62 = true := by kernel_rfl
@[simp] theorem par62 : paramsOf X 62 = [100, 9] := by kernel_rfl
@[simp] theorem nt63 : ntOf X 63 = 8 := by kernel_rfl
@[simp] theorem bod63 : bodied X 63 = true := by kernel_rfl
@[simp] theorem par63 : paramsOf X 63 = [100] := by kernel_rfl
@[simp] theorem nt64 : ntOf X 64 = 14 := by kernel_rfl
@[simp] theorem bod64 : bodied X 64 = true := by kernel_rfl
@[simp] theorem par64 : paramsOf X 64 = [100] := by kernel_rfl
@[simp] theorem nt69 : ntOf X 69 = 18 := by kernel_rfl
@[simp] theorem bod69 : bodied X 69 = true := by kernel_rfl
@[simp] theorem par69 : paramsOf X 69 = [9, 9] := by kernel_rfl
@[simp] theorem nt70 : ntOf X 70 = 20 := by kernel_rfl
@[simp] theorem bod70 : bodied X 70 = true := by kernel_rfl
@[simp] theorem par70 : paramsOf X 70 = [100] := by kernel_rfl
@[simp] theorem nt71 : ntOf X 71 = 30 := by kernel_rfl
@[simp] theorem bod71 : bodied X 71 = true := by kernel_rfl
@[simp] theorem par71 : paramsOf X 71 = [100, 3] := by kernel_rfl
@[simp] theorem nt72 : ntOf X 72 = 1 := by kernel_rfl
@[simp] theorem par72 : paramsOf X 72 = [118] := by kernel_rfl
@[simp] theorem nt73 : ntOf X 73 = 1 := by kernel_rfl
@[simp] theorem par73 : paramsOf X 73 = [3] := by kernel_rfl
@[simp] theorem keep3_0 : X.keep 3 0 = some [] := by kernel_rfl
@[simp] theorem keep3_1 : X.keep 3 1 = some [1] := by kernel_rfl
@[simp] theorem keep3_2 : X.keep 3 2 = some [1, 3] := by kernel_rfl
@[simp] theorem keep3_3 : X.keep 3 3 = some [1, 3, 4, 5] := by kernel_rfl
@[simp] theorem keep3_4 : X.keep 3 4 = some [1, 3, 4, 5, 7] := by kernel_rfl
@[simp] theorem keep3_5 : X.keep 3 5 = some [1, 3, 4, 5, 7, 9] := by kernel_rfl
@[simp] theorem keep3_6 : X.keep 3 6 = some [3, 4, 5, 7, 9, 10, 11] := by kernel_rfl
@[simp] theorem keep3_7 : X.keep 3 7 = some [0] := by kernel_rfl
@[simp] theorem keep4_0 : X.keep 4 0 = some [0, 1] := by kernel_rfl
@[simp] theorem keep4_1 : X.keep 4 1 = some [0, 1, 13] := by kernel_rfl
@[simp] theorem keep4_2 : X.keep 4 2 = some [4] := by kernel_rfl
@[simp] theorem keep4_3 : X.keep 4 3 = some [0, 1, 17] := by kernel_rfl
@[simp] theorem keep4_4 : X.keep 4 4 = some [4] := by kernel_rfl
@[simp] theorem keep4_5 : X.keep 4 5 = some [0, 1, 5, 6] := by kernel_rfl
@[simp] theorem keep4_6 : X.keep 4 6 = some [0, 1, 5, 25] := by kernel_rfl
@[simp] theorem keep4_7 : X.keep 4 7 = some [4] := by kernel_rfl
@[simp] theorem keep4_8 : X.keep 4 8 = some [0, 7, 8] := by kernel_rfl
@[simp] theorem keep4_9 : X.keep 4 9 = some [0, 7, 8, 33] := by kernel_rfl
@[simp] theorem keep4_10 : X.keep 4 10 = some [4] := by kernel_rfl
@[simp] theorem keep4_11 : X.keep 4 11 = some [0, 9, 10] := by kernel_rfl
@[simp] theorem keep4_12 : X.keep 4 12 = some [0, 9, 56] := by kernel_rfl
@[simp] theorem keep4_13 : X.keep 4 13 = some [4] := by kernel_rfl
@[simp] theorem keep4_14 : X.keep 4 14 = some [0, 9, 11] := by kernel_rfl
@[simp] theorem keep4_15 : X.keep 4 15 = some [0, 9, 11, 60] := by kernel_rfl
@[simp] theorem keep4_16 : X.keep 4 16 = some [0, 9, 11] := by kernel_rfl
@[simp] theorem keep4_17 : X.keep 4 17 = some [0, 9, 11, 94] := by kernel_rfl
@[simp] theorem keep4_18 : X.keep 4 18 = some [4] := by kernel_rfl
@[simp] theorem keep4_19 : X.keep 4 19 = some [4] := by kernel_rfl
@[simp] theorem keep5_0 : X.keep 5 0 = some [1, 2] := by kernel_rfl
@[simp] theorem keep5_1 : X.keep 5 1 = some [1, 2, 24] := by kernel_rfl
@[simp] theorem keep5_2 : X.keep 5 2 = some [4, 5] := by kernel_rfl
@[simp] theorem keep5_3 : X.keep 5 3 = some [1, 2, 25, 26, 27] := by kernel_rfl
@[simp] theorem keep5_4 : X.keep 5 4 = some [1, 2, 25, 26, 27, 28] := by kernel_rfl
@[simp] theorem keep5_5 : X.keep 5 5 = some [1, 2, 7, 25, 26, 27] := by kernel_rfl
@[simp] theorem keep5_6 : X.keep 5 6 = some [1, 2, 25, 26, 27, 33] := by kernel_rfl
@[simp] theorem keep5_7 : X.keep 5 7 = some [4, 5] := by kernel_rfl
@[simp] theorem keep5_8 : X.keep 5 8 = some [1, 2, 25, 26, 27] := by kernel_rfl
@[simp] theorem keep5_9 : X.keep 5 9 = some [1, 2, 8] := by kernel_rfl
@[simp] theorem keep5_10 : X.keep 5 10 = some [1, 2, 8, 9, 10] := by kernel_rfl
@[simp] theorem keep5_11 : X.keep 5 11 = some [1, 2, 8, 9, 10, 41] := by kernel_rfl
@[simp] theorem keep5_12 : X.keep 5 12 = some [4, 5] := by kernel_rfl
@[simp] theorem keep5_13 : X.keep 5 13 = some [1, 2, 8, 45] := by kernel_rfl
@[simp] theorem keep5_14 : X.keep 5 14 = some [4, 5] := by kernel_rfl
@[simp] theorem keep5_15 : X.keep 5 15 = some [1, 2, 10, 11] := by kernel_rfl
@[simp] theorem keep5_16 : X.keep 5 16 = some [1, 2, 10, 11, 60] := by kernel_rfl
@[simp] theorem keep5_17 : X.keep 5 17 = some [4, 5] := by kernel_rfl
@[simp] theorem keep5_18 : X.keep 5 18 = some [1, 2, 11, 12] := by kernel_rfl
@[simp] theorem keep5_19 : X.keep 5 19 = some [1, 2, 12, 65, 66] := by kernel_rfl
@[simp] theorem keep5_20 : X.keep 5 20 = some [1, 2, 12, 65, 66, 67] := by kernel_rfl
@[simp] theorem keep5_21 : X.keep 5 21 = some [1, 2, 12, 13, 65, 66] := by kernel_rfl
@[simp] theorem keep5_22 : X.keep 5 22 = some [1, 2, 12, 65, 66, 82] := by kernel_rfl
@[simp] theorem keep5_23 : X.keep 5 23 = some [4, 5] := by kernel_rfl
@[simp] theorem keep5_24 : X.keep 5 24 = some [1, 2, 12, 65, 66] := by kernel_rfl
@[simp] theorem keep5_25 : X.keep 5 25 = some [1, 2, 12, 84, 85, 86] := by kernel_rfl
@[simp] theorem keep5_26 : X.keep 5 26 = some [1, 2, 12, 84, 85, 86, 87] := by kernel_rfl
@[simp] theorem keep5_27 : X.keep 5 27 = some [1, 2, 12, 14, 15, 84, 85, 86] := by kernel_rfl
@[simp] theorem keep5_28 : X.keep 5 28 = some [1, 2, 12, 84, 85, 86, 100] := by kernel_rfl
@[simp] theorem keep5_29 : X.keep 5 29 = some [4, 5] := by kernel_rfl
@[simp] theorem keep5_30 : X.keep 5 30 = some [1, 2, 12, 84, 85, 86] := by kernel_rfl
@[simp] theorem keep5_31 : X.keep 5 31 = some [1, 2, 12, 16] := by kernel_rfl
@[simp] theorem keep5_32 : X.keep 5 32 = some [2, 12, 16, 102, 103, 104] := by kernel_rfl
@[simp] theorem keep5_33 : X.keep 5 33 = some [2, 12, 16, 102, 103, 104, 105] := by kernel_rfl
@[simp] theorem keep5_34 : X.keep 5 34 = some [2, 12, 16, 17, 18, 102, 103, 104] := by kernel_rfl
@[simp] theorem keep5_35 : X.keep 5 35 = some [2, 12, 16, 18, 102, 103, 104, 112] := by kernel_rfl
@[simp] theorem keep5_36 : X.keep 5 36 = some [2, 12, 16, 102, 103, 104] := by kernel_rfl
@[simp] theorem keep5_37 : X.keep 5 37 = some [2, 12, 16, 19, 20, 21, 102, 103, 104] := by kernel_rfl
@[simp] theorem keep5_38 : X.keep 5 38 = some [2, 12, 16, 19, 20, 21, 102, 103, 104, 125] := by kernel_rfl
@[simp] theorem keep5_39 : X.keep 5 39 = some [4, 5] := by kernel_rfl
@[simp] theorem keep5_40 : X.keep 5 40 = some [2, 12, 16, 102, 103, 104] := by kernel_rfl
@[simp] theorem keep5_41 : X.keep 5 41 = some [2, 12, 16, 102, 103, 104] := by kernel_rfl
@[simp] theorem keep5_42 : X.keep 5 42 = some [16, 137] := by kernel_rfl
@[simp] theorem keep5_43 : X.keep 5 43 = some [4, 5] := by kernel_rfl
@[simp] theorem keep5_44 : X.keep 5 44 = some [4, 5] := by kernel_rfl
@[simp] theorem keep6_0 : X.keep 6 0 = some [0, 1] := by kernel_rfl
@[simp] theorem keep6_1 : X.keep 6 1 = some [1, 6, 7] := by kernel_rfl
@[simp] theorem keep6_2 : X.keep 6 2 = some [1, 6, 7, 19] := by kernel_rfl
@[simp] theorem keep6_3 : X.keep 6 3 = some [4, 5] := by kernel_rfl
@[simp] theorem keep6_4 : X.keep 6 4 = some [6, 21, 22, 23] := by kernel_rfl
@[simp] theorem keep6_5 : X.keep 6 5 = some [6, 21, 22, 23, 24] := by kernel_rfl
@[simp] theorem keep6_6 : X.keep 6 6 = some [6, 8, 9, 21, 22, 23] := by kernel_rfl
@[simp] theorem keep6_7 : X.keep 6 7 = some [6, 8, 9, 21, 22, 23, 35] := by kernel_rfl
@[simp] theorem keep6_8 : X.keep 6 8 = some [4, 5] := by kernel_rfl
@[simp] theorem keep6_9 : X.keep 6 9 = some [6, 8, 9, 21, 22, 23, 41] := by kernel_rfl
@[simp] theorem keep6_10 : X.keep 6 10 = some [6, 8, 10, 21, 22, 23] := by kernel_rfl
@[simp] theorem keep6_11 : X.keep 6 11 = some [6, 21, 22, 23] := by kernel_rfl
@[simp] theorem keep6_12 : X.keep 6 12 = some [6, 21, 22, 23] := by kernel_rfl
@[simp] theorem keep6_13 : X.keep 6 13 = some [4, 5] := by kernel_rfl
@[simp] theorem keep7_0 : X.keep 7 0 = some [] := by kernel_rfl
@[simp] theorem keep7_1 : X.keep 7 1 = some [1, 2] := by kernel_rfl
@[simp] theorem keep7_2 : X.keep 7 2 = some [1, 2, 3, 4] := by kernel_rfl
@[simp] theorem keep7_3 : X.keep 7 3 = some [0] := by kernel_rfl
@[simp] theorem keep8_0 : X.keep 8 0 = some [0, 1] := by kernel_rfl
@[simp] theorem keep8_1 : X.keep 8 1 = some [0, 1, 10] := by kernel_rfl
@[simp] theorem keep8_2 : X.keep 8 2 = some [4] := by kernel_rfl
@[simp] theorem keep8_3 : X.keep 8 3 = some [0, 1, 5] := by kernel_rfl
@[simp] theorem keep8_4 : X.keep 8 4 = some [0, 1, 5, 14] := by kernel_rfl
@[simp] theorem keep8_5 : X.keep 8 5 = some [0, 1, 5] := by kernel_rfl
@[simp] theorem keep8_6 : X.keep 8 6 = some [0, 1, 5, 25] := by kernel_rfl
@[simp] theorem keep8_7 : X.keep 8 7 = some [4] := by kernel_rfl
@[simp] theorem keep8_8 : X.keep 8 8 = some [4] := by kernel_rfl
@[simp] theorem keep9_0 : X.keep 9 0 = some [0, 1] := by kernel_rfl
@[simp] theorem keep9_1 : X.keep 9 1 = some [4] := by kernel_rfl
@[simp] theorem keep10_0 : X.keep 10 0 = some [0, 1] := by kernel_rfl
@[simp] theorem keep10_1 : X.keep 10 1 = some [0, 1, 5] := by kernel_rfl
@[simp] theorem keep10_2 : X.keep 10 2 = some [0, 1, 5, 6] := by kernel_rfl
@[simp] theorem keep10_3 : X.keep 10 3 = some [0, 1, 5, 6, 14] := by kernel_rfl
@[simp] theorem keep10_4 : X.keep 10 4 = some [0, 1, 5, 6] := by kernel_rfl
@[simp] theorem keep10_5 : X.keep 10 5 = some [0, 1, 5, 6] := by kernel_rfl
@[simp] theorem keep10_6 : X.keep 10 6 = some [4] := by kernel_rfl
@[simp] theorem keep11_0 : X.keep 11 0 = some [0, 1, 2] := by kernel_rfl
@[simp] theorem keep11_1 : X.keep 11 1 = some [0, 1, 2, 17] := by kernel_rfl
@[simp] theorem keep11_2 : X.keep 11 2 = some [6, 7] := by kernel_rfl
@[simp] theorem keep11_3 : X.keep 11 3 = some [0, 1, 2, 22] := by kernel_rfl
@[simp] theorem keep11_4 : X.keep 11 4 = some [6, 7] := by kernel_rfl
@[simp] theorem keep11_5 : X.keep 11 5 = some [0, 1, 2, 23, 24, 25] := by kernel_rfl
@[simp] theorem keep11_6 : X.keep 11 6 = some [0, 1, 2, 23, 24, 25, 26] := by kernel_rfl
@[simp] theorem keep11_7 : X.keep 11 7 = some [0, 1, 2, 8, 9, 23, 24, 25] := by kernel_rfl
@[simp] theorem keep11_8 : X.keep 11 8 = some [0, 1, 2, 23, 24, 25, 36] := by kernel_rfl
@[simp] theorem keep11_9 : X.keep 11 9 = some [6, 7] := by kernel_rfl
@[simp] theorem keep11_10 : X.keep 11 10 = some [0, 1, 2, 23, 24, 25] := by kernel_rfl
@[simp] theorem keep11_11 : X.keep 11 11 = some [1, 2, 10] := by kernel_rfl
@[simp] theorem keep11_12 : X.keep 11 12 = some [1, 2, 10, 11] := by kernel_rfl
@[simp] theorem keep11_13 : X.keep 11 13 = some [1, 2, 10, 11, 12] := by kernel_rfl
@[simp] theorem keep11_14 : X.keep 11 14 = some [2, 10, 11, 12, 47, 48, 49] := by kernel_rfl
@[simp] theorem keep11_15 : X.keep 11 15 = some [2, 10, 11, 12, 47, 48, 49, 50] := by kernel_rfl
@[simp] theorem keep11_16 : X.keep 11 16 = some [2, 10, 11, 12, 13, 14, 47, 48, 49] := by kernel_rfl
@[simp] theorem keep11_17 : X.keep 11 17 = some [2, 10, 11, 12, 13, 14, 47, 48, 49, 56] := by kernel_rfl
@[simp] theorem keep11_18 : X.keep 11 18 = some [2, 10, 11, 12, 47, 48, 49] := by kernel_rfl
@[simp] theorem keep11_19 : X.keep 11 19 = some [2, 10, 11, 12, 47, 48, 49] := by kernel_rfl
@[simp] theorem keep11_20 : X.keep 11 20 = some [2, 10, 11, 12, 47, 48, 49] := by kernel_rfl
@[simp] theorem keep11_21 : X.keep 11 21 = some [6, 7] := by kernel_rfl
@[simp] theorem keep12_0 : X.keep 12 0 = some [0, 1] := by kernel_rfl
@[simp] theorem keep12_1 : X.keep 12 1 = some [0, 1, 15] := by kernel_rfl
@[simp] theorem keep12_2 : X.keep 12 2 = some [4, 5] := by kernel_rfl
@[simp] theorem keep12_3 : X.keep 12 3 = some [0, 1, 6] := by kernel_rfl
@[simp] theorem keep12_4 : X.keep 12 4 = some [0, 6, 16, 17] := by kernel_rfl
@[simp] theorem keep12_5 : X.keep 12 5 = some [0, 6, 16, 17, 18] := by kernel_rfl
@[simp] theorem keep12_6 : X.keep 12 6 = some [0, 6, 16, 17, 27] := by kernel_rfl
@[simp] theorem keep12_7 : X.keep 12 7 = some [0, 6, 16, 17] := by kernel_rfl
@[simp] theorem keep12_8 : X.keep 12 8 = some [0, 6, 7, 8, 9, 16, 17] := by kernel_rfl
@[simp] theorem keep12_9 : X.keep 12 9 = some [0, 6, 7, 8, 9, 16, 17, 41] := by kernel_rfl
@[simp] theorem keep12_10 : X.keep 12 10 = some [4, 5] := by kernel_rfl
@[simp] theorem keep12_11 : X.keep 12 11 = some [0, 6, 7, 8, 16, 17, 45] := by kernel_rfl
@[simp] theorem keep12_12 : X.keep 12 12 = some [4, 5] := by kernel_rfl
@[simp] theorem keep12_13 : X.keep 12 13 = some [0, 6, 16, 17] := by kernel_rfl
@[simp] theorem keep12_14 : X.keep 12 14 = some [0, 6, 16, 17] := by kernel_rfl
@[simp] theorem keep12_15 : X.keep 12 15 = some [6, 57] := by kernel_rfl
@[simp] theorem keep12_16 : X.keep 12 16 = some [4, 5] := by kernel_rfl
@[simp] theorem keep12_17 : X.keep 12 17 = some [4, 5] := by kernel_rfl
@[simp] theorem keep13_0 : X.keep 13 0 = some [1] := by kernel_rfl
@[simp] theorem keep13_1 : X.keep 13 1 = some [1, 4] := by kernel_rfl
@[simp] theorem keep13_2 : X.keep 13 2 = some [1, 4, 5] := by kernel_rfl
@[simp] theorem keep13_3 : X.keep 13 3 = some [1, 4, 5] := by kernel_rfl
@[simp] theorem keep13_4 : X.keep 13 4 = some [1, 4, 5] := by kernel_rfl
@[simp] theorem keep13_5 : X.keep 13 5 = some [1, 4, 5] := by kernel_rfl
@[simp] theorem keep13_6 : X.keep 13 6 = some [1, 4, 5] := by kernel_rfl
@[simp] theorem keep13_7 : X.keep 13 7 = some [1, 4, 5] := by kernel_rfl
@[simp] theorem keep13_8 : X.keep 13 8 = some [13] := by kernel_rfl
@[simp] theorem keep13_9 : X.keep 13 9 = some [2] := by kernel_rfl
@[simp] theorem keep13_10 : X.keep 13 10 = some [2] := by kernel_rfl
@[simp] theorem keep13_11 : X.keep 13 11 = some [1, 4, 14] := by kernel_rfl
@[simp] theorem keep13_12 : X.keep 13 12 = some [2] := by kernel_rfl
@[simp] theorem keep13_13 : X.keep 13 13 = some [1, 4, 16] := by kernel_rfl
@[simp] theorem keep13_14 : X.keep 13 14 = some [2] := by kernel_rfl
@[simp] theorem keep13_15 : X.keep 13 15 = some [1, 4, 18] := by kernel_rfl
@[simp] theorem keep13_16 : X.keep 13 16 = some [1, 4, 18] := by kernel_rfl
@[simp] theorem keep13_17 : X.keep 13 17 = some [1, 4, 18] := by kernel_rfl
@[simp] theorem keep13_18 : X.keep 13 18 = some [2] := by kernel_rfl
@[simp] theorem keep13_19 : X.keep 13 19 = some [1, 4, 22] := by kernel_rfl
@[simp] theorem keep13_20 : X.keep 13 20 = some [2] := by kernel_rfl
@[simp] theorem keep13_21 : X.keep 13 21 = some [1, 24] := by kernel_rfl
@[simp] theorem keep13_22 : X.keep 13 22 = some [2] := by kernel_rfl
@[simp] theorem keep13_23 : X.keep 13 23 = some [28] := by kernel_rfl
@[simp] theorem keep13_24 : X.keep 13 24 = some [2] := by kernel_rfl
@[simp] theorem keep13_25 : X.keep 13 25 = some [2] := by kernel_rfl
@[simp] theorem keep14_0 : X.keep 14 0 = some [0, 1] := by kernel_rfl
@[simp] theorem keep14_1 : X.keep 14 1 = some [0, 1, 9] := by kernel_rfl
@[simp] theorem keep14_2 : X.keep 14 2 = some [3, 4] := by kernel_rfl
@[simp] theorem keep14_3 : X.keep 14 3 = some [0, 1, 5] := by kernel_rfl
@[simp] theorem keep14_4 : X.keep 14 4 = some [5] := by kernel_rfl
@[simp] theorem keep14_5 : X.keep 14 5 = some [3, 4] := by kernel_rfl
@[simp] theorem keep15_0 : X.keep 15 0 = some [0, 1] := by kernel_rfl
@[simp] theorem keep15_1 : X.keep 15 1 = some [3] := by kernel_rfl
@[simp] theorem keep16_0 : X.keep 16 0 = some [0, 3, 4] := by kernel_rfl
@[simp] theorem keep16_1 : X.keep 16 1 = some [0, 3, 4, 7] := by kernel_rfl
@[simp] theorem keep16_2 : X.keep 16 2 = some [0, 3, 4, 7, 19] := by kernel_rfl
@[simp] theorem keep16_3 : X.keep 16 3 = some [0, 3, 4, 7, 19, 20] := by kernel_rfl
@[simp] theorem keep16_4 : X.keep 16 4 = some [4, 5, 6] := by kernel_rfl
@[simp] theorem keep16_5 : X.keep 16 5 = some [0, 3, 4, 7, 19, 23] := by kernel_rfl
@[simp] theorem keep16_6 : X.keep 16 6 = some [4, 5, 6] := by kernel_rfl
@[simp] theorem keep16_7 : X.keep 16 7 = some [0, 3, 4, 7, 19, 26] := by kernel_rfl
@[simp] theorem keep16_8 : X.keep 16 8 = some [0, 3, 4, 7, 19, 26] := by kernel_rfl
@[simp] theorem keep16_9 : X.keep 16 9 = some [4, 7, 8, 9, 10] := by kernel_rfl
@[simp] theorem keep16_10 : X.keep 16 10 = some [4, 7, 8, 9, 10, 38] := by kernel_rfl
@[simp] theorem keep16_11 : X.keep 16 11 = some [4, 5, 6] := by kernel_rfl
@[simp] theorem keep16_12 : X.keep 16 12 = some [4, 5, 6] := by kernel_rfl
@[simp] theorem keep16_13 : X.keep 16 13 = some [0, 3, 4, 7, 45] := by kernel_rfl
@[simp] theorem keep16_14 : X.keep 16 14 = some [4, 7, 11, 12, 13] := by kernel_rfl
@[simp] theorem keep16_15 : X.keep 16 15 = some [4, 7, 11, 12, 13, 53] := by kernel_rfl
@[simp] theorem keep16_16 : X.keep 16 16 = some [4, 5, 6] := by kernel_rfl
@[simp] theorem keep16_17 : X.keep 16 17 = some [4, 7, 11, 12, 58] := by kernel_rfl
@[simp] theorem keep16_18 : X.keep 16 18 = some [4, 5, 6] := by kernel_rfl
@[simp] theorem keep16_19 : X.keep 16 19 = some [4, 5, 6] := by kernel_rfl
@[simp] theorem keep16_20 : X.keep 16 20 = some [0, 4, 7, 14] := by kernel_rfl
@[simp] theorem keep16_21 : X.keep 16 21 = some [4, 6, 7, 14, 15] := by kernel_rfl
@[simp] theorem keep16_22 : X.keep 16 22 = some [4, 6, 7, 14, 15, 77] := by kernel_rfl
@[simp] theorem keep16_23 : X.keep 16 23 = some [4, 5, 6] := by kernel_rfl
@[simp] theorem keep16_24 : X.keep 16 24 = some [4, 7, 14, 15, 81] := by kernel_rfl
@[simp] theorem keep16_25 : X.keep 16 25 = some [4, 7, 14, 15, 16] := by kernel_rfl
@[simp] theorem keep16_26 : X.keep 16 26 = some [4, 5, 6] := by kernel_rfl
@[simp] theorem keep16_27 : X.keep 16 27 = some [4, 5, 6] := by kernel_rfl
@[simp] theorem keep17_0 : X.keep 17 0 = some [2, 3] := by kernel_rfl
@[simp] theorem keep17_1 : X.keep 17 1 = some [2, 3, 6] := by kernel_rfl
@[simp] theorem keep17_2 : X.keep 17 2 = some [2, 3, 6, 11] := by kernel_rfl
@[simp] theorem keep17_3 : X.keep 17 3 = some [4, 5] := by kernel_rfl
@[simp] theorem keep17_4 : X.keep 17 4 = some [2, 3, 14] := by kernel_rfl
@[simp] theorem keep17_5 : X.keep 17 5 = some [2, 3, 14, 15] := by kernel_rfl
@[simp] theorem keep17_6 : X.keep 17 6 = some [4, 5] := by kernel_rfl
@[simp] theorem keep17_7 : X.keep 17 7 = some [2, 3, 14, 20] := by kernel_rfl
@[simp] theorem keep17_8 : X.keep 17 8 = some [4, 5] := by kernel_rfl
@[simp] theorem keep17_9 : X.keep 17 9 = some [2, 3, 14, 25] := by kernel_rfl
@[simp] theorem keep17_10 : X.keep 17 10 = some [2, 3, 14, 25] := by kernel_rfl
@[simp] theorem keep17_11 : X.keep 17 11 = some [4, 5] := by kernel_rfl
@[simp] theorem keep17_12 : X.keep 17 12 = some [2, 33] := by kernel_rfl
@[simp] theorem keep17_13 : X.keep 17 13 = some [4, 5] := by kernel_rfl
@[simp] theorem keep17_14 : X.keep 17 14 = some [4, 5] := by kernel_rfl
@[simp] theorem keep18_0 : X.keep 18 0 = some [0, 1] := by kernel_rfl
@[simp] theorem keep18_1 : X.keep 18 1 = some [0, 1, 13] := by kernel_rfl
@[simp] theorem keep18_2 : X.keep 18 2 = some [4, 5] := by kernel_rfl
@[simp] theorem keep18_3 : X.keep 18 3 = some [0, 1, 14, 15, 16] := by kernel_rfl
@[simp] theorem keep18_4 : X.keep 18 4 = some [0, 1, 14, 15, 16, 17] := by kernel_rfl
@[simp] theorem keep18_5 : X.keep 18 5 = some [0, 1, 7, 14, 15, 16] := by kernel_rfl
@[simp] theorem keep18_6 : X.keep 18 6 = some [0, 1, 14, 15, 16, 23] := by kernel_rfl
@[simp] theorem keep18_7 : X.keep 18 7 = some [4, 5] := by kernel_rfl
@[simp] theorem keep18_8 : X.keep 18 8 = some [0, 1, 14, 15, 16] := by kernel_rfl
@[simp] theorem keep18_9 : X.keep 18 9 = some [1, 8] := by kernel_rfl
@[simp] theorem keep18_10 : X.keep 18 10 = some [8, 27, 28, 29] := by kernel_rfl
@[simp] theorem keep18_11 : X.keep 18 11 = some [8, 27, 28, 29, 30] := by kernel_rfl
@[simp] theorem keep18_12 : X.keep 18 12 = some [8, 10, 27, 28, 29] := by kernel_rfl
@[simp] theorem keep18_13 : X.keep 18 13 = some [8, 10, 27, 28, 29, 35] := by kernel_rfl
@[simp] theorem keep18_14 : X.keep 18 14 = some [8, 27, 28, 29] := by kernel_rfl
@[simp] theorem keep18_15 : X.keep 18 15 = some [8, 27, 28, 29] := by kernel_rfl
@[simp] theorem keep18_16 : X.keep 18 16 = some [8, 27, 28, 29] := by kernel_rfl
@[simp] theorem keep18_17 : X.keep 18 17 = some [4, 5] := by kernel_rfl
@[simp] theorem keep19_0 : X.keep 19 0 = some [2, 3] := by kernel_rfl
@[simp] theorem keep19_1 : X.keep 19 1 = some [2, 3, 5] := by kernel_rfl
@[simp] theorem keep19_2 : X.keep 19 2 = some [2, 3, 5, 11] := by kernel_rfl
@[simp] theorem keep19_3 : X.keep 19 3 = some [4] := by kernel_rfl
@[simp] theorem keep19_4 : X.keep 19 4 = some [2, 3, 5, 14] := by kernel_rfl
@[simp] theorem keep19_5 : X.keep 19 5 = some [4] := by kernel_rfl
@[simp] theorem keep19_6 : X.keep 19 6 = some [2, 3, 5, 6] := by kernel_rfl
@[simp] theorem keep19_7 : X.keep 19 7 = some [2, 3, 5, 6, 7] := by kernel_rfl
@[simp] theorem keep19_8 : X.keep 19 8 = some [2, 3, 5, 6, 7, 24] := by kernel_rfl
@[simp] theorem keep19_9 : X.keep 19 9 = some [2, 3, 5, 6, 7, 24, 25] := by kernel_rfl
@[simp] theorem keep19_10 : X.keep 19 10 = some [6] := by kernel_rfl
@[simp] theorem keep19_11 : X.keep 19 11 = some [2, 3, 5, 6, 7, 24, 27] := by kernel_rfl
@[simp] theorem keep19_12 : X.keep 19 12 = some [6] := by kernel_rfl
@[simp] theorem keep19_13 : X.keep 19 13 = some [2, 3, 5, 6, 7, 24, 60] := by kernel_rfl
@[simp] theorem keep19_14 : X.keep 19 14 = some [2, 3, 5, 6, 7, 24, 60] := by kernel_rfl
@[simp] theorem keep19_15 : X.keep 19 15 = some [2, 3, 5, 6, 7, 24, 60] := by kernel_rfl
@[simp] theorem keep19_16 : X.keep 19 16 = some [6] := by kernel_rfl
@[simp] theorem keep19_17 : X.keep 19 17 = some [2, 3, 5, 6, 24, 84] := by kernel_rfl
@[simp] theorem keep19_18 : X.keep 19 18 = some [2, 3, 5, 6, 24, 84] := by kernel_rfl
@[simp] theorem keep19_19 : X.keep 19 19 = some [6] := by kernel_rfl
@[simp] theorem keep19_20 : X.keep 19 20 = some [2, 5, 6, 103] := by kernel_rfl
@[simp] theorem keep19_21 : X.keep 19 21 = some [6] := by kernel_rfl
@[simp] theorem keep19_22 : X.keep 19 22 = some [121] := by kernel_rfl
@[simp] theorem keep19_23 : X.keep 19 23 = some [4] := by kernel_rfl
@[simp] theorem keep19_24 : X.keep 19 24 = some [4] := by kernel_rfl
@[simp] theorem keep20_0 : X.keep 20 0 = some [0] := by kernel_rfl
@[simp] theorem keep20_1 : X.keep 20 1 = some [0, 4] := by kernel_rfl
@[simp] theorem keep20_2 : X.keep 20 2 = some [2] := by kernel_rfl
@[simp] theorem keep20_3 : X.keep 20 3 = some [2] := by kernel_rfl
@[simp] theorem keep21_0 : X.keep 21 0 = some [0, 4, 5] := by kernel_rfl
@[simp] theorem keep21_1 : X.keep 21 1 = some [0, 4, 5, 8] := by kernel_rfl
@[simp] theorem keep21_2 : X.keep 21 2 = some [0, 4, 5, 24] := by kernel_rfl
@[simp] theorem keep21_3 : X.keep 21 3 = some [6, 7] := by kernel_rfl
@[simp] theorem keep21_4 : X.keep 21 4 = some [4, 5, 9] := by kernel_rfl
@[simp] theorem keep21_5 : X.keep 21 5 = some [4, 5, 9, 28] := by kernel_rfl
@[simp] theorem keep21_6 : X.keep 21 6 = some [4, 5, 9, 28, 29] := by kernel_rfl
@[simp] theorem keep21_7 : X.keep 21 7 = some [6, 7] := by kernel_rfl
@[simp] theorem keep21_8 : X.keep 21 8 = some [4, 5, 9, 28, 39] := by kernel_rfl
@[simp] theorem keep21_9 : X.keep 21 9 = some [4, 5, 9, 28, 39] := by kernel_rfl
@[simp] theorem keep21_10 : X.keep 21 10 = some [4, 5, 9, 28, 39] := by kernel_rfl
@[simp] theorem keep21_11 : X.keep 21 11 = some [6, 7] := by kernel_rfl
@[simp] theorem keep21_12 : X.keep 21 12 = some [4, 5, 9, 28, 50] := by kernel_rfl
@[simp] theorem keep21_13 : X.keep 21 13 = some [4, 5, 9, 28, 50] := by kernel_rfl
@[simp] theorem keep21_14 : X.keep 21 14 = some [6, 7] := by kernel_rfl
@[simp] theorem keep21_15 : X.keep 21 15 = some [4, 9, 59] := by kernel_rfl
@[simp] theorem keep21_16 : X.keep 21 16 = some [6, 7] := by kernel_rfl
@[simp] theorem keep21_17 : X.keep 21 17 = some [6, 7] := by kernel_rfl
@[simp] theorem keep22_0 : X.keep 22 0 = some [0] := by kernel_rfl
@[simp] theorem keep22_1 : X.keep 22 1 = some [0, 3, 4, 5] := by kernel_rfl
@[simp] theorem keep22_2 : X.keep 22 2 = some [0, 3, 4, 5, 13] := by kernel_rfl
@[simp] theorem keep22_3 : X.keep 22 3 = some [2, 3, 4] := by kernel_rfl
@[simp] theorem keep22_4 : X.keep 22 4 = some [0, 3, 5, 21] := by kernel_rfl
@[simp] theorem keep22_5 : X.keep 22 5 = some [2, 3, 4] := by kernel_rfl
@[simp] theorem keep22_6 : X.keep 22 6 = some [2, 3, 4] := by kernel_rfl
@[simp] theorem keep23_0 : X.keep 23 0 = some [0] := by kernel_rfl
@[simp] theorem keep23_1 : X.keep 23 1 = some [2] := by kernel_rfl
@[simp] theorem keep24_0 : X.keep 24 0 = some [0, 1, 4] := by kernel_rfl
@[simp] theorem keep24_1 : X.keep 24 1 = some [0, 1, 4, 7] := by kernel_rfl
@[simp] theorem keep24_2 : X.keep 24 2 = some [0, 1, 4, 7, 17] := by kernel_rfl
@[simp] theorem keep24_3 : X.keep 24 3 = some [4, 5, 6] := by kernel_rfl
@[simp] theorem keep24_4 : X.keep 24 4 = some [0, 1, 4, 7, 8] := by kernel_rfl
@[simp] theorem keep24_5 : X.keep 24 5 = some [0, 1, 4, 7, 8, 9] := by kernel_rfl
@[simp] theorem keep24_6 : X.keep 24 6 = some [0, 1, 4, 7, 8, 9, 25] := by kernel_rfl
@[simp] theorem keep24_7 : X.keep 24 7 = some [0, 1, 4, 7, 8, 9] := by kernel_rfl
@[simp] theorem keep24_8 : X.keep 24 8 = some [0, 1, 4, 7, 8, 9, 10] := by kernel_rfl
@[simp] theorem keep24_9 : X.keep 24 9 = some [0, 1, 4, 7, 8, 10, 27, 28, 29] := by kernel_rfl
@[simp] theorem keep24_10 : X.keep 24 10 = some [0, 1, 4, 7, 8, 10, 27, 28, 29, 30] := by kernel_rfl
@[simp] theorem keep24_11 : X.keep 24 11 = some [0, 1, 4, 7, 8, 10, 12, 27, 28, 29] := by kernel_rfl
@[simp] theorem keep24_12 : X.keep 24 12 = some [0, 1, 4, 7, 8, 10, 27, 28, 29] := by kernel_rfl
@[simp] theorem keep24_13 : X.keep 24 13 = some [0, 1, 4, 7, 8, 10, 27, 28, 29] := by kernel_rfl
@[simp] theorem keep24_14 : X.keep 24 14 = some [0, 1, 4, 7, 8, 41] := by kernel_rfl
@[simp] theorem keep24_15 : X.keep 24 15 = some [4, 5, 6] := by kernel_rfl
@[simp] theorem keep24_16 : X.keep 24 16 = some [0, 1, 4, 7, 8, 47] := by kernel_rfl
@[simp] theorem keep24_17 : X.keep 24 17 = some [4, 5, 6] := by kernel_rfl
@[simp] theorem keep24_18 : X.keep 24 18 = some [0, 1, 4, 7, 8, 13] := by kernel_rfl
@[simp] theorem keep24_19 : X.keep 24 19 = some [1, 4, 7, 8, 13] := by kernel_rfl
@[simp] theorem keep24_20 : X.keep 24 20 = some [1, 4, 7, 8, 13, 14] := by kernel_rfl
@[simp] theorem keep24_21 : X.keep 24 21 = some [1, 4, 7, 8, 13, 14, 58] := by kernel_rfl
@[simp] theorem keep24_22 : X.keep 24 22 = some [1, 4, 7, 8, 13, 14, 62] := by kernel_rfl
@[simp] theorem keep24_23 : X.keep 24 23 = some [4, 5, 6] := by kernel_rfl
@[simp] theorem keep24_24 : X.keep 24 24 = some [1, 4, 7, 8] := by kernel_rfl
@[simp] theorem keep24_25 : X.keep 24 25 = some [1, 4, 7, 8] := by kernel_rfl
@[simp] theorem keep24_26 : X.keep 24 26 = some [4, 7, 8, 97] := by kernel_rfl
@[simp] theorem keep24_27 : X.keep 24 27 = some [4, 5, 6] := by kernel_rfl
@[simp] theorem keep24_28 : X.keep 24 28 = some [4, 5, 6] := by kernel_rfl
@[simp] theorem keep25_0 : X.keep 25 0 = some [0] := by kernel_rfl
@[simp] theorem keep25_1 : X.keep 25 1 = some [3] := by kernel_rfl
@[simp] theorem keep25_2 : X.keep 25 2 = some [3, 4] := by kernel_rfl
@[simp] theorem keep25_3 : X.keep 25 3 = some [2] := by kernel_rfl
@[simp] theorem keep25_4 : X.keep 25 4 = some [3, 6] := by kernel_rfl
@[simp] theorem keep25_5 : X.keep 25 5 = some [3, 6] := by kernel_rfl
@[simp] theorem keep25_6 : X.keep 25 6 = some [2] := by kernel_rfl
@[simp] theorem keep25_7 : X.keep 25 7 = some [3, 9] := by kernel_rfl
@[simp] theorem keep25_8 : X.keep 25 8 = some [3, 9] := by kernel_rfl
@[simp] theorem keep25_9 : X.keep 25 9 = some [3, 9] := by kernel_rfl
@[simp] theorem keep25_10 : X.keep 25 10 = some [2] := by kernel_rfl
@[simp] theorem keep25_11 : X.keep 25 11 = some [3, 13] := by kernel_rfl
@[simp] theorem keep25_12 : X.keep 25 12 = some [13] := by kernel_rfl
@[simp] theorem keep25_13 : X.keep 25 13 = some [2] := by kernel_rfl
@[simp] theorem keep25_14 : X.keep 25 14 = some [2] := by kernel_rfl
@[simp] theorem keep26_0 : X.keep 26 0 = some [0, 1] := by kernel_rfl
@[simp] theorem keep26_1 : X.keep 26 1 = some [0, 1, 13] := by kernel_rfl
@[simp] theorem keep26_2 : X.keep 26 2 = some [4, 5] := by kernel_rfl
@[simp] theorem keep26_3 : X.keep 26 3 = some [0, 1, 17] := by kernel_rfl
@[simp] theorem keep26_4 : X.keep 26 4 = some [4, 5] := by kernel_rfl
@[simp] theorem keep26_5 : X.keep 26 5 = some [0, 1, 6] := by kernel_rfl
@[simp] theorem keep26_6 : X.keep 26 6 = some [0, 6, 18, 19] := by kernel_rfl
@[simp] theorem keep26_7 : X.keep 26 7 = some [0, 6, 18, 19, 20] := by kernel_rfl
@[simp] theorem keep26_8 : X.keep 26 8 = some [0, 6, 7, 18, 19] := by kernel_rfl
@[simp] theorem keep26_9 : X.keep 26 9 = some [0, 6, 18, 19] := by kernel_rfl
@[simp] theorem keep26_10 : X.keep 26 10 = some [0, 6, 18, 19] := by kernel_rfl
@[simp] theorem keep26_11 : X.keep 26 11 = some [4, 5] := by kernel_rfl
@[simp] theorem keep27_0 : X.keep 27 0 = some [0, 1] := by kernel_rfl
@[simp] theorem keep27_1 : X.keep 27 1 = some [4] := by kernel_rfl
@[simp] theorem keep28_0 : X.keep 28 0 = some [0, 1] := by kernel_rfl
@[simp] theorem keep28_1 : X.keep 28 1 = some [4] := by kernel_rfl
@[simp] theorem keep29_0 : X.keep 29 0 = some [1, 2] := by kernel_rfl
@[simp] theorem keep29_1 : X.keep 29 1 = some [1, 2, 5] := by kernel_rfl
@[simp] theorem keep29_2 : X.keep 29 2 = some [1, 2, 5, 22] := by kernel_rfl
@[simp] theorem keep29_3 : X.keep 29 3 = some [2, 5, 6] := by kernel_rfl
@[simp] theorem keep29_4 : X.keep 29 4 = some [2, 5, 6, 24] := by kernel_rfl
@[simp] theorem keep29_5 : X.keep 29 5 = some [2, 5, 6] := by kernel_rfl
@[simp] theorem keep29_6 : X.keep 29 6 = some [4] := by kernel_rfl
@[simp] theorem keep29_7 : X.keep 29 7 = some [1, 2, 5, 7] := by kernel_rfl
@[simp] theorem keep29_8 : X.keep 29 8 = some [2, 5, 7, 50] := by kernel_rfl
@[simp] theorem keep29_9 : X.keep 29 9 = some [4] := by kernel_rfl
@[simp] theorem keep29_10 : X.keep 29 10 = some [4] := by kernel_rfl
@[simp] theorem keep30_0 : X.keep 30 0 = some [0] := by kernel_rfl
@[simp] theorem keep30_1 : X.keep 30 1 = some [0] := by kernel_rfl
@[simp] theorem keep31_0 : X.keep 31 0 = some [0, 1] := by kernel_rfl
@[simp] theorem keep31_1 : X.keep 31 1 = some [4] := by kernel_rfl
@[simp] theorem keep32_0 : X.keep 32 0 = some [1, 2] := by kernel_rfl
@[simp] theorem keep32_1 : X.keep 32 1 = some [1, 2, 7] := by kernel_rfl
@[simp] theorem keep32_2 : X.keep 32 2 = some [4] := by kernel_rfl
@[simp] theorem keep32_3 : X.keep 32 3 = some [1, 2, 9] := by kernel_rfl
@[simp] theorem keep32_4 : X.keep 32 4 = some [4] := by kernel_rfl
@[simp] theorem keep32_5 : X.keep 32 5 = some [1, 2, 52] := by kernel_rfl
@[simp] theorem keep32_6 : X.keep 32 6 = some [4] := by kernel_rfl
@[simp] theorem keep32_7 : X.keep 32 7 = some [4] := by kernel_rfl
@[simp] theorem keep33_0 : X.keep 33 0 = some [0, 1, 2] := by kernel_rfl
@[simp] theorem keep33_1 : X.keep 33 1 = some [0, 1, 8, 9] := by kernel_rfl
@[simp] theorem keep33_2 : X.keep 33 2 = some [0, 1, 8, 9, 10] := by kernel_rfl
@[simp] theorem keep33_3 : X.keep 33 3 = some [0, 1, 7, 8, 9] := by kernel_rfl
@[simp] theorem keep33_4 : X.keep 33 4 = some [0, 1, 8, 9] := by kernel_rfl
@[simp] theorem keep33_5 : X.keep 33 5 = some [0, 1, 8, 9] := by kernel_rfl
@[simp] theorem keep33_6 : X.keep 33 6 = some [6] := by kernel_rfl
@[simp] theorem keep34_0 : X.keep 34 0 = some [0, 2, 4] := by kernel_rfl
@[simp] theorem keep34_1 : X.keep 34 1 = some [0, 4, 10] := by kernel_rfl
@[simp] theorem keep34_2 : X.keep 34 2 = some [0, 4] := by kernel_rfl
@[simp] theorem keep34_3 : X.keep 34 3 = some [0, 4, 14] := by kernel_rfl
@[simp] theorem keep34_4 : X.keep 34 4 = some [6] := by kernel_rfl
@[simp] theorem keep34_5 : X.keep 34 5 = some [0, 4, 21] := by kernel_rfl
@[simp] theorem keep34_6 : X.keep 34 6 = some [0, 4] := by kernel_rfl
@[simp] theorem keep34_7 : X.keep 34 7 = some [0, 4, 7] := by kernel_rfl
@[simp] theorem keep34_8 : X.keep 34 8 = some [0, 4, 7, 29] := by kernel_rfl
@[simp] theorem keep34_9 : X.keep 34 9 = some [0, 4, 7] := by kernel_rfl
@[simp] theorem keep34_10 : X.keep 34 10 = some [0, 4] := by kernel_rfl
@[simp] theorem keep34_11 : X.keep 34 11 = some [0, 4] := by kernel_rfl
@[simp] theorem keep34_12 : X.keep 34 12 = some [0, 4, 8] := by kernel_rfl
@[simp] theorem keep34_13 : X.keep 34 13 = some [0, 4, 8, 50] := by kernel_rfl
@[simp] theorem keep34_14 : X.keep 34 14 = some [6] := by kernel_rfl
@[simp] theorem keep34_15 : X.keep 34 15 = some [0, 4, 8, 57] := by kernel_rfl
@[simp] theorem keep34_16 : X.keep 34 16 = some [0, 4, 8] := by kernel_rfl
@[simp] theorem keep34_17 : X.keep 34 17 = some [0, 4, 8, 67] := by kernel_rfl
@[simp] theorem keep34_18 : X.keep 34 18 = some [0, 4, 8] := by kernel_rfl
@[simp] theorem keep34_19 : X.keep 34 19 = some [0, 4, 8] := by kernel_rfl
@[simp] theorem keep34_20 : X.keep 34 20 = some [0, 4, 88] := by kernel_rfl
@[simp] theorem keep34_21 : X.keep 34 21 = some [0, 4] := by kernel_rfl
@[simp] theorem keep34_22 : X.keep 34 22 = some [0, 4, 103] := by kernel_rfl
@[simp] theorem keep34_23 : X.keep 34 23 = some [0] := by kernel_rfl
@[simp] theorem keep34_24 : X.keep 34 24 = some [6] := by kernel_rfl
@[simp] theorem keep35_0 : X.keep 35 0 = some [0] := by kernel_rfl
@[simp] theorem keep35_1 : X.keep 35 1 = some [0, 8] := by kernel_rfl
@[simp] theorem keep35_2 : X.keep 35 2 = some [2, 3, 4] := by kernel_rfl
@[simp] theorem keep35_3 : X.keep 35 3 = some [0] := by kernel_rfl
@[simp] theorem keep35_4 : X.keep 35 4 = some [0, 11] := by kernel_rfl
@[simp] theorem keep35_5 : X.keep 35 5 = some [2, 3, 4] := by kernel_rfl
@[simp] theorem keep35_6 : X.keep 35 6 = some [0, 11, 16] := by kernel_rfl
@[simp] theorem keep35_7 : X.keep 35 7 = some [0, 5] := by kernel_rfl
@[simp] theorem keep35_8 : X.keep 35 8 = some [0, 11, 18] := by kernel_rfl
@[simp] theorem keep35_9 : X.keep 35 9 = some [0, 5] := by kernel_rfl
@[simp] theorem keep35_10 : X.keep 35 10 = some [0, 11, 20] := by kernel_rfl
@[simp] theorem keep35_11 : X.keep 35 11 = some [0, 5] := by kernel_rfl
@[simp] theorem keep35_12 : X.keep 35 12 = some [0, 11, 22] := by kernel_rfl
@[simp] theorem keep35_13 : X.keep 35 13 = some [0, 22] := by kernel_rfl
@[simp] theorem keep35_14 : X.keep 35 14 = some [2, 3, 4] := by kernel_rfl
@[simp] theorem keep35_15 : X.keep 35 15 = some [2, 4, 5] := by kernel_rfl
@[simp] theorem keep35_16 : X.keep 35 16 = some [2, 4, 5, 33] := by kernel_rfl
@[simp] theorem keep35_17 : X.keep 35 17 = some [2, 3, 4] := by kernel_rfl
@[simp] theorem keep35_18 : X.keep 35 18 = some [2, 3, 4] := by kernel_rfl
@[simp] theorem keep36_0 : X.keep 36 0 = some [0] := by kernel_rfl
@[simp] theorem keep36_1 : X.keep 36 1 = some [0] := by kernel_rfl
@[simp] theorem keep37_0 : X.keep 37 0 = some [0, 1, 2] := by kernel_rfl
@[simp] theorem keep37_1 : X.keep 37 1 = some [6] := by kernel_rfl
@[simp] theorem keep37_2 : X.keep 37 2 = some [5] := by kernel_rfl
@[simp] theorem keep38_0 : X.keep 38 0 = some [0, 1] := by kernel_rfl
@[simp] theorem keep38_1 : X.keep 38 1 = some [0, 1, 11] := by kernel_rfl
@[simp] theorem keep38_2 : X.keep 38 2 = some [0, 17] := by kernel_rfl
@[simp] theorem keep38_3 : X.keep 38 3 = some [4] := by kernel_rfl
@[simp] theorem keep38_4 : X.keep 38 4 = some [0, 5] := by kernel_rfl
@[simp] theorem keep38_5 : X.keep 38 5 = some [0, 5, 6] := by kernel_rfl
@[simp] theorem keep38_6 : X.keep 38 6 = some [0, 5, 6, 23] := by kernel_rfl
@[simp] theorem keep38_7 : X.keep 38 7 = some [0, 5, 6] := by kernel_rfl
@[simp] theorem keep38_8 : X.keep 38 8 = some [0, 5, 6, 7] := by kernel_rfl
@[simp] theorem keep38_9 : X.keep 38 9 = some [0, 5, 7] := by kernel_rfl
@[simp] theorem keep38_10 : X.keep 38 10 = some [5, 7, 34] := by kernel_rfl
@[simp] theorem keep38_11 : X.keep 38 11 = some [5, 7] := by kernel_rfl
@[simp] theorem keep38_12 : X.keep 38 12 = some [4] := by kernel_rfl
@[simp] theorem keep38_13 : X.keep 38 13 = some [4] := by kernel_rfl
@[simp] theorem keep38_14 : X.keep 38 14 = some [9] := by kernel_rfl
@[simp] theorem keep38_15 : X.keep 38 15 = some [4] := by kernel_rfl
@[simp] theorem keep39_0 : X.keep 39 0 = some [0, 1] := by kernel_rfl
@[simp] theorem keep39_1 : X.keep 39 1 = some [0, 1, 10] := by kernel_rfl
@[simp] theorem keep39_2 : X.keep 39 2 = some [0, 12] := by kernel_rfl
@[simp] theorem keep39_3 : X.keep 39 3 = some [4] := by kernel_rfl
@[simp] theorem keep39_4 : X.keep 39 4 = some [0, 5] := by kernel_rfl
@[simp] theorem keep39_5 : X.keep 39 5 = some [0, 5, 6] := by kernel_rfl
@[simp] theorem keep39_6 : X.keep 39 6 = some [5, 6] := by kernel_rfl
@[simp] theorem keep39_7 : X.keep 39 7 = some [4] := by kernel_rfl
@[simp] theorem keep39_8 : X.keep 39 8 = some [8] := by kernel_rfl
@[simp] theorem keep39_9 : X.keep 39 9 = some [4] := by kernel_rfl
@[simp] theorem keep40_0 : X.keep 40 0 = some [0, 1] := by kernel_rfl
@[simp] theorem keep40_1 : X.keep 40 1 = some [1, 5] := by kernel_rfl
@[simp] theorem keep40_2 : X.keep 40 2 = some [4] := by kernel_rfl
@[simp] theorem keep41_0 : X.keep 41 0 = some [0] := by kernel_rfl
@[simp] theorem keep41_1 : X.keep 41 1 = some [0, 4] := by kernel_rfl
@[simp] theorem keep41_2 : X.keep 41 2 = some [2] := by kernel_rfl
@[simp] theorem keep41_3 : X.keep 41 3 = some [2] := by kernel_rfl
@[simp] theorem keep42_0 : X.keep 42 0 = some [0, 1] := by kernel_rfl
@[simp] theorem keep42_1 : X.keep 42 1 = some [0, 1, 5, 6] := by kernel_rfl
@[simp] theorem keep42_2 : X.keep 42 2 = some [1, 5, 6, 7] := by kernel_rfl
@[simp] theorem keep42_3 : X.keep 42 3 = some [1, 5, 6, 7, 16] := by kernel_rfl
@[simp] theorem keep42_4 : X.keep 42 4 = some [1, 6, 7] := by kernel_rfl
@[simp] theorem keep42_5 : X.keep 42 5 = some [7] := by kernel_rfl
@[simp] theorem keep42_6 : X.keep 42 6 = some [4] := by kernel_rfl
@[simp] theorem keep43_0 : X.keep 43 0 = some [1] := by kernel_rfl
@[simp] theorem keep43_1 : X.keep 43 1 = some [2] := by kernel_rfl
@[simp] theorem keep44_0 : X.keep 44 0 = some [0, 1, 2] := by kernel_rfl
@[simp] theorem keep44_1 : X.keep 44 1 = some [6] := by kernel_rfl
@[simp] theorem keep45_0 : X.keep 45 0 = some [0] := by kernel_rfl
@[simp] theorem keep45_1 : X.keep 45 1 = some [0, 4] := by kernel_rfl
@[simp] theorem keep45_2 : X.keep 45 2 = some [2] := by kernel_rfl
@[simp] theorem keep45_3 : X.keep 45 3 = some [2] := by kernel_rfl
@[simp] theorem keep46_0 : X.keep 46 0 = some [0] := by kernel_rfl
@[simp] theorem keep46_1 : X.keep 46 1 = some [0, 3] := by kernel_rfl
@[simp] theorem keep46_2 : X.keep 46 2 = some [2] := by kernel_rfl
@[simp] theorem keep47_0 : X.keep 47 0 = some [0, 1, 4] := by kernel_rfl
@[simp] theorem keep47_1 : X.keep 47 1 = some [0, 1, 4, 20] := by kernel_rfl
@[simp] theorem keep47_2 : X.keep 47 2 = some [0, 1, 4, 5] := by kernel_rfl
@[simp] theorem keep47_3 : X.keep 47 3 = some [0, 1, 4, 5] := by kernel_rfl
@[simp] theorem keep47_4 : X.keep 47 4 = some [0, 1, 4, 6, 7] := by kernel_rfl
@[simp] theorem keep47_5 : X.keep 47 5 = some [0, 1, 4, 6, 8, 9] := by kernel_rfl
@[simp] theorem keep47_6 : X.keep 47 6 = some [0, 1, 4, 8, 9, 10, 11] := by kernel_rfl
@[simp] theorem keep47_7 : X.keep 47 7 = some [0, 1, 4, 8, 10, 11] := by kernel_rfl
@[simp] theorem keep47_8 : X.keep 47 8 = some [0, 1, 4, 10, 11] := by kernel_rfl
@[simp] theorem keep47_9 : X.keep 47 9 = some [0, 1, 4, 10] := by kernel_rfl
@[simp] theorem keep47_10 : X.keep 47 10 = some [0, 1, 4] := by kernel_rfl
@[simp] theorem keep47_11 : X.keep 47 11 = some [0, 1, 4] := by kernel_rfl
@[simp] theorem keep47_12 : X.keep 47 12 = some [0, 4, 12] := by kernel_rfl
@[simp] theorem keep47_13 : X.keep 47 13 = some [0, 4, 12, 99] := by kernel_rfl
@[simp] theorem keep47_14 : X.keep 47 14 = some [0, 4, 12, 13] := by kernel_rfl
@[simp] theorem keep47_15 : X.keep 47 15 = some [0, 4, 12, 13] := by kernel_rfl
@[simp] theorem keep47_16 : X.keep 47 16 = some [0, 4, 12, 14, 15] := by kernel_rfl
@[simp] theorem keep47_17 : X.keep 47 17 = some [0, 4, 12, 14] := by kernel_rfl
@[simp] theorem keep47_18 : X.keep 47 18 = some [0, 4, 12] := by kernel_rfl
@[simp] theorem keep47_19 : X.keep 47 19 = some [0, 4, 12] := by kernel_rfl
@[simp] theorem keep47_20 : X.keep 47 20 = some [0, 4, 12, 139] := by kernel_rfl
@[simp] theorem keep47_21 : X.keep 47 21 = some [0, 4, 12, 16] := by kernel_rfl
@[simp] theorem keep47_22 : X.keep 47 22 = some [0, 4, 12, 16] := by kernel_rfl
@[simp] theorem keep47_23 : X.keep 47 23 = some [0, 4, 12] := by kernel_rfl
@[simp] theorem keep47_24 : X.keep 47 24 = some [0, 4, 12] := by kernel_rfl
@[simp] theorem keep47_25 : X.keep 47 25 = some [0, 12, 161] := by kernel_rfl
@[simp] theorem keep47_26 : X.keep 47 26 = some [] := by kernel_rfl
@[simp] theorem keep49_0 : X.keep 49 0 = some [0] := by kernel_rfl
@[simp] theorem keep49_1 : X.keep 49 1 = some [2] := by kernel_rfl
@[simp] theorem keep50_0 : X.keep 50 0 = some [0, 1] := by kernel_rfl
@[simp] theorem keep50_1 : X.keep 50 1 = some [0, 1, 11] := by kernel_rfl
@[simp] theorem keep50_2 : X.keep 50 2 = some [0, 1, 11, 12] := by kernel_rfl
@[simp] theorem keep50_3 : X.keep 50 3 = some [4] := by kernel_rfl
@[simp] theorem keep50_4 : X.keep 50 4 = some [0, 1, 14] := by kernel_rfl
@[simp] theorem keep50_5 : X.keep 50 5 = some [4] := by kernel_rfl
@[simp] theorem keep50_6 : X.keep 50 6 = some [0, 1, 18] := by kernel_rfl
@[simp] theorem keep50_7 : X.keep 50 7 = some [0, 1] := by kernel_rfl
@[simp] theorem keep50_8 : X.keep 50 8 = some [0, 5, 6] := by kernel_rfl
@[simp] theorem keep50_9 : X.keep 50 9 = some [0, 6, 34] := by kernel_rfl
@[simp] theorem keep50_10 : X.keep 50 10 = some [0, 6] := by kernel_rfl
@[simp] theorem keep50_11 : X.keep 50 11 = some [0, 7] := by kernel_rfl
@[simp] theorem keep50_12 : X.keep 50 12 = some [0, 7, 40] := by kernel_rfl
@[simp] theorem keep50_13 : X.keep 50 13 = some [4] := by kernel_rfl
@[simp] theorem keep50_14 : X.keep 50 14 = some [0, 7, 42] := by kernel_rfl
@[simp] theorem keep50_15 : X.keep 50 15 = some [0, 7, 42, 43] := by kernel_rfl
@[simp] theorem keep50_16 : X.keep 50 16 = some [0, 7, 42, 43] := by kernel_rfl
@[simp] theorem keep50_17 : X.keep 50 17 = some [0, 7, 42, 43] := by kernel_rfl
@[simp] theorem keep50_18 : X.keep 50 18 = some [0, 7, 42, 43] := by kernel_rfl
@[simp] theorem keep50_19 : X.keep 50 19 = some [0, 7, 43] := by kernel_rfl
@[simp] theorem keep50_20 : X.keep 50 20 = some [0, 7, 49] := by kernel_rfl
@[simp] theorem keep50_21 : X.keep 50 21 = some [4] := by kernel_rfl
@[simp] theorem keep50_22 : X.keep 50 22 = some [0, 7, 58] := by kernel_rfl
@[simp] theorem keep50_23 : X.keep 50 23 = some [4] := by kernel_rfl
@[simp] theorem keep50_24 : X.keep 50 24 = some [0, 7, 67] := by kernel_rfl
@[simp] theorem keep50_25 : X.keep 50 25 = some [4] := by kernel_rfl
@[simp] theorem keep50_26 : X.keep 50 26 = some [0, 7, 76] := by kernel_rfl
@[simp] theorem keep50_27 : X.keep 50 27 = some [4] := by kernel_rfl
@[simp] theorem keep50_28 : X.keep 50 28 = some [0, 7, 85] := by kernel_rfl
@[simp] theorem keep50_29 : X.keep 50 29 = some [4] := by kernel_rfl
@[simp] theorem keep50_30 : X.keep 50 30 = some [0, 7, 8] := by kernel_rfl
@[simp] theorem keep50_31 : X.keep 50 31 = some [0, 7, 8, 96] := by kernel_rfl
@[simp] theorem keep50_32 : X.keep 50 32 = some [0, 7, 8] := by kernel_rfl
@[simp] theorem keep50_33 : X.keep 50 33 = some [0, 7, 8, 104] := by kernel_rfl
@[simp] theorem keep50_34 : X.keep 50 34 = some [0, 7, 8] := by kernel_rfl
@[simp] theorem keep50_35 : X.keep 50 35 = some [0, 7, 8, 9] := by kernel_rfl
@[simp] theorem keep50_36 : X.keep 50 36 = some [0, 7, 8, 9] := by kernel_rfl
@[simp] theorem keep50_37 : X.keep 50 37 = some [7, 8, 9] := by kernel_rfl
@[simp] theorem keep50_38 : X.keep 50 38 = some [7, 8, 9, 113] := by kernel_rfl
@[simp] theorem keep50_39 : X.keep 50 39 = some [7, 8, 9, 10] := by kernel_rfl
@[simp] theorem keep50_40 : X.keep 50 40 = some [7, 8, 9] := by kernel_rfl
@[simp] theorem keep50_41 : X.keep 50 41 = some [4] := by kernel_rfl
@[simp] theorem keep51_0 : X.keep 51 0 = some [0] := by kernel_rfl
@[simp] theorem keep51_1 : X.keep 51 1 = some [0, 4] := by kernel_rfl
@[simp] theorem keep51_2 : X.keep 51 2 = some [2, 3] := by kernel_rfl
@[simp] theorem keep51_3 : X.keep 51 3 = some [0, 7] := by kernel_rfl
@[simp] theorem keep51_4 : X.keep 51 4 = some [2, 3] := by kernel_rfl
@[simp] theorem keep51_5 : X.keep 51 5 = some [10] := by kernel_rfl
@[simp] theorem keep51_6 : X.keep 51 6 = some [2, 3] := by kernel_rfl
@[simp] theorem keep51_7 : X.keep 51 7 = some [2, 3] := by kernel_rfl
@[simp] theorem keep52_0 : X.keep 52 0 = some [0, 1, 2] := by kernel_rfl
@[simp] theorem keep52_1 : X.keep 52 1 = some [0, 1, 2, 26] := by kernel_rfl
@[simp] theorem keep52_2 : X.keep 52 2 = some [6, 7] := by kernel_rfl
@[simp] theorem keep52_3 : X.keep 52 3 = some [1, 2, 8] := by kernel_rfl
@[simp] theorem keep52_4 : X.keep 52 4 = some [1, 8, 29, 30] := by kernel_rfl
@[simp] theorem keep52_5 : X.keep 52 5 = some [1, 8, 29, 30, 31] := by kernel_rfl
@[simp] theorem keep52_6 : X.keep 52 6 = some [1, 8, 9, 29, 30] := by kernel_rfl
@[simp] theorem keep52_7 : X.keep 52 7 = some [1, 8, 29, 30] := by kernel_rfl
@[simp] theorem keep52_8 : X.keep 52 8 = some [1, 8, 29, 30] := by kernel_rfl
@[simp] theorem keep52_9 : X.keep 52 9 = some [6, 7] := by kernel_rfl
@[simp] theorem keep53_0 : X.keep 53 0 = some [0] := by kernel_rfl
@[simp] theorem keep53_1 : X.keep 53 1 = some [2] := by kernel_rfl
@[simp] theorem keep54_0 : X.keep 54 0 = some [0, 2] := by kernel_rfl
@[simp] theorem keep54_1 : X.keep 54 1 = some [0, 2, 4] := by kernel_rfl
@[simp] theorem keep54_2 : X.keep 54 2 = some [0] := by kernel_rfl
@[simp] theorem keep54_3 : X.keep 54 3 = some [0, 2] := by kernel_rfl
@[simp] theorem keep54_4 : X.keep 54 4 = some [0, 2, 8] := by kernel_rfl
@[simp] theorem keep54_5 : X.keep 54 5 = some [0, 2] := by kernel_rfl
@[simp] theorem keep54_6 : X.keep 54 6 = some [0, 2] := by kernel_rfl
@[simp] theorem keep54_7 : X.keep 54 7 = some [0, 2, 14] := by kernel_rfl
@[simp] theorem keep54_8 : X.keep 54 8 = some [0, 2] := by kernel_rfl
@[simp] theorem keep54_9 : X.keep 54 9 = some [0, 2] := by kernel_rfl
@[simp] theorem keep54_10 : X.keep 54 10 = some [2] := by kernel_rfl
@[simp] theorem keep55_0 : X.keep 55 0 = some [0] := by kernel_rfl
@[simp] theorem keep55_1 : X.keep 55 1 = some [3] := by kernel_rfl
@[simp] theorem keep55_2 : X.keep 55 2 = some [2] := by kernel_rfl
@[simp] theorem keep55_3 : X.keep 55 3 = some [2] := by kernel_rfl
@[simp] theorem keep58_0 : X.keep 58 0 = some [0] := by kernel_rfl
@[simp] theorem keep58_1 : X.keep 58 1 = some [2] := by kernel_rfl
@[simp] theorem keep60_0 : X.keep 60 0 = some [0, 1] := by kernel_rfl
@[simp] theorem keep60_1 : X.keep 60 1 = some [4] := by kernel_rfl
@[simp] theorem keep61_0 : X.keep 61 0 = some [0, 1] := by kernel_rfl
@[simp] theorem keep61_1 : X.keep 61 1 = some [0, 1, 7] := by kernel_rfl
@[simp] theorem keep61_2 : X.keep 61 2 = some [0, 1] := by kernel_rfl
@[simp] theorem keep61_3 : X.keep 61 3 = some [0, 1, 21] := by kernel_rfl
@[simp] theorem keep61_4 : X.keep 61 4 = some [] := by kernel_rfl
@[simp] theorem keep62_0 : X.keep 62 0 = some [0, 1] := by kernel_rfl
@[simp] theorem keep62_1 : X.keep 62 1 = some [0, 1] := by kernel_rfl
@[simp] theorem keep62_2 : X.keep 62 2 = some [1] := by kernel_rfl
@[simp] theorem keep62_3 : X.keep 62 3 = some [4, 5] := by kernel_rfl
@[simp] theorem keep63_0 : X.keep 63 0 = some [0] := by kernel_rfl
@[simp] theorem keep63_1 : X.keep 63 1 = some [2] := by kernel_rfl
@[simp] theorem keep64_0 : X.keep 64 0 = some [0] := by kernel_rfl
@[simp] theorem keep64_1 : X.keep 64 1 = some [2] := by kernel_rfl
@[simp] theorem keep70_0 : X.keep 70 0 = some [0, 6] := by kernel_rfl
@[simp] theorem keep70_1 : X.keep 70 1 = some [] := by kernel_rfl
@[simp] theorem keep70_2 : X.keep 70 2 = some [19] := by kernel_rfl
@[simp] theorem keep71_0 : X.keep 71 0 = some [0, 4] := by kernel_rfl
@[simp] theorem keep71_1 : X.keep 71 1 = some [0, 4] := by kernel_rfl
@[simp] theorem keep71_2 : X.keep 71 2 = some [] := by kernel_rfl
@[simp] theorem dy4_17 : X.dy 4 17 = false := by kernel_rfl
@[simp] theorem dy5_40 : X.dy 5 40 = true := by kernel_rfl
@[simp] theorem dy6_10 : X.dy 6 10 = false := by kernel_rfl
@[simp] theorem dy8_6 : X.dy 8 6 = false := by kernel_rfl
@[simp] theorem dy11_8 : X.dy 11 8 = false := by kernel_rfl
@[simp] theorem dy11_18 : X.dy 11 18 = false := by kernel_rfl
@[simp] theorem dy11_19 : X.dy 11 19 = false := by kernel_rfl
@[simp] theorem dy12_7 : X.dy 12 7 = true := by kernel_rfl
@[simp] theorem dy12_13 : X.dy 12 13 = true := by kernel_rfl
@[simp] theorem dy18_6 : X.dy 18 6 = true := by kernel_rfl
@[simp] theorem dy21_7 : X.dy 21 7 = true := by kernel_rfl
@[simp] theorem dy21_11 : X.dy 21 11 = true := by kernel_rfl
@[simp] theorem dy24_19 : X.dy 24 19 = false := by kernel_rfl
@[simp] theorem dy24_24 : X.dy 24 24 = true := by kernel_rfl
@[simp] theorem dy29_1 : X.dy 29 1 = true := by kernel_rfl
@[simp] theorem dy29_7 : X.dy 29 7 = true := by kernel_rfl
@[simp] theorem dy34_10 : X.dy 34 10 = true := by kernel_rfl
@[simp] theorem dy34_19 : X.dy 34 19 = true := by kernel_rfl
@[simp] theorem dy47_7 : X.dy 47 7 = false := by kernel_rfl
@[simp] theorem dy47_8 : X.dy 47 8 = false := by kernel_rfl
@[simp] theorem dy47_9 : X.dy 47 9 = false := by kernel_rfl
@[simp] theorem dy47_10 : X.dy 47 10 = false := by kernel_rfl
@[simp] theorem dy47_17 : X.dy 47 17 = false := by kernel_rfl
@[simp] theorem dy47_18 : X.dy 47 18 = false := by kernel_rfl
@[simp] theorem dy47_23 : X.dy 47 23 = false := by kernel_rfl
@[simp] theorem dy61_3 : X.dy 61 3 = false := by kernel_rfl
@[simp] theorem dy64_1 : X.dy 64 1 = true := by kernel_rfl
@[simp] theorem dy71_0 : X.dy 71 0 = true := by kernel_rfl
@[simp] theorem size0 : sizeT X 0 = 1 := by kernel_rfl
@[simp] theorem bytes0 : bytesT X 0 = 0 := by kernel_rfl
@[simp] theorem okT0 : okT X 0 = true := by kernel_rfl
@[simp] theorem isAgg0 : isAggT X 0 = false := by kernel_rfl
@[simp] theorem isInt0 : isIntT X 0 = false := by kernel_rfl
@[simp] theorem isArr0 : isArrT X 0 = false := by kernel_rfl
@[simp] theorem isU80 : isU8 X 0 = false := by kernel_rfl
@[simp] theorem zok0 : zeroOk X 0 = true := by kernel_rfl
@[simp] theorem und2 : und X 2 = .int .i64 := by kernel_rfl
@[simp] theorem size2 : sizeT X 2 = 1 := by kernel_rfl
@[simp] theorem bytes2 : bytesT X 2 = 8 := by kernel_rfl
@[simp] theorem okT2 : okT X 2 = true := by kernel_rfl
@[simp] theorem isAgg2 : isAggT X 2 = false := by kernel_rfl
@[simp] theorem isInt2 : isIntT X 2 = true := by kernel_rfl
@[simp] theorem isArr2 : isArrT X 2 = false := by kernel_rfl
@[simp] theorem isU82 : isU8 X 2 = false := by kernel_rfl
@[simp] theorem zok2 : zeroOk X 2 = true := by kernel_rfl
@[simp] theorem zero2 : zeroAV X 2 = .int .i64 0 := by kernel_rfl
@[simp] theorem und3 : und X 3 = .int .i64 := by kernel_rfl
@[simp] theorem size3 : sizeT X 3 = 1 := by kernel_rfl
@[simp] theorem bytes3 : bytesT X 3 = 8 := by kernel_rfl
@[simp] theorem okT3 : okT X 3 = true := by kernel_rfl
@[simp] theorem isAgg3 : isAggT X 3 = false := by kernel_rfl
@[simp] theorem isInt3 : isIntT X 3 = true := by kernel_rfl
@[simp] theorem isArr3 : isArrT X 3 = false := by kernel_rfl
@[simp] theorem isU83 : isU8 X 3 = false := by kernel_rfl
@[simp] theorem zok3 : zeroOk X 3 = true := by kernel_rfl
@[simp] theorem zero3 : zeroAV X 3 = .int .i64 0 := by kernel_rfl
@[simp] theorem und4 : und X 4 = .bool := by kernel_rfl
@[simp] theorem size4 : sizeT X 4 = 1 := by kernel_rfl
@[simp] theorem bytes4 : bytesT X 4 = 1 := by kernel_rfl
@[simp] theorem okT4 : okT X 4 = true := by kernel_rfl
@[simp] theorem isAgg4 : isAggT X 4 = false := by kernel_rfl
@[simp] theorem isInt4 : isIntT X 4 = false := by kernel_rfl
@[simp] theorem isArr4 : isArrT X 4 = false := by kernel_rfl
@[simp] theorem isU84 : isU8 X 4 = false := by kernel_rfl
@[simp] theorem zok4 : zeroOk X 4 = true := by kernel_rfl
@[simp] theorem zero4 : zeroAV X 4 = .bool false := by kernel_rfl
@[simp] theorem und5 : und X 5 = .int .u8 := by kernel_rfl
@[simp] theorem size5 : sizeT X 5 = 1 := by kernel_rfl
@[simp] theorem bytes5 : bytesT X 5 = 1 := by kernel_rfl
@[simp] theorem okT5 : okT X 5 = true := by kernel_rfl
@[simp] theorem isAgg5 : isAggT X 5 = false := by kernel_rfl
@[simp] theorem isInt5 : isIntT X 5 = true := by kernel_rfl
@[simp] theorem isArr5 : isArrT X 5 = false := by kernel_rfl
@[simp] theorem isU85 : isU8 X 5 = true := by kernel_rfl
@[simp] theorem zok5 : zeroOk X 5 = true := by kernel_rfl
@[simp] theorem zero5 : zeroAV X 5 = .int .u8 0 := by kernel_rfl
@[simp] theorem und9 : und X 9 = .string := by kernel_rfl
@[simp] theorem size9 : sizeT X 9 = 1 := by kernel_rfl
@[simp] theorem bytes9 : bytesT X 9 = 16 := by kernel_rfl
@[simp] theorem okT9 : okT X 9 = true := by kernel_rfl
@[simp] theorem isAgg9 : isAggT X 9 = false := by kernel_rfl
@[simp] theorem isInt9 : isIntT X 9 = false := by kernel_rfl
@[simp] theorem isArr9 : isArrT X 9 = false := by kernel_rfl
@[simp] theorem isU89 : isU8 X 9 = false := by kernel_rfl
@[simp] theorem zok9 : zeroOk X 9 = true := by kernel_rfl
@[simp] theorem zero9 : zeroAV X 9 = .str [] := by kernel_rfl
@[simp] theorem size20 : sizeT X 20 = 1 := by kernel_rfl
@[simp] theorem bytes20 : bytesT X 20 = 16 := by kernel_rfl
@[simp] theorem okT20 : okT X 20 = true := by kernel_rfl
@[simp] theorem isAgg20 : isAggT X 20 = false := by kernel_rfl
@[simp] theorem isInt20 : isIntT X 20 = false := by kernel_rfl
@[simp] theorem isArr20 : isArrT X 20 = false := by kernel_rfl
@[simp] theorem isU820 : isU8 X 20 = false := by kernel_rfl
@[simp] theorem zok20 : zeroOk X 20 = true := by kernel_rfl
@[simp] theorem size23 : sizeT X 23 = 2 := by kernel_rfl
@[simp] theorem bytes23 : bytesT X 23 = 2 := by kernel_rfl
@[simp] theorem okT23 : okT X 23 = true := by kernel_rfl
@[simp] theorem isAgg23 : isAggT X 23 = true := by kernel_rfl
@[simp] theorem isInt23 : isIntT X 23 = false := by kernel_rfl
@[simp] theorem isArr23 : isArrT X 23 = false := by kernel_rfl
@[simp] theorem isU823 : isU8 X 23 = false := by kernel_rfl
@[simp] theorem zok23 : zeroOk X 23 = true := by kernel_rfl
@[simp] theorem zero23 : zeroAV X 23 = .agg (.pc [.int .u8 0, .bool false]) := by kernel_rfl
@[simp] theorem und24 : und X 24 = .slice 23 := by kernel_rfl
@[simp] theorem size24 : sizeT X 24 = 1 := by kernel_rfl
@[simp] theorem bytes24 : bytesT X 24 = 24 := by kernel_rfl
@[simp] theorem okT24 : okT X 24 = true := by kernel_rfl
@[simp] theorem isAgg24 : isAggT X 24 = false := by kernel_rfl
@[simp] theorem isInt24 : isIntT X 24 = false := by kernel_rfl
@[simp] theorem isArr24 : isArrT X 24 = false := by kernel_rfl
@[simp] theorem isU824 : isU8 X 24 = false := by kernel_rfl
@[simp] theorem zok24 : zeroOk X 24 = true := by kernel_rfl
@[simp] theorem zero24 : zeroAV X 24 = .ro 0 .pn 0 := by kernel_rfl
@[simp] theorem und25 : und X 25 = .slice 38 := by kernel_rfl
@[simp] theorem size25 : sizeT X 25 = 1 := by kernel_rfl
@[simp] theorem bytes25 : bytesT X 25 = 24 := by kernel_rfl
@[simp] theorem okT25 : okT X 25 = true := by kernel_rfl
@[simp] theorem isAgg25 : isAggT X 25 = false := by kernel_rfl
@[simp] theorem isInt25 : isIntT X 25 = false := by kernel_rfl
@[simp] theorem isArr25 : isArrT X 25 = false := by kernel_rfl
@[simp] theorem isU825 : isU8 X 25 = false := by kernel_rfl
@[simp] theorem zok25 : zeroOk X 25 = true := by kernel_rfl
@[simp] theorem zero25 : zeroAV X 25 = .ro 0 .pn 0 := by kernel_rfl
@[simp] theorem und26 : und X 26 = .int .i64 := by kernel_rfl
@[simp] theorem size26 : sizeT X 26 = 1 := by kernel_rfl
@[simp] theorem bytes26 : bytesT X 26 = 8 := by kernel_rfl
@[simp] theorem okT26 : okT X 26 = true := by kernel_rfl
@[simp] theorem isAgg26 : isAggT X 26 = false := by kernel_rfl
@[simp] theorem isInt26 : isIntT X 26 = true := by kernel_rfl
@[simp] theorem isArr26 : isArrT X 26 = false := by kernel_rfl
@[simp] theorem isU826 : isU8 X 26 = false := by kernel_rfl
@[simp] theorem zok26 : zeroOk X 26 = true := by kernel_rfl
@[simp] theorem zero26 : zeroAV X 26 = .int .i64 0 := by kernel_rfl
@[simp] theorem size27 : sizeT X 27 = 1 := by kernel_rfl
@[simp] theorem bytes27 : bytesT X 27 = 0 := by kernel_rfl
@[simp] theorem okT27 : okT X 27 = true := by kernel_rfl
@[simp] theorem isAgg27 : isAggT X 27 = false := by kernel_rfl
@[simp] theorem isInt27 : isIntT X 27 = false := by kernel_rfl
@[simp] theorem isArr27 : isArrT X 27 = false := by kernel_rfl
@[simp] theorem isU827 : isU8 X 27 = false := by kernel_rfl
@[simp] theorem zok27 : zeroOk X 27 = true := by kernel_rfl
@[simp] theorem und29 : und X 29 = .slice 5 := by kernel_rfl
@[simp] theorem size29 : sizeT X 29 = 1 := by kernel_rfl
@[simp] theorem bytes29 : bytesT X 29 = 24 := by kernel_rfl
@[simp] theorem okT29 : okT X 29 = true := by kernel_rfl
@[simp] theorem isAgg29 : isAggT X 29 = false := by kernel_rfl
@[simp] theorem isInt29 : isIntT X 29 = false := by kernel_rfl
@[simp] theorem isArr29 : isArrT X 29 = false := by kernel_rfl
@[simp] theorem isU829 : isU8 X 29 = false := by kernel_rfl
@[simp] theorem zok29 : zeroOk X 29 = true := by kernel_rfl
@[simp] theorem zero29 : zeroAV X 29 = .ro 0 .pn 0 := by kernel_rfl
@[simp] theorem size30 : sizeT X 30 = 1 := by kernel_rfl
@[simp] theorem bytes30 : bytesT X 30 = 0 := by kernel_rfl
@[simp] theorem okT30 : okT X 30 = true := by kernel_rfl
@[simp] theorem isAgg30 : isAggT X 30 = false := by kernel_rfl
@[simp] theorem isInt30 : isIntT X 30 = false := by kernel_rfl
@[simp] theorem isArr30 : isArrT X 30 = false := by kernel_rfl
@[simp] theorem isU830 : isU8 X 30 = false := by kernel_rfl
@[simp] theorem zok30 : zeroOk X 30 = true := by kernel_rfl
@[simp] theorem und34 : und X 34 = .int .u64 := by kernel_rfl
@[simp] theorem size34 : sizeT X 34 = 1 := by kernel_rfl
@[simp] theorem bytes34 : bytesT X 34 = 8 := by kernel_rfl
@[simp] theorem okT34 : okT X 34 = true := by kernel_rfl
@[simp] theorem isAgg34 : isAggT X 34 = false := by kernel_rfl
@[simp] theorem isInt34 : isIntT X 34 = true := by kernel_rfl
@[simp] theorem isArr34 : isArrT X 34 = false := by kernel_rfl
@[simp] theorem isU834 : isU8 X 34 = false := by kernel_rfl
@[simp] theorem zok34 : zeroOk X 34 = true := by kernel_rfl
@[simp] theorem zero34 : zeroAV X 34 = .int .u64 0 := by kernel_rfl
@[simp] theorem size36 : sizeT X 36 = 8 := by kernel_rfl
@[simp] theorem bytes36 : bytesT X 36 = 64 := by kernel_rfl
@[simp] theorem okT36 : okT X 36 = true := by kernel_rfl
@[simp] theorem isAgg36 : isAggT X 36 = true := by kernel_rfl
@[simp] theorem isInt36 : isIntT X 36 = false := by kernel_rfl
@[simp] theorem isArr36 : isArrT X 36 = false := by kernel_rfl
@[simp] theorem isU836 : isU8 X 36 = false := by kernel_rfl
@[simp] theorem zok36 : zeroOk X 36 = true := by kernel_rfl
@[simp] theorem zero36 : zeroAV X 36 = .agg (.pc [.bool false, .int .i64 0, .int .i64 0, .int .i64 0, .int .i64 0, .int .i64 0, .int .i64 0, .int .i64 0]) := by kernel_rfl
@[simp] theorem size38 : sizeT X 38 = 12 := by kernel_rfl
@[simp] theorem bytes38 : bytesT X 38 = 104 := by kernel_rfl
@[simp] theorem okT38 : okT X 38 = true := by kernel_rfl
@[simp] theorem isAgg38 : isAggT X 38 = true := by kernel_rfl
@[simp] theorem isInt38 : isIntT X 38 = false := by kernel_rfl
@[simp] theorem isArr38 : isArrT X 38 = false := by kernel_rfl
@[simp] theorem isU838 : isU8 X 38 = false := by kernel_rfl
@[simp] theorem zok38 : zeroOk X 38 = true := by kernel_rfl
@[simp] theorem zero38 : zeroAV X 38 = .agg (.pc [.int .i64 0, .int .i64 0, .int .u64 0, .str [], .bool false, .int .i64 0, .int .i64 0, .int .i64 0, .int .i64 0, .int .i64 0, .int .i64 0, .int .i64 0]) := by kernel_rfl
@[simp] theorem size44 : sizeT X 44 = 1 := by kernel_rfl
@[simp] theorem bytes44 : bytesT X 44 = 8 := by kernel_rfl
@[simp] theorem okT44 : okT X 44 = true := by kernel_rfl
@[simp] theorem isAgg44 : isAggT X 44 = false := by kernel_rfl
@[simp] theorem isInt44 : isIntT X 44 = false := by kernel_rfl
@[simp] theorem isArr44 : isArrT X 44 = false := by kernel_rfl
@[simp] theorem isU844 : isU8 X 44 = false := by kernel_rfl
@[simp] theorem zok44 : zeroOk X 44 = true := by kernel_rfl
@[simp] theorem zero44 : zeroAV X 44 = .nilfn := by kernel_rfl
@[simp] theorem size45 : sizeT X 45 = 1 := by kernel_rfl
@[simp] theorem bytes45 : bytesT X 45 = 8 := by kernel_rfl
@[simp] theorem okT45 : okT X 45 = true := by kernel_rfl
@[simp] theorem isAgg45 : isAggT X 45 = false := by kernel_rfl
@[simp] theorem isInt45 : isIntT X 45 = false := by kernel_rfl
@[simp] theorem isArr45 : isArrT X 45 = false := by kernel_rfl
@[simp] theorem isU845 : isU8 X 45 = false := by kernel_rfl
@[simp] theorem zok45 : zeroOk X 45 = true := by kernel_rfl
@[simp] theorem zero45 : zeroAV X 45 = .nilfn := by kernel_rfl
@[simp] theorem size46 : sizeT X 46 = 1 := by kernel_rfl
@[simp] theorem bytes46 : bytesT X 46 = 0 := by kernel_rfl
@[simp] theorem okT46 : okT X 46 = true := by kernel_rfl
@[simp] theorem isAgg46 : isAggT X 46 = false := by kernel_rfl
@[simp] theorem isInt46 : isIntT X 46 = false := by kernel_rfl
@[simp] theorem isArr46 : isArrT X 46 = false := by kernel_rfl
@[simp] theorem isU846 : isU8 X 46 = false := by kernel_rfl
@[simp] theorem zok46 : zeroOk X 46 = true := by kernel_rfl
@[simp] theorem size48 : sizeT X 48 = 1 := by kernel_rfl
@[simp] theorem bytes48 : bytesT X 48 = 0 := by kernel_rfl
@[simp] theorem okT48 : okT X 48 = true := by kernel_rfl
@[simp] theorem isAgg48 : isAggT X 48 = false := by kernel_rfl
@[simp] theorem isInt48 : isIntT X 48 = false := by kernel_rfl
@[simp] theorem isArr48 : isArrT X 48 = false := by kernel_rfl
@[simp] theorem isU848 : isU8 X 48 = false := by kernel_rfl
@[simp] theorem zok48 : zeroOk X 48 = true := by kernel_rfl
@[simp] theorem size54 : sizeT X 54 = 1 := by kernel_rfl
@[simp] theorem bytes54 : bytesT X 54 = 0 := by kernel_rfl
@[simp] theorem okT54 : okT X 54 = true := by kernel_rfl
@[simp] theorem isAgg54 : isAggT X 54 = false := by kernel_rfl
@[simp] theorem isInt54 : isIntT X 54 = false := by kernel_rfl
@[simp] theorem isArr54 : isArrT X 54 = false := by kernel_rfl
@[simp] theorem isU854 : isU8 X 54 = false := by kernel_rfl
@[simp] theorem zok54 : zeroOk X 54 = true := by kernel_rfl
@[simp] theorem size57 : sizeT X 57 = 1 := by kernel_rfl
@[simp] theorem bytes57 : bytesT X 57 = 0 := by kernel_rfl
@[simp] theorem okT57 : okT X 57 = true := by kernel_rfl
@[simp] theorem isAgg57 : isAggT X 57 = false := by kernel_rfl
@[simp] theorem isInt57 : isIntT X 57 = false := by kernel_rfl
@[simp] theorem isArr57 : isArrT X 57 = false := by kernel_rfl
@[simp] theorem isU857 : isU8 X 57 = false := by kernel_rfl
@[simp] theorem zok57 : zeroOk X 57 = true := by kernel_rfl
@[simp] theorem size60 : sizeT X 60 = 1 := by kernel_rfl
@[simp] theorem bytes60 : bytesT X 60 = 0 := by kernel_rfl
@[simp] theorem okT60 : okT X 60 = true := by kernel_rfl
@[simp] theorem isAgg60 : isAggT X 60 = false := by kernel_rfl
@[simp] theorem isInt60 : isIntT X 60 = false := by kernel_rfl
@[simp] theorem isArr60 : isArrT X 60 = false := by kernel_rfl
@[simp] theorem isU860 : isU8 X 60 = false := by kernel_rfl
@[simp] theorem zok60 : zeroOk X 60 = true := by kernel_rfl
@[simp] theorem size70 : sizeT X 70 = 1 := by kernel_rfl
@[simp] theorem bytes70 : bytesT X 70 = 0 := by kernel_rfl
@[simp] theorem okT70 : okT X 70 = true := by kernel_rfl
@[simp] theorem isAgg70 : isAggT X 70 = false := by kernel_rfl
@[simp] theorem isInt70 : isIntT X 70 = false := by kernel_rfl
@[simp] theorem isArr70 : isArrT X 70 = false := by kernel_rfl
@[simp] theorem isU870 : isU8 X 70 = false := by kernel_rfl
@[simp] theorem zok70 : zeroOk X 70 = true := by kernel_rfl
@[simp] theorem und72 : und X 72 = .array 256 9 := by kernel_rfl
@[simp] theorem size72 : sizeT X 72 = 256 := by kernel_rfl
@[simp] theorem bytes72 : bytesT X 72 = 4096 := by kernel_rfl
@[simp] theorem okT72 : okT X 72 = true := by kernel_rfl
@[simp] theorem isAgg72 : isAggT X 72 = true := by kernel_rfl
@[simp] theorem isInt72 : isIntT X 72 = false := by kernel_rfl
@[simp] theorem isArr72 : isArrT X 72 = true := by kernel_rfl
@[simp] theorem isU872 : isU8 X 72 = false := by kernel_rfl
@[simp] theorem zok72 : zeroOk X 72 = true := by kernel_rfl
@[simp] theorem zero72 : zeroAV X 72 = .agg (.pc [.str [], .str [], .str [], .str [], .str [], .str [], .str [], .str [], .str [], .str [], .str [], .str [], .str [], .str [], .str [], .str [], .str [], .str [], .str [], .str [], .str [], .str [], .str [], .str [], .str [], .str [], .str [], .str [], .str [], .str [], .str [], .str [], .str [], .str [], .str [], .str [], .str [], .str [], .str [], .str [], .str [], .str [], .str [], .str [], .str [], .str [], .str [], .str [], .str [], .str [], .str [], .str [], .str [], .str [], .str [], .str [], .str [], .str [], .str [], .str [], .str [], .str [], .str [], .str [], .str [], .str [], .str [], .str [], .str [], .str [], .str [], .str [], .str [], .str [], .str [], .str [], .str [], .str [], .str [], .str [], .str [], .str [], .str [], .str [], .str [], .str [], .str [], .str [], .str [], .str [], .str [], .str [], .str [], .str [], .str [], .str [], .str [], .str [], .str [], .str [], .str [], .str [], .str [], .str [], .str [], .str [], .str [], .str [], .str [], .str [], .str [], .str [], .str [], .str [], .str [], .str [], .str [], .str [], .str [], .str [], .str [], .str [], .str [], .str [], .str [], .str [], .str [], .str [], .str [], .str [], .str [], .str [], .str [], .str [], .str [], .str [], .str [], .str [], .str [], .str [], .str [], .str [], .str [], .str [], .str [], .str [], .str [], .str [], .str [], .str [], .str [], .str [], .str [], .str [], .str [], .str [], .str [], .str [], .str [], .str [], .str [], .str [], .str [], .str [], .str [], .str [], .str [], .str [], .str [], .str [], .str [], .str [], .str [], .str [], .str [], .str [], .str [], .str [], .str [], .str [], .str [], .str [], .str [], .str [], .str [], .str [], .str [], .str [], .str [], .str [], .str [], .str [], .str [], .str [], .str [], .str [], .str [], .str [], .str [], .str [], .str [], .str [], .str [], .str [], .str [], .str [], .str [], .str [], .str [], .str [], .str [], .str [], .str [], .str [], .str [], .str [], .str [], .str [], .str [], .str [], .str [], .str [], .str [], .str [], .str [], .str [], .str [], .str [], .str [], .str [], .str [], .str [], .str [], .str [], .str [], .str [], .str [], .str [], .str [], .str [], .str [], .str [], .str [], .str [], .str [], .str [], .str [], .str [], .str [], .str [], .str [], .str [], .str [], .str [], .str [], .str []]) := by kernel_rfl
@[simp] theorem und74 : und X 74 = .slice 3 := by kernel_rfl
@[simp] theorem size74 : sizeT X 74 = 1 := by kernel_rfl
@[simp] theorem bytes74 : bytesT X 74 = 24 := by kernel_rfl
@[simp] theorem okT74 : okT X 74 = true := by kernel_rfl
@[simp] theorem isAgg74 : isAggT X 74 = false := by kernel_rfl
@[simp] theorem isInt74 : isIntT X 74 = false := by kernel_rfl
@[simp] theorem isArr74 : isArrT X 74 = false := by kernel_rfl
@[simp] theorem isU874 : isU8 X 74 = false := by kernel_rfl
@[simp] theorem zok74 : zeroOk X 74 = true := by kernel_rfl
@[simp] theorem zero74 : zeroAV X 74 = .ro 0 .pn 0 := by kernel_rfl
@[simp] theorem size75 : sizeT X 75 = 1 := by kernel_rfl
@[simp] theorem bytes75 : bytesT X 75 = 8 := by kernel_rfl
@[simp] theorem okT75 : okT X 75 = true := by kernel_rfl
@[simp] theorem isAgg75 : isAggT X 75 = false := by kernel_rfl
@[simp] theorem isInt75 : isIntT X 75 = false := by kernel_rfl
@[simp] theorem isArr75 : isArrT X 75 = false := by kernel_rfl
@[simp] theorem isU875 : isU8 X 75 = false := by kernel_rfl
@[simp] theorem zok75 : zeroOk X 75 = true := by kernel_rfl
@[simp] theorem zero75 : zeroAV X 75 = .nilfn := by kernel_rfl
@[simp] theorem und81 : und X 81 = .array 24 5 := by kernel_rfl
@[simp] theorem size81 : sizeT X 81 = 24 := by kernel_rfl
@[simp] theorem bytes81 : bytesT X 81 = 24 := by kernel_rfl
@[simp] theorem okT81 : okT X 81 = true := by kernel_rfl
@[simp] theorem isAgg81 : isAggT X 81 = true := by kernel_rfl
@[simp] theorem isInt81 : isIntT X 81 = false := by kernel_rfl
@[simp] theorem isArr81 : isArrT X 81 = true := by kernel_rfl
@[simp] theorem isU881 : isU8 X 81 = false := by kernel_rfl
@[simp] theorem zok81 : zeroOk X 81 = true := by kernel_rfl
@[simp] theorem zero81 : zeroAV X 81 = .agg (.pb [0, 0, 0, 0, 0, 0, 0, 0, 0, 0, 0, 0, 0, 0, 0, 0, 0, 0, 0, 0, 0, 0, 0, 0]) := by kernel_rfl
@[simp] theorem size84 : sizeT X 84 = 1 := by kernel_rfl
@[simp] theorem bytes84 : bytesT X 84 = 0 := by kernel_rfl
@[simp] theorem okT84 : okT X 84 = true := by kernel_rfl
@[simp] theorem isAgg84 : isAggT X 84 = false := by kernel_rfl
@[simp] theorem isInt84 : isIntT X 84 = false := by kernel_rfl
@[simp] theorem isArr84 : isArrT X 84 = false := by kernel_rfl
@[simp] theorem isU884 : isU8 X 84 = false := by kernel_rfl
@[simp] theorem zok84 : zeroOk X 84 = true := by kernel_rfl
@[simp] theorem size87 : sizeT X 87 = 1 := by kernel_rfl
@[simp] theorem bytes87 : bytesT X 87 = 0 := by kernel_rfl
@[simp] theorem okT87 : okT X 87 = true := by kernel_rfl
@[simp] theorem isAgg87 : isAggT X 87 = false := by kernel_rfl
@[simp] theorem isInt87 : isIntT X 87 = false := by kernel_rfl
@[simp] theorem isArr87 : isArrT X 87 = false := by kernel_rfl
@[simp] theorem isU887 : isU8 X 87 = false := by kernel_rfl
@[simp] theorem zok87 : zeroOk X 87 = true := by kernel_rfl
@[simp] theorem und92 : und X 92 = .array 20 34 := by kernel_rfl
@[simp] theorem size92 : sizeT X 92 = 20 := by kernel_rfl
@[simp] theorem bytes92 : bytesT X 92 = 160 := by kernel_rfl
@[simp] theorem okT92 : okT X 92 = true := by kernel_rfl
@[simp] theorem isAgg92 : isAggT X 92 = true := by kernel_rfl
@[simp] theorem isInt92 : isIntT X 92 = false := by kernel_rfl
@[simp] theorem isArr92 : isArrT X 92 = true := by kernel_rfl
@[simp] theorem isU892 : isU8 X 92 = false := by kernel_rfl
@[simp] theorem zok92 : zeroOk X 92 = true := by kernel_rfl
@[simp] theorem zero92 : zeroAV X 92 = .agg (.pi .u64 [0, 0, 0, 0, 0, 0, 0, 0, 0, 0, 0, 0, 0, 0, 0, 0, 0, 0, 0, 0]) := by kernel_rfl
@[simp] theorem und93 : und X 93 = .int .u32 := by kernel_rfl
@[simp] theorem size93 : sizeT X 93 = 1 := by kernel_rfl
@[simp] theorem bytes93 : bytesT X 93 = 4 := by kernel_rfl
@[simp] theorem okT93 : okT X 93 = true := by kernel_rfl
@[simp] theorem isAgg93 : isAggT X 93 = false := by kernel_rfl
@[simp] theorem isInt93 : isIntT X 93 = true := by kernel_rfl
@[simp] theorem isArr93 : isArrT X 93 = false := by kernel_rfl
@[simp] theorem isU893 : isU8 X 93 = false := by kernel_rfl
@[simp] theorem zok93 : zeroOk X 93 = true := by kernel_rfl
@[simp] theorem zero93 : zeroAV X 93 = .int .u32 0 := by kernel_rfl
@[simp] theorem und95 : und X 95 = .int .u64 := by kernel_rfl
@[simp] theorem size95 : sizeT X 95 = 1 := by kernel_rfl
@[simp] theorem bytes95 : bytesT X 95 = 8 := by kernel_rfl
@[simp] theorem okT95 : okT X 95 = true := by kernel_rfl
@[simp] theorem isAgg95 : isAggT X 95 = false := by kernel_rfl
@[simp] theorem isInt95 : isIntT X 95 = true := by kernel_rfl
@[simp] theorem isArr95 : isArrT X 95 = false := by kernel_rfl
@[simp] theorem isU895 : isU8 X 95 = false := by kernel_rfl
@[simp] theorem zok95 : zeroOk X 95 = true := by kernel_rfl
@[simp] theorem zero95 : zeroAV X 95 = .int .u64 0 := by kernel_rfl
@[simp] theorem size97 : sizeT X 97 = 1 := by kernel_rfl
@[simp] theorem bytes97 : bytesT X 97 = 0 := by kernel_rfl
@[simp] theorem okT97 : okT X 97 = true := by kernel_rfl
@[simp] theorem isAgg97 : isAggT X 97 = false := by kernel_rfl
@[simp] theorem isInt97 : isIntT X 97 = false := by kernel_rfl
@[simp] theorem isArr97 : isArrT X 97 = false := by kernel_rfl
@[simp] theorem isU897 : isU8 X 97 = false := by kernel_rfl
@[simp] theorem zok97 : zeroOk X 97 = true := by kernel_rfl
@[simp] theorem und100 : und X 100 = .pointer 102 := by kernel_rfl
@[simp] theorem size100 : sizeT X 100 = 1 := by kernel_rfl
@[simp] theorem bytes100 : bytesT X 100 = 8 := by kernel_rfl
@[simp] theorem okT100 : okT X 100 = true := by kernel_rfl
@[simp] theorem isAgg100 : isAggT X 100 = false := by kernel_rfl
@[simp] theorem isInt100 : isIntT X 100 = false := by kernel_rfl
@[simp] theorem isArr100 : isArrT X 100 = false := by kernel_rfl
@[simp] theorem isU8100 : isU8 X 100 = false := by kernel_rfl
@[simp] theorem zok100 : zeroOk X 100 = true := by kernel_rfl
@[simp] theorem zero100 : zeroAV X 100 = .nilptr := by kernel_rfl
@[simp] theorem size102 : sizeT X 102 = 2 := by kernel_rfl
@[simp] theorem bytes102 : bytesT X 102 = 32 := by kernel_rfl
@[simp] theorem okT102 : okT X 102 = true := by kernel_rfl
@[simp] theorem isAgg102 : isAggT X 102 = true := by kernel_rfl
@[simp] theorem isInt102 : isIntT X 102 = false := by kernel_rfl
@[simp] theorem isArr102 : isArrT X 102 = false := by kernel_rfl
@[simp] theorem isU8102 : isU8 X 102 = false := by kernel_rfl
@[simp] theorem zok102 : zeroOk X 102 = true := by kernel_rfl
@[simp] theorem zero102 : zeroAV X 102 = .agg (.pc [.nilptr, .ro 0 .pn 0]) := by kernel_rfl
@[simp] theorem size105 : sizeT X 105 = 1 := by kernel_rfl
@[simp] theorem bytes105 : bytesT X 105 = 16 := by kernel_rfl
@[simp] theorem okT105 : okT X 105 = true := by kernel_rfl
@[simp] theorem isAgg105 : isAggT X 105 = false := by kernel_rfl
@[simp] theorem isInt105 : isIntT X 105 = false := by kernel_rfl
@[simp] theorem isArr105 : isArrT X 105 = false := by kernel_rfl
@[simp] theorem isU8105 : isU8 X 105 = false := by kernel_rfl
@[simp] theorem zok105 : zeroOk X 105 = true := by kernel_rfl
@[simp] theorem size106 : sizeT X 106 = 1 := by kernel_rfl
@[simp] theorem bytes106 : bytesT X 106 = 0 := by kernel_rfl
@[simp] theorem okT106 : okT X 106 = true := by kernel_rfl
@[simp] theorem isAgg106 : isAggT X 106 = false := by kernel_rfl
@[simp] theorem isInt106 : isIntT X 106 = false := by kernel_rfl
@[simp] theorem isArr106 : isArrT X 106 = false := by kernel_rfl
@[simp] theorem isU8106 : isU8 X 106 = false := by kernel_rfl
@[simp] theorem zok106 : zeroOk X 106 = true := by kernel_rfl
@[simp] theorem und115 : und X 115 = .pointer 5 := by kernel_rfl
@[simp] theorem size115 : sizeT X 115 = 1 := by kernel_rfl
@[simp] theorem bytes115 : bytesT X 115 = 8 := by kernel_rfl
@[simp] theorem okT115 : okT X 115 = true := by kernel_rfl
@[simp] theorem isAgg115 : isAggT X 115 = false := by kernel_rfl
@[simp] theorem isInt115 : isIntT X 115 = false := by kernel_rfl
@[simp] theorem isArr115 : isArrT X 115 = false := by kernel_rfl
@[simp] theorem isU8115 : isU8 X 115 = false := by kernel_rfl
@[simp] theorem zok115 : zeroOk X 115 = true := by kernel_rfl
@[simp] theorem zero115 : zeroAV X 115 = .nilptr := by kernel_rfl
@[simp] theorem size118 : sizeT X 118 = 1 := by kernel_rfl
@[simp] theorem bytes118 : bytesT X 118 = 8 := by kernel_rfl
@[simp] theorem okT118 : okT X 118 = true := by kernel_rfl
@[simp] theorem isAgg118 : isAggT X 118 = false := by kernel_rfl
@[simp] theorem isInt118 : isIntT X 118 = false := by kernel_rfl
@[simp] theorem isArr118 : isArrT X 118 = false := by kernel_rfl
@[simp] theorem isU8118 : isU8 X 118 = false := by kernel_rfl
@[simp] theorem zok118 : zeroOk X 118 = true := by kernel_rfl
@[simp] theorem zero118 : zeroAV X 118 = .nilptr := by kernel_rfl
@[simp] theorem fa23_0 (H : AM.Heap) (x : AV) : fieldAddrV X H 23 x 0 = faV H x 0 := fieldAddr_of (ty := 5) (by kernel_rfl) (by kernel_rfl) H x
@[simp] theorem fv23_0 (x : AV) : fieldV X 23 x 0 = fvV X x 0 5 := field_of (by kernel_rfl) x
@[simp] theorem fa23_1 (H : AM.Heap) (x : AV) : fieldAddrV X H 23 x 1 = faV H x 1 := fieldAddr_of (ty := 4) (by kernel_rfl) (by kernel_rfl) H x
@[simp] theorem fv23_1 (x : AV) : fieldV X 23 x 1 = fvV X x 1 4 := field_of (by kernel_rfl) x
@[simp] theorem fa36_0 (H : AM.Heap) (x : AV) : fieldAddrV X H 36 x 0 = faV H x 0 := fieldAddr_of (ty := 4) (by kernel_rfl) (by kernel_rfl) H x
@[simp] theorem fv36_0 (x : AV) : fieldV X 36 x 0 = fvV X x 0 4 := field_of (by kernel_rfl) x
@[simp] theorem fa36_1 (H : AM.Heap) (x : AV) : fieldAddrV X H 36 x 1 = faV H x 1 := fieldAddr_of (ty := 3) (by kernel_rfl) (by kernel_rfl) H x
@[simp] theorem fv36_1 (x : AV) : fieldV X 36 x 1 = fvV X x 1 3 := field_of (by kernel_rfl) x
@[simp] theorem fa36_2 (H : AM.Heap) (x : AV) : fieldAddrV X H 36 x 2 = faV H x 2 := fieldAddr_of (ty := 3) (by kernel_rfl) (by kernel_rfl) H x
@[simp] theorem fv36_2 (x : AV) : fieldV X 36 x 2 = fvV X x 2 3 := field_of (by kernel_rfl) x
@[simp] theorem fa36_3 (H : AM.Heap) (x : AV) : fieldAddrV X H 36 x 3 = faV H x 3 := fieldAddr_of (ty := 3) (by kernel_rfl) (by kernel_rfl) H x
@[simp] theorem fv36_3 (x : AV) : fieldV X 36 x 3 = fvV X x 3 3 := field_of (by kernel_rfl) x
@[simp] theorem fa36_4 (H : AM.Heap) (x : AV) : fieldAddrV X H 36 x 4 = faV H x 4 := fieldAddr_of (ty := 3) (by kernel_rfl) (by kernel_rfl) H x
@[simp] theorem fv36_4 (x : AV) : fieldV X 36 x 4 = fvV X x 4 3 := field_of (by kernel_rfl) x
@[simp] theorem fa36_5 (H : AM.Heap) (x : AV) : fieldAddrV X H 36 x 5 = faV H x 5 := fieldAddr_of (ty := 3) (by kernel_rfl) (by kernel_rfl) H x
@[simp] theorem fv36_5 (x : AV) : fieldV X 36 x 5 = fvV X x 5 3 := field_of (by kernel_rfl) x
@[simp] theorem fa36_6 (H : AM.Heap) (x : AV) : fieldAddrV X H 36 x 6 = faV H x 6 := fieldAddr_of (ty := 3) (by kernel_rfl) (by kernel_rfl) H x
@[simp] theorem fv36_6 (x : AV) : fieldV X 36 x 6 = fvV X x 6 3 := field_of (by kernel_rfl) x
@[simp] theorem fa36_7 (H : AM.Heap) (x : AV) : fieldAddrV X H 36 x 7 = faV H x 7 := fieldAddr_of (ty := 3) (by kernel_rfl) (by kernel_rfl) H x
@[simp] theorem fv36_7 (x : AV) : fieldV X 36 x 7 = fvV X x 7 3 := field_of (by kernel_rfl) x
@[simp] theorem fa38_0 (H : AM.Heap) (x : AV) : fieldAddrV X H 38 x 0 = faV H x 0 := fieldAddr_of (ty := 3) (by kernel_rfl) (by kernel_rfl) H x
@[simp] theorem fv38_0 (x : AV) : fieldV X 38 x 0 = fvV X x 0 3 := field_of (by kernel_rfl) x
@[simp] theorem fa38_1 (H : AM.Heap) (x : AV) : fieldAddrV X H 38 x 1 = faV H x 1 := fieldAddr_of (ty := 2) (by kernel_rfl) (by kernel_rfl) H x
@[simp] theorem fv38_1 (x : AV) : fieldV X 38 x 1 = fvV X x 1 2 := field_of (by kernel_rfl) x
@[simp] theorem fa38_2 (H : AM.Heap) (x : AV) : fieldAddrV X H 38 x 2 = faV H x 2 := fieldAddr_of (ty := 34) (by kernel_rfl) (by kernel_rfl) H x
@[simp] theorem fv38_2 (x : AV) : fieldV X 38 x 2 = fvV X x 2 34 := field_of (by kernel_rfl) x
@[simp] theorem fa38_3 (H : AM.Heap) (x : AV) : fieldAddrV X H 38 x 3 = faV H x 3 := fieldAddr_of (ty := 9) (by kernel_rfl) (by kernel_rfl) H x
@[simp] theorem fv38_3 (x : AV) : fieldV X 38 x 3 = fvV X x 3 9 := field_of (by kernel_rfl) x
@[simp] theorem fa38_4 (H : AM.Heap) (x : AV) : fieldAddrV X H 38 x 4 = faV H x 4 := fieldAddr_of (ty := 36) (by kernel_rfl) (by kernel_rfl) H x
@[simp] theorem fv38_4 (x : AV) : fieldV X 38 x 4 = fvV X x 4 36 := field_of (by kernel_rfl) x
@[simp] theorem fa102_0 (H : AM.Heap) (x : AV) : fieldAddrV X H 102 x 0 = faV H x 0 := fieldAddr_of (ty := 100) (by kernel_rfl) (by kernel_rfl) H x
@[simp] theorem fv102_0 (x : AV) : fieldV X 102 x 0 = fvV X x 0 100 := field_of (by kernel_rfl) x
@[simp] theorem fa102_1 (H : AM.Heap) (x : AV) : fieldAddrV X H 102 x 1 = faV H x 1 := fieldAddr_of (ty := 29) (by kernel_rfl) (by kernel_rfl) H x
@[simp] theorem fv102_1 (x : AV) : fieldV X 102 x 1 = fvV X x 1 29 := field_of (by kernel_rfl) x

end Go.Proofs.YtafdnpcamepbmaaDoor
