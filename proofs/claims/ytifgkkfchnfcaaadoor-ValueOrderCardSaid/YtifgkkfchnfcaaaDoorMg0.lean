/- X to X: texts of this claim, one behind the other; what each shows stands at its head. -/
import Derived.Test.YtifgkkfchnfcaaaDoorRows
import Derived.Test.YtifgkkfchnfcaaaDoorAm3
/- The seat's tables for the abstract machine, and what walks ask of the program. No conditions. -/
namespace Go.Proofs.YtifgkkfchnfcaaaDoor
open Go.AM

def keepT : List (List (List Nat)) := [[], [], [[]], [[0, 4, 5], [0, 4, 5, 16], [6], [0, 4, 5, 25], [6], [0, 4, 5, 7, 8], [4, 5, 7, 8, 9, 10], [4, 5, 7, 8, 9, 10, 11, 12], [4, 5, 7, 8, 9, 10, 11, 12, 13, 14], [6]], [[2, 3], [2, 3, 14], [4], [2, 3, 5], [2, 3, 5], [2, 3, 5, 6, 7], [2, 3, 6, 7, 8, 9], [2, 3, 6, 8, 37], [4], [3, 6, 8, 10], [6, 8, 10, 11], [6, 8, 10, 11, 12], [6, 8, 10, 11, 12, 65], [6, 8, 10, 11, 12], [6, 8, 10, 11, 12, 76], [4], [4]], [[0, 3], [0, 3, 14], [4], [0, 3, 17], [4], [0, 3, 5, 6, 7], [0, 3, 5, 6, 26], [4], [0, 3, 5, 6, 8, 9], [0, 3, 5, 6, 8, 9, 10, 11, 12], [4]], [[], [1, 2], [1, 2, 3, 4], [0]], [[0, 4, 5], [0, 4, 5, 8], [0, 4, 5, 24], [6, 7], [4, 5, 9], [4, 5, 9, 28], [4, 5, 9, 28, 29], [6, 7], [4, 5, 9, 28, 39], [4, 5, 9, 28, 39], [4, 5, 9, 28, 39], [6, 7], [4, 5, 9, 28, 50], [4, 5, 9, 28, 50], [6, 7], [4, 9, 59], [6, 7], [6, 7]], [[0], [2]], [[0, 4, 5], [0, 4, 5, 8], [0, 4, 5, 25], [6, 7], [0, 4, 5, 9], [0, 4, 5, 9, 30], [0, 4, 5, 9, 30, 31], [0, 9, 10], [0, 9, 10, 37], [0, 9, 10], [6, 7], [0, 4, 5, 9, 30, 49], [0, 4, 5, 9, 30, 49], [0, 4, 5, 9, 30, 49], [6, 7], [0, 4, 5, 30, 58], [0, 4, 5, 30, 58], [6, 7], [0, 4, 67], [6, 7], [6, 7]], [[2, 3], [2, 3, 6], [2, 3, 6, 11], [4, 5], [2, 3, 14], [2, 3, 14, 15], [4, 5], [2, 3, 14, 20], [4, 5], [2, 3, 14, 25], [2, 3, 14, 25], [4, 5], [2, 33], [4, 5], [4, 5]], [[2, 3], [2, 3, 11], [4, 5], [2, 3, 13], [2, 3, 13, 14], [2, 18], [4, 5], [4, 5], [2, 3, 13, 31], [4, 5], [2, 3, 13, 36], [2, 3, 6], [2, 6, 59], [6], [4, 5], [2, 13, 73], [2, 7], [7, 91], [7], [4, 5], [2, 95], [4, 5], [4, 5]], [[0, 1], [4]], [[1], [1, 4], [1, 4, 5], [1, 4, 5], [1, 4, 5], [1, 4, 5], [1, 4, 5], [1, 4, 5], [13], [2], [2], [1, 4, 14], [2], [1, 4, 16], [2], [1, 4, 18], [1, 4, 18], [1, 4, 18], [2], [1, 4, 22], [2], [1, 24], [2], [28], [2], [2]], [[1], [1, 6], [2], [1, 8], [1, 8, 9], [1, 8, 9], [1, 8, 9], [1, 8, 9], [1, 8, 9], [1, 8, 9], [17], [2], [2], [8, 18], [2], [8, 20], [2], [8, 22], [8, 22], [8, 22], [2], [8, 26], [2], [28], [2], [2]], [[2, 3], [2, 3, 5], [2, 3, 5, 11], [4], [2, 3, 5, 14], [4], [2, 3, 5, 6], [2, 3, 5, 6, 7], [2, 3, 5, 6, 7, 24], [2, 3, 5, 6, 7, 24, 25], [6], [2, 3, 5, 6, 7, 24, 27], [6], [2, 3, 5, 6, 7, 24, 60], [2, 3, 5, 6, 7, 24, 60], [2, 3, 5, 6, 7, 24, 60], [6], [2, 3, 5, 6, 24, 84], [2, 3, 5, 6, 24, 84], [6], [2, 5, 6, 103], [6], [121], [4], [4]], [[2, 3], [2, 3, 5], [2, 3, 6], [2, 3, 6, 7], [2, 3, 6, 7, 81], [2, 3, 6, 7], [2, 3, 6, 7, 82], [4], [2, 3, 6, 7, 84], [2, 3, 6, 7, 84, 85], [6], [2, 3, 6, 7, 84, 105], [2, 3, 6, 7, 84, 105], [2, 3, 6, 7, 84, 105], [6], [2, 3, 6, 84, 118], [2, 3, 6, 84, 118], [6], [2, 6, 127], [6], [133], [4], [4]], [[0, 3, 4], [0, 3, 4, 7], [0, 3, 4, 7, 19], [0, 3, 4, 7, 19, 20], [4, 5, 6], [0, 3, 4, 7, 19, 23], [4, 5, 6], [0, 3, 4, 7, 19, 26], [0, 3, 4, 7, 19, 26], [4, 7, 8, 9, 10], [4, 7, 8, 9, 10, 38], [4, 5, 6], [4, 5, 6], [0, 3, 4, 7, 45], [4, 7, 11, 12, 13], [4, 7, 11, 12, 13, 53], [4, 5, 6], [4, 7, 11, 12, 58], [4, 5, 6], [4, 5, 6], [0, 4, 7, 14], [4, 6, 7, 14, 15], [4, 6, 7, 14, 15, 77], [4, 5, 6], [4, 7, 14, 15, 81], [4, 7, 14, 15, 16], [4, 5, 6], [4, 5, 6]], [[0], [0, 4], [2], [2]], [[0, 1, 2], [0, 1, 8, 9], [0, 1, 8, 9, 10], [0, 1, 7, 8, 9], [0, 1, 8, 9], [0, 1, 8, 9], [6]], [[0], [3], [3, 4], [2], [3, 6], [3, 6], [2], [3, 9], [3, 9], [3, 9], [2], [3, 13], [13], [2], [2]], [[0, 2, 4], [0, 4, 10], [0, 4], [0, 4, 14], [6], [0, 4, 21], [0, 4], [0, 4, 7], [0, 4, 7, 29], [0, 4, 7], [0, 4], [0, 4], [0, 4, 8], [0, 4, 8, 50], [6], [0, 4, 8, 57], [0, 4, 8], [0, 4, 8, 67], [0, 4, 8], [0, 4, 8], [0, 4, 88], [0, 4], [0, 4, 103], [0], [6]], [[0, 1], [4]], [[0], [3], [3, 4], [2], [3, 6], [3, 6], [2], [3, 9], [3, 9], [9], [2], [2]], [[0, 1, 2], [7], [6]], [[0, 2, 4], [0, 2, 4], [0, 4, 10], [0, 4, 8], [0, 4, 8, 12], [0, 4, 8], [0, 4, 7], [0, 4, 7, 36], [0, 4, 7], [0, 4, 7], [0, 4, 7, 51], [0, 4, 7], [0, 4, 7, 66], [0, 4, 7], [0, 4, 7, 69], [0, 7], [6]], [[0, 1], [4]], [[0, 1], [4]], [[0, 1], [4]], [[1, 2], [1, 2, 5], [1, 2, 5, 22], [2, 5, 6], [2, 5, 6, 24], [2, 5, 6], [4], [1, 2, 5, 7], [2, 5, 7, 50], [4], [4]], [[0, 1], [0, 1, 5], [0, 1, 5, 13], [0, 1, 5], [0, 1, 5], [4]], [[1], [1, 3], [1, 3, 17], [3], [2]], [[0], [2]], [[0], [2]], [[1, 2], [1, 2, 7], [4], [1, 2, 9], [4], [1, 2, 52], [4], [4]], [[1, 2], [1, 2, 7], [4], [1, 2, 9], [4], [4]], [[0, 1, 4], [0, 1, 4, 7], [0, 1, 4, 7, 17], [4, 5, 6], [0, 1, 4, 7, 8], [0, 1, 4, 7, 8, 9], [0, 1, 4, 7, 8, 9, 25], [0, 1, 4, 7, 8, 9], [0, 1, 4, 7, 8, 9, 10], [0, 1, 4, 7, 8, 10, 27, 28, 29], [0, 1, 4, 7, 8, 10, 27, 28, 29, 30], [0, 1, 4, 7, 8, 10, 12, 27, 28, 29], [0, 1, 4, 7, 8, 10, 27, 28, 29], [0, 1, 4, 7, 8, 10, 27, 28, 29], [0, 1, 4, 7, 8, 41], [4, 5, 6], [0, 1, 4, 7, 8, 47], [4, 5, 6], [0, 1, 4, 7, 8, 13], [1, 4, 7, 8, 13], [1, 4, 7, 8, 13, 14], [1, 4, 7, 8, 13, 14, 58], [1, 4, 7, 8, 13, 14, 62], [4, 5, 6], [1, 4, 7, 8], [1, 4, 7, 8], [4, 7, 8, 97], [4, 5, 6], [4, 5, 6]], [[0], [0, 3, 4, 5], [0, 3, 4, 5, 13], [2, 3, 4], [0, 3, 5, 21], [2, 3, 4], [2, 3, 4]], [[0, 1], [0, 1, 13], [4, 5], [0, 1, 17], [4, 5], [0, 1, 6], [0, 6, 18, 19], [0, 6, 18, 19, 20], [0, 6, 7, 18, 19], [0, 6, 18, 19], [0, 6, 18, 19], [4, 5]], [[0, 1], [0, 1, 5, 6], [1, 5, 6, 7], [1, 5, 6, 7, 16], [1, 6, 7], [7], [4]], [[0, 1, 2], [0, 1, 2, 27], [6, 7], [1, 2, 8], [1, 2, 8, 9], [1, 2, 8, 9, 33], [1, 2, 8, 9], [1, 2, 8, 9], [6, 7]], [[1], [2]], [[0, 1], [0, 1, 5], [1, 5, 6], [1, 5, 6, 14], [4], [1, 5, 6, 7], [1, 5, 6, 7, 21], [1, 5, 6, 7], [6], [4]], [[0, 1], [0, 1, 11], [0, 17], [4], [0, 5], [0, 5, 6], [0, 5, 6, 23], [0, 5, 6], [0, 5, 6, 7], [0, 5, 7], [5, 7, 34], [5, 7], [4], [4], [9], [4]], [[0, 1], [0, 1, 10], [0, 12], [4], [0, 5], [0, 5, 6], [5, 6], [4], [8], [4]], [[0, 1], [1, 5], [4]], [[0], [0, 4], [2], [2]], [[0], [0]], [[0], [0, 3], [0, 3, 9], [2], [0, 14], [0, 14, 15], [2], [0, 17], [2], [0, 3], [0, 3, 21], [2], [2]], [[1], [2]], [[0, 1, 2], [6]], [[1], [2]], [[0, 1, 2], [6], [5]], [[0], [0, 8], [2, 3, 4], [0], [0, 11], [2, 3, 4], [0, 11, 16], [0, 5], [0, 11, 18], [0, 5], [0, 11, 20], [0, 5], [0, 11, 22], [0, 22], [2, 3, 4], [2, 4, 5], [2, 4, 5, 33], [2, 3, 4], [2, 3, 4]], [[0], [0, 4], [2, 3], [0, 7], [2, 3], [10], [2, 3], [2, 3]], [[0, 1, 2], [0, 1, 2, 26], [6, 7], [1, 2, 8], [1, 8, 29, 30], [1, 8, 29, 30, 31], [1, 8, 9, 29, 30], [1, 8, 29, 30], [1, 8, 29, 30], [6, 7]], [[0], [0, 4], [2], [0, 6], [2], [8], [2], [2]], [[0], [0, 4], [2], [2]], [[0], [0, 3], [2]], [[0, 1, 4], [0, 1, 4, 20], [0, 1, 4, 5], [0, 1, 4, 5], [0, 1, 4, 6, 7], [0, 1, 4, 6, 8, 9], [0, 1, 4, 8, 9, 10, 11], [0, 1, 4, 8, 10, 11], [0, 1, 4, 10, 11], [0, 1, 4, 10], [0, 1, 4], [0, 1, 4], [0, 4, 12], [0, 4, 12, 99], [0, 4, 12, 13], [0, 4, 12, 13], [0, 4, 12, 14, 15], [0, 4, 12, 14], [0, 4, 12], [0, 4, 12], [0, 4, 12, 139], [0, 4, 12, 16], [0, 4, 12, 16], [0, 4, 12], [0, 4, 12], [0, 12, 161], []], [[0, 1, 2, 3, 4, 10, 11], [0, 1, 2, 3, 4, 10, 11, 28], [0, 1, 2, 3, 4, 10, 11], [0, 1, 2, 3, 4, 10, 11, 12], [0, 1, 2, 3, 4, 10, 11, 12, 13], [0, 1, 2, 3, 4, 10, 11, 12, 13, 30], [0, 1, 2, 3, 4, 10, 11, 12, 13], [0, 1, 2, 3, 4, 10, 11, 12, 13, 34], [0, 1, 2, 3, 4, 10, 11, 12, 13, 14], [0, 1, 2, 3, 4, 10, 11, 12, 13, 14, 15], [0, 1, 3, 4, 10, 11, 12, 13, 14, 15, 16], [0, 1, 3, 4, 10, 11, 12, 13, 14, 15, 16, 46], [0, 1, 3, 4, 10, 11, 12, 13, 14, 15, 16], [0, 1, 3, 4, 10, 11, 12, 13, 14, 15, 16], [0, 1, 3, 4, 10, 11, 12, 13, 14, 15, 16], [0, 1, 3, 4, 10, 11, 12, 13], [0, 3, 4, 10, 11, 12, 13], [0, 1, 3, 4, 10, 11, 12, 13, 17], [0, 1, 3, 4, 10, 11, 12, 13, 17, 68], [0, 1, 3, 4, 10, 11, 12, 13, 17], [0, 1, 3, 4, 10, 11, 12, 13, 17, 18], [0, 3, 4, 10, 11, 12, 13, 17, 18], [0, 1, 3, 4, 10, 11, 12, 13, 17], [0, 1, 3, 4, 10, 11, 12, 13], [0, 3, 4, 10, 11, 12, 13], [0, 4, 10, 11, 12, 13, 89], [0, 4, 10, 11, 12, 13], [0, 4, 10, 11, 12, 13], [0, 10, 11, 12, 13, 94], [10, 11], [10, 11]], [[0], [2]], [[0, 1], [0, 1, 11], [0, 1, 11, 12], [4], [0, 1, 14], [4], [0, 1, 18], [0, 1], [0, 5, 6], [0, 6, 34], [0, 6], [0, 7], [0, 7, 40], [4], [0, 7, 42], [0, 7, 42, 43], [0, 7, 42, 43], [0, 7, 42, 43], [0, 7, 42, 43], [0, 7, 43], [0, 7, 49], [4], [0, 7, 58], [4], [0, 7, 67], [4], [0, 7, 76], [4], [0, 7, 85], [4], [0, 7, 8], [0, 7, 8, 96], [0, 7, 8], [0, 7, 8, 104], [0, 7, 8], [0, 7, 8, 9], [0, 7, 8, 9], [7, 8, 9], [7, 8, 9, 113], [7, 8, 9, 10], [7, 8, 9], [4]], [[0], [2]], [[0, 2], [0, 2, 4], [0], [0, 2], [0, 2, 8], [0, 2], [0, 2], [0, 2, 14], [0, 2], [0, 2], [2]], [[0], [3], [2], [2]], [[0], [2]], [[0], [2], [2]], [[0], [2]], [[0, 1], [6, 7], [4, 5], [8, 9], [4, 5]], [[0, 1], [4]], [[0, 1], [0, 1, 7], [0, 1], [0, 1, 21], []], [[0, 1], [0, 1], [1], [4, 5]], [[0], [2]], [[0], [2]], [[0], [0, 4], [2], [2]], [[0], [0, 4], [2], [2]], [[0, 1], [6], [4, 5]], [[0, 1], [0, 1, 6], [0, 1, 6, 7], [0, 1, 6, 7, 8], [0, 1, 6, 7, 8, 9], [0, 1, 6, 7, 8, 9, 10], [0, 1, 6, 7, 9, 11], [0, 1, 6, 7, 9, 11, 12], [0, 1, 6, 7, 9, 12, 13], [0, 1, 7, 9, 12, 13], [0, 1, 4], [4, 5]], [[0, 1], [4]], [[0, 6], [], [19]], [[0, 4], [0, 4], []], [], [], [], [], [], [], [], [], [], [], [], [], [], [], [], [], [], [], [], [], [], [], [], [], [[], [], []]]

def globs : List (Nat × AM.AV) := [(0, .pi .u64 [1, 10, 100, 1000, 10000, 100000, 1000000, 10000000, 100000000, 1000000000, 10000000000, 100000000000, 1000000000000, 10000000000000, 100000000000000, 1000000000000000, 10000000000000000, 100000000000000000, 1000000000000000000, 10000000000000000000]), (1, .pb [0, 1, 28, 2, 29, 14, 24, 3, 30, 22, 20, 15, 25, 17, 4, 8, 31, 27, 13, 23, 21, 19, 16, 7, 26, 12, 18, 6, 11, 5, 10, 9]), (2, .pb [0, 1, 56, 2, 57, 49, 28, 3, 61, 58, 42, 50, 38, 29, 17, 4, 62, 47, 59, 36, 45, 43, 51, 22, 53, 39, 33, 30, 24, 18, 12, 5, 63, 55, 48, 27, 60, 41, 37, 16, 46, 35, 44, 21, 52, 32, 23, 11, 54, 26, 40, 15, 34, 20, 31, 10, 25, 14, 19, 9, 13, 8, 7, 6])]
noncomputable def X : AM.Ctx := { P := Tryd.prog, G := AM.globF globs, rw := fun f i => (f == 19 && i == 0) || (f == 21 && i == 0) || (f == 59 && i == 0), keep := fun f i => ((keepT[f]?).getD [])[i]?, norm := fun _ _ => false, dr := fun _ _ => true, dy := fun f id => [(3, 5), (3, 9), (7, 7), (7, 11), (11, 11), (11, 13), (11, 16), (21, 10), (21, 19), (25, 6), (25, 9), (29, 1), (29, 7), (31, 1), (36, 24), (74, 1), (81, 0)].contains (f, id) }

theorem own : ownKnob Tryd.prog.godebug = .none := by kernel_rfl
theorem full : ∀ t e, t < Tryd.prog.types.size → Tryd.prog.underlying t = some (.slice e) → 0 < Tryd.prog.cellsOf e := slices_full_of Tryd.prog (by kernel_rfl)
theorem ctxOk : AM.CtxOk X := AM.ctxOk_of (by kernel_rfl) (by kernel_rfl)
@[simp] theorem X_dr (f i : Nat) : X.dr f i = true := rfl
@[simp] theorem X_norm (f i : Nat) : X.norm f i = false := rfl
@[simp] theorem X_rw (f i : Nat) : X.rw f i = ((f == 19 && i == 0) || (f == 21 && i == 0) || (f == 59 && i == 0)) := rfl
@[simp] theorem nt3 : ntOf X 3 = 87 := by kernel_rfl
@[simp] theorem bod3 : bodied X 3 = true := by kernel_rfl
@[simp] theorem par3 : paramsOf X 3 = [22, 27, 29] := by kernel_rfl
@[simp] theorem nt4 : ntOf X 4 = 98 := by kernel_rfl
@[simp] theorem bod4 : bodied X 4 = true := by kernel_rfl
@[simp] theorem par4 : paramsOf X 4 = [25, 25] := by kernel_rfl
@[simp] theorem nt5 : ntOf X 5 = 82 := by kernel_rfl
@[simp] theorem bod5 : bodied X 5 = true := by kernel_rfl
@[simp] theorem par5 : paramsOf X 5 = [22, 29] := by kernel_rfl
@[simp] theorem nt6 : ntOf X 6 = 33 := by kernel_rfl
@[simp] theorem bod6 : bodied X 6 = true := by kernel_rfl
@[simp] theorem par6 : paramsOf X 6 = [] := by kernel_rfl
@[simp] theorem nt7 : ntOf X 7 = 66 := by kernel_rfl
@[simp] theorem bod7 : bodied X 7 = true := by kernel_rfl
@[simp] theorem par7 : paramsOf X 7 = [22, 27, 29] := by kernel_rfl
@[simp] theorem nt8 : ntOf X 8 = 14 := by kernel_rfl
@[simp] theorem bod8 : bodied X 8 = true := by kernel_rfl
@[simp] theorem par8 : paramsOf X 8 = [22] := by kernel_rfl
@[simp] theorem nt9 : ntOf X 9 = 76 := by kernel_rfl
@[simp] theorem bod9 : bodied X 9 = true := by kernel_rfl
@[simp] theorem par9 : paramsOf X 9 = [22, 27, 29] := by kernel_rfl
@[simp] theorem nt10 : ntOf X 10 = 37 := by kernel_rfl
@[simp] theorem bod10 : bodied X 10 = true := by kernel_rfl
@[simp] theorem par10 : paramsOf X 10 = [27, 29] := by kernel_rfl
@[simp] theorem nt11 : ntOf X 11 = 99 := by kernel_rfl
@[simp] theorem bod11 : bodied X 11 = true := by kernel_rfl
@[simp] theorem par11 : paramsOf X 11 = [27, 29] := by kernel_rfl
@[simp] theorem nt12 : ntOf X 12 = 10 := by kernel_rfl
@[simp] theorem bod12 : bodied X 12 = true := by kernel_rfl
@[simp] theorem par12 : paramsOf X 12 = [22, 22] := by kernel_rfl
@[simp] theorem nt13 : ntOf X 13 = 29 := by kernel_rfl
@[simp] theorem bod13 : bodied X 13 = true := by kernel_rfl
@[simp] theorem par13 : paramsOf X 13 = [29] := by kernel_rfl
@[simp] theorem nt14 : ntOf X 14 = 30 := by kernel_rfl
@[simp] theorem bod14 : bodied X 14 = true := by kernel_rfl
@[simp] theorem par14 : paramsOf X 14 = [29] := by kernel_rfl
@[simp] theorem nt15 : ntOf X 15 = 122 := by kernel_rfl
@[simp] theorem bod15 : bodied X 15 = true := by kernel_rfl
@[simp] theorem par15 : paramsOf X 15 = [27, 29] := by kernel_rfl
@[simp] theorem nt16 : ntOf X 16 = 134 := by kernel_rfl
@[simp] theorem bod16 : bodied X 16 = true := by kernel_rfl
@[simp] theorem par16 : paramsOf X 16 = [27, 29] := by kernel_rfl
@[simp] theorem nt17 : ntOf X 17 = 98 := by kernel_rfl
@[simp] theorem bod17 : bodied X 17 = true := by kernel_rfl
@[simp] theorem par17 : paramsOf X 17 = [22, 29] := by kernel_rfl
@[simp] theorem nt18 : ntOf X 18 = 8 := by kernel_rfl
@[simp] theorem bod18 : bodied X 18 = true := by kernel_rfl
@[simp] theorem par18 : paramsOf X 18 = [22] := by kernel_rfl
@[simp] theorem nt19 : ntOf X 19 = 22 := by kernel_rfl
@[simp] theorem bod19 : bodied X 19 = true := by kernel_rfl
@[simp] theorem par19 : paramsOf X 19 = [22, 23, 3] := by kernel_rfl
@[simp] theorem nt20 : ntOf X 20 = 16 := by kernel_rfl
@[simp] theorem bod20 : bodied X 20 = true := by kernel_rfl
@[simp] theorem par20 : paramsOf X 20 = [5] := by kernel_rfl
@[simp] theorem nt21 : ntOf X 21 = 110 := by kernel_rfl
@[simp] theorem bod21 : bodied X 21 = true := by kernel_rfl
@[simp] theorem par21 : paramsOf X 21 = [22, 25, 5] := by kernel_rfl
@[simp] theorem nt22 : ntOf X 22 = 12 := by kernel_rfl
@[simp] theorem bod22 : bodied X 22 = true := by kernel_rfl
@[simp] theorem par22 : paramsOf X 22 = [22, 9] := by kernel_rfl
@[simp] theorem nt23 : ntOf X 23 = 13 := by kernel_rfl
@[simp] theorem bod23 : bodied X 23 = true := by kernel_rfl
@[simp] theorem par23 : paramsOf X 23 = [5] := by kernel_rfl
@[simp] theorem nt24 : ntOf X 24 = 17 := by kernel_rfl
@[simp] theorem bod24 : bodied X 24 = true := by kernel_rfl
@[simp] theorem par24 : paramsOf X 24 = [22, 23, 3] := by kernel_rfl
@[simp] theorem nt25 : ntOf X 25 = 85 := by kernel_rfl
@[simp] theorem bod25 : bodied X 25 = true := by kernel_rfl
@[simp] theorem par25 : paramsOf X 25 = [22, 25, 5] := by kernel_rfl
@[simp] theorem nt26 : ntOf X 26 = 12 := by kernel_rfl
@[simp] theorem bod26 : bodied X 26 = true := by kernel_rfl
@[simp] theorem par26 : paramsOf X 26 = [22, 9] := by kernel_rfl
@[simp] theorem nt27 : ntOf X 27 = 8 := by kernel_rfl
@[simp] theorem bod27 : bodied X 27 = true := by kernel_rfl
@[simp] theorem par27 : paramsOf X 27 = [2, 3] := by kernel_rfl
@[simp] theorem nt28 : ntOf X 28 = 8 := by kernel_rfl
@[simp] theorem bod28 : bodied X 28 = true := by kernel_rfl
@[simp] theorem par28 : paramsOf X 28 = [23, 3] := by kernel_rfl
@[simp] theorem nt29 : ntOf X 29 = 60 := by kernel_rfl
@[simp] theorem bod29 : bodied X 29 = true := by kernel_rfl
@[simp] theorem par29 : paramsOf X 29 = [25, 5] := by kernel_rfl
@[simp] theorem nt30 : ntOf X 30 = 25 := by kernel_rfl
@[simp] theorem bod30 : bodied X 30 = true := by kernel_rfl
@[simp] theorem par30 : paramsOf X 30 = [23, 3] := by kernel_rfl
@[simp] theorem nt31 : ntOf X 31 = 26 := by kernel_rfl
@[simp] theorem bod31 : bodied X 31 = true := by kernel_rfl
@[simp] theorem par31 : paramsOf X 31 = [25] := by kernel_rfl
@[simp] theorem nt32 : ntOf X 32 = 7 := by kernel_rfl
@[simp] theorem bod32 : bodied X 32 = true := by kernel_rfl
@[simp] theorem par32 : paramsOf X 32 = [5] := by kernel_rfl
@[simp] theorem nt33 : ntOf X 33 = 6 := by kernel_rfl
@[simp] theorem bod33 : bodied X 33 = true := by kernel_rfl
@[simp] theorem par33 : paramsOf X 33 = [5] := by kernel_rfl
@[simp] theorem nt34 : ntOf X 34 = 66 := by kernel_rfl
@[simp] theorem bod34 : bodied X 34 = true := by kernel_rfl
@[simp] theorem par34 : paramsOf X 34 = [25, 5] := by kernel_rfl
@[simp] theorem nt35 : ntOf X 35 = 83 := by kernel_rfl
@[simp] theorem bod35 : bodied X 35 = true := by kernel_rfl
@[simp] theorem par35 : paramsOf X 35 = [25, 5] := by kernel_rfl
@[simp] theorem nt36 : ntOf X 36 = 102 := by kernel_rfl
@[simp] theorem bod36 : bodied X 36 = true := by kernel_rfl
@[simp] theorem par36 : paramsOf X 36 = [22, 5] := by kernel_rfl
@[simp] theorem nt37 : ntOf X 37 = 34 := by kernel_rfl
@[simp] theorem bod37 : bodied X 37 = true := by kernel_rfl
@[simp] theorem par37 : paramsOf X 37 = [22] := by kernel_rfl
@[simp] theorem nt38 : ntOf X 38 = 34 := by kernel_rfl
@[simp] theorem bod38 : bodied X 38 = true := by kernel_rfl
@[simp] theorem par38 : paramsOf X 38 = [22, 3] := by kernel_rfl
@[simp] theorem nt39 : ntOf X 39 = 29 := by kernel_rfl
@[simp] theorem bod39 : bodied X 39 = true := by kernel_rfl
@[simp] theorem par39 : paramsOf X 39 = [22, 23] := by kernel_rfl
@[simp] theorem nt40 : ntOf X 40 = 46 := by kernel_rfl
@[simp] theorem bod40 : bodied X 40 = true := by kernel_rfl
@[simp] theorem par40 : paramsOf X 40 = [22, 23, 3] := by kernel_rfl
@[simp] theorem nt41 : ntOf X 41 = 15 := by kernel_rfl
@[simp] theorem bod41 : bodied X 41 = true := by kernel_rfl
@[simp] theorem par41 : paramsOf X 41 = [25] := by kernel_rfl
@[simp] theorem nt42 : ntOf X 42 = 37 := by kernel_rfl
@[simp] theorem bod42 : bodied X 42 = true := by kernel_rfl
@[simp] theorem par42 : paramsOf X 42 = [22, 23] := by kernel_rfl
@[simp] theorem nt43 : ntOf X 43 = 54 := by kernel_rfl
@[simp] theorem bod43 : bodied X 43 = true := by kernel_rfl
@[simp] theorem par43 : paramsOf X 43 = [2, 3] := by kernel_rfl
@[simp] theorem nt44 : ntOf X 44 = 32 := by kernel_rfl
@[simp] theorem bod44 : bodied X 44 = true := by kernel_rfl
@[simp] theorem par44 : paramsOf X 44 = [23, 3] := by kernel_rfl
@[simp] theorem nt45 : ntOf X 45 = 16 := by kernel_rfl
@[simp] theorem bod45 : bodied X 45 = true := by kernel_rfl
@[simp] theorem par45 : paramsOf X 45 = [3, 3] := by kernel_rfl
@[simp] theorem nt46 : ntOf X 46 = 8 := by kernel_rfl
@[simp] theorem bod46 : bodied X 46 = true := by kernel_rfl
@[simp] theorem par46 : paramsOf X 46 = [3] := by kernel_rfl
@[simp] theorem nt47 : ntOf X 47 = 2 := by kernel_rfl
@[simp] theorem bod47 : bodied X 47 = true := by kernel_rfl
@[simp] theorem par47 : paramsOf X 47 = [] := by kernel_rfl
@[simp] theorem nt48 : ntOf X 48 = 27 := by kernel_rfl
@[simp] theorem bod48 : bodied X 48 = true := by kernel_rfl
@[simp] theorem par48 : paramsOf X 48 = [5] := by kernel_rfl
@[simp] theorem nt49 : ntOf X 49 = 21 := by kernel_rfl
@[simp] theorem bod49 : bodied X 49 = true := by kernel_rfl
@[simp] theorem par49 : paramsOf X 49 = [25] := by kernel_rfl
@[simp] theorem nt50 : ntOf X 50 = 15 := by kernel_rfl
@[simp] theorem bod50 : bodied X 50 = true := by kernel_rfl
@[simp] theorem par50 : paramsOf X 50 = [3, 3, 3] := by kernel_rfl
@[simp] theorem nt51 : ntOf X 51 = 41 := by kernel_rfl
@[simp] theorem bod51 : bodied X 51 = true := by kernel_rfl
@[simp] theorem par51 : paramsOf X 51 = [25] := by kernel_rfl
@[simp] theorem nt52 : ntOf X 52 = 18 := by kernel_rfl
@[simp] theorem bod52 : bodied X 52 = true := by kernel_rfl
@[simp] theorem par52 : paramsOf X 52 = [3, 3] := by kernel_rfl
@[simp] theorem nt53 : ntOf X 53 = 38 := by kernel_rfl
@[simp] theorem bod53 : bodied X 53 = true := by kernel_rfl
@[simp] theorem par53 : paramsOf X 53 = [22] := by kernel_rfl
@[simp] theorem nt54 : ntOf X 54 = 13 := by kernel_rfl
@[simp] theorem bod54 : bodied X 54 = true := by kernel_rfl
@[simp] theorem par54 : paramsOf X 54 = [23] := by kernel_rfl
@[simp] theorem nt55 : ntOf X 55 = 43 := by kernel_rfl
@[simp] theorem bod55 : bodied X 55 = true := by kernel_rfl
@[simp] theorem par55 : paramsOf X 55 = [22, 23, 3] := by kernel_rfl
@[simp] theorem nt56 : ntOf X 56 = 9 := by kernel_rfl
@[simp] theorem bod56 : bodied X 56 = true := by kernel_rfl
@[simp] theorem par56 : paramsOf X 56 = [23] := by kernel_rfl
@[simp] theorem nt57 : ntOf X 57 = 15 := by kernel_rfl
@[simp] theorem bod57 : bodied X 57 = true := by kernel_rfl
@[simp] theorem par57 : paramsOf X 57 = [3] := by kernel_rfl
@[simp] theorem nt58 : ntOf X 58 = 15 := by kernel_rfl
@[simp] theorem bod58 : bodied X 58 = true := by kernel_rfl
@[simp] theorem par58 : paramsOf X 58 = [23] := by kernel_rfl
@[simp] theorem nt59 : ntOf X 59 = 167 := by kernel_rfl
@[simp] theorem bod59 : bodied X 59 = true := by kernel_rfl
@[simp] theorem par59 : paramsOf X 59 = [22, 23] := by kernel_rfl
@[simp] theorem nt60 : ntOf X 60 = 102 := by kernel_rfl
@[simp] theorem bod60 : bodied X 60 = true := by kernel_rfl
@[simp] theorem par60 : paramsOf X 60 = [22, 23, 3, 4, 4] := by kernel_rfl
@[simp] theorem nt61 : ntOf X 61 = 5 := by kernel_rfl
@[simp] theorem bod61 : bodied X 61 = true := by kernel_rfl
@[simp] theorem par61 : paramsOf X 61 = [3] := by kernel_rfl
@[simp] theorem nt62 : ntOf X 62 = 125 := by kernel_rfl
@[simp] theorem bod62 : bodied X 62 = true := by kernel_rfl
@[simp] theorem par62 : paramsOf X 62 = [9, 3] := by kernel_rfl
@[simp] theorem nt63 : ntOf X 63 = 6 := by kernel_rfl
@[simp] theorem bod63 : bodied X 63 = true := by kernel_rfl
@[simp] theorem par63 : paramsOf X 63 = [3] := by kernel_rfl
@[simp] theorem nt64 : ntOf X 64 = 25 := by kernel_rfl
@[simp] theorem bod64 : bodied X 64 = true := by kernel_rfl
@[simp] theorem par64 : paramsOf X 64 = [23] := by kernel_rfl
@[simp] theorem nt65 : ntOf X 65 = 4 := by kernel_rfl
@[simp] theorem bod65 : bodied X 65 = true := by kernel_rfl
@[simp] theorem par65 : paramsOf X 65 = [4] := by kernel_rfl
@[simp] theorem nt68 : ntOf X 68 = 5 := by kernel_rfl
@[simp] theorem bod68 : bodied X 68 = true := by kernel_rfl
@[simp] theorem par68 : paramsOf X 68 = [3] := by kernel_rfl
@[simp] theorem nt69 : ntOf X 69 = 30 := by kernel_rfl
@[simp] theorem bod69 : bodied X 69 = true := by kernel_rfl
@[simp] theorem par69 : paramsOf X 69 = [50, 50] := by kernel_rfl
@[simp] theorem nt70 : ntOf X 70 = 8 := by kernel_rfl
@[simp] theorem bod70 : bodied X 70 = true := by kernel_rfl
@[simp] theorem par70 : paramsOf X 70 = [9, 9] := by kernel_rfl
@[simp] theorem nt71 : ntOf X 71 = 25 := by kernel_rfl
@[simp] theorem bod71 : bodied X 71 = true := by kernel_rfl
@[simp] theorem par71 : paramsOf X 71 = [94, 3] := by kernel_rfl
@[simp] theorem nt72 : ntOf X 72 = 19 := by kernel_rfl
@[simp] theorem bod72 : bodied X 72 = true := by kernel_rfl
@[simp] theorem par72 : paramsOf X 72 = [94, 9] := by kernel_rfl
@[simp] theorem nt73 : ntOf X 73 = 8 := by kernel_rfl
@[simp] theorem bod73 : bodied X 73 = true := by kernel_rfl
@[simp] theorem par73 : paramsOf X 73 = [94] := by kernel_rfl
@[simp] theorem nt74 : ntOf X 74 = 14 := by kernel_rfl
@[simp] theorem bod74 : bodied X 74 = true := by kernel_rfl
@[simp] theorem par74 : paramsOf X 74 = [94] := by kernel_rfl
@[simp] theorem nt79 : ntOf X 79 = 18 := by kernel_rfl
@[simp] theorem bod79 : bodied X 79 = true := by kernel_rfl
@[simp] theorem par79 : paramsOf X 79 = [9, 9] := by kernel_rfl
@[simp] theorem nt80 : ntOf X 80 = 20 := by kernel_rfl
@[simp] theorem bod80 : bodied X 80 = true := by kernel_rfl
@[simp] theorem par80 : paramsOf X 80 = [94] := by kernel_rfl
@[simp] theorem nt81 : ntOf X 81 = 30 := by kernel_rfl
@[simp] theorem bod81 : bodied X 81 = true := by kernel_rfl
@[simp] theorem par81 : paramsOf X 81 = [94, 3] := by kernel_rfl
@[simp] theorem nt82 : ntOf X 82 = 1 := by kernel_rfl
@[simp] theorem par82 : paramsOf X 82 = [112] := by kernel_rfl
@[simp] theorem nt83 : ntOf X 83 = 1 := by kernel_rfl
@[simp] theorem par83 : paramsOf X 83 = [3] := by kernel_rfl
@[simp] theorem keep3_0 : X.keep 3 0 = some [0, 4, 5] := by kernel_rfl
@[simp] theorem keep3_1 : X.keep 3 1 = some [0, 4, 5, 16] := by kernel_rfl
@[simp] theorem keep3_2 : X.keep 3 2 = some [6] := by kernel_rfl
@[simp] theorem keep3_3 : X.keep 3 3 = some [0, 4, 5, 25] := by kernel_rfl
@[simp] theorem keep3_4 : X.keep 3 4 = some [6] := by kernel_rfl
@[simp] theorem keep3_5 : X.keep 3 5 = some [0, 4, 5, 7, 8] := by kernel_rfl
@[simp] theorem keep3_6 : X.keep 3 6 = some [4, 5, 7, 8, 9, 10] := by kernel_rfl
@[simp] theorem keep3_7 : X.keep 3 7 = some [4, 5, 7, 8, 9, 10, 11, 12] := by kernel_rfl
@[simp] theorem keep3_8 : X.keep 3 8 = some [4, 5, 7, 8, 9, 10, 11, 12, 13, 14] := by kernel_rfl
@[simp] theorem keep3_9 : X.keep 3 9 = some [6] := by kernel_rfl
@[simp] theorem keep4_0 : X.keep 4 0 = some [2, 3] := by kernel_rfl
@[simp] theorem keep4_1 : X.keep 4 1 = some [2, 3, 14] := by kernel_rfl
@[simp] theorem keep4_2 : X.keep 4 2 = some [4] := by kernel_rfl
@[simp] theorem keep4_3 : X.keep 4 3 = some [2, 3, 5] := by kernel_rfl
@[simp] theorem keep4_4 : X.keep 4 4 = some [2, 3, 5] := by kernel_rfl
@[simp] theorem keep4_5 : X.keep 4 5 = some [2, 3, 5, 6, 7] := by kernel_rfl
@[simp] theorem keep4_6 : X.keep 4 6 = some [2, 3, 6, 7, 8, 9] := by kernel_rfl
@[simp] theorem keep4_7 : X.keep 4 7 = some [2, 3, 6, 8, 37] := by kernel_rfl
@[simp] theorem keep4_8 : X.keep 4 8 = some [4] := by kernel_rfl
@[simp] theorem keep4_9 : X.keep 4 9 = some [3, 6, 8, 10] := by kernel_rfl
@[simp] theorem keep4_10 : X.keep 4 10 = some [6, 8, 10, 11] := by kernel_rfl
@[simp] theorem keep4_11 : X.keep 4 11 = some [6, 8, 10, 11, 12] := by kernel_rfl
@[simp] theorem keep4_12 : X.keep 4 12 = some [6, 8, 10, 11, 12, 65] := by kernel_rfl
@[simp] theorem keep4_13 : X.keep 4 13 = some [6, 8, 10, 11, 12] := by kernel_rfl
@[simp] theorem keep4_14 : X.keep 4 14 = some [6, 8, 10, 11, 12, 76] := by kernel_rfl
@[simp] theorem keep4_15 : X.keep 4 15 = some [4] := by kernel_rfl
@[simp] theorem keep4_16 : X.keep 4 16 = some [4] := by kernel_rfl
@[simp] theorem keep5_0 : X.keep 5 0 = some [0, 3] := by kernel_rfl
@[simp] theorem keep5_1 : X.keep 5 1 = some [0, 3, 14] := by kernel_rfl
@[simp] theorem keep5_2 : X.keep 5 2 = some [4] := by kernel_rfl
@[simp] theorem keep5_3 : X.keep 5 3 = some [0, 3, 17] := by kernel_rfl
@[simp] theorem keep5_4 : X.keep 5 4 = some [4] := by kernel_rfl
@[simp] theorem keep5_5 : X.keep 5 5 = some [0, 3, 5, 6, 7] := by kernel_rfl
@[simp] theorem keep5_6 : X.keep 5 6 = some [0, 3, 5, 6, 26] := by kernel_rfl
@[simp] theorem keep5_7 : X.keep 5 7 = some [4] := by kernel_rfl
@[simp] theorem keep5_8 : X.keep 5 8 = some [0, 3, 5, 6, 8, 9] := by kernel_rfl
@[simp] theorem keep5_9 : X.keep 5 9 = some [0, 3, 5, 6, 8, 9, 10, 11, 12] := by kernel_rfl
@[simp] theorem keep5_10 : X.keep 5 10 = some [4] := by kernel_rfl
@[simp] theorem keep6_0 : X.keep 6 0 = some [] := by kernel_rfl
@[simp] theorem keep6_1 : X.keep 6 1 = some [1, 2] := by kernel_rfl
@[simp] theorem keep6_2 : X.keep 6 2 = some [1, 2, 3, 4] := by kernel_rfl
@[simp] theorem keep6_3 : X.keep 6 3 = some [0] := by kernel_rfl
@[simp] theorem keep7_0 : X.keep 7 0 = some [0, 4, 5] := by kernel_rfl
@[simp] theorem keep7_1 : X.keep 7 1 = some [0, 4, 5, 8] := by kernel_rfl
@[simp] theorem keep7_2 : X.keep 7 2 = some [0, 4, 5, 24] := by kernel_rfl
@[simp] theorem keep7_3 : X.keep 7 3 = some [6, 7] := by kernel_rfl
@[simp] theorem keep7_4 : X.keep 7 4 = some [4, 5, 9] := by kernel_rfl
@[simp] theorem keep7_5 : X.keep 7 5 = some [4, 5, 9, 28] := by kernel_rfl
@[simp] theorem keep7_6 : X.keep 7 6 = some [4, 5, 9, 28, 29] := by kernel_rfl
@[simp] theorem keep7_7 : X.keep 7 7 = some [6, 7] := by kernel_rfl
@[simp] theorem keep7_8 : X.keep 7 8 = some [4, 5, 9, 28, 39] := by kernel_rfl
@[simp] theorem keep7_9 : X.keep 7 9 = some [4, 5, 9, 28, 39] := by kernel_rfl
@[simp] theorem keep7_10 : X.keep 7 10 = some [4, 5, 9, 28, 39] := by kernel_rfl
@[simp] theorem keep7_11 : X.keep 7 11 = some [6, 7] := by kernel_rfl
@[simp] theorem keep7_12 : X.keep 7 12 = some [4, 5, 9, 28, 50] := by kernel_rfl
@[simp] theorem keep7_13 : X.keep 7 13 = some [4, 5, 9, 28, 50] := by kernel_rfl
@[simp] theorem keep7_14 : X.keep 7 14 = some [6, 7] := by kernel_rfl
@[simp] theorem keep7_15 : X.keep 7 15 = some [4, 9, 59] := by kernel_rfl
@[simp] theorem keep7_16 : X.keep 7 16 = some [6, 7] := by kernel_rfl
@[simp] theorem keep7_17 : X.keep 7 17 = some [6, 7] := by kernel_rfl
@[simp] theorem keep8_0 : X.keep 8 0 = some [0] := by kernel_rfl
@[simp] theorem keep8_1 : X.keep 8 1 = some [2] := by kernel_rfl
@[simp] theorem keep9_0 : X.keep 9 0 = some [0, 4, 5] := by kernel_rfl
@[simp] theorem keep9_1 : X.keep 9 1 = some [0, 4, 5, 8] := by kernel_rfl
@[simp] theorem keep9_2 : X.keep 9 2 = some [0, 4, 5, 25] := by kernel_rfl
@[simp] theorem keep9_3 : X.keep 9 3 = some [6, 7] := by kernel_rfl
@[simp] theorem keep9_4 : X.keep 9 4 = some [0, 4, 5, 9] := by kernel_rfl
@[simp] theorem keep9_5 : X.keep 9 5 = some [0, 4, 5, 9, 30] := by kernel_rfl
@[simp] theorem keep9_6 : X.keep 9 6 = some [0, 4, 5, 9, 30, 31] := by kernel_rfl
@[simp] theorem keep9_7 : X.keep 9 7 = some [0, 9, 10] := by kernel_rfl
@[simp] theorem keep9_8 : X.keep 9 8 = some [0, 9, 10, 37] := by kernel_rfl
@[simp] theorem keep9_9 : X.keep 9 9 = some [0, 9, 10] := by kernel_rfl
@[simp] theorem keep9_10 : X.keep 9 10 = some [6, 7] := by kernel_rfl
@[simp] theorem keep9_11 : X.keep 9 11 = some [0, 4, 5, 9, 30, 49] := by kernel_rfl
@[simp] theorem keep9_12 : X.keep 9 12 = some [0, 4, 5, 9, 30, 49] := by kernel_rfl
@[simp] theorem keep9_13 : X.keep 9 13 = some [0, 4, 5, 9, 30, 49] := by kernel_rfl
@[simp] theorem keep9_14 : X.keep 9 14 = some [6, 7] := by kernel_rfl
@[simp] theorem keep9_15 : X.keep 9 15 = some [0, 4, 5, 30, 58] := by kernel_rfl
@[simp] theorem keep9_16 : X.keep 9 16 = some [0, 4, 5, 30, 58] := by kernel_rfl
@[simp] theorem keep9_17 : X.keep 9 17 = some [6, 7] := by kernel_rfl
@[simp] theorem keep9_18 : X.keep 9 18 = some [0, 4, 67] := by kernel_rfl
@[simp] theorem keep9_19 : X.keep 9 19 = some [6, 7] := by kernel_rfl
@[simp] theorem keep9_20 : X.keep 9 20 = some [6, 7] := by kernel_rfl
@[simp] theorem keep10_0 : X.keep 10 0 = some [2, 3] := by kernel_rfl
@[simp] theorem keep10_1 : X.keep 10 1 = some [2, 3, 6] := by kernel_rfl
@[simp] theorem keep10_2 : X.keep 10 2 = some [2, 3, 6, 11] := by kernel_rfl
@[simp] theorem keep10_3 : X.keep 10 3 = some [4, 5] := by kernel_rfl
@[simp] theorem keep10_4 : X.keep 10 4 = some [2, 3, 14] := by kernel_rfl
@[simp] theorem keep10_5 : X.keep 10 5 = some [2, 3, 14, 15] := by kernel_rfl
@[simp] theorem keep10_6 : X.keep 10 6 = some [4, 5] := by kernel_rfl
@[simp] theorem keep10_7 : X.keep 10 7 = some [2, 3, 14, 20] := by kernel_rfl
@[simp] theorem keep10_8 : X.keep 10 8 = some [4, 5] := by kernel_rfl
@[simp] theorem keep10_9 : X.keep 10 9 = some [2, 3, 14, 25] := by kernel_rfl
@[simp] theorem keep10_10 : X.keep 10 10 = some [2, 3, 14, 25] := by kernel_rfl
@[simp] theorem keep10_11 : X.keep 10 11 = some [4, 5] := by kernel_rfl
@[simp] theorem keep10_12 : X.keep 10 12 = some [2, 33] := by kernel_rfl
@[simp] theorem keep10_13 : X.keep 10 13 = some [4, 5] := by kernel_rfl
@[simp] theorem keep10_14 : X.keep 10 14 = some [4, 5] := by kernel_rfl
@[simp] theorem keep11_0 : X.keep 11 0 = some [2, 3] := by kernel_rfl
@[simp] theorem keep11_1 : X.keep 11 1 = some [2, 3, 11] := by kernel_rfl
@[simp] theorem keep11_2 : X.keep 11 2 = some [4, 5] := by kernel_rfl
@[simp] theorem keep11_3 : X.keep 11 3 = some [2, 3, 13] := by kernel_rfl
@[simp] theorem keep11_4 : X.keep 11 4 = some [2, 3, 13, 14] := by kernel_rfl
@[simp] theorem keep11_5 : X.keep 11 5 = some [2, 18] := by kernel_rfl
@[simp] theorem keep11_6 : X.keep 11 6 = some [4, 5] := by kernel_rfl
@[simp] theorem keep11_7 : X.keep 11 7 = some [4, 5] := by kernel_rfl
@[simp] theorem keep11_8 : X.keep 11 8 = some [2, 3, 13, 31] := by kernel_rfl
@[simp] theorem keep11_9 : X.keep 11 9 = some [4, 5] := by kernel_rfl
@[simp] theorem keep11_10 : X.keep 11 10 = some [2, 3, 13, 36] := by kernel_rfl
@[simp] theorem keep11_11 : X.keep 11 11 = some [2, 3, 6] := by kernel_rfl
@[simp] theorem keep11_12 : X.keep 11 12 = some [2, 6, 59] := by kernel_rfl
@[simp] theorem keep11_13 : X.keep 11 13 = some [6] := by kernel_rfl
@[simp] theorem keep11_14 : X.keep 11 14 = some [4, 5] := by kernel_rfl
@[simp] theorem keep11_15 : X.keep 11 15 = some [2, 13, 73] := by kernel_rfl
@[simp] theorem keep11_16 : X.keep 11 16 = some [2, 7] := by kernel_rfl
@[simp] theorem keep11_17 : X.keep 11 17 = some [7, 91] := by kernel_rfl
@[simp] theorem keep11_18 : X.keep 11 18 = some [7] := by kernel_rfl
@[simp] theorem keep11_19 : X.keep 11 19 = some [4, 5] := by kernel_rfl
@[simp] theorem keep11_20 : X.keep 11 20 = some [2, 95] := by kernel_rfl
@[simp] theorem keep11_21 : X.keep 11 21 = some [4, 5] := by kernel_rfl
@[simp] theorem keep11_22 : X.keep 11 22 = some [4, 5] := by kernel_rfl
@[simp] theorem keep12_0 : X.keep 12 0 = some [0, 1] := by kernel_rfl
@[simp] theorem keep12_1 : X.keep 12 1 = some [4] := by kernel_rfl
@[simp] theorem keep13_0 : X.keep 13 0 = some [1] := by kernel_rfl
@[simp] theorem keep13_1 : X.keep 13 1 = some [1, 4] := by kernel_rfl
@[simp] theorem keep13_2 : X.keep 13 2 = some [1, 4, 5] := by kernel_rfl
@[simp] theorem keep13_3 : X.keep 13 3 = some [1, 4, 5] := by kernel_rfl
@[simp] theorem keep13_4 : X.keep 13 4 = some [1, 4, 5] := by kernel_rfl
@[simp] theorem keep13_5 : X.keep 13 5 = some [1, 4, 5] := by kernel_rfl
@[simp] theorem keep13_6 : X.keep 13 6 = some [1, 4, 5] := by kernel_rfl
@[simp] theorem keep13_7 : X.keep 13 7 = some [1, 4, 5] := by kernel_rfl
@[simp] theorem keep13_8 : X.keep 13 8 = some [13] := by kernel_rfl
@[simp] theorem keep13_9 : X.keep 13 9 = some [2] := by kernel_rfl
@[simp] theorem keep13_10 : X.keep 13 10 = some [2] := by kernel_rfl
@[simp] theorem keep13_11 : X.keep 13 11 = some [1, 4, 14] := by kernel_rfl
@[simp] theorem keep13_12 : X.keep 13 12 = some [2] := by kernel_rfl
@[simp] theorem keep13_13 : X.keep 13 13 = some [1, 4, 16] := by kernel_rfl
@[simp] theorem keep13_14 : X.keep 13 14 = some [2] := by kernel_rfl
@[simp] theorem keep13_15 : X.keep 13 15 = some [1, 4, 18] := by kernel_rfl
@[simp] theorem keep13_16 : X.keep 13 16 = some [1, 4, 18] := by kernel_rfl
@[simp] theorem keep13_17 : X.keep 13 17 = some [1, 4, 18] := by kernel_rfl
@[simp] theorem keep13_18 : X.keep 13 18 = some [2] := by kernel_rfl
@[simp] theorem keep13_19 : X.keep 13 19 = some [1, 4, 22] := by kernel_rfl
@[simp] theorem keep13_20 : X.keep 13 20 = some [2] := by kernel_rfl
@[simp] theorem keep13_21 : X.keep 13 21 = some [1, 24] := by kernel_rfl
@[simp] theorem keep13_22 : X.keep 13 22 = some [2] := by kernel_rfl
@[simp] theorem keep13_23 : X.keep 13 23 = some [28] := by kernel_rfl
@[simp] theorem keep13_24 : X.keep 13 24 = some [2] := by kernel_rfl
@[simp] theorem keep13_25 : X.keep 13 25 = some [2] := by kernel_rfl
@[simp] theorem keep14_0 : X.keep 14 0 = some [1] := by kernel_rfl
@[simp] theorem keep14_1 : X.keep 14 1 = some [1, 6] := by kernel_rfl
@[simp] theorem keep14_2 : X.keep 14 2 = some [2] := by kernel_rfl
@[simp] theorem keep14_3 : X.keep 14 3 = some [1, 8] := by kernel_rfl
@[simp] theorem keep14_4 : X.keep 14 4 = some [1, 8, 9] := by kernel_rfl
@[simp] theorem keep14_5 : X.keep 14 5 = some [1, 8, 9] := by kernel_rfl
@[simp] theorem keep14_6 : X.keep 14 6 = some [1, 8, 9] := by kernel_rfl
@[simp] theorem keep14_7 : X.keep 14 7 = some [1, 8, 9] := by kernel_rfl
@[simp] theorem keep14_8 : X.keep 14 8 = some [1, 8, 9] := by kernel_rfl
@[simp] theorem keep14_9 : X.keep 14 9 = some [1, 8, 9] := by kernel_rfl
@[simp] theorem keep14_10 : X.keep 14 10 = some [17] := by kernel_rfl
@[simp] theorem keep14_11 : X.keep 14 11 = some [2] := by kernel_rfl
@[simp] theorem keep14_12 : X.keep 14 12 = some [2] := by kernel_rfl
@[simp] theorem keep14_13 : X.keep 14 13 = some [8, 18] := by kernel_rfl
@[simp] theorem keep14_14 : X.keep 14 14 = some [2] := by kernel_rfl
@[simp] theorem keep14_15 : X.keep 14 15 = some [8, 20] := by kernel_rfl
@[simp] theorem keep14_16 : X.keep 14 16 = some [2] := by kernel_rfl
@[simp] theorem keep14_17 : X.keep 14 17 = some [8, 22] := by kernel_rfl
@[simp] theorem keep14_18 : X.keep 14 18 = some [8, 22] := by kernel_rfl
@[simp] theorem keep14_19 : X.keep 14 19 = some [8, 22] := by kernel_rfl
@[simp] theorem keep14_20 : X.keep 14 20 = some [2] := by kernel_rfl
@[simp] theorem keep14_21 : X.keep 14 21 = some [8, 26] := by kernel_rfl
@[simp] theorem keep14_22 : X.keep 14 22 = some [2] := by kernel_rfl
@[simp] theorem keep14_23 : X.keep 14 23 = some [28] := by kernel_rfl
@[simp] theorem keep14_24 : X.keep 14 24 = some [2] := by kernel_rfl
@[simp] theorem keep14_25 : X.keep 14 25 = some [2] := by kernel_rfl
@[simp] theorem keep15_0 : X.keep 15 0 = some [2, 3] := by kernel_rfl
@[simp] theorem keep15_1 : X.keep 15 1 = some [2, 3, 5] := by kernel_rfl
@[simp] theorem keep15_2 : X.keep 15 2 = some [2, 3, 5, 11] := by kernel_rfl
@[simp] theorem keep15_3 : X.keep 15 3 = some [4] := by kernel_rfl
@[simp] theorem keep15_4 : X.keep 15 4 = some [2, 3, 5, 14] := by kernel_rfl
@[simp] theorem keep15_5 : X.keep 15 5 = some [4] := by kernel_rfl
@[simp] theorem keep15_6 : X.keep 15 6 = some [2, 3, 5, 6] := by kernel_rfl
@[simp] theorem keep15_7 : X.keep 15 7 = some [2, 3, 5, 6, 7] := by kernel_rfl
@[simp] theorem keep15_8 : X.keep 15 8 = some [2, 3, 5, 6, 7, 24] := by kernel_rfl
@[simp] theorem keep15_9 : X.keep 15 9 = some [2, 3, 5, 6, 7, 24, 25] := by kernel_rfl
@[simp] theorem keep15_10 : X.keep 15 10 = some [6] := by kernel_rfl
@[simp] theorem keep15_11 : X.keep 15 11 = some [2, 3, 5, 6, 7, 24, 27] := by kernel_rfl
@[simp] theorem keep15_12 : X.keep 15 12 = some [6] := by kernel_rfl
@[simp] theorem keep15_13 : X.keep 15 13 = some [2, 3, 5, 6, 7, 24, 60] := by kernel_rfl
@[simp] theorem keep15_14 : X.keep 15 14 = some [2, 3, 5, 6, 7, 24, 60] := by kernel_rfl
@[simp] theorem keep15_15 : X.keep 15 15 = some [2, 3, 5, 6, 7, 24, 60] := by kernel_rfl
@[simp] theorem keep15_16 : X.keep 15 16 = some [6] := by kernel_rfl
@[simp] theorem keep15_17 : X.keep 15 17 = some [2, 3, 5, 6, 24, 84] := by kernel_rfl
@[simp] theorem keep15_18 : X.keep 15 18 = some [2, 3, 5, 6, 24, 84] := by kernel_rfl
@[simp] theorem keep15_19 : X.keep 15 19 = some [6] := by kernel_rfl
@[simp] theorem keep15_20 : X.keep 15 20 = some [2, 5, 6, 103] := by kernel_rfl
@[simp] theorem keep15_21 : X.keep 15 21 = some [6] := by kernel_rfl
@[simp] theorem keep15_22 : X.keep 15 22 = some [121] := by kernel_rfl
@[simp] theorem keep15_23 : X.keep 15 23 = some [4] := by kernel_rfl
@[simp] theorem keep15_24 : X.keep 15 24 = some [4] := by kernel_rfl
@[simp] theorem keep16_0 : X.keep 16 0 = some [2, 3] := by kernel_rfl
@[simp] theorem keep16_1 : X.keep 16 1 = some [2, 3, 5] := by kernel_rfl
@[simp] theorem keep16_2 : X.keep 16 2 = some [2, 3, 6] := by kernel_rfl
@[simp] theorem keep16_3 : X.keep 16 3 = some [2, 3, 6, 7] := by kernel_rfl
@[simp] theorem keep16_4 : X.keep 16 4 = some [2, 3, 6, 7, 81] := by kernel_rfl
@[simp] theorem keep16_5 : X.keep 16 5 = some [2, 3, 6, 7] := by kernel_rfl
@[simp] theorem keep16_6 : X.keep 16 6 = some [2, 3, 6, 7, 82] := by kernel_rfl
@[simp] theorem keep16_7 : X.keep 16 7 = some [4] := by kernel_rfl
@[simp] theorem keep16_8 : X.keep 16 8 = some [2, 3, 6, 7, 84] := by kernel_rfl
@[simp] theorem keep16_9 : X.keep 16 9 = some [2, 3, 6, 7, 84, 85] := by kernel_rfl
@[simp] theorem keep16_10 : X.keep 16 10 = some [6] := by kernel_rfl
@[simp] theorem keep16_11 : X.keep 16 11 = some [2, 3, 6, 7, 84, 105] := by kernel_rfl
@[simp] theorem keep16_12 : X.keep 16 12 = some [2, 3, 6, 7, 84, 105] := by kernel_rfl
@[simp] theorem keep16_13 : X.keep 16 13 = some [2, 3, 6, 7, 84, 105] := by kernel_rfl
@[simp] theorem keep16_14 : X.keep 16 14 = some [6] := by kernel_rfl
@[simp] theorem keep16_15 : X.keep 16 15 = some [2, 3, 6, 84, 118] := by kernel_rfl
@[simp] theorem keep16_16 : X.keep 16 16 = some [2, 3, 6, 84, 118] := by kernel_rfl
@[simp] theorem keep16_17 : X.keep 16 17 = some [6] := by kernel_rfl
@[simp] theorem keep16_18 : X.keep 16 18 = some [2, 6, 127] := by kernel_rfl
@[simp] theorem keep16_19 : X.keep 16 19 = some [6] := by kernel_rfl
@[simp] theorem keep16_20 : X.keep 16 20 = some [133] := by kernel_rfl
@[simp] theorem keep16_21 : X.keep 16 21 = some [4] := by kernel_rfl
@[simp] theorem keep16_22 : X.keep 16 22 = some [4] := by kernel_rfl
@[simp] theorem keep17_0 : X.keep 17 0 = some [0, 3, 4] := by kernel_rfl
@[simp] theorem keep17_1 : X.keep 17 1 = some [0, 3, 4, 7] := by kernel_rfl
@[simp] theorem keep17_2 : X.keep 17 2 = some [0, 3, 4, 7, 19] := by kernel_rfl
@[simp] theorem keep17_3 : X.keep 17 3 = some [0, 3, 4, 7, 19, 20] := by kernel_rfl
@[simp] theorem keep17_4 : X.keep 17 4 = some [4, 5, 6] := by kernel_rfl
@[simp] theorem keep17_5 : X.keep 17 5 = some [0, 3, 4, 7, 19, 23] := by kernel_rfl
@[simp] theorem keep17_6 : X.keep 17 6 = some [4, 5, 6] := by kernel_rfl
@[simp] theorem keep17_7 : X.keep 17 7 = some [0, 3, 4, 7, 19, 26] := by kernel_rfl
@[simp] theorem keep17_8 : X.keep 17 8 = some [0, 3, 4, 7, 19, 26] := by kernel_rfl
@[simp] theorem keep17_9 : X.keep 17 9 = some [4, 7, 8, 9, 10] := by kernel_rfl
@[simp] theorem keep17_10 : X.keep 17 10 = some [4, 7, 8, 9, 10, 38] := by kernel_rfl
@[simp] theorem keep17_11 : X.keep 17 11 = some [4, 5, 6] := by kernel_rfl
@[simp] theorem keep17_12 : X.keep 17 12 = some [4, 5, 6] := by kernel_rfl
@[simp] theorem keep17_13 : X.keep 17 13 = some [0, 3, 4, 7, 45] := by kernel_rfl
@[simp] theorem keep17_14 : X.keep 17 14 = some [4, 7, 11, 12, 13] := by kernel_rfl
@[simp] theorem keep17_15 : X.keep 17 15 = some [4, 7, 11, 12, 13, 53] := by kernel_rfl
@[simp] theorem keep17_16 : X.keep 17 16 = some [4, 5, 6] := by kernel_rfl
@[simp] theorem keep17_17 : X.keep 17 17 = some [4, 7, 11, 12, 58] := by kernel_rfl
@[simp] theorem keep17_18 : X.keep 17 18 = some [4, 5, 6] := by kernel_rfl
@[simp] theorem keep17_19 : X.keep 17 19 = some [4, 5, 6] := by kernel_rfl
@[simp] theorem keep17_20 : X.keep 17 20 = some [0, 4, 7, 14] := by kernel_rfl
@[simp] theorem keep17_21 : X.keep 17 21 = some [4, 6, 7, 14, 15] := by kernel_rfl
@[simp] theorem keep17_22 : X.keep 17 22 = some [4, 6, 7, 14, 15, 77] := by kernel_rfl
@[simp] theorem keep17_23 : X.keep 17 23 = some [4, 5, 6] := by kernel_rfl
@[simp] theorem keep17_24 : X.keep 17 24 = some [4, 7, 14, 15, 81] := by kernel_rfl
@[simp] theorem keep17_25 : X.keep 17 25 = some [4, 7, 14, 15, 16] := by kernel_rfl
@[simp] theorem keep17_26 : X.keep 17 26 = some [4, 5, 6] := by kernel_rfl
@[simp] theorem keep17_27 : X.keep 17 27 = some [4, 5, 6] := by kernel_rfl
@[simp] theorem keep18_0 : X.keep 18 0 = some [0] := by kernel_rfl
@[simp] theorem keep18_1 : X.keep 18 1 = some [0, 4] := by kernel_rfl
@[simp] theorem keep18_2 : X.keep 18 2 = some [2] := by kernel_rfl
@[simp] theorem keep18_3 : X.keep 18 3 = some [2] := by kernel_rfl
@[simp] theorem keep19_0 : X.keep 19 0 = some [0, 1, 2] := by kernel_rfl
@[simp] theorem keep19_1 : X.keep 19 1 = some [0, 1, 8, 9] := by kernel_rfl
@[simp] theorem keep19_2 : X.keep 19 2 = some [0, 1, 8, 9, 10] := by kernel_rfl
@[simp] theorem keep19_3 : X.keep 19 3 = some [0, 1, 7, 8, 9] := by kernel_rfl
@[simp] theorem keep19_4 : X.keep 19 4 = some [0, 1, 8, 9] := by kernel_rfl
@[simp] theorem keep19_5 : X.keep 19 5 = some [0, 1, 8, 9] := by kernel_rfl
@[simp] theorem keep19_6 : X.keep 19 6 = some [6] := by kernel_rfl
@[simp] theorem keep20_0 : X.keep 20 0 = some [0] := by kernel_rfl
@[simp] theorem keep20_1 : X.keep 20 1 = some [3] := by kernel_rfl
@[simp] theorem keep20_2 : X.keep 20 2 = some [3, 4] := by kernel_rfl
@[simp] theorem keep20_3 : X.keep 20 3 = some [2] := by kernel_rfl
@[simp] theorem keep20_4 : X.keep 20 4 = some [3, 6] := by kernel_rfl
@[simp] theorem keep20_5 : X.keep 20 5 = some [3, 6] := by kernel_rfl
@[simp] theorem keep20_6 : X.keep 20 6 = some [2] := by kernel_rfl
@[simp] theorem keep20_7 : X.keep 20 7 = some [3, 9] := by kernel_rfl
@[simp] theorem keep20_8 : X.keep 20 8 = some [3, 9] := by kernel_rfl
@[simp] theorem keep20_9 : X.keep 20 9 = some [3, 9] := by kernel_rfl
@[simp] theorem keep20_10 : X.keep 20 10 = some [2] := by kernel_rfl
@[simp] theorem keep20_11 : X.keep 20 11 = some [3, 13] := by kernel_rfl
@[simp] theorem keep20_12 : X.keep 20 12 = some [13] := by kernel_rfl
@[simp] theorem keep20_13 : X.keep 20 13 = some [2] := by kernel_rfl
@[simp] theorem keep20_14 : X.keep 20 14 = some [2] := by kernel_rfl
@[simp] theorem keep21_0 : X.keep 21 0 = some [0, 2, 4] := by kernel_rfl
@[simp] theorem keep21_1 : X.keep 21 1 = some [0, 4, 10] := by kernel_rfl
@[simp] theorem keep21_2 : X.keep 21 2 = some [0, 4] := by kernel_rfl
@[simp] theorem keep21_3 : X.keep 21 3 = some [0, 4, 14] := by kernel_rfl
@[simp] theorem keep21_4 : X.keep 21 4 = some [6] := by kernel_rfl
@[simp] theorem keep21_5 : X.keep 21 5 = some [0, 4, 21] := by kernel_rfl
@[simp] theorem keep21_6 : X.keep 21 6 = some [0, 4] := by kernel_rfl
@[simp] theorem keep21_7 : X.keep 21 7 = some [0, 4, 7] := by kernel_rfl
@[simp] theorem keep21_8 : X.keep 21 8 = some [0, 4, 7, 29] := by kernel_rfl
@[simp] theorem keep21_9 : X.keep 21 9 = some [0, 4, 7] := by kernel_rfl
@[simp] theorem keep21_10 : X.keep 21 10 = some [0, 4] := by kernel_rfl
@[simp] theorem keep21_11 : X.keep 21 11 = some [0, 4] := by kernel_rfl
@[simp] theorem keep21_12 : X.keep 21 12 = some [0, 4, 8] := by kernel_rfl
@[simp] theorem keep21_13 : X.keep 21 13 = some [0, 4, 8, 50] := by kernel_rfl
@[simp] theorem keep21_14 : X.keep 21 14 = some [6] := by kernel_rfl
@[simp] theorem keep21_15 : X.keep 21 15 = some [0, 4, 8, 57] := by kernel_rfl
@[simp] theorem keep21_16 : X.keep 21 16 = some [0, 4, 8] := by kernel_rfl
@[simp] theorem keep21_17 : X.keep 21 17 = some [0, 4, 8, 67] := by kernel_rfl
@[simp] theorem keep21_18 : X.keep 21 18 = some [0, 4, 8] := by kernel_rfl
@[simp] theorem keep21_19 : X.keep 21 19 = some [0, 4, 8] := by kernel_rfl
@[simp] theorem keep21_20 : X.keep 21 20 = some [0, 4, 88] := by kernel_rfl
@[simp] theorem keep21_21 : X.keep 21 21 = some [0, 4] := by kernel_rfl
@[simp] theorem keep21_22 : X.keep 21 22 = some [0, 4, 103] := by kernel_rfl
@[simp] theorem keep21_23 : X.keep 21 23 = some [0] := by kernel_rfl
@[simp] theorem keep21_24 : X.keep 21 24 = some [6] := by kernel_rfl
@[simp] theorem keep22_0 : X.keep 22 0 = some [0, 1] := by kernel_rfl
@[simp] theorem keep22_1 : X.keep 22 1 = some [4] := by kernel_rfl
@[simp] theorem keep23_0 : X.keep 23 0 = some [0] := by kernel_rfl
@[simp] theorem keep23_1 : X.keep 23 1 = some [3] := by kernel_rfl
@[simp] theorem keep23_2 : X.keep 23 2 = some [3, 4] := by kernel_rfl
@[simp] theorem keep23_3 : X.keep 23 3 = some [2] := by kernel_rfl
@[simp] theorem keep23_4 : X.keep 23 4 = some [3, 6] := by kernel_rfl
@[simp] theorem keep23_5 : X.keep 23 5 = some [3, 6] := by kernel_rfl
@[simp] theorem keep23_6 : X.keep 23 6 = some [2] := by kernel_rfl
@[simp] theorem keep23_7 : X.keep 23 7 = some [3, 9] := by kernel_rfl
@[simp] theorem keep23_8 : X.keep 23 8 = some [3, 9] := by kernel_rfl
@[simp] theorem keep23_9 : X.keep 23 9 = some [9] := by kernel_rfl
@[simp] theorem keep23_10 : X.keep 23 10 = some [2] := by kernel_rfl
@[simp] theorem keep23_11 : X.keep 23 11 = some [2] := by kernel_rfl
@[simp] theorem keep24_0 : X.keep 24 0 = some [0, 1, 2] := by kernel_rfl
@[simp] theorem keep24_1 : X.keep 24 1 = some [7] := by kernel_rfl
@[simp] theorem keep24_2 : X.keep 24 2 = some [6] := by kernel_rfl
@[simp] theorem keep25_0 : X.keep 25 0 = some [0, 2, 4] := by kernel_rfl
@[simp] theorem keep25_1 : X.keep 25 1 = some [0, 2, 4] := by kernel_rfl
@[simp] theorem keep25_2 : X.keep 25 2 = some [0, 4, 10] := by kernel_rfl
@[simp] theorem keep25_3 : X.keep 25 3 = some [0, 4, 8] := by kernel_rfl
@[simp] theorem keep25_4 : X.keep 25 4 = some [0, 4, 8, 12] := by kernel_rfl
@[simp] theorem keep25_5 : X.keep 25 5 = some [0, 4, 8] := by kernel_rfl
@[simp] theorem keep25_6 : X.keep 25 6 = some [0, 4, 7] := by kernel_rfl
@[simp] theorem keep25_7 : X.keep 25 7 = some [0, 4, 7, 36] := by kernel_rfl
@[simp] theorem keep25_8 : X.keep 25 8 = some [0, 4, 7] := by kernel_rfl
@[simp] theorem keep25_9 : X.keep 25 9 = some [0, 4, 7] := by kernel_rfl
@[simp] theorem keep25_10 : X.keep 25 10 = some [0, 4, 7, 51] := by kernel_rfl
@[simp] theorem keep25_11 : X.keep 25 11 = some [0, 4, 7] := by kernel_rfl
@[simp] theorem keep25_12 : X.keep 25 12 = some [0, 4, 7, 66] := by kernel_rfl
@[simp] theorem keep25_13 : X.keep 25 13 = some [0, 4, 7] := by kernel_rfl
@[simp] theorem keep25_14 : X.keep 25 14 = some [0, 4, 7, 69] := by kernel_rfl
@[simp] theorem keep25_15 : X.keep 25 15 = some [0, 7] := by kernel_rfl
@[simp] theorem keep25_16 : X.keep 25 16 = some [6] := by kernel_rfl
@[simp] theorem keep26_0 : X.keep 26 0 = some [0, 1] := by kernel_rfl
@[simp] theorem keep26_1 : X.keep 26 1 = some [4] := by kernel_rfl
@[simp] theorem keep27_0 : X.keep 27 0 = some [0, 1] := by kernel_rfl
@[simp] theorem keep27_1 : X.keep 27 1 = some [4] := by kernel_rfl
@[simp] theorem keep28_0 : X.keep 28 0 = some [0, 1] := by kernel_rfl
@[simp] theorem keep28_1 : X.keep 28 1 = some [4] := by kernel_rfl
@[simp] theorem keep29_0 : X.keep 29 0 = some [1, 2] := by kernel_rfl
@[simp] theorem keep29_1 : X.keep 29 1 = some [1, 2, 5] := by kernel_rfl
@[simp] theorem keep29_2 : X.keep 29 2 = some [1, 2, 5, 22] := by kernel_rfl
@[simp] theorem keep29_3 : X.keep 29 3 = some [2, 5, 6] := by kernel_rfl
@[simp] theorem keep29_4 : X.keep 29 4 = some [2, 5, 6, 24] := by kernel_rfl
@[simp] theorem keep29_5 : X.keep 29 5 = some [2, 5, 6] := by kernel_rfl
@[simp] theorem keep29_6 : X.keep 29 6 = some [4] := by kernel_rfl
@[simp] theorem keep29_7 : X.keep 29 7 = some [1, 2, 5, 7] := by kernel_rfl
@[simp] theorem keep29_8 : X.keep 29 8 = some [2, 5, 7, 50] := by kernel_rfl
@[simp] theorem keep29_9 : X.keep 29 9 = some [4] := by kernel_rfl
@[simp] theorem keep29_10 : X.keep 29 10 = some [4] := by kernel_rfl
@[simp] theorem keep30_0 : X.keep 30 0 = some [0, 1] := by kernel_rfl
@[simp] theorem keep30_1 : X.keep 30 1 = some [0, 1, 5] := by kernel_rfl
@[simp] theorem keep30_2 : X.keep 30 2 = some [0, 1, 5, 13] := by kernel_rfl
@[simp] theorem keep30_3 : X.keep 30 3 = some [0, 1, 5] := by kernel_rfl
@[simp] theorem keep30_4 : X.keep 30 4 = some [0, 1, 5] := by kernel_rfl
@[simp] theorem keep30_5 : X.keep 30 5 = some [4] := by kernel_rfl
@[simp] theorem keep31_0 : X.keep 31 0 = some [1] := by kernel_rfl
@[simp] theorem keep31_1 : X.keep 31 1 = some [1, 3] := by kernel_rfl
@[simp] theorem keep31_2 : X.keep 31 2 = some [1, 3, 17] := by kernel_rfl
@[simp] theorem keep31_3 : X.keep 31 3 = some [3] := by kernel_rfl
@[simp] theorem keep31_4 : X.keep 31 4 = some [2] := by kernel_rfl
@[simp] theorem keep32_0 : X.keep 32 0 = some [0] := by kernel_rfl
@[simp] theorem keep32_1 : X.keep 32 1 = some [2] := by kernel_rfl
@[simp] theorem keep33_0 : X.keep 33 0 = some [0] := by kernel_rfl
@[simp] theorem keep33_1 : X.keep 33 1 = some [2] := by kernel_rfl
@[simp] theorem keep34_0 : X.keep 34 0 = some [1, 2] := by kernel_rfl
@[simp] theorem keep34_1 : X.keep 34 1 = some [1, 2, 7] := by kernel_rfl
@[simp] theorem keep34_2 : X.keep 34 2 = some [4] := by kernel_rfl
@[simp] theorem keep34_3 : X.keep 34 3 = some [1, 2, 9] := by kernel_rfl
@[simp] theorem keep34_4 : X.keep 34 4 = some [4] := by kernel_rfl
@[simp] theorem keep34_5 : X.keep 34 5 = some [1, 2, 52] := by kernel_rfl
@[simp] theorem keep34_6 : X.keep 34 6 = some [4] := by kernel_rfl
@[simp] theorem keep34_7 : X.keep 34 7 = some [4] := by kernel_rfl
@[simp] theorem keep35_0 : X.keep 35 0 = some [1, 2] := by kernel_rfl
@[simp] theorem keep35_1 : X.keep 35 1 = some [1, 2, 7] := by kernel_rfl
@[simp] theorem keep35_2 : X.keep 35 2 = some [4] := by kernel_rfl
@[simp] theorem keep35_3 : X.keep 35 3 = some [1, 2, 9] := by kernel_rfl
@[simp] theorem keep35_4 : X.keep 35 4 = some [4] := by kernel_rfl
@[simp] theorem keep35_5 : X.keep 35 5 = some [4] := by kernel_rfl
@[simp] theorem keep36_0 : X.keep 36 0 = some [0, 1, 4] := by kernel_rfl
@[simp] theorem keep36_1 : X.keep 36 1 = some [0, 1, 4, 7] := by kernel_rfl
@[simp] theorem keep36_2 : X.keep 36 2 = some [0, 1, 4, 7, 17] := by kernel_rfl
@[simp] theorem keep36_3 : X.keep 36 3 = some [4, 5, 6] := by kernel_rfl
@[simp] theorem keep36_4 : X.keep 36 4 = some [0, 1, 4, 7, 8] := by kernel_rfl
@[simp] theorem keep36_5 : X.keep 36 5 = some [0, 1, 4, 7, 8, 9] := by kernel_rfl
@[simp] theorem keep36_6 : X.keep 36 6 = some [0, 1, 4, 7, 8, 9, 25] := by kernel_rfl
@[simp] theorem keep36_7 : X.keep 36 7 = some [0, 1, 4, 7, 8, 9] := by kernel_rfl
@[simp] theorem keep36_8 : X.keep 36 8 = some [0, 1, 4, 7, 8, 9, 10] := by kernel_rfl
@[simp] theorem keep36_9 : X.keep 36 9 = some [0, 1, 4, 7, 8, 10, 27, 28, 29] := by kernel_rfl
@[simp] theorem keep36_10 : X.keep 36 10 = some [0, 1, 4, 7, 8, 10, 27, 28, 29, 30] := by kernel_rfl
@[simp] theorem keep36_11 : X.keep 36 11 = some [0, 1, 4, 7, 8, 10, 12, 27, 28, 29] := by kernel_rfl
@[simp] theorem keep36_12 : X.keep 36 12 = some [0, 1, 4, 7, 8, 10, 27, 28, 29] := by kernel_rfl
@[simp] theorem keep36_13 : X.keep 36 13 = some [0, 1, 4, 7, 8, 10, 27, 28, 29] := by kernel_rfl
@[simp] theorem keep36_14 : X.keep 36 14 = some [0, 1, 4, 7, 8, 41] := by kernel_rfl
@[simp] theorem keep36_15 : X.keep 36 15 = some [4, 5, 6] := by kernel_rfl
@[simp] theorem keep36_16 : X.keep 36 16 = some [0, 1, 4, 7, 8, 47] := by kernel_rfl
@[simp] theorem keep36_17 : X.keep 36 17 = some [4, 5, 6] := by kernel_rfl
@[simp] theorem keep36_18 : X.keep 36 18 = some [0, 1, 4, 7, 8, 13] := by kernel_rfl
@[simp] theorem keep36_19 : X.keep 36 19 = some [1, 4, 7, 8, 13] := by kernel_rfl
@[simp] theorem keep36_20 : X.keep 36 20 = some [1, 4, 7, 8, 13, 14] := by kernel_rfl
@[simp] theorem keep36_21 : X.keep 36 21 = some [1, 4, 7, 8, 13, 14, 58] := by kernel_rfl
@[simp] theorem keep36_22 : X.keep 36 22 = some [1, 4, 7, 8, 13, 14, 62] := by kernel_rfl
@[simp] theorem keep36_23 : X.keep 36 23 = some [4, 5, 6] := by kernel_rfl
@[simp] theorem keep36_24 : X.keep 36 24 = some [1, 4, 7, 8] := by kernel_rfl
@[simp] theorem keep36_25 : X.keep 36 25 = some [1, 4, 7, 8] := by kernel_rfl
@[simp] theorem keep36_26 : X.keep 36 26 = some [4, 7, 8, 97] := by kernel_rfl
@[simp] theorem keep36_27 : X.keep 36 27 = some [4, 5, 6] := by kernel_rfl
@[simp] theorem keep36_28 : X.keep 36 28 = some [4, 5, 6] := by kernel_rfl
@[simp] theorem keep37_0 : X.keep 37 0 = some [0] := by kernel_rfl
@[simp] theorem keep37_1 : X.keep 37 1 = some [0, 3, 4, 5] := by kernel_rfl
@[simp] theorem keep37_2 : X.keep 37 2 = some [0, 3, 4, 5, 13] := by kernel_rfl
@[simp] theorem keep37_3 : X.keep 37 3 = some [2, 3, 4] := by kernel_rfl
@[simp] theorem keep37_4 : X.keep 37 4 = some [0, 3, 5, 21] := by kernel_rfl
@[simp] theorem keep37_5 : X.keep 37 5 = some [2, 3, 4] := by kernel_rfl
@[simp] theorem keep37_6 : X.keep 37 6 = some [2, 3, 4] := by kernel_rfl
@[simp] theorem keep38_0 : X.keep 38 0 = some [0, 1] := by kernel_rfl
@[simp] theorem keep38_1 : X.keep 38 1 = some [0, 1, 13] := by kernel_rfl
@[simp] theorem keep38_2 : X.keep 38 2 = some [4, 5] := by kernel_rfl
@[simp] theorem keep38_3 : X.keep 38 3 = some [0, 1, 17] := by kernel_rfl
@[simp] theorem keep38_4 : X.keep 38 4 = some [4, 5] := by kernel_rfl
@[simp] theorem keep38_5 : X.keep 38 5 = some [0, 1, 6] := by kernel_rfl
@[simp] theorem keep38_6 : X.keep 38 6 = some [0, 6, 18, 19] := by kernel_rfl
@[simp] theorem keep38_7 : X.keep 38 7 = some [0, 6, 18, 19, 20] := by kernel_rfl
@[simp] theorem keep38_8 : X.keep 38 8 = some [0, 6, 7, 18, 19] := by kernel_rfl
@[simp] theorem keep38_9 : X.keep 38 9 = some [0, 6, 18, 19] := by kernel_rfl
@[simp] theorem keep38_10 : X.keep 38 10 = some [0, 6, 18, 19] := by kernel_rfl
@[simp] theorem keep38_11 : X.keep 38 11 = some [4, 5] := by kernel_rfl
@[simp] theorem keep39_0 : X.keep 39 0 = some [0, 1] := by kernel_rfl
@[simp] theorem keep39_1 : X.keep 39 1 = some [0, 1, 5, 6] := by kernel_rfl
@[simp] theorem keep39_2 : X.keep 39 2 = some [1, 5, 6, 7] := by kernel_rfl
@[simp] theorem keep39_3 : X.keep 39 3 = some [1, 5, 6, 7, 16] := by kernel_rfl
@[simp] theorem keep39_4 : X.keep 39 4 = some [1, 6, 7] := by kernel_rfl
@[simp] theorem keep39_5 : X.keep 39 5 = some [7] := by kernel_rfl
@[simp] theorem keep39_6 : X.keep 39 6 = some [4] := by kernel_rfl
@[simp] theorem keep40_0 : X.keep 40 0 = some [0, 1, 2] := by kernel_rfl
@[simp] theorem keep40_1 : X.keep 40 1 = some [0, 1, 2, 27] := by kernel_rfl
@[simp] theorem keep40_2 : X.keep 40 2 = some [6, 7] := by kernel_rfl
@[simp] theorem keep40_3 : X.keep 40 3 = some [1, 2, 8] := by kernel_rfl
@[simp] theorem keep40_4 : X.keep 40 4 = some [1, 2, 8, 9] := by kernel_rfl
@[simp] theorem keep40_5 : X.keep 40 5 = some [1, 2, 8, 9, 33] := by kernel_rfl
@[simp] theorem keep40_6 : X.keep 40 6 = some [1, 2, 8, 9] := by kernel_rfl
@[simp] theorem keep40_7 : X.keep 40 7 = some [1, 2, 8, 9] := by kernel_rfl
@[simp] theorem keep40_8 : X.keep 40 8 = some [6, 7] := by kernel_rfl
@[simp] theorem keep41_0 : X.keep 41 0 = some [1] := by kernel_rfl
@[simp] theorem keep41_1 : X.keep 41 1 = some [2] := by kernel_rfl
@[simp] theorem keep42_0 : X.keep 42 0 = some [0, 1] := by kernel_rfl
@[simp] theorem keep42_1 : X.keep 42 1 = some [0, 1, 5] := by kernel_rfl
@[simp] theorem keep42_2 : X.keep 42 2 = some [1, 5, 6] := by kernel_rfl
@[simp] theorem keep42_3 : X.keep 42 3 = some [1, 5, 6, 14] := by kernel_rfl
@[simp] theorem keep42_4 : X.keep 42 4 = some [4] := by kernel_rfl
@[simp] theorem keep42_5 : X.keep 42 5 = some [1, 5, 6, 7] := by kernel_rfl
@[simp] theorem keep42_6 : X.keep 42 6 = some [1, 5, 6, 7, 21] := by kernel_rfl
@[simp] theorem keep42_7 : X.keep 42 7 = some [1, 5, 6, 7] := by kernel_rfl
@[simp] theorem keep42_8 : X.keep 42 8 = some [6] := by kernel_rfl
@[simp] theorem keep42_9 : X.keep 42 9 = some [4] := by kernel_rfl
@[simp] theorem keep43_0 : X.keep 43 0 = some [0, 1] := by kernel_rfl
@[simp] theorem keep43_1 : X.keep 43 1 = some [0, 1, 11] := by kernel_rfl
@[simp] theorem keep43_2 : X.keep 43 2 = some [0, 17] := by kernel_rfl
@[simp] theorem keep43_3 : X.keep 43 3 = some [4] := by kernel_rfl
@[simp] theorem keep43_4 : X.keep 43 4 = some [0, 5] := by kernel_rfl
@[simp] theorem keep43_5 : X.keep 43 5 = some [0, 5, 6] := by kernel_rfl
@[simp] theorem keep43_6 : X.keep 43 6 = some [0, 5, 6, 23] := by kernel_rfl
@[simp] theorem keep43_7 : X.keep 43 7 = some [0, 5, 6] := by kernel_rfl
@[simp] theorem keep43_8 : X.keep 43 8 = some [0, 5, 6, 7] := by kernel_rfl
@[simp] theorem keep43_9 : X.keep 43 9 = some [0, 5, 7] := by kernel_rfl
@[simp] theorem keep43_10 : X.keep 43 10 = some [5, 7, 34] := by kernel_rfl
@[simp] theorem keep43_11 : X.keep 43 11 = some [5, 7] := by kernel_rfl
@[simp] theorem keep43_12 : X.keep 43 12 = some [4] := by kernel_rfl
@[simp] theorem keep43_13 : X.keep 43 13 = some [4] := by kernel_rfl
@[simp] theorem keep43_14 : X.keep 43 14 = some [9] := by kernel_rfl
@[simp] theorem keep43_15 : X.keep 43 15 = some [4] := by kernel_rfl
@[simp] theorem keep44_0 : X.keep 44 0 = some [0, 1] := by kernel_rfl
@[simp] theorem keep44_1 : X.keep 44 1 = some [0, 1, 10] := by kernel_rfl
@[simp] theorem keep44_2 : X.keep 44 2 = some [0, 12] := by kernel_rfl
@[simp] theorem keep44_3 : X.keep 44 3 = some [4] := by kernel_rfl
@[simp] theorem keep44_4 : X.keep 44 4 = some [0, 5] := by kernel_rfl
@[simp] theorem keep44_5 : X.keep 44 5 = some [0, 5, 6] := by kernel_rfl
@[simp] theorem keep44_6 : X.keep 44 6 = some [5, 6] := by kernel_rfl
@[simp] theorem keep44_7 : X.keep 44 7 = some [4] := by kernel_rfl
@[simp] theorem keep44_8 : X.keep 44 8 = some [8] := by kernel_rfl
@[simp] theorem keep44_9 : X.keep 44 9 = some [4] := by kernel_rfl
@[simp] theorem keep45_0 : X.keep 45 0 = some [0, 1] := by kernel_rfl
@[simp] theorem keep45_1 : X.keep 45 1 = some [1, 5] := by kernel_rfl
@[simp] theorem keep45_2 : X.keep 45 2 = some [4] := by kernel_rfl
@[simp] theorem keep46_0 : X.keep 46 0 = some [0] := by kernel_rfl
@[simp] theorem keep46_1 : X.keep 46 1 = some [0, 4] := by kernel_rfl
@[simp] theorem keep46_2 : X.keep 46 2 = some [2] := by kernel_rfl
@[simp] theorem keep46_3 : X.keep 46 3 = some [2] := by kernel_rfl
@[simp] theorem keep47_0 : X.keep 47 0 = some [0] := by kernel_rfl
@[simp] theorem keep47_1 : X.keep 47 1 = some [0] := by kernel_rfl
@[simp] theorem keep48_0 : X.keep 48 0 = some [0] := by kernel_rfl
@[simp] theorem keep48_1 : X.keep 48 1 = some [0, 3] := by kernel_rfl
@[simp] theorem keep48_2 : X.keep 48 2 = some [0, 3, 9] := by kernel_rfl
@[simp] theorem keep48_3 : X.keep 48 3 = some [2] := by kernel_rfl
@[simp] theorem keep48_4 : X.keep 48 4 = some [0, 14] := by kernel_rfl
@[simp] theorem keep48_5 : X.keep 48 5 = some [0, 14, 15] := by kernel_rfl
@[simp] theorem keep48_6 : X.keep 48 6 = some [2] := by kernel_rfl
@[simp] theorem keep48_7 : X.keep 48 7 = some [0, 17] := by kernel_rfl
@[simp] theorem keep48_8 : X.keep 48 8 = some [2] := by kernel_rfl
@[simp] theorem keep48_9 : X.keep 48 9 = some [0, 3] := by kernel_rfl
@[simp] theorem keep48_10 : X.keep 48 10 = some [0, 3, 21] := by kernel_rfl
@[simp] theorem keep48_11 : X.keep 48 11 = some [2] := by kernel_rfl
@[simp] theorem keep48_12 : X.keep 48 12 = some [2] := by kernel_rfl
@[simp] theorem keep49_0 : X.keep 49 0 = some [1] := by kernel_rfl
@[simp] theorem keep49_1 : X.keep 49 1 = some [2] := by kernel_rfl
@[simp] theorem keep50_0 : X.keep 50 0 = some [0, 1, 2] := by kernel_rfl
@[simp] theorem keep50_1 : X.keep 50 1 = some [6] := by kernel_rfl
@[simp] theorem keep51_0 : X.keep 51 0 = some [1] := by kernel_rfl
@[simp] theorem keep51_1 : X.keep 51 1 = some [2] := by kernel_rfl
@[simp] theorem keep52_0 : X.keep 52 0 = some [0, 1, 2] := by kernel_rfl
@[simp] theorem keep52_1 : X.keep 52 1 = some [6] := by kernel_rfl
@[simp] theorem keep52_2 : X.keep 52 2 = some [5] := by kernel_rfl
@[simp] theorem keep53_0 : X.keep 53 0 = some [0] := by kernel_rfl
@[simp] theorem keep53_1 : X.keep 53 1 = some [0, 8] := by kernel_rfl
@[simp] theorem keep53_2 : X.keep 53 2 = some [2, 3, 4] := by kernel_rfl
@[simp] theorem keep53_3 : X.keep 53 3 = some [0] := by kernel_rfl
@[simp] theorem keep53_4 : X.keep 53 4 = some [0, 11] := by kernel_rfl
@[simp] theorem keep53_5 : X.keep 53 5 = some [2, 3, 4] := by kernel_rfl
@[simp] theorem keep53_6 : X.keep 53 6 = some [0, 11, 16] := by kernel_rfl
@[simp] theorem keep53_7 : X.keep 53 7 = some [0, 5] := by kernel_rfl
@[simp] theorem keep53_8 : X.keep 53 8 = some [0, 11, 18] := by kernel_rfl
@[simp] theorem keep53_9 : X.keep 53 9 = some [0, 5] := by kernel_rfl
@[simp] theorem keep53_10 : X.keep 53 10 = some [0, 11, 20] := by kernel_rfl
@[simp] theorem keep53_11 : X.keep 53 11 = some [0, 5] := by kernel_rfl
@[simp] theorem keep53_12 : X.keep 53 12 = some [0, 11, 22] := by kernel_rfl
@[simp] theorem keep53_13 : X.keep 53 13 = some [0, 22] := by kernel_rfl
@[simp] theorem keep53_14 : X.keep 53 14 = some [2, 3, 4] := by kernel_rfl
@[simp] theorem keep53_15 : X.keep 53 15 = some [2, 4, 5] := by kernel_rfl
@[simp] theorem keep53_16 : X.keep 53 16 = some [2, 4, 5, 33] := by kernel_rfl
@[simp] theorem keep53_17 : X.keep 53 17 = some [2, 3, 4] := by kernel_rfl
@[simp] theorem keep53_18 : X.keep 53 18 = some [2, 3, 4] := by kernel_rfl
@[simp] theorem keep54_0 : X.keep 54 0 = some [0] := by kernel_rfl
@[simp] theorem keep54_1 : X.keep 54 1 = some [0, 4] := by kernel_rfl
@[simp] theorem keep54_2 : X.keep 54 2 = some [2, 3] := by kernel_rfl
@[simp] theorem keep54_3 : X.keep 54 3 = some [0, 7] := by kernel_rfl
@[simp] theorem keep54_4 : X.keep 54 4 = some [2, 3] := by kernel_rfl
@[simp] theorem keep54_5 : X.keep 54 5 = some [10] := by kernel_rfl
@[simp] theorem keep54_6 : X.keep 54 6 = some [2, 3] := by kernel_rfl
@[simp] theorem keep54_7 : X.keep 54 7 = some [2, 3] := by kernel_rfl
@[simp] theorem keep55_0 : X.keep 55 0 = some [0, 1, 2] := by kernel_rfl
@[simp] theorem keep55_1 : X.keep 55 1 = some [0, 1, 2, 26] := by kernel_rfl
@[simp] theorem keep55_2 : X.keep 55 2 = some [6, 7] := by kernel_rfl
@[simp] theorem keep55_3 : X.keep 55 3 = some [1, 2, 8] := by kernel_rfl
@[simp] theorem keep55_4 : X.keep 55 4 = some [1, 8, 29, 30] := by kernel_rfl
@[simp] theorem keep55_5 : X.keep 55 5 = some [1, 8, 29, 30, 31] := by kernel_rfl
@[simp] theorem keep55_6 : X.keep 55 6 = some [1, 8, 9, 29, 30] := by kernel_rfl
@[simp] theorem keep55_7 : X.keep 55 7 = some [1, 8, 29, 30] := by kernel_rfl
@[simp] theorem keep55_8 : X.keep 55 8 = some [1, 8, 29, 30] := by kernel_rfl
@[simp] theorem keep55_9 : X.keep 55 9 = some [6, 7] := by kernel_rfl
@[simp] theorem keep56_0 : X.keep 56 0 = some [0] := by kernel_rfl
@[simp] theorem keep56_1 : X.keep 56 1 = some [0, 4] := by kernel_rfl
@[simp] theorem keep56_2 : X.keep 56 2 = some [2] := by kernel_rfl
@[simp] theorem keep56_3 : X.keep 56 3 = some [0, 6] := by kernel_rfl
@[simp] theorem keep56_4 : X.keep 56 4 = some [2] := by kernel_rfl
@[simp] theorem keep56_5 : X.keep 56 5 = some [8] := by kernel_rfl
@[simp] theorem keep56_6 : X.keep 56 6 = some [2] := by kernel_rfl
@[simp] theorem keep56_7 : X.keep 56 7 = some [2] := by kernel_rfl
@[simp] theorem keep57_0 : X.keep 57 0 = some [0] := by kernel_rfl
@[simp] theorem keep57_1 : X.keep 57 1 = some [0, 4] := by kernel_rfl
@[simp] theorem keep57_2 : X.keep 57 2 = some [2] := by kernel_rfl
@[simp] theorem keep57_3 : X.keep 57 3 = some [2] := by kernel_rfl
@[simp] theorem keep58_0 : X.keep 58 0 = some [0] := by kernel_rfl
@[simp] theorem keep58_1 : X.keep 58 1 = some [0, 3] := by kernel_rfl
@[simp] theorem keep58_2 : X.keep 58 2 = some [2] := by kernel_rfl
@[simp] theorem keep59_0 : X.keep 59 0 = some [0, 1, 4] := by kernel_rfl
@[simp] theorem keep59_1 : X.keep 59 1 = some [0, 1, 4, 20] := by kernel_rfl
@[simp] theorem keep59_2 : X.keep 59 2 = some [0, 1, 4, 5] := by kernel_rfl
@[simp] theorem keep59_3 : X.keep 59 3 = some [0, 1, 4, 5] := by kernel_rfl
@[simp] theorem keep59_4 : X.keep 59 4 = some [0, 1, 4, 6, 7] := by kernel_rfl
@[simp] theorem keep59_5 : X.keep 59 5 = some [0, 1, 4, 6, 8, 9] := by kernel_rfl
@[simp] theorem keep59_6 : X.keep 59 6 = some [0, 1, 4, 8, 9, 10, 11] := by kernel_rfl
@[simp] theorem keep59_7 : X.keep 59 7 = some [0, 1, 4, 8, 10, 11] := by kernel_rfl
@[simp] theorem keep59_8 : X.keep 59 8 = some [0, 1, 4, 10, 11] := by kernel_rfl
@[simp] theorem keep59_9 : X.keep 59 9 = some [0, 1, 4, 10] := by kernel_rfl
@[simp] theorem keep59_10 : X.keep 59 10 = some [0, 1, 4] := by kernel_rfl
@[simp] theorem keep59_11 : X.keep 59 11 = some [0, 1, 4] := by kernel_rfl
@[simp] theorem keep59_12 : X.keep 59 12 = some [0, 4, 12] := by kernel_rfl
@[simp] theorem keep59_13 : X.keep 59 13 = some [0, 4, 12, 99] := by kernel_rfl
@[simp] theorem keep59_14 : X.keep 59 14 = some [0, 4, 12, 13] := by kernel_rfl
@[simp] theorem keep59_15 : X.keep 59 15 = some [0, 4, 12, 13] := by kernel_rfl
@[simp] theorem keep59_16 : X.keep 59 16 = some [0, 4, 12, 14, 15] := by kernel_rfl
@[simp] theorem keep59_17 : X.keep 59 17 = some [0, 4, 12, 14] := by kernel_rfl
@[simp] theorem keep59_18 : X.keep 59 18 = some [0, 4, 12] := by kernel_rfl
@[simp] theorem keep59_19 : X.keep 59 19 = some [0, 4, 12] := by kernel_rfl
@[simp] theorem keep59_20 : X.keep 59 20 = some [0, 4, 12, 139] := by kernel_rfl
@[simp] theorem keep59_21 : X.keep 59 21 = some [0, 4, 12, 16] := by kernel_rfl
@[simp] theorem keep59_22 : X.keep 59 22 = some [0, 4, 12, 16] := by kernel_rfl
@[simp] theorem keep59_23 : X.keep 59 23 = some [0, 4, 12] := by kernel_rfl
@[simp] theorem keep59_24 : X.keep 59 24 = some [0, 4, 12] := by kernel_rfl
@[simp] theorem keep59_25 : X.keep 59 25 = some [0, 12, 161] := by kernel_rfl
@[simp] theorem keep59_26 : X.keep 59 26 = some [] := by kernel_rfl
@[simp] theorem keep61_0 : X.keep 61 0 = some [0] := by kernel_rfl
@[simp] theorem keep61_1 : X.keep 61 1 = some [2] := by kernel_rfl
@[simp] theorem keep62_0 : X.keep 62 0 = some [0, 1] := by kernel_rfl
@[simp] theorem keep62_1 : X.keep 62 1 = some [0, 1, 11] := by kernel_rfl
@[simp] theorem keep62_2 : X.keep 62 2 = some [0, 1, 11, 12] := by kernel_rfl
@[simp] theorem keep62_3 : X.keep 62 3 = some [4] := by kernel_rfl
@[simp] theorem keep62_4 : X.keep 62 4 = some [0, 1, 14] := by kernel_rfl
@[simp] theorem keep62_5 : X.keep 62 5 = some [4] := by kernel_rfl
@[simp] theorem keep62_6 : X.keep 62 6 = some [0, 1, 18] := by kernel_rfl
@[simp] theorem keep62_7 : X.keep 62 7 = some [0, 1] := by kernel_rfl
@[simp] theorem keep62_8 : X.keep 62 8 = some [0, 5, 6] := by kernel_rfl
@[simp] theorem keep62_9 : X.keep 62 9 = some [0, 6, 34] := by kernel_rfl
@[simp] theorem keep62_10 : X.keep 62 10 = some [0, 6] := by kernel_rfl
@[simp] theorem keep62_11 : X.keep 62 11 = some [0, 7] := by kernel_rfl
@[simp] theorem keep62_12 : X.keep 62 12 = some [0, 7, 40] := by kernel_rfl
@[simp] theorem keep62_13 : X.keep 62 13 = some [4] := by kernel_rfl
@[simp] theorem keep62_14 : X.keep 62 14 = some [0, 7, 42] := by kernel_rfl
@[simp] theorem keep62_15 : X.keep 62 15 = some [0, 7, 42, 43] := by kernel_rfl
@[simp] theorem keep62_16 : X.keep 62 16 = some [0, 7, 42, 43] := by kernel_rfl
@[simp] theorem keep62_17 : X.keep 62 17 = some [0, 7, 42, 43] := by kernel_rfl
@[simp] theorem keep62_18 : X.keep 62 18 = some [0, 7, 42, 43] := by kernel_rfl
@[simp] theorem keep62_19 : X.keep 62 19 = some [0, 7, 43] := by kernel_rfl
@[simp] theorem keep62_20 : X.keep 62 20 = some [0, 7, 49] := by kernel_rfl
@[simp] theorem keep62_21 : X.keep 62 21 = some [4] := by kernel_rfl
@[simp] theorem keep62_22 : X.keep 62 22 = some [0, 7, 58] := by kernel_rfl
@[simp] theorem keep62_23 : X.keep 62 23 = some [4] := by kernel_rfl
@[simp] theorem keep62_24 : X.keep 62 24 = some [0, 7, 67] := by kernel_rfl
@[simp] theorem keep62_25 : X.keep 62 25 = some [4] := by kernel_rfl
@[simp] theorem keep62_26 : X.keep 62 26 = some [0, 7, 76] := by kernel_rfl
@[simp] theorem keep62_27 : X.keep 62 27 = some [4] := by kernel_rfl
@[simp] theorem keep62_28 : X.keep 62 28 = some [0, 7, 85] := by kernel_rfl
@[simp] theorem keep62_29 : X.keep 62 29 = some [4] := by kernel_rfl
@[simp] theorem keep62_30 : X.keep 62 30 = some [0, 7, 8] := by kernel_rfl
@[simp] theorem keep62_31 : X.keep 62 31 = some [0, 7, 8, 96] := by kernel_rfl
@[simp] theorem keep62_32 : X.keep 62 32 = some [0, 7, 8] := by kernel_rfl
@[simp] theorem keep62_33 : X.keep 62 33 = some [0, 7, 8, 104] := by kernel_rfl
@[simp] theorem keep62_34 : X.keep 62 34 = some [0, 7, 8] := by kernel_rfl
@[simp] theorem keep62_35 : X.keep 62 35 = some [0, 7, 8, 9] := by kernel_rfl
@[simp] theorem keep62_36 : X.keep 62 36 = some [0, 7, 8, 9] := by kernel_rfl
@[simp] theorem keep62_37 : X.keep 62 37 = some [7, 8, 9] := by kernel_rfl
@[simp] theorem keep62_38 : X.keep 62 38 = some [7, 8, 9, 113] := by kernel_rfl
@[simp] theorem keep62_39 : X.keep 62 39 = some [7, 8, 9, 10] := by kernel_rfl
@[simp] theorem keep62_40 : X.keep 62 40 = some [7, 8, 9] := by kernel_rfl
@[simp] theorem keep62_41 : X.keep 62 41 = some [4] := by kernel_rfl
@[simp] theorem keep63_0 : X.keep 63 0 = some [0] := by kernel_rfl
@[simp] theorem keep63_1 : X.keep 63 1 = some [2] := by kernel_rfl
@[simp] theorem keep64_0 : X.keep 64 0 = some [0, 2] := by kernel_rfl
@[simp] theorem keep64_1 : X.keep 64 1 = some [0, 2, 4] := by kernel_rfl
@[simp] theorem keep64_2 : X.keep 64 2 = some [0] := by kernel_rfl
@[simp] theorem keep64_3 : X.keep 64 3 = some [0, 2] := by kernel_rfl
@[simp] theorem keep64_4 : X.keep 64 4 = some [0, 2, 8] := by kernel_rfl
@[simp] theorem keep64_5 : X.keep 64 5 = some [0, 2] := by kernel_rfl
@[simp] theorem keep64_6 : X.keep 64 6 = some [0, 2] := by kernel_rfl
@[simp] theorem keep64_7 : X.keep 64 7 = some [0, 2, 14] := by kernel_rfl
@[simp] theorem keep64_8 : X.keep 64 8 = some [0, 2] := by kernel_rfl
@[simp] theorem keep64_9 : X.keep 64 9 = some [0, 2] := by kernel_rfl
@[simp] theorem keep64_10 : X.keep 64 10 = some [2] := by kernel_rfl
@[simp] theorem keep65_0 : X.keep 65 0 = some [0] := by kernel_rfl
@[simp] theorem keep65_1 : X.keep 65 1 = some [3] := by kernel_rfl
@[simp] theorem keep65_2 : X.keep 65 2 = some [2] := by kernel_rfl
@[simp] theorem keep65_3 : X.keep 65 3 = some [2] := by kernel_rfl
@[simp] theorem keep68_0 : X.keep 68 0 = some [0] := by kernel_rfl
@[simp] theorem keep68_1 : X.keep 68 1 = some [2] := by kernel_rfl
@[simp] theorem keep70_0 : X.keep 70 0 = some [0, 1] := by kernel_rfl
@[simp] theorem keep70_1 : X.keep 70 1 = some [4] := by kernel_rfl
@[simp] theorem keep71_0 : X.keep 71 0 = some [0, 1] := by kernel_rfl
@[simp] theorem keep71_1 : X.keep 71 1 = some [0, 1, 7] := by kernel_rfl
@[simp] theorem keep71_2 : X.keep 71 2 = some [0, 1] := by kernel_rfl
@[simp] theorem keep71_3 : X.keep 71 3 = some [0, 1, 21] := by kernel_rfl
@[simp] theorem keep71_4 : X.keep 71 4 = some [] := by kernel_rfl
@[simp] theorem keep72_0 : X.keep 72 0 = some [0, 1] := by kernel_rfl
@[simp] theorem keep72_1 : X.keep 72 1 = some [0, 1] := by kernel_rfl
@[simp] theorem keep72_2 : X.keep 72 2 = some [1] := by kernel_rfl
@[simp] theorem keep72_3 : X.keep 72 3 = some [4, 5] := by kernel_rfl
@[simp] theorem keep73_0 : X.keep 73 0 = some [0] := by kernel_rfl
@[simp] theorem keep73_1 : X.keep 73 1 = some [2] := by kernel_rfl
@[simp] theorem keep74_0 : X.keep 74 0 = some [0] := by kernel_rfl
@[simp] theorem keep74_1 : X.keep 74 1 = some [2] := by kernel_rfl
@[simp] theorem keep80_0 : X.keep 80 0 = some [0, 6] := by kernel_rfl
@[simp] theorem keep80_1 : X.keep 80 1 = some [] := by kernel_rfl
@[simp] theorem keep80_2 : X.keep 80 2 = some [19] := by kernel_rfl
@[simp] theorem keep81_0 : X.keep 81 0 = some [0, 4] := by kernel_rfl
@[simp] theorem keep81_1 : X.keep 81 1 = some [0, 4] := by kernel_rfl
@[simp] theorem keep81_2 : X.keep 81 2 = some [] := by kernel_rfl
@[simp] theorem dy3_5 : X.dy 3 5 = true := by kernel_rfl
@[simp] theorem dy3_9 : X.dy 3 9 = true := by kernel_rfl
@[simp] theorem dy4_14 : X.dy 4 14 = false := by kernel_rfl
@[simp] theorem dy4_15 : X.dy 4 15 = false := by kernel_rfl
@[simp] theorem dy7_7 : X.dy 7 7 = true := by kernel_rfl
@[simp] theorem dy7_11 : X.dy 7 11 = true := by kernel_rfl
@[simp] theorem dy11_11 : X.dy 11 11 = true := by kernel_rfl
@[simp] theorem dy11_13 : X.dy 11 13 = true := by kernel_rfl
@[simp] theorem dy11_16 : X.dy 11 16 = true := by kernel_rfl
@[simp] theorem dy21_10 : X.dy 21 10 = true := by kernel_rfl
@[simp] theorem dy21_19 : X.dy 21 19 = true := by kernel_rfl
@[simp] theorem dy25_6 : X.dy 25 6 = true := by kernel_rfl
@[simp] theorem dy25_9 : X.dy 25 9 = true := by kernel_rfl
@[simp] theorem dy29_1 : X.dy 29 1 = true := by kernel_rfl
@[simp] theorem dy29_7 : X.dy 29 7 = true := by kernel_rfl
@[simp] theorem dy31_1 : X.dy 31 1 = true := by kernel_rfl
@[simp] theorem dy36_19 : X.dy 36 19 = false := by kernel_rfl
@[simp] theorem dy36_24 : X.dy 36 24 = true := by kernel_rfl
@[simp] theorem dy59_7 : X.dy 59 7 = false := by kernel_rfl
@[simp] theorem dy59_8 : X.dy 59 8 = false := by kernel_rfl
@[simp] theorem dy59_9 : X.dy 59 9 = false := by kernel_rfl
@[simp] theorem dy59_10 : X.dy 59 10 = false := by kernel_rfl
@[simp] theorem dy59_17 : X.dy 59 17 = false := by kernel_rfl
@[simp] theorem dy59_18 : X.dy 59 18 = false := by kernel_rfl
@[simp] theorem dy59_23 : X.dy 59 23 = false := by kernel_rfl
@[simp] theorem dy71_3 : X.dy 71 3 = false := by kernel_rfl
@[simp] theorem dy74_1 : X.dy 74 1 = true := by kernel_rfl
@[simp] theorem dy81_0 : X.dy 81 0 = true := by kernel_rfl
@[simp] theorem size0 : sizeT X 0 = 1 := by kernel_rfl
@[simp] theorem bytes0 : bytesT X 0 = 0 := by kernel_rfl
@[simp] theorem okT0 : okT X 0 = true := by kernel_rfl
@[simp] theorem isAgg0 : isAggT X 0 = false := by kernel_rfl
@[simp] theorem isInt0 : isIntT X 0 = false := by kernel_rfl
@[simp] theorem isArr0 : isArrT X 0 = false := by kernel_rfl
@[simp] theorem isU80 : isU8 X 0 = false := by kernel_rfl
@[simp] theorem zok0 : zeroOk X 0 = true := by kernel_rfl
@[simp] theorem und2 : und X 2 = .int .i64 := by kernel_rfl
@[simp] theorem size2 : sizeT X 2 = 1 := by kernel_rfl
@[simp] theorem bytes2 : bytesT X 2 = 8 := by kernel_rfl
@[simp] theorem okT2 : okT X 2 = true := by kernel_rfl
@[simp] theorem isAgg2 : isAggT X 2 = false := by kernel_rfl
@[simp] theorem isInt2 : isIntT X 2 = true := by kernel_rfl
@[simp] theorem isArr2 : isArrT X 2 = false := by kernel_rfl
@[simp] theorem isU82 : isU8 X 2 = false := by kernel_rfl
@[simp] theorem zok2 : zeroOk X 2 = true := by kernel_rfl
@[simp] theorem zero2 : zeroAV X 2 = .int .i64 0 := by kernel_rfl
@[simp] theorem und3 : und X 3 = .int .i64 := by kernel_rfl
@[simp] theorem size3 : sizeT X 3 = 1 := by kernel_rfl
@[simp] theorem bytes3 : bytesT X 3 = 8 := by kernel_rfl
@[simp] theorem okT3 : okT X 3 = true := by kernel_rfl
@[simp] theorem isAgg3 : isAggT X 3 = false := by kernel_rfl
@[simp] theorem isInt3 : isIntT X 3 = true := by kernel_rfl
@[simp] theorem isArr3 : isArrT X 3 = false := by kernel_rfl
@[simp] theorem isU83 : isU8 X 3 = false := by kernel_rfl
@[simp] theorem zok3 : zeroOk X 3 = true := by kernel_rfl
@[simp] theorem zero3 : zeroAV X 3 = .int .i64 0 := by kernel_rfl
@[simp] theorem und4 : und X 4 = .bool := by kernel_rfl
@[simp] theorem size4 : sizeT X 4 = 1 := by kernel_rfl
@[simp] theorem bytes4 : bytesT X 4 = 1 := by kernel_rfl
@[simp] theorem okT4 : okT X 4 = true := by kernel_rfl
@[simp] theorem isAgg4 : isAggT X 4 = false := by kernel_rfl
@[simp] theorem isInt4 : isIntT X 4 = false := by kernel_rfl
@[simp] theorem isArr4 : isArrT X 4 = false := by kernel_rfl
@[simp] theorem isU84 : isU8 X 4 = false := by kernel_rfl
@[simp] theorem zok4 : zeroOk X 4 = true := by kernel_rfl
@[simp] theorem zero4 : zeroAV X 4 = .bool false := by kernel_rfl
@[simp] theorem und5 : und X 5 = .int .u8 := by kernel_rfl
@[simp] theorem size5 : sizeT X 5 = 1 := by kernel_rfl
@[simp] theorem bytes5 : bytesT X 5 = 1 := by kernel_rfl
@[simp] theorem okT5 : okT X 5 = true := by kernel_rfl
@[simp] theorem isAgg5 : isAggT X 5 = false := by kernel_rfl
@[simp] theorem isInt5 : isIntT X 5 = true := by kernel_rfl
@[simp] theorem isArr5 : isArrT X 5 = false := by kernel_rfl
@[simp] theorem isU85 : isU8 X 5 = true := by kernel_rfl
@[simp] theorem zok5 : zeroOk X 5 = true := by kernel_rfl
@[simp] theorem zero5 : zeroAV X 5 = .int .u8 0 := by kernel_rfl
@[simp] theorem und9 : und X 9 = .string := by kernel_rfl
@[simp] theorem size9 : sizeT X 9 = 1 := by kernel_rfl
@[simp] theorem bytes9 : bytesT X 9 = 16 := by kernel_rfl
@[simp] theorem okT9 : okT X 9 = true := by kernel_rfl
@[simp] theorem isAgg9 : isAggT X 9 = false := by kernel_rfl
@[simp] theorem isInt9 : isIntT X 9 = false := by kernel_rfl
@[simp] theorem isArr9 : isArrT X 9 = false := by kernel_rfl
@[simp] theorem isU89 : isU8 X 9 = false := by kernel_rfl
@[simp] theorem zok9 : zeroOk X 9 = true := by kernel_rfl
@[simp] theorem zero9 : zeroAV X 9 = .str [] := by kernel_rfl
@[simp] theorem size20 : sizeT X 20 = 1 := by kernel_rfl
@[simp] theorem bytes20 : bytesT X 20 = 16 := by kernel_rfl
@[simp] theorem okT20 : okT X 20 = true := by kernel_rfl
@[simp] theorem isAgg20 : isAggT X 20 = false := by kernel_rfl
@[simp] theorem isInt20 : isIntT X 20 = false := by kernel_rfl
@[simp] theorem isArr20 : isArrT X 20 = false := by kernel_rfl
@[simp] theorem isU820 : isU8 X 20 = false := by kernel_rfl
@[simp] theorem zok20 : zeroOk X 20 = true := by kernel_rfl
@[simp] theorem und22 : und X 22 = .slice 5 := by kernel_rfl
@[simp] theorem size22 : sizeT X 22 = 1 := by kernel_rfl
@[simp] theorem bytes22 : bytesT X 22 = 24 := by kernel_rfl
@[simp] theorem okT22 : okT X 22 = true := by kernel_rfl
@[simp] theorem isAgg22 : isAggT X 22 = false := by kernel_rfl
@[simp] theorem isInt22 : isIntT X 22 = false := by kernel_rfl
@[simp] theorem isArr22 : isArrT X 22 = false := by kernel_rfl
@[simp] theorem isU822 : isU8 X 22 = false := by kernel_rfl
@[simp] theorem zok22 : zeroOk X 22 = true := by kernel_rfl
@[simp] theorem zero22 : zeroAV X 22 = .ro 0 .pn 0 := by kernel_rfl
@[simp] theorem und23 : und X 23 = .int .u64 := by kernel_rfl
@[simp] theorem size23 : sizeT X 23 = 1 := by kernel_rfl
@[simp] theorem bytes23 : bytesT X 23 = 8 := by kernel_rfl
@[simp] theorem okT23 : okT X 23 = true := by kernel_rfl
@[simp] theorem isAgg23 : isAggT X 23 = false := by kernel_rfl
@[simp] theorem isInt23 : isIntT X 23 = true := by kernel_rfl
@[simp] theorem isArr23 : isArrT X 23 = false := by kernel_rfl
@[simp] theorem isU823 : isU8 X 23 = false := by kernel_rfl
@[simp] theorem zok23 : zeroOk X 23 = true := by kernel_rfl
@[simp] theorem zero23 : zeroAV X 23 = .int .u64 0 := by kernel_rfl
@[simp] theorem size25 : sizeT X 25 = 8 := by kernel_rfl
@[simp] theorem bytes25 : bytesT X 25 = 64 := by kernel_rfl
@[simp] theorem okT25 : okT X 25 = true := by kernel_rfl
@[simp] theorem isAgg25 : isAggT X 25 = true := by kernel_rfl
@[simp] theorem isInt25 : isIntT X 25 = false := by kernel_rfl
@[simp] theorem isArr25 : isArrT X 25 = false := by kernel_rfl
@[simp] theorem isU825 : isU8 X 25 = false := by kernel_rfl
@[simp] theorem zok25 : zeroOk X 25 = true := by kernel_rfl
@[simp] theorem zero25 : zeroAV X 25 = .agg (.pc [.bool false, .int .i64 0, .int .i64 0, .int .i64 0, .int .i64 0, .int .i64 0, .int .i64 0, .int .i64 0]) := by kernel_rfl
@[simp] theorem size27 : sizeT X 27 = 12 := by kernel_rfl
@[simp] theorem bytes27 : bytesT X 27 = 104 := by kernel_rfl
@[simp] theorem okT27 : okT X 27 = true := by kernel_rfl
@[simp] theorem isAgg27 : isAggT X 27 = true := by kernel_rfl
@[simp] theorem isInt27 : isIntT X 27 = false := by kernel_rfl
@[simp] theorem isArr27 : isArrT X 27 = false := by kernel_rfl
@[simp] theorem isU827 : isU8 X 27 = false := by kernel_rfl
@[simp] theorem zok27 : zeroOk X 27 = true := by kernel_rfl
@[simp] theorem zero27 : zeroAV X 27 = .agg (.pc [.int .i64 0, .int .i64 0, .int .u64 0, .str [], .bool false, .int .i64 0, .int .i64 0, .int .i64 0, .int .i64 0, .int .i64 0, .int .i64 0, .int .i64 0]) := by kernel_rfl
@[simp] theorem size29 : sizeT X 29 = 2 := by kernel_rfl
@[simp] theorem bytes29 : bytesT X 29 = 2 := by kernel_rfl
@[simp] theorem okT29 : okT X 29 = true := by kernel_rfl
@[simp] theorem isAgg29 : isAggT X 29 = true := by kernel_rfl
@[simp] theorem isInt29 : isIntT X 29 = false := by kernel_rfl
@[simp] theorem isArr29 : isArrT X 29 = false := by kernel_rfl
@[simp] theorem isU829 : isU8 X 29 = false := by kernel_rfl
@[simp] theorem zok29 : zeroOk X 29 = true := by kernel_rfl
@[simp] theorem zero29 : zeroAV X 29 = .agg (.pc [.int .u8 0, .bool false]) := by kernel_rfl
@[simp] theorem und31 : und X 31 = .int .i64 := by kernel_rfl
@[simp] theorem size31 : sizeT X 31 = 1 := by kernel_rfl
@[simp] theorem bytes31 : bytesT X 31 = 8 := by kernel_rfl
@[simp] theorem okT31 : okT X 31 = true := by kernel_rfl
@[simp] theorem isAgg31 : isAggT X 31 = false := by kernel_rfl
@[simp] theorem isInt31 : isIntT X 31 = true := by kernel_rfl
@[simp] theorem isArr31 : isArrT X 31 = false := by kernel_rfl
@[simp] theorem isU831 : isU8 X 31 = false := by kernel_rfl
@[simp] theorem zok31 : zeroOk X 31 = true := by kernel_rfl
@[simp] theorem zero31 : zeroAV X 31 = .int .i64 0 := by kernel_rfl
@[simp] theorem size32 : sizeT X 32 = 1 := by kernel_rfl
@[simp] theorem bytes32 : bytesT X 32 = 0 := by kernel_rfl
@[simp] theorem okT32 : okT X 32 = true := by kernel_rfl
@[simp] theorem isAgg32 : isAggT X 32 = false := by kernel_rfl
@[simp] theorem isInt32 : isIntT X 32 = false := by kernel_rfl
@[simp] theorem isArr32 : isArrT X 32 = false := by kernel_rfl
@[simp] theorem isU832 : isU8 X 32 = false := by kernel_rfl
@[simp] theorem zok32 : zeroOk X 32 = true := by kernel_rfl
@[simp] theorem size35 : sizeT X 35 = 1 := by kernel_rfl
@[simp] theorem bytes35 : bytesT X 35 = 0 := by kernel_rfl
@[simp] theorem okT35 : okT X 35 = true := by kernel_rfl
@[simp] theorem isAgg35 : isAggT X 35 = false := by kernel_rfl
@[simp] theorem isInt35 : isIntT X 35 = false := by kernel_rfl
@[simp] theorem isArr35 : isArrT X 35 = false := by kernel_rfl
@[simp] theorem isU835 : isU8 X 35 = false := by kernel_rfl
@[simp] theorem zok35 : zeroOk X 35 = true := by kernel_rfl
@[simp] theorem und41 : und X 41 = .slice 3 := by kernel_rfl
@[simp] theorem size41 : sizeT X 41 = 1 := by kernel_rfl
@[simp] theorem bytes41 : bytesT X 41 = 24 := by kernel_rfl
@[simp] theorem okT41 : okT X 41 = true := by kernel_rfl
@[simp] theorem isAgg41 : isAggT X 41 = false := by kernel_rfl
@[simp] theorem isInt41 : isIntT X 41 = false := by kernel_rfl
@[simp] theorem isArr41 : isArrT X 41 = false := by kernel_rfl
@[simp] theorem isU841 : isU8 X 41 = false := by kernel_rfl
@[simp] theorem zok41 : zeroOk X 41 = true := by kernel_rfl
@[simp] theorem zero41 : zeroAV X 41 = .ro 0 .pn 0 := by kernel_rfl
@[simp] theorem size43 : sizeT X 43 = 1 := by kernel_rfl
@[simp] theorem bytes43 : bytesT X 43 = 0 := by kernel_rfl
@[simp] theorem okT43 : okT X 43 = true := by kernel_rfl
@[simp] theorem isAgg43 : isAggT X 43 = false := by kernel_rfl
@[simp] theorem isInt43 : isIntT X 43 = false := by kernel_rfl
@[simp] theorem isArr43 : isArrT X 43 = false := by kernel_rfl
@[simp] theorem isU843 : isU8 X 43 = false := by kernel_rfl
@[simp] theorem zok43 : zeroOk X 43 = true := by kernel_rfl
@[simp] theorem und50 : und X 50 = .int .u64 := by kernel_rfl
@[simp] theorem size50 : sizeT X 50 = 1 := by kernel_rfl
@[simp] theorem bytes50 : bytesT X 50 = 8 := by kernel_rfl
@[simp] theorem okT50 : okT X 50 = true := by kernel_rfl
@[simp] theorem isAgg50 : isAggT X 50 = false := by kernel_rfl
@[simp] theorem isInt50 : isIntT X 50 = true := by kernel_rfl
@[simp] theorem isArr50 : isArrT X 50 = false := by kernel_rfl
@[simp] theorem isU850 : isU8 X 50 = false := by kernel_rfl
@[simp] theorem zok50 : zeroOk X 50 = true := by kernel_rfl
@[simp] theorem zero50 : zeroAV X 50 = .int .u64 0 := by kernel_rfl
@[simp] theorem size57 : sizeT X 57 = 1 := by kernel_rfl
@[simp] theorem bytes57 : bytesT X 57 = 0 := by kernel_rfl
@[simp] theorem okT57 : okT X 57 = true := by kernel_rfl
@[simp] theorem isAgg57 : isAggT X 57 = false := by kernel_rfl
@[simp] theorem isInt57 : isIntT X 57 = false := by kernel_rfl
@[simp] theorem isArr57 : isArrT X 57 = false := by kernel_rfl
@[simp] theorem isU857 : isU8 X 57 = false := by kernel_rfl
@[simp] theorem zok57 : zeroOk X 57 = true := by kernel_rfl
@[simp] theorem size59 : sizeT X 59 = 1 := by kernel_rfl
@[simp] theorem bytes59 : bytesT X 59 = 0 := by kernel_rfl
@[simp] theorem okT59 : okT X 59 = true := by kernel_rfl
@[simp] theorem isAgg59 : isAggT X 59 = false := by kernel_rfl
@[simp] theorem isInt59 : isIntT X 59 = false := by kernel_rfl
@[simp] theorem isArr59 : isArrT X 59 = false := by kernel_rfl
@[simp] theorem isU859 : isU8 X 59 = false := by kernel_rfl
@[simp] theorem zok59 : zeroOk X 59 = true := by kernel_rfl
@[simp] theorem size61 : sizeT X 61 = 1 := by kernel_rfl
@[simp] theorem bytes61 : bytesT X 61 = 0 := by kernel_rfl
@[simp] theorem okT61 : okT X 61 = true := by kernel_rfl
@[simp] theorem isAgg61 : isAggT X 61 = false := by kernel_rfl
@[simp] theorem isInt61 : isIntT X 61 = false := by kernel_rfl
@[simp] theorem isArr61 : isArrT X 61 = false := by kernel_rfl
@[simp] theorem isU861 : isU8 X 61 = false := by kernel_rfl
@[simp] theorem zok61 : zeroOk X 61 = true := by kernel_rfl
@[simp] theorem und68 : und X 68 = .array 256 9 := by kernel_rfl
@[simp] theorem size68 : sizeT X 68 = 256 := by kernel_rfl
@[simp] theorem bytes68 : bytesT X 68 = 4096 := by kernel_rfl
@[simp] theorem okT68 : okT X 68 = true := by kernel_rfl
@[simp] theorem isAgg68 : isAggT X 68 = true := by kernel_rfl
@[simp] theorem isInt68 : isIntT X 68 = false := by kernel_rfl
@[simp] theorem isArr68 : isArrT X 68 = true := by kernel_rfl
@[simp] theorem isU868 : isU8 X 68 = false := by kernel_rfl
@[simp] theorem zok68 : zeroOk X 68 = true := by kernel_rfl
@[simp] theorem zero68 : zeroAV X 68 = .agg (.pc [.str [], .str [], .str [], .str [], .str [], .str [], .str [], .str [], .str [], .str [], .str [], .str [], .str [], .str [], .str [], .str [], .str [], .str [], .str [], .str [], .str [], .str [], .str [], .str [], .str [], .str [], .str [], .str [], .str [], .str [], .str [], .str [], .str [], .str [], .str [], .str [], .str [], .str [], .str [], .str [], .str [], .str [], .str [], .str [], .str [], .str [], .str [], .str [], .str [], .str [], .str [], .str [], .str [], .str [], .str [], .str [], .str [], .str [], .str [], .str [], .str [], .str [], .str [], .str [], .str [], .str [], .str [], .str [], .str [], .str [], .str [], .str [], .str [], .str [], .str [], .str [], .str [], .str [], .str [], .str [], .str [], .str [], .str [], .str [], .str [], .str [], .str [], .str [], .str [], .str [], .str [], .str [], .str [], .str [], .str [], .str [], .str [], .str [], .str [], .str [], .str [], .str [], .str [], .str [], .str [], .str [], .str [], .str [], .str [], .str [], .str [], .str [], .str [], .str [], .str [], .str [], .str [], .str [], .str [], .str [], .str [], .str [], .str [], .str [], .str [], .str [], .str [], .str [], .str [], .str [], .str [], .str [], .str [], .str [], .str [], .str [], .str [], .str [], .str [], .str [], .str [], .str [], .str [], .str [], .str [], .str [], .str [], .str [], .str [], .str [], .str [], .str [], .str [], .str [], .str [], .str [], .str [], .str [], .str [], .str [], .str [], .str [], .str [], .str [], .str [], .str [], .str [], .str [], .str [], .str [], .str [], .str [], .str [], .str [], .str [], .str [], .str [], .str [], .str [], .str [], .str [], .str [], .str [], .str [], .str [], .str [], .str [], .str [], .str [], .str [], .str [], .str [], .str [], .str [], .str [], .str [], .str [], .str [], .str [], .str [], .str [], .str [], .str [], .str [], .str [], .str [], .str [], .str [], .str [], .str [], .str [], .str [], .str [], .str [], .str [], .str [], .str [], .str [], .str [], .str [], .str [], .str [], .str [], .str [], .str [], .str [], .str [], .str [], .str [], .str [], .str [], .str [], .str [], .str [], .str [], .str [], .str [], .str [], .str [], .str [], .str [], .str [], .str [], .str [], .str [], .str [], .str [], .str [], .str [], .str [], .str [], .str [], .str [], .str [], .str [], .str []]) := by kernel_rfl
@[simp] theorem size72 : sizeT X 72 = 1 := by kernel_rfl
@[simp] theorem bytes72 : bytesT X 72 = 8 := by kernel_rfl
@[simp] theorem okT72 : okT X 72 = true := by kernel_rfl
@[simp] theorem isAgg72 : isAggT X 72 = false := by kernel_rfl
@[simp] theorem isInt72 : isIntT X 72 = false := by kernel_rfl
@[simp] theorem isArr72 : isArrT X 72 = false := by kernel_rfl
@[simp] theorem isU872 : isU8 X 72 = false := by kernel_rfl
@[simp] theorem zok72 : zeroOk X 72 = true := by kernel_rfl
@[simp] theorem zero72 : zeroAV X 72 = .nilfn := by kernel_rfl
@[simp] theorem size73 : sizeT X 73 = 1 := by kernel_rfl
@[simp] theorem bytes73 : bytesT X 73 = 0 := by kernel_rfl
@[simp] theorem okT73 : okT X 73 = true := by kernel_rfl
@[simp] theorem isAgg73 : isAggT X 73 = false := by kernel_rfl
@[simp] theorem isInt73 : isIntT X 73 = false := by kernel_rfl
@[simp] theorem isArr73 : isArrT X 73 = false := by kernel_rfl
@[simp] theorem isU873 : isU8 X 73 = false := by kernel_rfl
@[simp] theorem zok73 : zeroOk X 73 = true := by kernel_rfl
@[simp] theorem size75 : sizeT X 75 = 1 := by kernel_rfl
@[simp] theorem bytes75 : bytesT X 75 = 0 := by kernel_rfl
@[simp] theorem okT75 : okT X 75 = true := by kernel_rfl
@[simp] theorem isAgg75 : isAggT X 75 = false := by kernel_rfl
@[simp] theorem isInt75 : isIntT X 75 = false := by kernel_rfl
@[simp] theorem isArr75 : isArrT X 75 = false := by kernel_rfl
@[simp] theorem isU875 : isU8 X 75 = false := by kernel_rfl
@[simp] theorem zok75 : zeroOk X 75 = true := by kernel_rfl
@[simp] theorem und78 : und X 78 = .array 24 5 := by kernel_rfl
@[simp] theorem size78 : sizeT X 78 = 24 := by kernel_rfl
@[simp] theorem bytes78 : bytesT X 78 = 24 := by kernel_rfl
@[simp] theorem okT78 : okT X 78 = true := by kernel_rfl
@[simp] theorem isAgg78 : isAggT X 78 = true := by kernel_rfl
@[simp] theorem isInt78 : isIntT X 78 = false := by kernel_rfl
@[simp] theorem isArr78 : isArrT X 78 = true := by kernel_rfl
@[simp] theorem isU878 : isU8 X 78 = false := by kernel_rfl
@[simp] theorem zok78 : zeroOk X 78 = true := by kernel_rfl
@[simp] theorem zero78 : zeroAV X 78 = .agg (.pb [0, 0, 0, 0, 0, 0, 0, 0, 0, 0, 0, 0, 0, 0, 0, 0, 0, 0, 0, 0, 0, 0, 0, 0]) := by kernel_rfl
@[simp] theorem size80 : sizeT X 80 = 1 := by kernel_rfl
@[simp] theorem bytes80 : bytesT X 80 = 0 := by kernel_rfl
@[simp] theorem okT80 : okT X 80 = true := by kernel_rfl
@[simp] theorem isAgg80 : isAggT X 80 = false := by kernel_rfl
@[simp] theorem isInt80 : isIntT X 80 = false := by kernel_rfl
@[simp] theorem isArr80 : isArrT X 80 = false := by kernel_rfl
@[simp] theorem isU880 : isU8 X 80 = false := by kernel_rfl
@[simp] theorem zok80 : zeroOk X 80 = true := by kernel_rfl
@[simp] theorem und83 : und X 83 = .slice 9 := by kernel_rfl
@[simp] theorem size83 : sizeT X 83 = 1 := by kernel_rfl
@[simp] theorem bytes83 : bytesT X 83 = 24 := by kernel_rfl
@[simp] theorem okT83 : okT X 83 = true := by kernel_rfl
@[simp] theorem isAgg83 : isAggT X 83 = false := by kernel_rfl
@[simp] theorem isInt83 : isIntT X 83 = false := by kernel_rfl
@[simp] theorem isArr83 : isArrT X 83 = false := by kernel_rfl
@[simp] theorem isU883 : isU8 X 83 = false := by kernel_rfl
@[simp] theorem zok83 : zeroOk X 83 = true := by kernel_rfl
@[simp] theorem zero83 : zeroAV X 83 = .ro 0 .pn 0 := by kernel_rfl
@[simp] theorem und86 : und X 86 = .array 20 23 := by kernel_rfl
@[simp] theorem size86 : sizeT X 86 = 20 := by kernel_rfl
@[simp] theorem bytes86 : bytesT X 86 = 160 := by kernel_rfl
@[simp] theorem okT86 : okT X 86 = true := by kernel_rfl
@[simp] theorem isAgg86 : isAggT X 86 = true := by kernel_rfl
@[simp] theorem isInt86 : isIntT X 86 = false := by kernel_rfl
@[simp] theorem isArr86 : isArrT X 86 = true := by kernel_rfl
@[simp] theorem isU886 : isU8 X 86 = false := by kernel_rfl
@[simp] theorem zok86 : zeroOk X 86 = true := by kernel_rfl
@[simp] theorem zero86 : zeroAV X 86 = .agg (.pi .u64 [0, 0, 0, 0, 0, 0, 0, 0, 0, 0, 0, 0, 0, 0, 0, 0, 0, 0, 0, 0]) := by kernel_rfl
@[simp] theorem und87 : und X 87 = .int .u32 := by kernel_rfl
@[simp] theorem size87 : sizeT X 87 = 1 := by kernel_rfl
@[simp] theorem bytes87 : bytesT X 87 = 4 := by kernel_rfl
@[simp] theorem okT87 : okT X 87 = true := by kernel_rfl
@[simp] theorem isAgg87 : isAggT X 87 = false := by kernel_rfl
@[simp] theorem isInt87 : isIntT X 87 = true := by kernel_rfl
@[simp] theorem isArr87 : isArrT X 87 = false := by kernel_rfl
@[simp] theorem isU887 : isU8 X 87 = false := by kernel_rfl
@[simp] theorem zok87 : zeroOk X 87 = true := by kernel_rfl
@[simp] theorem zero87 : zeroAV X 87 = .int .u32 0 := by kernel_rfl
@[simp] theorem size91 : sizeT X 91 = 1 := by kernel_rfl
@[simp] theorem bytes91 : bytesT X 91 = 0 := by kernel_rfl
@[simp] theorem okT91 : okT X 91 = true := by kernel_rfl
@[simp] theorem isAgg91 : isAggT X 91 = false := by kernel_rfl
@[simp] theorem isInt91 : isIntT X 91 = false := by kernel_rfl
@[simp] theorem isArr91 : isArrT X 91 = false := by kernel_rfl
@[simp] theorem isU891 : isU8 X 91 = false := by kernel_rfl
@[simp] theorem zok91 : zeroOk X 91 = true := by kernel_rfl
@[simp] theorem und94 : und X 94 = .pointer 96 := by kernel_rfl
@[simp] theorem size94 : sizeT X 94 = 1 := by kernel_rfl
@[simp] theorem bytes94 : bytesT X 94 = 8 := by kernel_rfl
@[simp] theorem okT94 : okT X 94 = true := by kernel_rfl
@[simp] theorem isAgg94 : isAggT X 94 = false := by kernel_rfl
@[simp] theorem isInt94 : isIntT X 94 = false := by kernel_rfl
@[simp] theorem isArr94 : isArrT X 94 = false := by kernel_rfl
@[simp] theorem isU894 : isU8 X 94 = false := by kernel_rfl
@[simp] theorem zok94 : zeroOk X 94 = true := by kernel_rfl
@[simp] theorem zero94 : zeroAV X 94 = .nilptr := by kernel_rfl
@[simp] theorem size96 : sizeT X 96 = 2 := by kernel_rfl
@[simp] theorem bytes96 : bytesT X 96 = 32 := by kernel_rfl
@[simp] theorem okT96 : okT X 96 = true := by kernel_rfl
@[simp] theorem isAgg96 : isAggT X 96 = true := by kernel_rfl
@[simp] theorem isInt96 : isIntT X 96 = false := by kernel_rfl
@[simp] theorem isArr96 : isArrT X 96 = false := by kernel_rfl
@[simp] theorem isU896 : isU8 X 96 = false := by kernel_rfl
@[simp] theorem zok96 : zeroOk X 96 = true := by kernel_rfl
@[simp] theorem zero96 : zeroAV X 96 = .agg (.pc [.nilptr, .ro 0 .pn 0]) := by kernel_rfl
@[simp] theorem size99 : sizeT X 99 = 1 := by kernel_rfl
@[simp] theorem bytes99 : bytesT X 99 = 16 := by kernel_rfl
@[simp] theorem okT99 : okT X 99 = true := by kernel_rfl
@[simp] theorem isAgg99 : isAggT X 99 = false := by kernel_rfl
@[simp] theorem isInt99 : isIntT X 99 = false := by kernel_rfl
@[simp] theorem isArr99 : isArrT X 99 = false := by kernel_rfl
@[simp] theorem isU899 : isU8 X 99 = false := by kernel_rfl
@[simp] theorem zok99 : zeroOk X 99 = true := by kernel_rfl
@[simp] theorem size100 : sizeT X 100 = 1 := by kernel_rfl
@[simp] theorem bytes100 : bytesT X 100 = 0 := by kernel_rfl
@[simp] theorem okT100 : okT X 100 = true := by kernel_rfl
@[simp] theorem isAgg100 : isAggT X 100 = false := by kernel_rfl
@[simp] theorem isInt100 : isIntT X 100 = false := by kernel_rfl
@[simp] theorem isArr100 : isArrT X 100 = false := by kernel_rfl
@[simp] theorem isU8100 : isU8 X 100 = false := by kernel_rfl
@[simp] theorem zok100 : zeroOk X 100 = true := by kernel_rfl
@[simp] theorem und109 : und X 109 = .pointer 5 := by kernel_rfl
@[simp] theorem size109 : sizeT X 109 = 1 := by kernel_rfl
@[simp] theorem bytes109 : bytesT X 109 = 8 := by kernel_rfl
@[simp] theorem okT109 : okT X 109 = true := by kernel_rfl
@[simp] theorem isAgg109 : isAggT X 109 = false := by kernel_rfl
@[simp] theorem isInt109 : isIntT X 109 = false := by kernel_rfl
@[simp] theorem isArr109 : isArrT X 109 = false := by kernel_rfl
@[simp] theorem isU8109 : isU8 X 109 = false := by kernel_rfl
@[simp] theorem zok109 : zeroOk X 109 = true := by kernel_rfl
@[simp] theorem zero109 : zeroAV X 109 = .nilptr := by kernel_rfl
@[simp] theorem size112 : sizeT X 112 = 1 := by kernel_rfl
@[simp] theorem bytes112 : bytesT X 112 = 8 := by kernel_rfl
@[simp] theorem okT112 : okT X 112 = true := by kernel_rfl
@[simp] theorem isAgg112 : isAggT X 112 = false := by kernel_rfl
@[simp] theorem isInt112 : isIntT X 112 = false := by kernel_rfl
@[simp] theorem isArr112 : isArrT X 112 = false := by kernel_rfl
@[simp] theorem isU8112 : isU8 X 112 = false := by kernel_rfl
@[simp] theorem zok112 : zeroOk X 112 = true := by kernel_rfl
@[simp] theorem zero112 : zeroAV X 112 = .nilptr := by kernel_rfl
@[simp] theorem fa25_0 (H : AM.Heap) (x : AV) : fieldAddrV X H 25 x 0 = faV H x 0 := fieldAddr_of (ty := 4) (by kernel_rfl) (by kernel_rfl) H x
@[simp] theorem fv25_0 (x : AV) : fieldV X 25 x 0 = fvV X x 0 4 := field_of (by kernel_rfl) x
@[simp] theorem fa25_1 (H : AM.Heap) (x : AV) : fieldAddrV X H 25 x 1 = faV H x 1 := fieldAddr_of (ty := 3) (by kernel_rfl) (by kernel_rfl) H x
@[simp] theorem fv25_1 (x : AV) : fieldV X 25 x 1 = fvV X x 1 3 := field_of (by kernel_rfl) x
@[simp] theorem fa25_2 (H : AM.Heap) (x : AV) : fieldAddrV X H 25 x 2 = faV H x 2 := fieldAddr_of (ty := 3) (by kernel_rfl) (by kernel_rfl) H x
@[simp] theorem fv25_2 (x : AV) : fieldV X 25 x 2 = fvV X x 2 3 := field_of (by kernel_rfl) x
@[simp] theorem fa25_3 (H : AM.Heap) (x : AV) : fieldAddrV X H 25 x 3 = faV H x 3 := fieldAddr_of (ty := 3) (by kernel_rfl) (by kernel_rfl) H x
@[simp] theorem fv25_3 (x : AV) : fieldV X 25 x 3 = fvV X x 3 3 := field_of (by kernel_rfl) x
@[simp] theorem fa25_4 (H : AM.Heap) (x : AV) : fieldAddrV X H 25 x 4 = faV H x 4 := fieldAddr_of (ty := 3) (by kernel_rfl) (by kernel_rfl) H x
@[simp] theorem fv25_4 (x : AV) : fieldV X 25 x 4 = fvV X x 4 3 := field_of (by kernel_rfl) x
@[simp] theorem fa25_5 (H : AM.Heap) (x : AV) : fieldAddrV X H 25 x 5 = faV H x 5 := fieldAddr_of (ty := 3) (by kernel_rfl) (by kernel_rfl) H x
@[simp] theorem fv25_5 (x : AV) : fieldV X 25 x 5 = fvV X x 5 3 := field_of (by kernel_rfl) x
@[simp] theorem fa25_6 (H : AM.Heap) (x : AV) : fieldAddrV X H 25 x 6 = faV H x 6 := fieldAddr_of (ty := 3) (by kernel_rfl) (by kernel_rfl) H x
@[simp] theorem fv25_6 (x : AV) : fieldV X 25 x 6 = fvV X x 6 3 := field_of (by kernel_rfl) x
@[simp] theorem fa25_7 (H : AM.Heap) (x : AV) : fieldAddrV X H 25 x 7 = faV H x 7 := fieldAddr_of (ty := 3) (by kernel_rfl) (by kernel_rfl) H x
@[simp] theorem fv25_7 (x : AV) : fieldV X 25 x 7 = fvV X x 7 3 := field_of (by kernel_rfl) x
@[simp] theorem fa27_0 (H : AM.Heap) (x : AV) : fieldAddrV X H 27 x 0 = faV H x 0 := fieldAddr_of (ty := 3) (by kernel_rfl) (by kernel_rfl) H x
@[simp] theorem fv27_0 (x : AV) : fieldV X 27 x 0 = fvV X x 0 3 := field_of (by kernel_rfl) x
@[simp] theorem fa27_1 (H : AM.Heap) (x : AV) : fieldAddrV X H 27 x 1 = faV H x 1 := fieldAddr_of (ty := 2) (by kernel_rfl) (by kernel_rfl) H x
@[simp] theorem fv27_1 (x : AV) : fieldV X 27 x 1 = fvV X x 1 2 := field_of (by kernel_rfl) x
@[simp] theorem fa27_2 (H : AM.Heap) (x : AV) : fieldAddrV X H 27 x 2 = faV H x 2 := fieldAddr_of (ty := 23) (by kernel_rfl) (by kernel_rfl) H x
@[simp] theorem fv27_2 (x : AV) : fieldV X 27 x 2 = fvV X x 2 23 := field_of (by kernel_rfl) x
@[simp] theorem fa27_3 (H : AM.Heap) (x : AV) : fieldAddrV X H 27 x 3 = faV H x 3 := fieldAddr_of (ty := 9) (by kernel_rfl) (by kernel_rfl) H x
@[simp] theorem fv27_3 (x : AV) : fieldV X 27 x 3 = fvV X x 3 9 := field_of (by kernel_rfl) x
@[simp] theorem fa27_4 (H : AM.Heap) (x : AV) : fieldAddrV X H 27 x 4 = faV H x 4 := fieldAddr_of (ty := 25) (by kernel_rfl) (by kernel_rfl) H x
@[simp] theorem fv27_4 (x : AV) : fieldV X 27 x 4 = fvV X x 4 25 := field_of (by kernel_rfl) x
@[simp] theorem fa29_0 (H : AM.Heap) (x : AV) : fieldAddrV X H 29 x 0 = faV H x 0 := fieldAddr_of (ty := 5) (by kernel_rfl) (by kernel_rfl) H x
@[simp] theorem fv29_0 (x : AV) : fieldV X 29 x 0 = fvV X x 0 5 := field_of (by kernel_rfl) x
@[simp] theorem fa29_1 (H : AM.Heap) (x : AV) : fieldAddrV X H 29 x 1 = faV H x 1 := fieldAddr_of (ty := 4) (by kernel_rfl) (by kernel_rfl) H x
@[simp] theorem fv29_1 (x : AV) : fieldV X 29 x 1 = fvV X x 1 4 := field_of (by kernel_rfl) x
@[simp] theorem fa96_0 (H : AM.Heap) (x : AV) : fieldAddrV X H 96 x 0 = faV H x 0 := fieldAddr_of (ty := 94) (by kernel_rfl) (by kernel_rfl) H x
@[simp] theorem fv96_0 (x : AV) : fieldV X 96 x 0 = fvV X x 0 94 := field_of (by kernel_rfl) x
@[simp] theorem fa96_1 (H : AM.Heap) (x : AV) : fieldAddrV X H 96 x 1 = faV H x 1 := fieldAddr_of (ty := 22) (by kernel_rfl) (by kernel_rfl) H x
@[simp] theorem fv96_1 (x : AV) : fieldV X 96 x 1 = fvV X x 1 22 := field_of (by kernel_rfl) x

end Go.Proofs.YtifgkkfchnfcaaaDoor
