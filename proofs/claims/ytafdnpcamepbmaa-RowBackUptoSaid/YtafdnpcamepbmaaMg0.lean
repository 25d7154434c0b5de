/- X to X: texts of this claim, one behind the other; what each shows stands at its head. -/
import Derived.Test.YtafdnpcamepbmaaRows
import Derived.Test.YtafdnpcamepbmaaAm4
/- The seat's tables for the abstract machine, and what walks ask of the program. No conditions. -/
namespace Go.Proofs.Ytafdnpcamepbmaa
open Go.AM

def keepT : List (List (List Nat)) := [[], [], [[]], [[0, 1, 2], [0, 1, 2, 12], [6], [0, 1, 2, 21], [6], [0, 1, 2, 7, 8], [0, 1, 2, 7, 8, 9, 10], [0, 1, 2, 43], [6], [0, 1, 2, 7, 8], [7, 8, 9, 10], [6]], [[0, 1, 2, 3], [0, 1, 2, 3, 24], [8], [0, 1, 2, 3, 28], [8], [0, 1, 2, 3, 9, 10], [0, 1, 2, 3, 9, 35], [0, 1, 2, 3, 9, 11, 12], [0, 1, 2, 3, 9, 11, 12, 14], [0, 1, 2, 3, 9, 66], [8], [0, 1, 2, 3, 9, 69], [0, 1, 2, 3, 16], [0, 1, 2, 3, 83], [8], [0, 1, 2, 3, 9, 10], [0, 1, 2, 3, 9, 91], [8], [0, 1, 2, 3, 9, 97], [8], [0, 1, 2, 3, 9, 17, 18], [0, 1, 3, 9, 17, 18, 20], [0, 17, 18, 20, 22], [8]], [[], [1, 2], [1, 2, 3, 4], [0]], [[0, 1], [0, 1, 5], [0, 1, 5, 6], [0, 1, 5, 6, 14], [0, 1, 5, 6], [0, 1, 5, 6], [4]], [[0, 1], [0, 1, 13], [4, 5], [0, 1, 14, 15, 16], [0, 1, 14, 15, 16, 17], [0, 1, 7, 14, 15, 16], [0, 1, 14, 15, 16, 23], [4, 5], [0, 1, 14, 15, 16], [1, 8], [8, 27, 28, 29], [8, 27, 28, 29, 30], [8, 10, 27, 28, 29], [8, 10, 27, 28, 29, 35], [8, 27, 28, 29], [8, 27, 28, 29], [8, 27, 28, 29], [4, 5]], [[0], [2]], [[0, 1], [0, 1, 10], [4, 5], [1, 6], [1, 6, 7], [1, 6, 7, 17], [1, 6, 7], [1, 6, 7, 26], [4, 5], [1, 6, 7, 32], [1, 6, 7], [1, 6, 7], [4, 5]], [[0, 1], [4]], [[0, 1, 2], [0, 1, 2, 17], [6, 7], [0, 1, 2, 22], [6, 7], [0, 1, 2, 23, 24, 25], [0, 1, 2, 23, 24, 25, 26], [0, 1, 2, 8, 9, 23, 24, 25], [0, 1, 2, 23, 24, 25, 36], [6, 7], [0, 1, 2, 23, 24, 25], [1, 2, 10], [1, 2, 10, 11], [1, 2, 10, 11, 12], [2, 10, 11, 12, 47, 48, 49], [2, 10, 11, 12, 47, 48, 49, 50], [2, 10, 11, 12, 13, 14, 47, 48, 49], [2, 10, 11, 12, 13, 14, 47, 48, 49, 56], [2, 10, 11, 12, 47, 48, 49], [2, 10, 11, 12, 47, 48, 49], [2, 10, 11, 12, 47, 48, 49], [6, 7]], [[0, 1, 2], [0, 1, 2, 13], [6, 7], [0, 1, 2, 18], [6, 7], [0, 1, 2, 8], [0, 1, 2, 8, 9], [0, 1, 2, 8, 9, 10], [0, 1, 2, 8, 9, 10, 27], [0, 1, 2, 8, 9, 10], [0, 1, 2, 8, 9, 10, 39], [6, 7], [0, 1, 2, 8, 9, 10, 45], [0, 1, 2, 8, 9, 10], [0, 1, 2, 8, 9, 10], [6, 7]], [[0, 1], [0, 1, 15], [4, 5], [0, 1, 6], [0, 6, 16, 17], [0, 6, 16, 17, 18], [0, 6, 16, 17, 27], [0, 6, 16, 17], [0, 6, 7, 8, 9, 16, 17], [0, 6, 7, 8, 9, 16, 17, 41], [4, 5], [0, 6, 7, 8, 16, 17, 45], [4, 5], [0, 6, 16, 17], [0, 6, 16, 17], [6, 57], [4, 5], [4, 5]], [[0, 1], [0, 1, 10], [4], [0, 1, 5], [0, 1, 5, 14], [0, 1, 5], [0, 1, 5, 25], [4], [4]], [[0, 1], [0, 1], [0, 1, 9], [0], [4]], [[1, 2], [1, 2, 24], [4, 5], [1, 2, 25, 26, 27], [1, 2, 25, 26, 27, 28], [1, 2, 7, 25, 26, 27], [1, 2, 25, 26, 27, 33], [4, 5], [1, 2, 25, 26, 27], [1, 2, 8], [1, 2, 8, 9, 10], [1, 2, 8, 9, 10, 41], [4, 5], [1, 2, 8, 45], [4, 5], [1, 2, 10, 11], [1, 2, 10, 11, 60], [4, 5], [1, 2, 11, 12], [1, 2, 12, 65, 66], [1, 2, 12, 65, 66, 67], [1, 2, 12, 13, 65, 66], [1, 2, 12, 65, 66, 82], [4, 5], [1, 2, 12, 65, 66], [1, 2, 12, 84, 85, 86], [1, 2, 12, 84, 85, 86, 87], [1, 2, 12, 14, 15, 84, 85, 86], [1, 2, 12, 84, 85, 86, 100], [4, 5], [1, 2, 12, 84, 85, 86], [1, 2, 12, 16], [2, 12, 16, 102, 103, 104], [2, 12, 16, 102, 103, 104, 105], [2, 12, 16, 17, 18, 102, 103, 104], [2, 12, 16, 18, 102, 103, 104, 112], [2, 12, 16, 102, 103, 104], [2, 12, 16, 19, 20, 21, 102, 103, 104], [2, 12, 16, 19, 20, 21, 102, 103, 104, 125], [4, 5], [2, 12, 16, 102, 103, 104], [2, 12, 16, 102, 103, 104], [16, 137], [4, 5], [4, 5]], [[2, 3], [2, 3, 5], [2, 3, 5, 11], [4], [2, 3, 5, 14], [4], [2, 3, 5, 6], [2, 3, 5, 6, 7], [2, 3, 5, 6, 7, 24], [2, 3, 5, 6, 7, 24, 25], [6], [2, 3, 5, 6, 7, 24, 27], [6], [2, 3, 5, 6, 7, 24, 60], [2, 3, 5, 6, 7, 24, 60], [2, 3, 5, 6, 7, 24, 60], [6], [2, 3, 5, 6, 24, 84], [2, 3, 5, 6, 24, 84], [6], [2, 5, 6, 103], [6], [121], [4], [4]], [[0], [0]], [[0], [0, 4], [2], [2]], [[0, 1], [4]], [[2, 3], [2, 3, 5], [2, 3, 6], [2, 3, 6, 7], [2, 3, 6, 7, 81], [2, 3, 6, 7], [2, 3, 6, 7, 82], [4], [2, 3, 6, 7, 84], [2, 3, 6, 7, 84, 85], [6], [2, 3, 6, 7, 84, 105], [2, 3, 6, 7, 84, 105], [2, 3, 6, 7, 84, 105], [6], [2, 3, 6, 84, 118], [2, 3, 6, 84, 118], [6], [2, 6, 127], [6], [133], [4], [4]], [[0], [0]], [[0, 1], [4]], [[0, 4, 5], [0, 4, 5, 8], [0, 4, 5, 24], [6, 7], [4, 5, 9], [4, 5, 9, 28], [4, 5, 9, 28, 29], [6, 7], [4, 5, 9, 28, 39], [4, 5, 9, 28, 39], [4, 5, 9, 28, 39], [6, 7], [4, 5, 9, 28, 50], [4, 5, 9, 28, 50], [6, 7], [4, 9, 59], [6, 7], [6, 7]], [[0, 4, 5], [0, 4, 5, 8], [0, 4, 5, 25], [6, 7], [0, 4, 5, 9], [0, 4, 5, 9, 30], [0, 4, 5, 9, 30, 31], [0, 9, 10], [0, 9, 10, 37], [0, 9, 10], [6, 7], [0, 4, 5, 9, 30, 49], [0, 4, 5, 9, 30, 49], [0, 4, 5, 9, 30, 49], [6, 7], [0, 4, 5, 30, 58], [0, 4, 5, 30, 58], [6, 7], [0, 4, 67], [6, 7], [6, 7]], [[0], [0, 3, 4, 5], [0, 3, 4, 5, 13], [2, 3, 4], [0, 3, 5, 21], [2, 3, 4], [2, 3, 4]], [[1], [1, 4], [1, 4, 5], [1, 4, 5], [1, 4, 5], [1, 4, 5], [1, 4, 5], [1, 4, 5], [13], [2], [2], [1, 4, 14], [2], [1, 4, 16], [2], [1, 4, 18], [1, 4, 18], [1, 4, 18], [2], [1, 4, 22], [2], [1, 24], [2], [28], [2], [2]], [[0, 1], [0, 1, 9], [3, 4], [0, 1, 5], [5], [3, 4]], [[0, 1], [3]], [[0, 3, 4], [0, 3, 4, 7], [0, 3, 4, 7, 19], [0, 3, 4, 7, 19, 20], [4, 5, 6], [0, 3, 4, 7, 19, 23], [4, 5, 6], [0, 3, 4, 7, 19, 26], [0, 3, 4, 7, 19, 26], [4, 7, 8, 9, 10], [4, 7, 8, 9, 10, 38], [4, 5, 6], [4, 5, 6], [0, 3, 4, 7, 45], [4, 7, 11, 12, 13], [4, 7, 11, 12, 13, 53], [4, 5, 6], [4, 7, 11, 12, 58], [4, 5, 6], [4, 5, 6], [0, 4, 7, 14], [4, 6, 7, 14, 15], [4, 6, 7, 14, 15, 77], [4, 5, 6], [4, 7, 14, 15, 81], [4, 7, 14, 15, 16], [4, 5, 6], [4, 5, 6]], [[0], [3], [3, 4], [2], [3, 6], [3, 6], [2], [3, 9], [3, 9], [3, 9], [2], [3, 13], [13], [2], [2]], [[1, 2], [1, 2, 7], [4], [1, 2, 9], [4], [1, 2, 52], [4], [4]], [[0, 1], [0, 1, 5, 6], [1, 5, 6, 7], [1, 5, 6, 7, 16], [1, 6, 7], [7], [4]], [[1], [1, 6], [2], [1, 8], [1, 8, 9], [1, 8, 9], [1, 8, 9], [1, 8, 9], [1, 8, 9], [1, 8, 9], [17], [2], [2], [8, 18], [2], [8, 20], [2], [8, 22], [8, 22], [8, 22], [2], [8, 26], [2], [28], [2], [2]], [[0], [3], [3, 4], [2], [3, 6], [3, 6], [2], [3, 9], [3, 9], [9], [2], [2]], [[1, 2], [1, 2, 7], [4], [1, 2, 9], [4], [4]], [[0, 1], [0, 1, 5], [1, 5, 6], [1, 5, 6, 14], [4], [1, 5, 6, 7], [1, 5, 6, 7, 21], [1, 5, 6, 7], [6], [4]], [[0, 1, 2], [0, 1, 8, 9], [0, 1, 8, 9, 10], [0, 1, 7, 8, 9], [0, 1, 8, 9], [0, 1, 8, 9], [6]], [[0, 2, 4], [0, 4, 10], [0, 4], [0, 4, 14], [6], [0, 4, 21], [0, 4], [0, 4, 7], [0, 4, 7, 29], [0, 4, 7], [0, 4], [0, 4], [0, 4, 8], [0, 4, 8, 50], [6], [0, 4, 8, 57], [0, 4, 8], [0, 4, 8, 67], [0, 4, 8], [0, 4, 8], [0, 4, 88], [0, 4], [0, 4, 103], [0], [6]], [[0, 1, 2], [7], [6]], [[0, 2, 4], [0, 2, 4], [0, 4, 10], [0, 4, 8], [0, 4, 8, 12], [0, 4, 8], [0, 4, 7], [0, 4, 7, 36], [0, 4, 7], [0, 4, 7], [0, 4, 7, 51], [0, 4, 7], [0, 4, 7, 66], [0, 4, 7], [0, 4, 7, 69], [0, 7], [6]], [[0], [0, 8], [2, 3, 4], [0], [0, 11], [2, 3, 4], [0, 11, 16], [0, 5], [0, 11, 18], [0, 5], [0, 11, 20], [0, 5], [0, 11, 22], [0, 22], [2, 3, 4], [2, 4, 5], [2, 4, 5, 33], [2, 3, 4], [2, 3, 4]], [[0], [2]], [[0, 1, 4], [0, 1, 4, 7], [0, 1, 4, 7, 17], [4, 5, 6], [0, 1, 4, 7, 8], [0, 1, 4, 7, 8, 9], [0, 1, 4, 7, 8, 9, 25], [0, 1, 4, 7, 8, 9], [0, 1, 4, 7, 8, 9, 10], [0, 1, 4, 7, 8, 10, 27, 28, 29], [0, 1, 4, 7, 8, 10, 27, 28, 29, 30], [0, 1, 4, 7, 8, 10, 12, 27, 28, 29], [0, 1, 4, 7, 8, 10, 27, 28, 29], [0, 1, 4, 7, 8, 10, 27, 28, 29], [0, 1, 4, 7, 8, 41], [4, 5, 6], [0, 1, 4, 7, 8, 47], [4, 5, 6], [0, 1, 4, 7, 8, 13], [1, 4, 7, 8, 13], [1, 4, 7, 8, 13, 14], [1, 4, 7, 8, 13, 14, 58], [1, 4, 7, 8, 13, 14, 62], [4, 5, 6], [1, 4, 7, 8], [1, 4, 7, 8], [4, 7, 8, 97], [4, 5, 6], [4, 5, 6]], [[0, 1], [0, 1, 13], [4, 5], [0, 1, 17], [4, 5], [0, 1, 6], [0, 6, 18, 19], [0, 6, 18, 19, 20], [0, 6, 7, 18, 19], [0, 6, 18, 19], [0, 6, 18, 19], [4, 5]], [[1], [2]], [[0, 1, 2], [6]], [[0], [0, 4], [2, 3], [0, 7], [2, 3], [10], [2, 3], [2, 3]], [[0, 1, 2], [0, 1, 2, 26], [6, 7], [1, 2, 8], [1, 8, 29, 30], [1, 8, 29, 30, 31], [1, 8, 9, 29, 30], [1, 8, 29, 30], [1, 8, 29, 30], [6, 7]], [[0], [2]], [[1], [2]], [[1], [2]], [[0], [0, 4], [2], [0, 6], [2], [8], [2], [2]], [[0, 1, 2], [0, 1, 2, 27], [6, 7], [1, 2, 8], [1, 2, 8, 9], [1, 2, 8, 9, 33], [1, 2, 8, 9], [1, 2, 8, 9], [6, 7]], [[0], [0]], [[0, 1, 2], [6], [5]], [[0], [0, 3], [0, 3, 9], [2], [0, 14], [0, 14, 15], [2], [0, 17], [2], [0, 3], [0, 3, 21], [2], [2]], [], [], [], [], [], [], [], [], [], [], [], [], [], [], [], []]


noncomputable def X : AM.Ctx := { P := Try.prog, G := fun _ => .none, rw := fun f i => (f == 38 && i == 0) || (f == 39 && i == 0), keep := fun f i => ((keepT[f]?).getD [])[i]?, norm := fun _ _ => false, dr := fun _ _ => true, dy := fun f id => [(7, 6), (9, 7), (13, 7), (13, 13), (16, 40), (24, 7), (24, 11), (39, 10), (39, 19), (41, 6), (41, 9), (44, 24)].contains (f, id) }

theorem own : ownKnob Try.prog.godebug = .none := by kernel_rfl
theorem full : ∀ t e, t < Try.prog.types.size → Try.prog.underlying t = some (.slice e) → 0 < Try.prog.cellsOf e := slices_full_of Try.prog (by kernel_rfl)
theorem ctxOk : AM.CtxOk X := AM.ctxOk_of (by kernel_rfl) (by kernel_rfl)
@[simp] theorem X_dr (f i : Nat) : X.dr f i = true := rfl
@[simp] theorem X_norm (f i : Nat) : X.norm f i = false := rfl
@[simp] theorem X_rw (f i : Nat) : X.rw f i = ((f == 38 && i == 0) || (f == 39 && i == 0)) := rfl
@[simp] theorem nt3 : ntOf X 3 = 67 := by kernel_rfl
@[simp] theorem bod3 : bodied X 3 = true := by kernel_rfl
@[simp] theorem par3 : paramsOf X 3 = [22, 23, 24] := by kernel_rfl
@[simp] theorem nt4 : ntOf X 4 = 141 := by kernel_rfl
@[simp] theorem bod4 : bodied X 4 = true := by kernel_rfl
@[simp] theorem par4 : paramsOf X 4 = [23, 24, 3, 5] := by kernel_rfl
@[simp] theorem nt5 : ntOf X 5 = 39 := by kernel_rfl
@[simp] theorem bod5 : bodied X 5 = true := by kernel_rfl
@[simp] theorem par5 : paramsOf X 5 = [] := by kernel_rfl
@[simp] theorem nt6 : ntOf X 6 = 37 := by kernel_rfl
@[simp] theorem bod6 : bodied X 6 = true := by kernel_rfl
@[simp] theorem par6 : paramsOf X 6 = [23, 24] := by kernel_rfl
@[simp] theorem nt7 : ntOf X 7 = 45 := by kernel_rfl
@[simp] theorem bod7 : bodied X 7 = true := by kernel_rfl
@[simp] theorem par7 : paramsOf X 7 = [22, 23] := by kernel_rfl
@[simp] theorem nt8 : ntOf X 8 = 14 := by kernel_rfl
@[simp] theorem bod8 : bodied X 8 = true := by kernel_rfl
@[simp] theorem par8 : paramsOf X 8 = [22] := by kernel_rfl
@[simp] theorem nt9 : ntOf X 9 = 44 := by kernel_rfl
@[simp] theorem bod9 : bodied X 9 = true := by kernel_rfl
@[simp] theorem par9 : paramsOf X 9 = [22, 23] := by kernel_rfl
@[simp] theorem nt10 : ntOf X 10 = 10 := by kernel_rfl
@[simp] theorem bod10 : bodied X 10 = true := by kernel_rfl
@[simp] theorem par10 : paramsOf X 10 = [22, 22] := by kernel_rfl
@[simp] theorem nt11 : ntOf X 11 = 85 := by kernel_rfl
@[simp] theorem bod11 : bodied X 11 = true := by kernel_rfl
@[simp] theorem par11 : paramsOf X 11 = [22, 23, 24] := by kernel_rfl
@[simp] theorem nt12 : ntOf X 12 = 85 := by kernel_rfl
@[simp] theorem bod12 : bodied X 12 = true := by kernel_rfl
@[simp] theorem par12 : paramsOf X 12 = [22, 23, 24] := by kernel_rfl
@[simp] theorem nt13 : ntOf X 13 = 59 := by kernel_rfl
@[simp] theorem bod13 : bodied X 13 = true := by kernel_rfl
@[simp] theorem par13 : paramsOf X 13 = [22, 3] := by kernel_rfl
@[simp] theorem nt14 : ntOf X 14 = 26 := by kernel_rfl
@[simp] theorem bod14 : bodied X 14 = true := by kernel_rfl
@[simp] theorem par14 : paramsOf X 14 = [23, 23] := by kernel_rfl
@[simp] theorem nt15 : ntOf X 15 = 14 := by kernel_rfl
@[simp] theorem bod15 : bodied X 15 = true := by kernel_rfl
@[simp] theorem par15 : paramsOf X 15 = [3, 3] := by kernel_rfl
@[simp] theorem nt16 : ntOf X 16 = 139 := by kernel_rfl
@[simp] theorem bod16 : bodied X 16 = true := by kernel_rfl
@[simp] theorem par16 : paramsOf X 16 = [22, 24] := by kernel_rfl
@[simp] theorem nt17 : ntOf X 17 = 122 := by kernel_rfl
@[simp] theorem bod17 : bodied X 17 = true := by kernel_rfl
@[simp] theorem par17 : paramsOf X 17 = [44, 46] := by kernel_rfl
@[simp] theorem nt18 : ntOf X 18 = 2 := by kernel_rfl
@[simp] theorem bod18 : bodied X 18 = true := by kernel_rfl
@[simp] theorem par18 : paramsOf X 18 = [] := by kernel_rfl
@[simp] theorem nt19 : ntOf X 19 = 8 := by kernel_rfl
@[simp] theorem bod19 : bodied X 19 = true := by kernel_rfl
@[simp] theorem par19 : paramsOf X 19 = [22] := by kernel_rfl
@[simp] theorem nt20 : ntOf X 20 = 12 := by kernel_rfl
@[simp] theorem bod20 : bodied X 20 = true := by kernel_rfl
@[simp] theorem par20 : paramsOf X 20 = [22, 9] := by kernel_rfl
@[simp] theorem nt21 : ntOf X 21 = 134 := by kernel_rfl
@[simp] theorem bod21 : bodied X 21 = true := by kernel_rfl
@[simp] theorem par21 : paramsOf X 21 = [44, 46] := by kernel_rfl
@[simp] theorem nt22 : ntOf X 22 = 2 := by kernel_rfl
@[simp] theorem bod22 : bodied X 22 = true := by kernel_rfl
@[simp] theorem par22 : paramsOf X 22 = [] := by kernel_rfl
@[simp] theorem nt23 : ntOf X 23 = 12 := by kernel_rfl
@[simp] theorem bod23 : bodied X 23 = true := by kernel_rfl
@[simp] theorem par23 : paramsOf X 23 = [22, 9] := by kernel_rfl
@[simp] theorem nt24 : ntOf X 24 = 66 := by kernel_rfl
@[simp] theorem bod24 : bodied X 24 = true := by kernel_rfl
@[simp] theorem par24 : paramsOf X 24 = [22, 44, 46] := by kernel_rfl
@[simp] theorem nt25 : ntOf X 25 = 76 := by kernel_rfl
@[simp] theorem bod25 : bodied X 25 = true := by kernel_rfl
@[simp] theorem par25 : paramsOf X 25 = [22, 44, 46] := by kernel_rfl
@[simp] theorem nt26 : ntOf X 26 = 34 := by kernel_rfl
@[simp] theorem bod26 : bodied X 26 = true := by kernel_rfl
@[simp] theorem par26 : paramsOf X 26 = [22] := by kernel_rfl
@[simp] theorem nt27 : ntOf X 27 = 29 := by kernel_rfl
@[simp] theorem bod27 : bodied X 27 = true := by kernel_rfl
@[simp] theorem par27 : paramsOf X 27 = [46] := by kernel_rfl
@[simp] theorem nt28 : ntOf X 28 = 17 := by kernel_rfl
@[simp] theorem bod28 : bodied X 28 = true := by kernel_rfl
@[simp] theorem par28 : paramsOf X 28 = [3] := by kernel_rfl
@[simp] theorem nt29 : ntOf X 29 = 14 := by kernel_rfl
@[simp] theorem bod29 : bodied X 29 = true := by kernel_rfl
@[simp] theorem par29 : paramsOf X 29 = [3] := by kernel_rfl
@[simp] theorem nt30 : ntOf X 30 = 98 := by kernel_rfl
@[simp] theorem bod30 : bodied X 30 = true := by kernel_rfl
@[simp] theorem par30 : paramsOf X 30 = [22, 46] := by kernel_rfl
@[simp] theorem nt31 : ntOf X 31 = 16 := by kernel_rfl
@[simp] theorem bod31 : bodied X 31 = true := by kernel_rfl
@[simp] theorem par31 : paramsOf X 31 = [5] := by kernel_rfl
@[simp] theorem nt32 : ntOf X 32 = 66 := by kernel_rfl
@[simp] theorem bod32 : bodied X 32 = true := by kernel_rfl
@[simp] theorem par32 : paramsOf X 32 = [42, 5] := by kernel_rfl
@[simp] theorem nt33 : ntOf X 33 = 29 := by kernel_rfl
@[simp] theorem bod33 : bodied X 33 = true := by kernel_rfl
@[simp] theorem par33 : paramsOf X 33 = [22, 40] := by kernel_rfl
@[simp] theorem nt34 : ntOf X 34 = 30 := by kernel_rfl
@[simp] theorem bod34 : bodied X 34 = true := by kernel_rfl
@[simp] theorem par34 : paramsOf X 34 = [46] := by kernel_rfl
@[simp] theorem nt35 : ntOf X 35 = 13 := by kernel_rfl
@[simp] theorem bod35 : bodied X 35 = true := by kernel_rfl
@[simp] theorem par35 : paramsOf X 35 = [5] := by kernel_rfl
@[simp] theorem nt36 : ntOf X 36 = 83 := by kernel_rfl
@[simp] theorem bod36 : bodied X 36 = true := by kernel_rfl
@[simp] theorem par36 : paramsOf X 36 = [42, 5] := by kernel_rfl
@[simp] theorem nt37 : ntOf X 37 = 37 := by kernel_rfl
@[simp] theorem bod37 : bodied X 37 = true := by kernel_rfl
@[simp] theorem par37 : paramsOf X 37 = [22, 40] := by kernel_rfl
@[simp] theorem nt38 : ntOf X 38 = 22 := by kernel_rfl
@[simp] theorem bod38 : bodied X 38 = true := by kernel_rfl
@[simp] theorem par38 : paramsOf X 38 = [22, 40, 3] := by kernel_rfl
@[simp] theorem nt39 : ntOf X 39 = 110 := by kernel_rfl
@[simp] theorem bod39 : bodied X 39 = true := by kernel_rfl
@[simp] theorem par39 : paramsOf X 39 = [22, 42, 5] := by kernel_rfl
@[simp] theorem nt40 : ntOf X 40 = 17 := by kernel_rfl
@[simp] theorem bod40 : bodied X 40 = true := by kernel_rfl
@[simp] theorem par40 : paramsOf X 40 = [22, 40, 3] := by kernel_rfl
@[simp] theorem nt41 : ntOf X 41 = 85 := by kernel_rfl
@[simp] theorem bod41 : bodied X 41 = true := by kernel_rfl
@[simp] theorem par41 : paramsOf X 41 = [22, 42, 5] := by kernel_rfl
@[simp] theorem nt42 : ntOf X 42 = 38 := by kernel_rfl
@[simp] theorem bod42 : bodied X 42 = true := by kernel_rfl
@[simp] theorem par42 : paramsOf X 42 = [22] := by kernel_rfl
@[simp] theorem nt43 : ntOf X 43 = 7 := by kernel_rfl
@[simp] theorem bod43 : bodied X 43 = true := by kernel_rfl
@[simp] theorem par43 : paramsOf X 43 = [5] := by kernel_rfl
@[simp] theorem nt44 : ntOf X 44 = 102 := by kernel_rfl
@[simp] theorem bod44 : bodied X 44 = true := by kernel_rfl
@[simp] theorem par44 : paramsOf X 44 = [22, 5] := by kernel_rfl
@[simp] theorem nt45 : ntOf X 45 = 34 := by kernel_rfl
@[simp] theorem bod45 : bodied X 45 = true := by kernel_rfl
@[simp] theorem par45 : paramsOf X 45 = [22, 3] := by kernel_rfl
@[simp] theorem nt46 : ntOf X 46 = 21 := by kernel_rfl
@[simp] theorem bod46 : bodied X 46 = true := by kernel_rfl
@[simp] theorem par46 : paramsOf X 46 = [42] := by kernel_rfl
@[simp] theorem nt47 : ntOf X 47 = 15 := by kernel_rfl
@[simp] theorem bod47 : bodied X 47 = true := by kernel_rfl
@[simp] theorem par47 : paramsOf X 47 = [3, 3, 3] := by kernel_rfl
@[simp] theorem nt48 : ntOf X 48 = 13 := by kernel_rfl
@[simp] theorem bod48 : bodied X 48 = true := by kernel_rfl
@[simp] theorem par48 : paramsOf X 48 = [40] := by kernel_rfl
@[simp] theorem nt49 : ntOf X 49 = 43 := by kernel_rfl
@[simp] theorem bod49 : bodied X 49 = true := by kernel_rfl
@[simp] theorem par49 : paramsOf X 49 = [22, 40, 3] := by kernel_rfl
@[simp] theorem nt50 : ntOf X 50 = 6 := by kernel_rfl
@[simp] theorem bod50 : bodied X 50 = true := by kernel_rfl
@[simp] theorem par50 : paramsOf X 50 = [5] := by kernel_rfl
@[simp] theorem nt51 : ntOf X 51 = 41 := by kernel_rfl
@[simp] theorem bod51 : bodied X 51 = true := by kernel_rfl
@[simp] theorem par51 : paramsOf X 51 = [42] := by kernel_rfl
@[simp] theorem nt52 : ntOf X 52 = 15 := by kernel_rfl
@[simp] theorem bod52 : bodied X 52 = true := by kernel_rfl
@[simp] theorem par52 : paramsOf X 52 = [42] := by kernel_rfl
@[simp] theorem nt53 : ntOf X 53 = 9 := by kernel_rfl
@[simp] theorem bod53 : bodied X 53 = true := by kernel_rfl
@[simp] theorem par53 : paramsOf X 53 = [40] := by kernel_rfl
@[simp] theorem nt54 : ntOf X 54 = 46 := by kernel_rfl
@[simp] theorem bod54 : bodied X 54 = true := by kernel_rfl
@[simp] theorem par54 : paramsOf X 54 = [22, 40, 3] := by kernel_rfl
@[simp] theorem nt55 : ntOf X 55 = 2 := by kernel_rfl
@[simp] theorem bod55 : bodied X 55 = true := by kernel_rfl
@[simp] theorem par55 : paramsOf X 55 = [] := by kernel_rfl
@[simp] theorem nt56 : ntOf X 56 = 18 := by kernel_rfl
@[simp] theorem bod56 : bodied X 56 = true := by kernel_rfl
@[simp] theorem par56 : paramsOf X 56 = [3, 3] := by kernel_rfl
@[simp] theorem nt57 : ntOf X 57 = 27 := by kernel_rfl
@[simp] theorem bod57 : bodied X 57 = true := by kernel_rfl
@[simp] theorem par57 : paramsOf X 57 = [5] := by kernel_rfl
@[simp] theorem keep3_0 : X.keep 3 0 = some [0, 1, 2] := by kernel_rfl
@[simp] theorem keep3_1 : X.keep 3 1 = some [0, 1, 2, 12] := by kernel_rfl
@[simp] theorem keep3_2 : X.keep 3 2 = some [6] := by kernel_rfl
@[simp] theorem keep3_3 : X.keep 3 3 = some [0, 1, 2, 21] := by kernel_rfl
@[simp] theorem keep3_4 : X.keep 3 4 = some [6] := by kernel_rfl
@[simp] theorem keep3_5 : X.keep 3 5 = some [0, 1, 2, 7, 8] := by kernel_rfl
@[simp] theorem keep3_6 : X.keep 3 6 = some [0, 1, 2, 7, 8, 9, 10] := by kernel_rfl
@[simp] theorem keep3_7 : X.keep 3 7 = some [0, 1, 2, 43] := by kernel_rfl
@[simp] theorem keep3_8 : X.keep 3 8 = some [6] := by kernel_rfl
@[simp] theorem keep3_9 : X.keep 3 9 = some [0, 1, 2, 7, 8] := by kernel_rfl
@[simp] theorem keep3_10 : X.keep 3 10 = some [7, 8, 9, 10] := by kernel_rfl
@[simp] theorem keep3_11 : X.keep 3 11 = some [6] := by kernel_rfl
@[simp] theorem keep4_0 : X.keep 4 0 = some [0, 1, 2, 3] := by kernel_rfl
@[simp] theorem keep4_1 : X.keep 4 1 = some [0, 1, 2, 3, 24] := by kernel_rfl
@[simp] theorem keep4_2 : X.keep 4 2 = some [8] := by kernel_rfl
@[simp] theorem keep4_3 : X.keep 4 3 = some [0, 1, 2, 3, 28] := by kernel_rfl
@[simp] theorem keep4_4 : X.keep 4 4 = some [8] := by kernel_rfl
@[simp] theorem keep4_5 : X.keep 4 5 = some [0, 1, 2, 3, 9, 10] := by kernel_rfl
@[simp] theorem keep4_6 : X.keep 4 6 = some [0, 1, 2, 3, 9, 35] := by kernel_rfl
@[simp] theorem keep4_7 : X.keep 4 7 = some [0, 1, 2, 3, 9, 11, 12] := by kernel_rfl
@[simp] theorem keep4_8 : X.keep 4 8 = some [0, 1, 2, 3, 9, 11, 12, 14] := by kernel_rfl
@[simp] theorem keep4_9 : X.keep 4 9 = some [0, 1, 2, 3, 9, 66] := by kernel_rfl
@[simp] theorem keep4_10 : X.keep 4 10 = some [8] := by kernel_rfl
@[simp] theorem keep4_11 : X.keep 4 11 = some [0, 1, 2, 3, 9, 69] := by kernel_rfl
@[simp] theorem keep4_12 : X.keep 4 12 = some [0, 1, 2, 3, 16] := by kernel_rfl
@[simp] theorem keep4_13 : X.keep 4 13 = some [0, 1, 2, 3, 83] := by kernel_rfl
@[simp] theorem keep4_14 : X.keep 4 14 = some [8] := by kernel_rfl
@[simp] theorem keep4_15 : X.keep 4 15 = some [0, 1, 2, 3, 9, 10] := by kernel_rfl
@[simp] theorem keep4_16 : X.keep 4 16 = some [0, 1, 2, 3, 9, 91] := by kernel_rfl
@[simp] theorem keep4_17 : X.keep 4 17 = some [8] := by kernel_rfl
@[simp] theorem keep4_18 : X.keep 4 18 = some [0, 1, 2, 3, 9, 97] := by kernel_rfl
@[simp] theorem keep4_19 : X.keep 4 19 = some [8] := by kernel_rfl
@[simp] theorem keep4_20 : X.keep 4 20 = some [0, 1, 2, 3, 9, 17, 18] := by kernel_rfl
@[simp] theorem keep4_21 : X.keep 4 21 = some [0, 1, 3, 9, 17, 18, 20] := by kernel_rfl
@[simp] theorem keep4_22 : X.keep 4 22 = some [0, 17, 18, 20, 22] := by kernel_rfl
@[simp] theorem keep4_23 : X.keep 4 23 = some [8] := by kernel_rfl
@[simp] theorem keep5_0 : X.keep 5 0 = some [] := by kernel_rfl
@[simp] theorem keep5_1 : X.keep 5 1 = some [1, 2] := by kernel_rfl
@[simp] theorem keep5_2 : X.keep 5 2 = some [1, 2, 3, 4] := by kernel_rfl
@[simp] theorem keep5_3 : X.keep 5 3 = some [0] := by kernel_rfl
@[simp] theorem keep6_0 : X.keep 6 0 = some [0, 1] := by kernel_rfl
@[simp] theorem keep6_1 : X.keep 6 1 = some [0, 1, 5] := by kernel_rfl
@[simp] theorem keep6_2 : X.keep 6 2 = some [0, 1, 5, 6] := by kernel_rfl
@[simp] theorem keep6_3 : X.keep 6 3 = some [0, 1, 5, 6, 14] := by kernel_rfl
@[simp] theorem keep6_4 : X.keep 6 4 = some [0, 1, 5, 6] := by kernel_rfl
@[simp] theorem keep6_5 : X.keep 6 5 = some [0, 1, 5, 6] := by kernel_rfl
@[simp] theorem keep6_6 : X.keep 6 6 = some [4] := by kernel_rfl
@[simp] theorem keep7_0 : X.keep 7 0 = some [0, 1] := by kernel_rfl
@[simp] theorem keep7_1 : X.keep 7 1 = some [0, 1, 13] := by kernel_rfl
@[simp] theorem keep7_2 : X.keep 7 2 = some [4, 5] := by kernel_rfl
@[simp] theorem keep7_3 : X.keep 7 3 = some [0, 1, 14, 15, 16] := by kernel_rfl
@[simp] theorem keep7_4 : X.keep 7 4 = some [0, 1, 14, 15, 16, 17] := by kernel_rfl
@[simp] theorem keep7_5 : X.keep 7 5 = some [0, 1, 7, 14, 15, 16] := by kernel_rfl
@[simp] theorem keep7_6 : X.keep 7 6 = some [0, 1, 14, 15, 16, 23] := by kernel_rfl
@[simp] theorem keep7_7 : X.keep 7 7 = some [4, 5] := by kernel_rfl
@[simp] theorem keep7_8 : X.keep 7 8 = some [0, 1, 14, 15, 16] := by kernel_rfl
@[simp] theorem keep7_9 : X.keep 7 9 = some [1, 8] := by kernel_rfl
@[simp] theorem keep7_10 : X.keep 7 10 = some [8, 27, 28, 29] := by kernel_rfl
@[simp] theorem keep7_11 : X.keep 7 11 = some [8, 27, 28, 29, 30] := by kernel_rfl
@[simp] theorem keep7_12 : X.keep 7 12 = some [8, 10, 27, 28, 29] := by kernel_rfl
@[simp] theorem keep7_13 : X.keep 7 13 = some [8, 10, 27, 28, 29, 35] := by kernel_rfl
@[simp] theorem keep7_14 : X.keep 7 14 = some [8, 27, 28, 29] := by kernel_rfl
@[simp] theorem keep7_15 : X.keep 7 15 = some [8, 27, 28, 29] := by kernel_rfl
@[simp] theorem keep7_16 : X.keep 7 16 = some [8, 27, 28, 29] := by kernel_rfl
@[simp] theorem keep7_17 : X.keep 7 17 = some [4, 5] := by kernel_rfl
@[simp] theorem keep8_0 : X.keep 8 0 = some [0] := by kernel_rfl
@[simp] theorem keep8_1 : X.keep 8 1 = some [2] := by kernel_rfl
@[simp] theorem keep9_0 : X.keep 9 0 = some [0, 1] := by kernel_rfl
@[simp] theorem keep9_1 : X.keep 9 1 = some [0, 1, 10] := by kernel_rfl
@[simp] theorem keep9_2 : X.keep 9 2 = some [4, 5] := by kernel_rfl
@[simp] theorem keep9_3 : X.keep 9 3 = some [1, 6] := by kernel_rfl
@[simp] theorem keep9_4 : X.keep 9 4 = some [1, 6, 7] := by kernel_rfl
@[simp] theorem keep9_5 : X.keep 9 5 = some [1, 6, 7, 17] := by kernel_rfl
@[simp] theorem keep9_6 : X.keep 9 6 = some [1, 6, 7] := by kernel_rfl
@[simp] theorem keep9_7 : X.keep 9 7 = some [1, 6, 7, 26] := by kernel_rfl
@[simp] theorem keep9_8 : X.keep 9 8 = some [4, 5] := by kernel_rfl
@[simp] theorem keep9_9 : X.keep 9 9 = some [1, 6, 7, 32] := by kernel_rfl
@[simp] theorem keep9_10 : X.keep 9 10 = some [1, 6, 7] := by kernel_rfl
@[simp] theorem keep9_11 : X.keep 9 11 = some [1, 6, 7] := by kernel_rfl
@[simp] theorem keep9_12 : X.keep 9 12 = some [4, 5] := by kernel_rfl
@[simp] theorem keep10_0 : X.keep 10 0 = some [0, 1] := by kernel_rfl
@[simp] theorem keep10_1 : X.keep 10 1 = some [4] := by kernel_rfl
@[simp] theorem keep11_0 : X.keep 11 0 = some [0, 1, 2] := by kernel_rfl
@[simp] theorem keep11_1 : X.keep 11 1 = some [0, 1, 2, 17] := by kernel_rfl
@[simp] theorem keep11_2 : X.keep 11 2 = some [6, 7] := by kernel_rfl
@[simp] theorem keep11_3 : X.keep 11 3 = some [0, 1, 2, 22] := by kernel_rfl
@[simp] theorem keep11_4 : X.keep 11 4 = some [6, 7] := by kernel_rfl
@[simp] theorem keep11_5 : X.keep 11 5 = some [0, 1, 2, 23, 24, 25] := by kernel_rfl
@[simp] theorem keep11_6 : X.keep 11 6 = some [0, 1, 2, 23, 24, 25, 26] := by kernel_rfl
@[simp] theorem keep11_7 : X.keep 11 7 = some [0, 1, 2, 8, 9, 23, 24, 25] := by kernel_rfl
@[simp] theorem keep11_8 : X.keep 11 8 = some [0, 1, 2, 23, 24, 25, 36] := by kernel_rfl
@[simp] theorem keep11_9 : X.keep 11 9 = some [6, 7] := by kernel_rfl
@[simp] theorem keep11_10 : X.keep 11 10 = some [0, 1, 2, 23, 24, 25] := by kernel_rfl
@[simp] theorem keep11_11 : X.keep 11 11 = some [1, 2, 10] := by kernel_rfl
@[simp] theorem keep11_12 : X.keep 11 12 = some [1, 2, 10, 11] := by kernel_rfl
@[simp] theorem keep11_13 : X.keep 11 13 = some [1, 2, 10, 11, 12] := by kernel_rfl
@[simp] theorem keep11_14 : X.keep 11 14 = some [2, 10, 11, 12, 47, 48, 49] := by kernel_rfl
@[simp] theorem keep11_15 : X.keep 11 15 = some [2, 10, 11, 12, 47, 48, 49, 50] := by kernel_rfl
@[simp] theorem keep11_16 : X.keep 11 16 = some [2, 10, 11, 12, 13, 14, 47, 48, 49] := by kernel_rfl
@[simp] theorem keep11_17 : X.keep 11 17 = some [2, 10, 11, 12, 13, 14, 47, 48, 49, 56] := by kernel_rfl
@[simp] theorem keep11_18 : X.keep 11 18 = some [2, 10, 11, 12, 47, 48, 49] := by kernel_rfl
@[simp] theorem keep11_19 : X.keep 11 19 = some [2, 10, 11, 12, 47, 48, 49] := by kernel_rfl
@[simp] theorem keep11_20 : X.keep 11 20 = some [2, 10, 11, 12, 47, 48, 49] := by kernel_rfl
@[simp] theorem keep11_21 : X.keep 11 21 = some [6, 7] := by kernel_rfl
@[simp] theorem keep12_0 : X.keep 12 0 = some [0, 1, 2] := by kernel_rfl
@[simp] theorem keep12_1 : X.keep 12 1 = some [0, 1, 2, 13] := by kernel_rfl
@[simp] theorem keep12_2 : X.keep 12 2 = some [6, 7] := by kernel_rfl
@[simp] theorem keep12_3 : X.keep 12 3 = some [0, 1, 2, 18] := by kernel_rfl
@[simp] theorem keep12_4 : X.keep 12 4 = some [6, 7] := by kernel_rfl
@[simp] theorem keep12_5 : X.keep 12 5 = some [0, 1, 2, 8] := by kernel_rfl
@[simp] theorem keep12_6 : X.keep 12 6 = some [0, 1, 2, 8, 9] := by kernel_rfl
@[simp] theorem keep12_7 : X.keep 12 7 = some [0, 1, 2, 8, 9, 10] := by kernel_rfl
@[simp] theorem keep12_8 : X.keep 12 8 = some [0, 1, 2, 8, 9, 10, 27] := by kernel_rfl
@[simp] theorem keep12_9 : X.keep 12 9 = some [0, 1, 2, 8, 9, 10] := by kernel_rfl
@[simp] theorem keep12_10 : X.keep 12 10 = some [0, 1, 2, 8, 9, 10, 39] := by kernel_rfl
@[simp] theorem keep12_11 : X.keep 12 11 = some [6, 7] := by kernel_rfl
@[simp] theorem keep12_12 : X.keep 12 12 = some [0, 1, 2, 8, 9, 10, 45] := by kernel_rfl
@[simp] theorem keep12_13 : X.keep 12 13 = some [0, 1, 2, 8, 9, 10] := by kernel_rfl
@[simp] theorem keep12_14 : X.keep 12 14 = some [0, 1, 2, 8, 9, 10] := by kernel_rfl
@[simp] theorem keep12_15 : X.keep 12 15 = some [6, 7] := by kernel_rfl
@[simp] theorem keep13_0 : X.keep 13 0 = some [0, 1] := by kernel_rfl
@[simp] theorem keep13_1 : X.keep 13 1 = some [0, 1, 15] := by kernel_rfl
@[simp] theorem keep13_2 : X.keep 13 2 = some [4, 5] := by kernel_rfl
@[simp] theorem keep13_3 : X.keep 13 3 = some [0, 1, 6] := by kernel_rfl
@[simp] theorem keep13_4 : X.keep 13 4 = some [0, 6, 16, 17] := by kernel_rfl
@[simp] theorem keep13_5 : X.keep 13 5 = some [0, 6, 16, 17, 18] := by kernel_rfl
@[simp] theorem keep13_6 : X.keep 13 6 = some [0, 6, 16, 17, 27] := by kernel_rfl
@[simp] theorem keep13_7 : X.keep 13 7 = some [0, 6, 16, 17] := by kernel_rfl
@[simp] theorem keep13_8 : X.keep 13 8 = some [0, 6, 7, 8, 9, 16, 17] := by kernel_rfl
@[simp] theorem keep13_9 : X.keep 13 9 = some [0, 6, 7, 8, 9, 16, 17, 41] := by kernel_rfl
@[simp] theorem keep13_10 : X.keep 13 10 = some [4, 5] := by kernel_rfl
@[simp] theorem keep13_11 : X.keep 13 11 = some [0, 6, 7, 8, 16, 17, 45] := by kernel_rfl
@[simp] theorem keep13_12 : X.keep 13 12 = some [4, 5] := by kernel_rfl
@[simp] theorem keep13_13 : X.keep 13 13 = some [0, 6, 16, 17] := by kernel_rfl
@[simp] theorem keep13_14 : X.keep 13 14 = some [0, 6, 16, 17] := by kernel_rfl
@[simp] theorem keep13_15 : X.keep 13 15 = some [6, 57] := by kernel_rfl
@[simp] theorem keep13_16 : X.keep 13 16 = some [4, 5] := by kernel_rfl
@[simp] theorem keep13_17 : X.keep 13 17 = some [4, 5] := by kernel_rfl
@[simp] theorem keep14_0 : X.keep 14 0 = some [0, 1] := by kernel_rfl
@[simp] theorem keep14_1 : X.keep 14 1 = some [0, 1, 10] := by kernel_rfl
@[simp] theorem keep14_2 : X.keep 14 2 = some [4] := by kernel_rfl
@[simp] theorem keep14_3 : X.keep 14 3 = some [0, 1, 5] := by kernel_rfl
@[simp] theorem keep14_4 : X.keep 14 4 = some [0, 1, 5, 14] := by kernel_rfl
@[simp] theorem keep14_5 : X.keep 14 5 = some [0, 1, 5] := by kernel_rfl
@[simp] theorem keep14_6 : X.keep 14 6 = some [0, 1, 5, 25] := by kernel_rfl
@[simp] theorem keep14_7 : X.keep 14 7 = some [4] := by kernel_rfl
@[simp] theorem keep14_8 : X.keep 14 8 = some [4] := by kernel_rfl
@[simp] theorem keep15_0 : X.keep 15 0 = some [0, 1] := by kernel_rfl
@[simp] theorem keep15_1 : X.keep 15 1 = some [0, 1] := by kernel_rfl
@[simp] theorem keep15_2 : X.keep 15 2 = some [0, 1, 9] := by kernel_rfl
@[simp] theorem keep15_3 : X.keep 15 3 = some [0] := by kernel_rfl
@[simp] theorem keep15_4 : X.keep 15 4 = some [4] := by kernel_rfl
@[simp] theorem keep16_0 : X.keep 16 0 = some [1, 2] := by kernel_rfl
@[simp] theorem keep16_1 : X.keep 16 1 = some [1, 2, 24] := by kernel_rfl
@[simp] theorem keep16_2 : X.keep 16 2 = some [4, 5] := by kernel_rfl
@[simp] theorem keep16_3 : X.keep 16 3 = some [1, 2, 25, 26, 27] := by kernel_rfl
@[simp] theorem keep16_4 : X.keep 16 4 = some [1, 2, 25, 26, 27, 28] := by kernel_rfl
@[simp] theorem keep16_5 : X.keep 16 5 = some [1, 2, 7, 25, 26, 27] := by kernel_rfl
@[simp] theorem keep16_6 : X.keep 16 6 = some [1, 2, 25, 26, 27, 33] := by kernel_rfl
@[simp] theorem keep16_7 : X.keep 16 7 = some [4, 5] := by kernel_rfl
@[simp] theorem keep16_8 : X.keep 16 8 = some [1, 2, 25, 26, 27] := by kernel_rfl
@[simp] theorem keep16_9 : X.keep 16 9 = some [1, 2, 8] := by kernel_rfl
@[simp] theorem keep16_10 : X.keep 16 10 = some [1, 2, 8, 9, 10] := by kernel_rfl
@[simp] theorem keep16_11 : X.keep 16 11 = some [1, 2, 8, 9, 10, 41] := by kernel_rfl
@[simp] theorem keep16_12 : X.keep 16 12 = some [4, 5] := by kernel_rfl
@[simp] theorem keep16_13 : X.keep 16 13 = some [1, 2, 8, 45] := by kernel_rfl
@[simp] theorem keep16_14 : X.keep 16 14 = some [4, 5] := by kernel_rfl
@[simp] theorem keep16_15 : X.keep 16 15 = some [1, 2, 10, 11] := by kernel_rfl
@[simp] theorem keep16_16 : X.keep 16 16 = some [1, 2, 10, 11, 60] := by kernel_rfl
@[simp] theorem keep16_17 : X.keep 16 17 = some [4, 5] := by kernel_rfl
@[simp] theorem keep16_18 : X.keep 16 18 = some [1, 2, 11, 12] := by kernel_rfl
@[simp] theorem keep16_19 : X.keep 16 19 = some [1, 2, 12, 65, 66] := by kernel_rfl
@[simp] theorem keep16_20 : X.keep 16 20 = some [1, 2, 12, 65, 66, 67] := by kernel_rfl
@[simp] theorem keep16_21 : X.keep 16 21 = some [1, 2, 12, 13, 65, 66] := by kernel_rfl
@[simp] theorem keep16_22 : X.keep 16 22 = some [1, 2, 12, 65, 66, 82] := by kernel_rfl
@[simp] theorem keep16_23 : X.keep 16 23 = some [4, 5] := by kernel_rfl
@[simp] theorem keep16_24 : X.keep 16 24 = some [1, 2, 12, 65, 66] := by kernel_rfl
@[simp] theorem keep16_25 : X.keep 16 25 = some [1, 2, 12, 84, 85, 86] := by kernel_rfl
@[simp] theorem keep16_26 : X.keep 16 26 = some [1, 2, 12, 84, 85, 86, 87] := by kernel_rfl
@[simp] theorem keep16_27 : X.keep 16 27 = some [1, 2, 12, 14, 15, 84, 85, 86] := by kernel_rfl
@[simp] theorem keep16_28 : X.keep 16 28 = some [1, 2, 12, 84, 85, 86, 100] := by kernel_rfl
@[simp] theorem keep16_29 : X.keep 16 29 = some [4, 5] := by kernel_rfl
@[simp] theorem keep16_30 : X.keep 16 30 = some [1, 2, 12, 84, 85, 86] := by kernel_rfl
@[simp] theorem keep16_31 : X.keep 16 31 = some [1, 2, 12, 16] := by kernel_rfl
@[simp] theorem keep16_32 : X.keep 16 32 = some [2, 12, 16, 102, 103, 104] := by kernel_rfl
@[simp] theorem keep16_33 : X.keep 16 33 = some [2, 12, 16, 102, 103, 104, 105] := by kernel_rfl
@[simp] theorem keep16_34 : X.keep 16 34 = some [2, 12, 16, 17, 18, 102, 103, 104] := by kernel_rfl
@[simp] theorem keep16_35 : X.keep 16 35 = some [2, 12, 16, 18, 102, 103, 104, 112] := by kernel_rfl
@[simp] theorem keep16_36 : X.keep 16 36 = some [2, 12, 16, 102, 103, 104] := by kernel_rfl
@[simp] theorem keep16_37 : X.keep 16 37 = some [2, 12, 16, 19, 20, 21, 102, 103, 104] := by kernel_rfl
@[simp] theorem keep16_38 : X.keep 16 38 = some [2, 12, 16, 19, 20, 21, 102, 103, 104, 125] := by kernel_rfl
@[simp] theorem keep16_39 : X.keep 16 39 = some [4, 5] := by kernel_rfl
@[simp] theorem keep16_40 : X.keep 16 40 = some [2, 12, 16, 102, 103, 104] := by kernel_rfl
@[simp] theorem keep16_41 : X.keep 16 41 = some [2, 12, 16, 102, 103, 104] := by kernel_rfl
@[simp] theorem keep16_42 : X.keep 16 42 = some [16, 137] := by kernel_rfl
@[simp] theorem keep16_43 : X.keep 16 43 = some [4, 5] := by kernel_rfl
@[simp] theorem keep16_44 : X.keep 16 44 = some [4, 5] := by kernel_rfl
@[simp] theorem keep17_0 : X.keep 17 0 = some [2, 3] := by kernel_rfl
@[simp] theorem keep17_1 : X.keep 17 1 = some [2, 3, 5] := by kernel_rfl
@[simp] theorem keep17_2 : X.keep 17 2 = some [2, 3, 5, 11] := by kernel_rfl
@[simp] theorem keep17_3 : X.keep 17 3 = some [4] := by kernel_rfl
@[simp] theorem keep17_4 : X.keep 17 4 = some [2, 3, 5, 14] := by kernel_rfl
@[simp] theorem keep17_5 : X.keep 17 5 = some [4] := by kernel_rfl
@[simp] theorem keep17_6 : X.keep 17 6 = some [2, 3, 5, 6] := by kernel_rfl
@[simp] theorem keep17_7 : X.keep 17 7 = some [2, 3, 5, 6, 7] := by kernel_rfl
@[simp] theorem keep17_8 : X.keep 17 8 = some [2, 3, 5, 6, 7, 24] := by kernel_rfl
@[simp] theorem keep17_9 : X.keep 17 9 = some [2, 3, 5, 6, 7, 24, 25] := by kernel_rfl
@[simp] theorem keep17_10 : X.keep 17 10 = some [6] := by kernel_rfl
@[simp] theorem keep17_11 : X.keep 17 11 = some [2, 3, 5, 6, 7, 24, 27] := by kernel_rfl
@[simp] theorem keep17_12 : X.keep 17 12 = some [6] := by kernel_rfl
@[simp] theorem keep17_13 : X.keep 17 13 = some [2, 3, 5, 6, 7, 24, 60] := by kernel_rfl
@[simp] theorem keep17_14 : X.keep 17 14 = some [2, 3, 5, 6, 7, 24, 60] := by kernel_rfl
@[simp] theorem keep17_15 : X.keep 17 15 = some [2, 3, 5, 6, 7, 24, 60] := by kernel_rfl
@[simp] theorem keep17_16 : X.keep 17 16 = some [6] := by kernel_rfl
@[simp] theorem keep17_17 : X.keep 17 17 = some [2, 3, 5, 6, 24, 84] := by kernel_rfl
@[simp] theorem keep17_18 : X.keep 17 18 = some [2, 3, 5, 6, 24, 84] := by kernel_rfl
@[simp] theorem keep17_19 : X.keep 17 19 = some [6] := by kernel_rfl
@[simp] theorem keep17_20 : X.keep 17 20 = some [2, 5, 6, 103] := by kernel_rfl
@[simp] theorem keep17_21 : X.keep 17 21 = some [6] := by kernel_rfl
@[simp] theorem keep17_22 : X.keep 17 22 = some [121] := by kernel_rfl
@[simp] theorem keep17_23 : X.keep 17 23 = some [4] := by kernel_rfl
@[simp] theorem keep17_24 : X.keep 17 24 = some [4] := by kernel_rfl
@[simp] theorem keep18_0 : X.keep 18 0 = some [0] := by kernel_rfl
@[simp] theorem keep18_1 : X.keep 18 1 = some [0] := by kernel_rfl
@[simp] theorem keep19_0 : X.keep 19 0 = some [0] := by kernel_rfl
@[simp] theorem keep19_1 : X.keep 19 1 = some [0, 4] := by kernel_rfl
@[simp] theorem keep19_2 : X.keep 19 2 = some [2] := by kernel_rfl
@[simp] theorem keep19_3 : X.keep 19 3 = some [2] := by kernel_rfl
@[simp] theorem keep20_0 : X.keep 20 0 = some [0, 1] := by kernel_rfl
@[simp] theorem keep20_1 : X.keep 20 1 = some [4] := by kernel_rfl
@[simp] theorem keep21_0 : X.keep 21 0 = some [2, 3] := by kernel_rfl
@[simp] theorem keep21_1 : X.keep 21 1 = some [2, 3, 5] := by kernel_rfl
@[simp] theorem keep21_2 : X.keep 21 2 = some [2, 3, 6] := by kernel_rfl
@[simp] theorem keep21_3 : X.keep 21 3 = some [2, 3, 6, 7] := by kernel_rfl
@[simp] theorem keep21_4 : X.keep 21 4 = some [2, 3, 6, 7, 81] := by kernel_rfl
@[simp] theorem keep21_5 : X.keep 21 5 = some [2, 3, 6, 7] := by kernel_rfl
@[simp] theorem keep21_6 : X.keep 21 6 = some [2, 3, 6, 7, 82] := by kernel_rfl
@[simp] theorem keep21_7 : X.keep 21 7 = some [4] := by kernel_rfl
@[simp] theorem keep21_8 : X.keep 21 8 = some [2, 3, 6, 7, 84] := by kernel_rfl
@[simp] theorem keep21_9 : X.keep 21 9 = some [2, 3, 6, 7, 84, 85] := by kernel_rfl
@[simp] theorem keep21_10 : X.keep 21 10 = some [6] := by kernel_rfl
@[simp] theorem keep21_11 : X.keep 21 11 = some [2, 3, 6, 7, 84, 105] := by kernel_rfl
@[simp] theorem keep21_12 : X.keep 21 12 = some [2, 3, 6, 7, 84, 105] := by kernel_rfl
@[simp] theorem keep21_13 : X.keep 21 13 = some [2, 3, 6, 7, 84, 105] := by kernel_rfl
@[simp] theorem keep21_14 : X.keep 21 14 = some [6] := by kernel_rfl
@[simp] theorem keep21_15 : X.keep 21 15 = some [2, 3, 6, 84, 118] := by kernel_rfl
@[simp] theorem keep21_16 : X.keep 21 16 = some [2, 3, 6, 84, 118] := by kernel_rfl
@[simp] theorem keep21_17 : X.keep 21 17 = some [6] := by kernel_rfl
@[simp] theorem keep21_18 : X.keep 21 18 = some [2, 6, 127] := by kernel_rfl
@[simp] theorem keep21_19 : X.keep 21 19 = some [6] := by kernel_rfl
@[simp] theorem keep21_20 : X.keep 21 20 = some [133] := by kernel_rfl
@[simp] theorem keep21_21 : X.keep 21 21 = some [4] := by kernel_rfl
@[simp] theorem keep21_22 : X.keep 21 22 = some [4] := by kernel_rfl
@[simp] theorem keep22_0 : X.keep 22 0 = some [0] := by kernel_rfl
@[simp] theorem keep22_1 : X.keep 22 1 = some [0] := by kernel_rfl
@[simp] theorem keep23_0 : X.keep 23 0 = some [0, 1] := by kernel_rfl
@[simp] theorem keep23_1 : X.keep 23 1 = some [4] := by kernel_rfl
@[simp] theorem keep24_0 : X.keep 24 0 = some [0, 4, 5] := by kernel_rfl
@[simp] theorem keep24_1 : X.keep 24 1 = some [0, 4, 5, 8] := by kernel_rfl
@[simp] theorem keep24_2 : X.keep 24 2 = some [0, 4, 5, 24] := by kernel_rfl
@[simp] theorem keep24_3 : X.keep 24 3 = some [6, 7] := by kernel_rfl
@[simp] theorem keep24_4 : X.keep 24 4 = some [4, 5, 9] := by kernel_rfl
@[simp] theorem keep24_5 : X.keep 24 5 = some [4, 5, 9, 28] := by kernel_rfl
@[simp] theorem keep24_6 : X.keep 24 6 = some [4, 5, 9, 28, 29] := by kernel_rfl
@[simp] theorem keep24_7 : X.keep 24 7 = some [6, 7] := by kernel_rfl
@[simp] theorem keep24_8 : X.keep 24 8 = some [4, 5, 9, 28, 39] := by kernel_rfl
@[simp] theorem keep24_9 : X.keep 24 9 = some [4, 5, 9, 28, 39] := by kernel_rfl
@[simp] theorem keep24_10 : X.keep 24 10 = some [4, 5, 9, 28, 39] := by kernel_rfl
@[simp] theorem keep24_11 : X.keep 24 11 = some [6, 7] := by kernel_rfl
@[simp] theorem keep24_12 : X.keep 24 12 = some [4, 5, 9, 28, 50] := by kernel_rfl
@[simp] theorem keep24_13 : X.keep 24 13 = some [4, 5, 9, 28, 50] := by kernel_rfl
@[simp] theorem keep24_14 : X.keep 24 14 = some [6, 7] := by kernel_rfl
@[simp] theorem keep24_15 : X.keep 24 15 = some [4, 9, 59] := by kernel_rfl
@[simp] theorem keep24_16 : X.keep 24 16 = some [6, 7] := by kernel_rfl
@[simp] theorem keep24_17 : X.keep 24 17 = some [6, 7] := by kernel_rfl
@[simp] theorem keep25_0 : X.keep 25 0 = some [0, 4, 5] := by kernel_rfl
@[simp] theorem keep25_1 : X.keep 25 1 = some [0, 4, 5, 8] := by kernel_rfl
@[simp] theorem keep25_2 : X.keep 25 2 = some [0, 4, 5, 25] := by kernel_rfl
@[simp] theorem keep25_3 : X.keep 25 3 = some [6, 7] := by kernel_rfl
@[simp] theorem keep25_4 : X.keep 25 4 = some [0, 4, 5, 9] := by kernel_rfl
@[simp] theorem keep25_5 : X.keep 25 5 = some [0, 4, 5, 9, 30] := by kernel_rfl
@[simp] theorem keep25_6 : X.keep 25 6 = some [0, 4, 5, 9, 30, 31] := by kernel_rfl
@[simp] theorem keep25_7 : X.keep 25 7 = some [0, 9, 10] := by kernel_rfl
@[simp] theorem keep25_8 : X.keep 25 8 = some [0, 9, 10, 37] := by kernel_rfl
@[simp] theorem keep25_9 : X.keep 25 9 = some [0, 9, 10] := by kernel_rfl
@[simp] theorem keep25_10 : X.keep 25 10 = some [6, 7] := by kernel_rfl
@[simp] theorem keep25_11 : X.keep 25 11 = some [0, 4, 5, 9, 30, 49] := by kernel_rfl
@[simp] theorem keep25_12 : X.keep 25 12 = some [0, 4, 5, 9, 30, 49] := by kernel_rfl
@[simp] theorem keep25_13 : X.keep 25 13 = some [0, 4, 5, 9, 30, 49] := by kernel_rfl
@[simp] theorem keep25_14 : X.keep 25 14 = some [6, 7] := by kernel_rfl
@[simp] theorem keep25_15 : X.keep 25 15 = some [0, 4, 5, 30, 58] := by kernel_rfl
@[simp] theorem keep25_16 : X.keep 25 16 = some [0, 4, 5, 30, 58] := by kernel_rfl
@[simp] theorem keep25_17 : X.keep 25 17 = some [6, 7] := by kernel_rfl
@[simp] theorem keep25_18 : X.keep 25 18 = some [0, 4, 67] := by kernel_rfl
@[simp] theorem keep25_19 : X.keep 25 19 = some [6, 7] := by kernel_rfl
@[simp] theorem keep25_20 : X.keep 25 20 = some [6, 7] := by kernel_rfl
@[simp] theorem keep26_0 : X.keep 26 0 = some [0] := by kernel_rfl
@[simp] theorem keep26_1 : X.keep 26 1 = some [0, 3, 4, 5] := by kernel_rfl
@[simp] theorem keep26_2 : X.keep 26 2 = some [0, 3, 4, 5, 13] := by kernel_rfl
@[simp] theorem keep26_3 : X.keep 26 3 = some [2, 3, 4] := by kernel_rfl
@[simp] theorem keep26_4 : X.keep 26 4 = some [0, 3, 5, 21] := by kernel_rfl
@[simp] theorem keep26_5 : X.keep 26 5 = some [2, 3, 4] := by kernel_rfl
@[simp] theorem keep26_6 : X.keep 26 6 = some [2, 3, 4] := by kernel_rfl
@[simp] theorem keep27_0 : X.keep 27 0 = some [1] := by kernel_rfl
@[simp] theorem keep27_1 : X.keep 27 1 = some [1, 4] := by kernel_rfl
@[simp] theorem keep27_2 : X.keep 27 2 = some [1, 4, 5] := by kernel_rfl
@[simp] theorem keep27_3 : X.keep 27 3 = some [1, 4, 5] := by kernel_rfl
@[simp] theorem keep27_4 : X.keep 27 4 = some [1, 4, 5] := by kernel_rfl
@[simp] theorem keep27_5 : X.keep 27 5 = some [1, 4, 5] := by kernel_rfl
@[simp] theorem keep27_6 : X.keep 27 6 = some [1, 4, 5] := by kernel_rfl
@[simp] theorem keep27_7 : X.keep 27 7 = some [1, 4, 5] := by kernel_rfl
@[simp] theorem keep27_8 : X.keep 27 8 = some [13] := by kernel_rfl
@[simp] theorem keep27_9 : X.keep 27 9 = some [2] := by kernel_rfl
@[simp] theorem keep27_10 : X.keep 27 10 = some [2] := by kernel_rfl
@[simp] theorem keep27_11 : X.keep 27 11 = some [1, 4, 14] := by kernel_rfl
@[simp] theorem keep27_12 : X.keep 27 12 = some [2] := by kernel_rfl
@[simp] theorem keep27_13 : X.keep 27 13 = some [1, 4, 16] := by kernel_rfl
@[simp] theorem keep27_14 : X.keep 27 14 = some [2] := by kernel_rfl
@[simp] theorem keep27_15 : X.keep 27 15 = some [1, 4, 18] := by kernel_rfl
@[simp] theorem keep27_16 : X.keep 27 16 = some [1, 4, 18] := by kernel_rfl
@[simp] theorem keep27_17 : X.keep 27 17 = some [1, 4, 18] := by kernel_rfl
@[simp] theorem keep27_18 : X.keep 27 18 = some [2] := by kernel_rfl
@[simp] theorem keep27_19 : X.keep 27 19 = some [1, 4, 22] := by kernel_rfl
@[simp] theorem keep27_20 : X.keep 27 20 = some [2] := by kernel_rfl
@[simp] theorem keep27_21 : X.keep 27 21 = some [1, 24] := by kernel_rfl
@[simp] theorem keep27_22 : X.keep 27 22 = some [2] := by kernel_rfl
@[simp] theorem keep27_23 : X.keep 27 23 = some [28] := by kernel_rfl
@[simp] theorem keep27_24 : X.keep 27 24 = some [2] := by kernel_rfl
@[simp] theorem keep27_25 : X.keep 27 25 = some [2] := by kernel_rfl
@[simp] theorem keep28_0 : X.keep 28 0 = some [0, 1] := by kernel_rfl
@[simp] theorem keep28_1 : X.keep 28 1 = some [0, 1, 9] := by kernel_rfl
@[simp] theorem keep28_2 : X.keep 28 2 = some [3, 4] := by kernel_rfl
@[simp] theorem keep28_3 : X.keep 28 3 = some [0, 1, 5] := by kernel_rfl
@[simp] theorem keep28_4 : X.keep 28 4 = some [5] := by kernel_rfl
@[simp] theorem keep28_5 : X.keep 28 5 = some [3, 4] := by kernel_rfl
@[simp] theorem keep29_0 : X.keep 29 0 = some [0, 1] := by kernel_rfl
@[simp] theorem keep29_1 : X.keep 29 1 = some [3] := by kernel_rfl
@[simp] theorem keep30_0 : X.keep 30 0 = some [0, 3, 4] := by kernel_rfl
@[simp] theorem keep30_1 : X.keep 30 1 = some [0, 3, 4, 7] := by kernel_rfl
@[simp] theorem keep30_2 : X.keep 30 2 = some [0, 3, 4, 7, 19] := by kernel_rfl
@[simp] theorem keep30_3 : X.keep 30 3 = some [0, 3, 4, 7, 19, 20] := by kernel_rfl
@[simp] theorem keep30_4 : X.keep 30 4 = some [4, 5, 6] := by kernel_rfl
@[simp] theorem keep30_5 : X.keep 30 5 = some [0, 3, 4, 7, 19, 23] := by kernel_rfl
@[simp] theorem keep30_6 : X.keep 30 6 = some [4, 5, 6] := by kernel_rfl
@[simp] theorem keep30_7 : X.keep 30 7 = some [0, 3, 4, 7, 19, 26] := by kernel_rfl
@[simp] theorem keep30_8 : X.keep 30 8 = some [0, 3, 4, 7, 19, 26] := by kernel_rfl
@[simp] theorem keep30_9 : X.keep 30 9 = some [4, 7, 8, 9, 10] := by kernel_rfl
@[simp] theorem keep30_10 : X.keep 30 10 = some [4, 7, 8, 9, 10, 38] := by kernel_rfl
@[simp] theorem keep30_11 : X.keep 30 11 = some [4, 5, 6] := by kernel_rfl
@[simp] theorem keep30_12 : X.keep 30 12 = some [4, 5, 6] := by kernel_rfl
@[simp] theorem keep30_13 : X.keep 30 13 = some [0, 3, 4, 7, 45] := by kernel_rfl
@[simp] theorem keep30_14 : X.keep 30 14 = some [4, 7, 11, 12, 13] := by kernel_rfl
@[simp] theorem keep30_15 : X.keep 30 15 = some [4, 7, 11, 12, 13, 53] := by kernel_rfl
@[simp] theorem keep30_16 : X.keep 30 16 = some [4, 5, 6] := by kernel_rfl
@[simp] theorem keep30_17 : X.keep 30 17 = some [4, 7, 11, 12, 58] := by kernel_rfl
@[simp] theorem keep30_18 : X.keep 30 18 = some [4, 5, 6] := by kernel_rfl
@[simp] theorem keep30_19 : X.keep 30 19 = some [4, 5, 6] := by kernel_rfl
@[simp] theorem keep30_20 : X.keep 30 20 = some [0, 4, 7, 14] := by kernel_rfl
@[simp] theorem keep30_21 : X.keep 30 21 = some [4, 6, 7, 14, 15] := by kernel_rfl
@[simp] theorem keep30_22 : X.keep 30 22 = some [4, 6, 7, 14, 15, 77] := by kernel_rfl
@[simp] theorem keep30_23 : X.keep 30 23 = some [4, 5, 6] := by kernel_rfl
@[simp] theorem keep30_24 : X.keep 30 24 = some [4, 7, 14, 15, 81] := by kernel_rfl
@[simp] theorem keep30_25 : X.keep 30 25 = some [4, 7, 14, 15, 16] := by kernel_rfl
@[simp] theorem keep30_26 : X.keep 30 26 = some [4, 5, 6] := by kernel_rfl
@[simp] theorem keep30_27 : X.keep 30 27 = some [4, 5, 6] := by kernel_rfl
@[simp] theorem keep31_0 : X.keep 31 0 = some [0] := by kernel_rfl
@[simp] theorem keep31_1 : X.keep 31 1 = some [3] := by kernel_rfl
@[simp] theorem keep31_2 : X.keep 31 2 = some [3, 4] := by kernel_rfl
@[simp] theorem keep31_3 : X.keep 31 3 = some [2] := by kernel_rfl
@[simp] theorem keep31_4 : X.keep 31 4 = some [3, 6] := by kernel_rfl
@[simp] theorem keep31_5 : X.keep 31 5 = some [3, 6] := by kernel_rfl
@[simp] theorem keep31_6 : X.keep 31 6 = some [2] := by kernel_rfl
@[simp] theorem keep31_7 : X.keep 31 7 = some [3, 9] := by kernel_rfl
@[simp] theorem keep31_8 : X.keep 31 8 = some [3, 9] := by kernel_rfl
@[simp] theorem keep31_9 : X.keep 31 9 = some [3, 9] := by kernel_rfl
@[simp] theorem keep31_10 : X.keep 31 10 = some [2] := by kernel_rfl
@[simp] theorem keep31_11 : X.keep 31 11 = some [3, 13] := by kernel_rfl
@[simp] theorem keep31_12 : X.keep 31 12 = some [13] := by kernel_rfl
@[simp] theorem keep31_13 : X.keep 31 13 = some [2] := by kernel_rfl
@[simp] theorem keep31_14 : X.keep 31 14 = some [2] := by kernel_rfl
@[simp] theorem keep32_0 : X.keep 32 0 = some [1, 2] := by kernel_rfl
@[simp] theorem keep32_1 : X.keep 32 1 = some [1, 2, 7] := by kernel_rfl
@[simp] theorem keep32_2 : X.keep 32 2 = some [4] := by kernel_rfl
@[simp] theorem keep32_3 : X.keep 32 3 = some [1, 2, 9] := by kernel_rfl
@[simp] theorem keep32_4 : X.keep 32 4 = some [4] := by kernel_rfl
@[simp] theorem keep32_5 : X.keep 32 5 = some [1, 2, 52] := by kernel_rfl
@[simp] theorem keep32_6 : X.keep 32 6 = some [4] := by kernel_rfl
@[simp] theorem keep32_7 : X.keep 32 7 = some [4] := by kernel_rfl
@[simp] theorem keep33_0 : X.keep 33 0 = some [0, 1] := by kernel_rfl
@[simp] theorem keep33_1 : X.keep 33 1 = some [0, 1, 5, 6] := by kernel_rfl
@[simp] theorem keep33_2 : X.keep 33 2 = some [1, 5, 6, 7] := by kernel_rfl
@[simp] theorem keep33_3 : X.keep 33 3 = some [1, 5, 6, 7, 16] := by kernel_rfl
@[simp] theorem keep33_4 : X.keep 33 4 = some [1, 6, 7] := by kernel_rfl
@[simp] theorem keep33_5 : X.keep 33 5 = some [7] := by kernel_rfl
@[simp] theorem keep33_6 : X.keep 33 6 = some [4] := by kernel_rfl
@[simp] theorem keep34_0 : X.keep 34 0 = some [1] := by kernel_rfl
@[simp] theorem keep34_1 : X.keep 34 1 = some [1, 6] := by kernel_rfl
@[simp] theorem keep34_2 : X.keep 34 2 = some [2] := by kernel_rfl
@[simp] theorem keep34_3 : X.keep 34 3 = some [1, 8] := by kernel_rfl
@[simp] theorem keep34_4 : X.keep 34 4 = some [1, 8, 9] := by kernel_rfl
@[simp] theorem keep34_5 : X.keep 34 5 = some [1, 8, 9] := by kernel_rfl
@[simp] theorem keep34_6 : X.keep 34 6 = some [1, 8, 9] := by kernel_rfl
@[simp] theorem keep34_7 : X.keep 34 7 = some [1, 8, 9] := by kernel_rfl
@[simp] theorem keep34_8 : X.keep 34 8 = some [1, 8, 9] := by kernel_rfl
@[simp] theorem keep34_9 : X.keep 34 9 = some [1, 8, 9] := by kernel_rfl
@[simp] theorem keep34_10 : X.keep 34 10 = some [17] := by kernel_rfl
@[simp] theorem keep34_11 : X.keep 34 11 = some [2] := by kernel_rfl
@[simp] theorem keep34_12 : X.keep 34 12 = some [2] := by kernel_rfl
@[simp] theorem keep34_13 : X.keep 34 13 = some [8, 18] := by kernel_rfl
@[simp] theorem keep34_14 : X.keep 34 14 = some [2] := by kernel_rfl
@[simp] theorem keep34_15 : X.keep 34 15 = some [8, 20] := by kernel_rfl
@[simp] theorem keep34_16 : X.keep 34 16 = some [2] := by kernel_rfl
@[simp] theorem keep34_17 : X.keep 34 17 = some [8, 22] := by kernel_rfl
@[simp] theorem keep34_18 : X.keep 34 18 = some [8, 22] := by kernel_rfl
@[simp] theorem keep34_19 : X.keep 34 19 = some [8, 22] := by kernel_rfl
@[simp] theorem keep34_20 : X.keep 34 20 = some [2] := by kernel_rfl
@[simp] theorem keep34_21 : X.keep 34 21 = some [8, 26] := by kernel_rfl
@[simp] theorem keep34_22 : X.keep 34 22 = some [2] := by kernel_rfl
@[simp] theorem keep34_23 : X.keep 34 23 = some [28] := by kernel_rfl
@[simp] theorem keep34_24 : X.keep 34 24 = some [2] := by kernel_rfl
@[simp] theorem keep34_25 : X.keep 34 25 = some [2] := by kernel_rfl
@[simp] theorem keep35_0 : X.keep 35 0 = some [0] := by kernel_rfl
@[simp] theorem keep35_1 : X.keep 35 1 = some [3] := by kernel_rfl
@[simp] theorem keep35_2 : X.keep 35 2 = some [3, 4] := by kernel_rfl
@[simp] theorem keep35_3 : X.keep 35 3 = some [2] := by kernel_rfl
@[simp] theorem keep35_4 : X.keep 35 4 = some [3, 6] := by kernel_rfl
@[simp] theorem keep35_5 : X.keep 35 5 = some [3, 6] := by kernel_rfl
@[simp] theorem keep35_6 : X.keep 35 6 = some [2] := by kernel_rfl
@[simp] theorem keep35_7 : X.keep 35 7 = some [3, 9] := by kernel_rfl
@[simp] theorem keep35_8 : X.keep 35 8 = some [3, 9] := by kernel_rfl
@[simp] theorem keep35_9 : X.keep 35 9 = some [9] := by kernel_rfl
@[simp] theorem keep35_10 : X.keep 35 10 = some [2] := by kernel_rfl
@[simp] theorem keep35_11 : X.keep 35 11 = some [2] := by kernel_rfl
@[simp] theorem keep36_0 : X.keep 36 0 = some [1, 2] := by kernel_rfl
@[simp] theorem keep36_1 : X.keep 36 1 = some [1, 2, 7] := by kernel_rfl
@[simp] theorem keep36_2 : X.keep 36 2 = some [4] := by kernel_rfl
@[simp] theorem keep36_3 : X.keep 36 3 = some [1, 2, 9] := by kernel_rfl
@[simp] theorem keep36_4 : X.keep 36 4 = some [4] := by kernel_rfl
@[simp] theorem keep36_5 : X.keep 36 5 = some [4] := by kernel_rfl
@[simp] theorem keep37_0 : X.keep 37 0 = some [0, 1] := by kernel_rfl
@[simp] theorem keep37_1 : X.keep 37 1 = some [0, 1, 5] := by kernel_rfl
@[simp] theorem keep37_2 : X.keep 37 2 = some [1, 5, 6] := by kernel_rfl
@[simp] theorem keep37_3 : X.keep 37 3 = some [1, 5, 6, 14] := by kernel_rfl
@[simp] theorem keep37_4 : X.keep 37 4 = some [4] := by kernel_rfl
@[simp] theorem keep37_5 : X.keep 37 5 = some [1, 5, 6, 7] := by kernel_rfl
@[simp] theorem keep37_6 : X.keep 37 6 = some [1, 5, 6, 7, 21] := by kernel_rfl
@[simp] theorem keep37_7 : X.keep 37 7 = some [1, 5, 6, 7] := by kernel_rfl
@[simp] theorem keep37_8 : X.keep 37 8 = some [6] := by kernel_rfl
@[simp] theorem keep37_9 : X.keep 37 9 = some [4] := by kernel_rfl
@[simp] theorem keep38_0 : X.keep 38 0 = some [0, 1, 2] := by kernel_rfl
@[simp] theorem keep38_1 : X.keep 38 1 = some [0, 1, 8, 9] := by kernel_rfl
@[simp] theorem keep38_2 : X.keep 38 2 = some [0, 1, 8, 9, 10] := by kernel_rfl
@[simp] theorem keep38_3 : X.keep 38 3 = some [0, 1, 7, 8, 9] := by kernel_rfl
@[simp] theorem keep38_4 : X.keep 38 4 = some [0, 1, 8, 9] := by kernel_rfl
@[simp] theorem keep38_5 : X.keep 38 5 = some [0, 1, 8, 9] := by kernel_rfl
@[simp] theorem keep38_6 : X.keep 38 6 = some [6] := by kernel_rfl
@[simp] theorem keep39_0 : X.keep 39 0 = some [0, 2, 4] := by kernel_rfl
@[simp] theorem keep39_1 : X.keep 39 1 = some [0, 4, 10] := by kernel_rfl
@[simp] theorem keep39_2 : X.keep 39 2 = some [0, 4] := by kernel_rfl
@[simp] theorem keep39_3 : X.keep 39 3 = some [0, 4, 14] := by kernel_rfl
@[simp] theorem keep39_4 : X.keep 39 4 = some [6] := by kernel_rfl
@[simp] theorem keep39_5 : X.keep 39 5 = some [0, 4, 21] := by kernel_rfl
@[simp] theorem keep39_6 : X.keep 39 6 = some [0, 4] := by kernel_rfl
@[simp] theorem keep39_7 : X.keep 39 7 = some [0, 4, 7] := by kernel_rfl
@[simp] theorem keep39_8 : X.keep 39 8 = some [0, 4, 7, 29] := by kernel_rfl
@[simp] theorem keep39_9 : X.keep 39 9 = some [0, 4, 7] := by kernel_rfl
@[simp] theorem keep39_10 : X.keep 39 10 = some [0, 4] := by kernel_rfl
@[simp] theorem keep39_11 : X.keep 39 11 = some [0, 4] := by kernel_rfl
@[simp] theorem keep39_12 : X.keep 39 12 = some [0, 4, 8] := by kernel_rfl
@[simp] theorem keep39_13 : X.keep 39 13 = some [0, 4, 8, 50] := by kernel_rfl
@[simp] theorem keep39_14 : X.keep 39 14 = some [6] := by kernel_rfl
@[simp] theorem keep39_15 : X.keep 39 15 = some [0, 4, 8, 57] := by kernel_rfl
@[simp] theorem keep39_16 : X.keep 39 16 = some [0, 4, 8] := by kernel_rfl
@[simp] theorem keep39_17 : X.keep 39 17 = some [0, 4, 8, 67] := by kernel_rfl
@[simp] theorem keep39_18 : X.keep 39 18 = some [0, 4, 8] := by kernel_rfl
@[simp] theorem keep39_19 : X.keep 39 19 = some [0, 4, 8] := by kernel_rfl
@[simp] theorem keep39_20 : X.keep 39 20 = some [0, 4, 88] := by kernel_rfl
@[simp] theorem keep39_21 : X.keep 39 21 = some [0, 4] := by kernel_rfl
@[simp] theorem keep39_22 : X.keep 39 22 = some [0, 4, 103] := by kernel_rfl
@[simp] theorem keep39_23 : X.keep 39 23 = some [0] := by kernel_rfl
@[simp] theorem keep39_24 : X.keep 39 24 = some [6] := by kernel_rfl
@[simp] theorem keep40_0 : X.keep 40 0 = some [0, 1, 2] := by kernel_rfl
@[simp] theorem keep40_1 : X.keep 40 1 = some [7] := by kernel_rfl
@[simp] theorem keep40_2 : X.keep 40 2 = some [6] := by kernel_rfl
@[simp] theorem keep41_0 : X.keep 41 0 = some [0, 2, 4] := by kernel_rfl
@[simp] theorem keep41_1 : X.keep 41 1 = some [0, 2, 4] := by kernel_rfl
@[simp] theorem keep41_2 : X.keep 41 2 = some [0, 4, 10] := by kernel_rfl
@[simp] theorem keep41_3 : X.keep 41 3 = some [0, 4, 8] := by kernel_rfl
@[simp] theorem keep41_4 : X.keep 41 4 = some [0, 4, 8, 12] := by kernel_rfl
@[simp] theorem keep41_5 : X.keep 41 5 = some [0, 4, 8] := by kernel_rfl
@[simp] theorem keep41_6 : X.keep 41 6 = some [0, 4, 7] := by kernel_rfl
@[simp] theorem keep41_7 : X.keep 41 7 = some [0, 4, 7, 36] := by kernel_rfl
@[simp] theorem keep41_8 : X.keep 41 8 = some [0, 4, 7] := by kernel_rfl
@[simp] theorem keep41_9 : X.keep 41 9 = some [0, 4, 7] := by kernel_rfl
@[simp] theorem keep41_10 : X.keep 41 10 = some [0, 4, 7, 51] := by kernel_rfl
@[simp] theorem keep41_11 : X.keep 41 11 = some [0, 4, 7] := by kernel_rfl
@[simp] theorem keep41_12 : X.keep 41 12 = some [0, 4, 7, 66] := by kernel_rfl
@[simp] theorem keep41_13 : X.keep 41 13 = some [0, 4, 7] := by kernel_rfl
@[simp] theorem keep41_14 : X.keep 41 14 = some [0, 4, 7, 69] := by kernel_rfl
@[simp] theorem keep41_15 : X.keep 41 15 = some [0, 7] := by kernel_rfl
@[simp] theorem keep41_16 : X.keep 41 16 = some [6] := by kernel_rfl
@[simp] theorem keep42_0 : X.keep 42 0 = some [0] := by kernel_rfl
@[simp] theorem keep42_1 : X.keep 42 1 = some [0, 8] := by kernel_rfl
@[simp] theorem keep42_2 : X.keep 42 2 = some [2, 3, 4] := by kernel_rfl
@[simp] theorem keep42_3 : X.keep 42 3 = some [0] := by kernel_rfl
@[simp] theorem keep42_4 : X.keep 42 4 = some [0, 11] := by kernel_rfl
@[simp] theorem keep42_5 : X.keep 42 5 = some [2, 3, 4] := by kernel_rfl
@[simp] theorem keep42_6 : X.keep 42 6 = some [0, 11, 16] := by kernel_rfl
@[simp] theorem keep42_7 : X.keep 42 7 = some [0, 5] := by kernel_rfl
@[simp] theorem keep42_8 : X.keep 42 8 = some [0, 11, 18] := by kernel_rfl
@[simp] theorem keep42_9 : X.keep 42 9 = some [0, 5] := by kernel_rfl
@[simp] theorem keep42_10 : X.keep 42 10 = some [0, 11, 20] := by kernel_rfl
@[simp] theorem keep42_11 : X.keep 42 11 = some [0, 5] := by kernel_rfl
@[simp] theorem keep42_12 : X.keep 42 12 = some [0, 11, 22] := by kernel_rfl
@[simp] theorem keep42_13 : X.keep 42 13 = some [0, 22] := by kernel_rfl
@[simp] theorem keep42_14 : X.keep 42 14 = some [2, 3, 4] := by kernel_rfl
@[simp] theorem keep42_15 : X.keep 42 15 = some [2, 4, 5] := by kernel_rfl
@[simp] theorem keep42_16 : X.keep 42 16 = some [2, 4, 5, 33] := by kernel_rfl
@[simp] theorem keep42_17 : X.keep 42 17 = some [2, 3, 4] := by kernel_rfl
@[simp] theorem keep42_18 : X.keep 42 18 = some [2, 3, 4] := by kernel_rfl
@[simp] theorem keep43_0 : X.keep 43 0 = some [0] := by kernel_rfl
@[simp] theorem keep43_1 : X.keep 43 1 = some [2] := by kernel_rfl
@[simp] theorem keep44_0 : X.keep 44 0 = some [0, 1, 4] := by kernel_rfl
@[simp] theorem keep44_1 : X.keep 44 1 = some [0, 1, 4, 7] := by kernel_rfl
@[simp] theorem keep44_2 : X.keep 44 2 = some [0, 1, 4, 7, 17] := by kernel_rfl
@[simp] theorem keep44_3 : X.keep 44 3 = some [4, 5, 6] := by kernel_rfl
@[simp] theorem keep44_4 : X.keep 44 4 = some [0, 1, 4, 7, 8] := by kernel_rfl
@[simp] theorem keep44_5 : X.keep 44 5 = some [0, 1, 4, 7, 8, 9] := by kernel_rfl
@[simp] theorem keep44_6 : X.keep 44 6 = some [0, 1, 4, 7, 8, 9, 25] := by kernel_rfl
@[simp] theorem keep44_7 : X.keep 44 7 = some [0, 1, 4, 7, 8, 9] := by kernel_rfl
@[simp] theorem keep44_8 : X.keep 44 8 = some [0, 1, 4, 7, 8, 9, 10] := by kernel_rfl
@[simp] theorem keep44_9 : X.keep 44 9 = some [0, 1, 4, 7, 8, 10, 27, 28, 29] := by kernel_rfl
@[simp] theorem keep44_10 : X.keep 44 10 = some [0, 1, 4, 7, 8, 10, 27, 28, 29, 30] := by kernel_rfl
@[simp] theorem keep44_11 : X.keep 44 11 = some [0, 1, 4, 7, 8, 10, 12, 27, 28, 29] := by kernel_rfl
@[simp] theorem keep44_12 : X.keep 44 12 = some [0, 1, 4, 7, 8, 10, 27, 28, 29] := by kernel_rfl
@[simp] theorem keep44_13 : X.keep 44 13 = some [0, 1, 4, 7, 8, 10, 27, 28, 29] := by kernel_rfl
@[simp] theorem keep44_14 : X.keep 44 14 = some [0, 1, 4, 7, 8, 41] := by kernel_rfl
@[simp] theorem keep44_15 : X.keep 44 15 = some [4, 5, 6] := by kernel_rfl
@[simp] theorem keep44_16 : X.keep 44 16 = some [0, 1, 4, 7, 8, 47] := by kernel_rfl
@[simp] theorem keep44_17 : X.keep 44 17 = some [4, 5, 6] := by kernel_rfl
@[simp] theorem keep44_18 : X.keep 44 18 = some [0, 1, 4, 7, 8, 13] := by kernel_rfl
@[simp] theorem keep44_19 : X.keep 44 19 = some [1, 4, 7, 8, 13] := by kernel_rfl
@[simp] theorem keep44_20 : X.keep 44 20 = some [1, 4, 7, 8, 13, 14] := by kernel_rfl
@[simp] theorem keep44_21 : X.keep 44 21 = some [1, 4, 7, 8, 13, 14, 58] := by kernel_rfl
@[simp] theorem keep44_22 : X.keep 44 22 = some [1, 4, 7, 8, 13, 14, 62] := by kernel_rfl
@[simp] theorem keep44_23 : X.keep 44 23 = some [4, 5, 6] := by kernel_rfl
@[simp] theorem keep44_24 : X.keep 44 24 = some [1, 4, 7, 8] := by kernel_rfl
@[simp] theorem keep44_25 : X.keep 44 25 = some [1, 4, 7, 8] := by kernel_rfl
@[simp] theorem keep44_26 : X.keep 44 26 = some [4, 7, 8, 97] := by kernel_rfl
@[simp] theorem keep44_27 : X.keep 44 27 = some [4, 5, 6] := by kernel_rfl
@[simp] theorem keep44_28 : X.keep 44 28 = some [4, 5, 6] := by kernel_rfl
@[simp] theorem keep45_0 : X.keep 45 0 = some [0, 1] := by kernel_rfl
@[simp] theorem keep45_1 : X.keep 45 1 = some [0, 1, 13] := by kernel_rfl
@[simp] theorem keep45_2 : X.keep 45 2 = some [4, 5] := by kernel_rfl
@[simp] theorem keep45_3 : X.keep 45 3 = some [0, 1, 17] := by kernel_rfl
@[simp] theorem keep45_4 : X.keep 45 4 = some [4, 5] := by kernel_rfl
@[simp] theorem keep45_5 : X.keep 45 5 = some [0, 1, 6] := by kernel_rfl
@[simp] theorem keep45_6 : X.keep 45 6 = some [0, 6, 18, 19] := by kernel_rfl
@[simp] theorem keep45_7 : X.keep 45 7 = some [0, 6, 18, 19, 20] := by kernel_rfl
@[simp] theorem keep45_8 : X.keep 45 8 = some [0, 6, 7, 18, 19] := by kernel_rfl
@[simp] theorem keep45_9 : X.keep 45 9 = some [0, 6, 18, 19] := by kernel_rfl
@[simp] theorem keep45_10 : X.keep 45 10 = some [0, 6, 18, 19] := by kernel_rfl
@[simp] theorem keep45_11 : X.keep 45 11 = some [4, 5] := by kernel_rfl
@[simp] theorem keep46_0 : X.keep 46 0 = some [1] := by kernel_rfl
@[simp] theorem keep46_1 : X.keep 46 1 = some [2] := by kernel_rfl
@[simp] theorem keep47_0 : X.keep 47 0 = some [0, 1, 2] := by kernel_rfl
@[simp] theorem keep47_1 : X.keep 47 1 = some [6] := by kernel_rfl
@[simp] theorem keep48_0 : X.keep 48 0 = some [0] := by kernel_rfl
@[simp] theorem keep48_1 : X.keep 48 1 = some [0, 4] := by kernel_rfl
@[simp] theorem keep48_2 : X.keep 48 2 = some [2, 3] := by kernel_rfl
@[simp] theorem keep48_3 : X.keep 48 3 = some [0, 7] := by kernel_rfl
@[simp] theorem keep48_4 : X.keep 48 4 = some [2, 3] := by kernel_rfl
@[simp] theorem keep48_5 : X.keep 48 5 = some [10] := by kernel_rfl
@[simp] theorem keep48_6 : X.keep 48 6 = some [2, 3] := by kernel_rfl
@[simp] theorem keep48_7 : X.keep 48 7 = some [2, 3] := by kernel_rfl
@[simp] theorem keep49_0 : X.keep 49 0 = some [0, 1, 2] := by kernel_rfl
@[simp] theorem keep49_1 : X.keep 49 1 = some [0, 1, 2, 26] := by kernel_rfl
@[simp] theorem keep49_2 : X.keep 49 2 = some [6, 7] := by kernel_rfl
@[simp] theorem keep49_3 : X.keep 49 3 = some [1, 2, 8] := by kernel_rfl
@[simp] theorem keep49_4 : X.keep 49 4 = some [1, 8, 29, 30] := by kernel_rfl
@[simp] theorem keep49_5 : X.keep 49 5 = some [1, 8, 29, 30, 31] := by kernel_rfl
@[simp] theorem keep49_6 : X.keep 49 6 = some [1, 8, 9, 29, 30] := by kernel_rfl
@[simp] theorem keep49_7 : X.keep 49 7 = some [1, 8, 29, 30] := by kernel_rfl
@[simp] theorem keep49_8 : X.keep 49 8 = some [1, 8, 29, 30] := by kernel_rfl
@[simp] theorem keep49_9 : X.keep 49 9 = some [6, 7] := by kernel_rfl
@[simp] theorem keep50_0 : X.keep 50 0 = some [0] := by kernel_rfl
@[simp] theorem keep50_1 : X.keep 50 1 = some [2] := by kernel_rfl
@[simp] theorem keep51_0 : X.keep 51 0 = some [1] := by kernel_rfl
@[simp] theorem keep51_1 : X.keep 51 1 = some [2] := by kernel_rfl
@[simp] theorem keep52_0 : X.keep 52 0 = some [1] := by kernel_rfl
@[simp] theorem keep52_1 : X.keep 52 1 = some [2] := by kernel_rfl
@[simp] theorem keep53_0 : X.keep 53 0 = some [0] := by kernel_rfl
@[simp] theorem keep53_1 : X.keep 53 1 = some [0, 4] := by kernel_rfl
@[simp] theorem keep53_2 : X.keep 53 2 = some [2] := by kernel_rfl
@[simp] theorem keep53_3 : X.keep 53 3 = some [0, 6] := by kernel_rfl
@[simp] theorem keep53_4 : X.keep 53 4 = some [2] := by kernel_rfl
@[simp] theorem keep53_5 : X.keep 53 5 = some [8] := by kernel_rfl
@[simp] theorem keep53_6 : X.keep 53 6 = some [2] := by kernel_rfl
@[simp] theorem keep53_7 : X.keep 53 7 = some [2] := by kernel_rfl
@[simp] theorem keep54_0 : X.keep 54 0 = some [0, 1, 2] := by kernel_rfl
@[simp] theorem keep54_1 : X.keep 54 1 = some [0, 1, 2, 27] := by kernel_rfl
@[simp] theorem keep54_2 : X.keep 54 2 = some [6, 7] := by kernel_rfl
@[simp] theorem keep54_3 : X.keep 54 3 = some [1, 2, 8] := by kernel_rfl
@[simp] theorem keep54_4 : X.keep 54 4 = some [1, 2, 8, 9] := by kernel_rfl
@[simp] theorem keep54_5 : X.keep 54 5 = some [1, 2, 8, 9, 33] := by kernel_rfl
@[simp] theorem keep54_6 : X.keep 54 6 = some [1, 2, 8, 9] := by kernel_rfl
@[simp] theorem keep54_7 : X.keep 54 7 = some [1, 2, 8, 9] := by kernel_rfl
@[simp] theorem keep54_8 : X.keep 54 8 = some [6, 7] := by kernel_rfl
@[simp] theorem keep55_0 : X.keep 55 0 = some [0] := by kernel_rfl
@[simp] theorem keep55_1 : X.keep 55 1 = some [0] := by kernel_rfl
@[simp] theorem keep56_0 : X.keep 56 0 = some [0, 1, 2] := by kernel_rfl
@[simp] theorem keep56_1 : X.keep 56 1 = some [6] := by kernel_rfl
@[simp] theorem keep56_2 : X.keep 56 2 = some [5] := by kernel_rfl
@[simp] theorem keep57_0 : X.keep 57 0 = some [0] := by kernel_rfl
@[simp] theorem keep57_1 : X.keep 57 1 = some [0, 3] := by kernel_rfl
@[simp] theorem keep57_2 : X.keep 57 2 = some [0, 3, 9] := by kernel_rfl
@[simp] theorem keep57_3 : X.keep 57 3 = some [2] := by kernel_rfl
@[simp] theorem keep57_4 : X.keep 57 4 = some [0, 14] := by kernel_rfl
@[simp] theorem keep57_5 : X.keep 57 5 = some [0, 14, 15] := by kernel_rfl
@[simp] theorem keep57_6 : X.keep 57 6 = some [2] := by kernel_rfl
@[simp] theorem keep57_7 : X.keep 57 7 = some [0, 17] := by kernel_rfl
@[simp] theorem keep57_8 : X.keep 57 8 = some [2] := by kernel_rfl
@[simp] theorem keep57_9 : X.keep 57 9 = some [0, 3] := by kernel_rfl
@[simp] theorem keep57_10 : X.keep 57 10 = some [0, 3, 21] := by kernel_rfl
@[simp] theorem keep57_11 : X.keep 57 11 = some [2] := by kernel_rfl
@[simp] theorem keep57_12 : X.keep 57 12 = some [2] := by kernel_rfl
@[simp] theorem dy7_6 : X.dy 7 6 = true := by kernel_rfl
@[simp] theorem dy9_7 : X.dy 9 7 = true := by kernel_rfl
@[simp] theorem dy11_8 : X.dy 11 8 = false := by kernel_rfl
@[simp] theorem dy11_18 : X.dy 11 18 = false := by kernel_rfl
@[simp] theorem dy11_19 : X.dy 11 19 = false := by kernel_rfl
@[simp] theorem dy12_10 : X.dy 12 10 = false := by kernel_rfl
@[simp] theorem dy12_14 : X.dy 12 14 = false := by kernel_rfl
@[simp] theorem dy13_7 : X.dy 13 7 = true := by kernel_rfl
@[simp] theorem dy13_13 : X.dy 13 13 = true := by kernel_rfl
@[simp] theorem dy14_6 : X.dy 14 6 = false := by kernel_rfl
@[simp] theorem dy16_40 : X.dy 16 40 = true := by kernel_rfl
@[simp] theorem dy24_7 : X.dy 24 7 = true := by kernel_rfl
@[simp] theorem dy24_11 : X.dy 24 11 = true := by kernel_rfl
@[simp] theorem dy39_10 : X.dy 39 10 = true := by kernel_rfl
@[simp] theorem dy39_19 : X.dy 39 19 = true := by kernel_rfl
@[simp] theorem dy41_6 : X.dy 41 6 = true := by kernel_rfl
@[simp] theorem dy41_9 : X.dy 41 9 = true := by kernel_rfl
@[simp] theorem dy44_19 : X.dy 44 19 = false := by kernel_rfl
@[simp] theorem dy44_24 : X.dy 44 24 = true := by kernel_rfl
@[simp] theorem size0 : sizeT X 0 = 1 := by kernel_rfl
@[simp] theorem bytes0 : bytesT X 0 = 0 := by kernel_rfl
@[simp] theorem okT0 : okT X 0 = true := by kernel_rfl
@[simp] theorem isAgg0 : isAggT X 0 = false := by kernel_rfl
@[simp] theorem isInt0 : isIntT X 0 = false := by kernel_rfl
@[simp] theorem isArr0 : isArrT X 0 = false := by kernel_rfl
@[simp] theorem isU80 : isU8 X 0 = false := by kernel_rfl
@[simp] theorem zok0 : zeroOk X 0 = true := by kernel_rfl
@[simp] theorem und2 : und X 2 = .int .i64 := by kernel_rfl
@[simp] theorem size2 : sizeT X 2 = 1 := by kernel_rfl
@[simp] theorem bytes2 : bytesT X 2 = 8 := by kernel_rfl
@[simp] theorem okT2 : okT X 2 = true := by kernel_rfl
@[simp] theorem isAgg2 : isAggT X 2 = false := by kernel_rfl
@[simp] theorem isInt2 : isIntT X 2 = true := by kernel_rfl
@[simp] theorem isArr2 : isArrT X 2 = false := by kernel_rfl
@[simp] theorem isU82 : isU8 X 2 = false := by kernel_rfl
@[simp] theorem zok2 : zeroOk X 2 = true := by kernel_rfl
@[simp] theorem zero2 : zeroAV X 2 = .int .i64 0 := by kernel_rfl
@[simp] theorem und3 : und X 3 = .int .i64 := by kernel_rfl
@[simp] theorem size3 : sizeT X 3 = 1 := by kernel_rfl
@[simp] theorem bytes3 : bytesT X 3 = 8 := by kernel_rfl
@[simp] theorem okT3 : okT X 3 = true := by kernel_rfl
@[simp] theorem isAgg3 : isAggT X 3 = false := by kernel_rfl
@[simp] theorem isInt3 : isIntT X 3 = true := by kernel_rfl
@[simp] theorem isArr3 : isArrT X 3 = false := by kernel_rfl
@[simp] theorem isU83 : isU8 X 3 = false := by kernel_rfl
@[simp] theorem zok3 : zeroOk X 3 = true := by kernel_rfl
@[simp] theorem zero3 : zeroAV X 3 = .int .i64 0 := by kernel_rfl
@[simp] theorem und4 : und X 4 = .bool := by kernel_rfl
@[simp] theorem size4 : sizeT X 4 = 1 := by kernel_rfl
@[simp] theorem bytes4 : bytesT X 4 = 1 := by kernel_rfl
@[simp] theorem okT4 : okT X 4 = true := by kernel_rfl
@[simp] theorem isAgg4 : isAggT X 4 = false := by kernel_rfl
@[simp] theorem isInt4 : isIntT X 4 = false := by kernel_rfl
@[simp] theorem isArr4 : isArrT X 4 = false := by kernel_rfl
@[simp] theorem isU84 : isU8 X 4 = false := by kernel_rfl
@[simp] theorem zok4 : zeroOk X 4 = true := by kernel_rfl
@[simp] theorem zero4 : zeroAV X 4 = .bool false := by kernel_rfl
@[simp] theorem und5 : und X 5 = .int .u8 := by kernel_rfl
@[simp] theorem size5 : sizeT X 5 = 1 := by kernel_rfl
@[simp] theorem bytes5 : bytesT X 5 = 1 := by kernel_rfl
@[simp] theorem okT5 : okT X 5 = true := by kernel_rfl
@[simp] theorem isAgg5 : isAggT X 5 = false := by kernel_rfl
@[simp] theorem isInt5 : isIntT X 5 = true := by kernel_rfl
@[simp] theorem isArr5 : isArrT X 5 = false := by kernel_rfl
@[simp] theorem isU85 : isU8 X 5 = true := by kernel_rfl
@[simp] theorem zok5 : zeroOk X 5 = true := by kernel_rfl
@[simp] theorem zero5 : zeroAV X 5 = .int .u8 0 := by kernel_rfl
@[simp] theorem und9 : und X 9 = .string := by kernel_rfl
@[simp] theorem size9 : sizeT X 9 = 1 := by kernel_rfl
@[simp] theorem bytes9 : bytesT X 9 = 16 := by kernel_rfl
@[simp] theorem okT9 : okT X 9 = true := by kernel_rfl
@[simp] theorem isAgg9 : isAggT X 9 = false := by kernel_rfl
@[simp] theorem isInt9 : isIntT X 9 = false := by kernel_rfl
@[simp] theorem isArr9 : isArrT X 9 = false := by kernel_rfl
@[simp] theorem isU89 : isU8 X 9 = false := by kernel_rfl
@[simp] theorem zok9 : zeroOk X 9 = true := by kernel_rfl
@[simp] theorem zero9 : zeroAV X 9 = .str [] := by kernel_rfl
@[simp] theorem und22 : und X 22 = .slice 5 := by kernel_rfl
@[simp] theorem size22 : sizeT X 22 = 1 := by kernel_rfl
@[simp] theorem bytes22 : bytesT X 22 = 24 := by kernel_rfl
@[simp] theorem okT22 : okT X 22 = true := by kernel_rfl
@[simp] theorem isAgg22 : isAggT X 22 = false := by kernel_rfl
@[simp] theorem isInt22 : isIntT X 22 = false := by kernel_rfl
@[simp] theorem isArr22 : isArrT X 22 = false := by kernel_rfl
@[simp] theorem isU822 : isU8 X 22 = false := by kernel_rfl
@[simp] theorem zok22 : zeroOk X 22 = true := by kernel_rfl
@[simp] theorem zero22 : zeroAV X 22 = .ro 0 .pn 0 := by kernel_rfl
@[simp] theorem und23 : und X 23 = .slice 44 := by kernel_rfl
@[simp] theorem size23 : sizeT X 23 = 1 := by kernel_rfl
@[simp] theorem bytes23 : bytesT X 23 = 24 := by kernel_rfl
@[simp] theorem okT23 : okT X 23 = true := by kernel_rfl
@[simp] theorem isAgg23 : isAggT X 23 = false := by kernel_rfl
@[simp] theorem isInt23 : isIntT X 23 = false := by kernel_rfl
@[simp] theorem isArr23 : isArrT X 23 = false := by kernel_rfl
@[simp] theorem isU823 : isU8 X 23 = false := by kernel_rfl
@[simp] theorem zok23 : zeroOk X 23 = true := by kernel_rfl
@[simp] theorem zero23 : zeroAV X 23 = .ro 0 .pn 0 := by kernel_rfl
@[simp] theorem und24 : und X 24 = .slice 46 := by kernel_rfl
@[simp] theorem size24 : sizeT X 24 = 1 := by kernel_rfl
@[simp] theorem bytes24 : bytesT X 24 = 24 := by kernel_rfl
@[simp] theorem okT24 : okT X 24 = true := by kernel_rfl
@[simp] theorem isAgg24 : isAggT X 24 = false := by kernel_rfl
@[simp] theorem isInt24 : isIntT X 24 = false := by kernel_rfl
@[simp] theorem isArr24 : isArrT X 24 = false := by kernel_rfl
@[simp] theorem isU824 : isU8 X 24 = false := by kernel_rfl
@[simp] theorem zok24 : zeroOk X 24 = true := by kernel_rfl
@[simp] theorem zero24 : zeroAV X 24 = .ro 0 .pn 0 := by kernel_rfl
@[simp] theorem und27 : und X 27 = .int .i64 := by kernel_rfl
@[simp] theorem size27 : sizeT X 27 = 1 := by kernel_rfl
@[simp] theorem bytes27 : bytesT X 27 = 8 := by kernel_rfl
@[simp] theorem okT27 : okT X 27 = true := by kernel_rfl
@[simp] theorem isAgg27 : isAggT X 27 = false := by kernel_rfl
@[simp] theorem isInt27 : isIntT X 27 = true := by kernel_rfl
@[simp] theorem isArr27 : isArrT X 27 = false := by kernel_rfl
@[simp] theorem isU827 : isU8 X 27 = false := by kernel_rfl
@[simp] theorem zok27 : zeroOk X 27 = true := by kernel_rfl
@[simp] theorem zero27 : zeroAV X 27 = .int .i64 0 := by kernel_rfl
@[simp] theorem size28 : sizeT X 28 = 1 := by kernel_rfl
@[simp] theorem bytes28 : bytesT X 28 = 0 := by kernel_rfl
@[simp] theorem okT28 : okT X 28 = true := by kernel_rfl
@[simp] theorem isAgg28 : isAggT X 28 = false := by kernel_rfl
@[simp] theorem isInt28 : isIntT X 28 = false := by kernel_rfl
@[simp] theorem isArr28 : isArrT X 28 = false := by kernel_rfl
@[simp] theorem isU828 : isU8 X 28 = false := by kernel_rfl
@[simp] theorem zok28 : zeroOk X 28 = true := by kernel_rfl
@[simp] theorem size34 : sizeT X 34 = 1 := by kernel_rfl
@[simp] theorem bytes34 : bytesT X 34 = 0 := by kernel_rfl
@[simp] theorem okT34 : okT X 34 = true := by kernel_rfl
@[simp] theorem isAgg34 : isAggT X 34 = false := by kernel_rfl
@[simp] theorem isInt34 : isIntT X 34 = false := by kernel_rfl
@[simp] theorem isArr34 : isArrT X 34 = false := by kernel_rfl
@[simp] theorem isU834 : isU8 X 34 = false := by kernel_rfl
@[simp] theorem zok34 : zeroOk X 34 = true := by kernel_rfl
@[simp] theorem size37 : sizeT X 37 = 1 := by kernel_rfl
@[simp] theorem bytes37 : bytesT X 37 = 8 := by kernel_rfl
@[simp] theorem okT37 : okT X 37 = true := by kernel_rfl
@[simp] theorem isAgg37 : isAggT X 37 = false := by kernel_rfl
@[simp] theorem isInt37 : isIntT X 37 = false := by kernel_rfl
@[simp] theorem isArr37 : isArrT X 37 = false := by kernel_rfl
@[simp] theorem isU837 : isU8 X 37 = false := by kernel_rfl
@[simp] theorem zok37 : zeroOk X 37 = true := by kernel_rfl
@[simp] theorem zero37 : zeroAV X 37 = .nilfn := by kernel_rfl
@[simp] theorem und40 : und X 40 = .int .u64 := by kernel_rfl
@[simp] theorem size40 : sizeT X 40 = 1 := by kernel_rfl
@[simp] theorem bytes40 : bytesT X 40 = 8 := by kernel_rfl
@[simp] theorem okT40 : okT X 40 = true := by kernel_rfl
@[simp] theorem isAgg40 : isAggT X 40 = false := by kernel_rfl
@[simp] theorem isInt40 : isIntT X 40 = true := by kernel_rfl
@[simp] theorem isArr40 : isArrT X 40 = false := by kernel_rfl
@[simp] theorem isU840 : isU8 X 40 = false := by kernel_rfl
@[simp] theorem zok40 : zeroOk X 40 = true := by kernel_rfl
@[simp] theorem zero40 : zeroAV X 40 = .int .u64 0 := by kernel_rfl
@[simp] theorem size42 : sizeT X 42 = 8 := by kernel_rfl
@[simp] theorem bytes42 : bytesT X 42 = 64 := by kernel_rfl
@[simp] theorem okT42 : okT X 42 = true := by kernel_rfl
@[simp] theorem isAgg42 : isAggT X 42 = true := by kernel_rfl
@[simp] theorem isInt42 : isIntT X 42 = false := by kernel_rfl
@[simp] theorem isArr42 : isArrT X 42 = false := by kernel_rfl
@[simp] theorem isU842 : isU8 X 42 = false := by kernel_rfl
@[simp] theorem zok42 : zeroOk X 42 = true := by kernel_rfl
@[simp] theorem zero42 : zeroAV X 42 = .agg (.pc [.bool false, .int .i64 0, .int .i64 0, .int .i64 0, .int .i64 0, .int .i64 0, .int .i64 0, .int .i64 0]) := by kernel_rfl
@[simp] theorem size44 : sizeT X 44 = 12 := by kernel_rfl
@[simp] theorem bytes44 : bytesT X 44 = 104 := by kernel_rfl
@[simp] theorem okT44 : okT X 44 = true := by kernel_rfl
@[simp] theorem isAgg44 : isAggT X 44 = true := by kernel_rfl
@[simp] theorem isInt44 : isIntT X 44 = false := by kernel_rfl
@[simp] theorem isArr44 : isArrT X 44 = false := by kernel_rfl
@[simp] theorem isU844 : isU8 X 44 = false := by kernel_rfl
@[simp] theorem zok44 : zeroOk X 44 = true := by kernel_rfl
@[simp] theorem zero44 : zeroAV X 44 = .agg (.pc [.int .i64 0, .int .i64 0, .int .u64 0, .str [], .bool false, .int .i64 0, .int .i64 0, .int .i64 0, .int .i64 0, .int .i64 0, .int .i64 0, .int .i64 0]) := by kernel_rfl
@[simp] theorem size46 : sizeT X 46 = 2 := by kernel_rfl
@[simp] theorem bytes46 : bytesT X 46 = 2 := by kernel_rfl
@[simp] theorem okT46 : okT X 46 = true := by kernel_rfl
@[simp] theorem isAgg46 : isAggT X 46 = true := by kernel_rfl
@[simp] theorem isInt46 : isIntT X 46 = false := by kernel_rfl
@[simp] theorem isArr46 : isArrT X 46 = false := by kernel_rfl
@[simp] theorem isU846 : isU8 X 46 = false := by kernel_rfl
@[simp] theorem zok46 : zeroOk X 46 = true := by kernel_rfl
@[simp] theorem zero46 : zeroAV X 46 = .agg (.pc [.int .u8 0, .bool false]) := by kernel_rfl
@[simp] theorem und51 : und X 51 = .int .u64 := by kernel_rfl
@[simp] theorem size51 : sizeT X 51 = 1 := by kernel_rfl
@[simp] theorem bytes51 : bytesT X 51 = 8 := by kernel_rfl
@[simp] theorem okT51 : okT X 51 = true := by kernel_rfl
@[simp] theorem isAgg51 : isAggT X 51 = false := by kernel_rfl
@[simp] theorem isInt51 : isIntT X 51 = true := by kernel_rfl
@[simp] theorem isArr51 : isArrT X 51 = false := by kernel_rfl
@[simp] theorem isU851 : isU8 X 51 = false := by kernel_rfl
@[simp] theorem zok51 : zeroOk X 51 = true := by kernel_rfl
@[simp] theorem zero51 : zeroAV X 51 = .int .u64 0 := by kernel_rfl
@[simp] theorem size52 : sizeT X 52 = 1 := by kernel_rfl
@[simp] theorem bytes52 : bytesT X 52 = 0 := by kernel_rfl
@[simp] theorem okT52 : okT X 52 = true := by kernel_rfl
@[simp] theorem isAgg52 : isAggT X 52 = false := by kernel_rfl
@[simp] theorem isInt52 : isIntT X 52 = false := by kernel_rfl
@[simp] theorem isArr52 : isArrT X 52 = false := by kernel_rfl
@[simp] theorem isU852 : isU8 X 52 = false := by kernel_rfl
@[simp] theorem zok52 : zeroOk X 52 = true := by kernel_rfl
@[simp] theorem size55 : sizeT X 55 = 1 := by kernel_rfl
@[simp] theorem bytes55 : bytesT X 55 = 8 := by kernel_rfl
@[simp] theorem okT55 : okT X 55 = true := by kernel_rfl
@[simp] theorem isAgg55 : isAggT X 55 = false := by kernel_rfl
@[simp] theorem isInt55 : isIntT X 55 = false := by kernel_rfl
@[simp] theorem isArr55 : isArrT X 55 = false := by kernel_rfl
@[simp] theorem isU855 : isU8 X 55 = false := by kernel_rfl
@[simp] theorem zok55 : zeroOk X 55 = true := by kernel_rfl
@[simp] theorem zero55 : zeroAV X 55 = .nilfn := by kernel_rfl
@[simp] theorem size56 : sizeT X 56 = 1 := by kernel_rfl
@[simp] theorem bytes56 : bytesT X 56 = 8 := by kernel_rfl
@[simp] theorem okT56 : okT X 56 = true := by kernel_rfl
@[simp] theorem isAgg56 : isAggT X 56 = false := by kernel_rfl
@[simp] theorem isInt56 : isIntT X 56 = false := by kernel_rfl
@[simp] theorem isArr56 : isArrT X 56 = false := by kernel_rfl
@[simp] theorem isU856 : isU8 X 56 = false := by kernel_rfl
@[simp] theorem zok56 : zeroOk X 56 = true := by kernel_rfl
@[simp] theorem zero56 : zeroAV X 56 = .nilfn := by kernel_rfl
@[simp] theorem size57 : sizeT X 57 = 1 := by kernel_rfl
@[simp] theorem bytes57 : bytesT X 57 = 0 := by kernel_rfl
@[simp] theorem okT57 : okT X 57 = true := by kernel_rfl
@[simp] theorem isAgg57 : isAggT X 57 = false := by kernel_rfl
@[simp] theorem isInt57 : isIntT X 57 = false := by kernel_rfl
@[simp] theorem isArr57 : isArrT X 57 = false := by kernel_rfl
@[simp] theorem isU857 : isU8 X 57 = false := by kernel_rfl
@[simp] theorem zok57 : zeroOk X 57 = true := by kernel_rfl
@[simp] theorem size64 : sizeT X 64 = 1 := by kernel_rfl
@[simp] theorem bytes64 : bytesT X 64 = 0 := by kernel_rfl
@[simp] theorem okT64 : okT X 64 = true := by kernel_rfl
@[simp] theorem isAgg64 : isAggT X 64 = false := by kernel_rfl
@[simp] theorem isInt64 : isIntT X 64 = false := by kernel_rfl
@[simp] theorem isArr64 : isArrT X 64 = false := by kernel_rfl
@[simp] theorem isU864 : isU8 X 64 = false := by kernel_rfl
@[simp] theorem zok64 : zeroOk X 64 = true := by kernel_rfl
@[simp] theorem size67 : sizeT X 67 = 1 := by kernel_rfl
@[simp] theorem bytes67 : bytesT X 67 = 0 := by kernel_rfl
@[simp] theorem okT67 : okT X 67 = true := by kernel_rfl
@[simp] theorem isAgg67 : isAggT X 67 = false := by kernel_rfl
@[simp] theorem isInt67 : isIntT X 67 = false := by kernel_rfl
@[simp] theorem isArr67 : isArrT X 67 = false := by kernel_rfl
@[simp] theorem isU867 : isU8 X 67 = false := by kernel_rfl
@[simp] theorem zok67 : zeroOk X 67 = true := by kernel_rfl
@[simp] theorem size69 : sizeT X 69 = 1 := by kernel_rfl
@[simp] theorem bytes69 : bytesT X 69 = 0 := by kernel_rfl
@[simp] theorem okT69 : okT X 69 = true := by kernel_rfl
@[simp] theorem isAgg69 : isAggT X 69 = false := by kernel_rfl
@[simp] theorem isInt69 : isIntT X 69 = false := by kernel_rfl
@[simp] theorem isArr69 : isArrT X 69 = false := by kernel_rfl
@[simp] theorem isU869 : isU8 X 69 = false := by kernel_rfl
@[simp] theorem zok69 : zeroOk X 69 = true := by kernel_rfl
@[simp] theorem size73 : sizeT X 73 = 1 := by kernel_rfl
@[simp] theorem bytes73 : bytesT X 73 = 0 := by kernel_rfl
@[simp] theorem okT73 : okT X 73 = true := by kernel_rfl
@[simp] theorem isAgg73 : isAggT X 73 = false := by kernel_rfl
@[simp] theorem isInt73 : isIntT X 73 = false := by kernel_rfl
@[simp] theorem isArr73 : isArrT X 73 = false := by kernel_rfl
@[simp] theorem isU873 : isU8 X 73 = false := by kernel_rfl
@[simp] theorem zok73 : zeroOk X 73 = true := by kernel_rfl
@[simp] theorem und77 : und X 77 = .array 256 9 := by kernel_rfl
@[simp] theorem size77 : sizeT X 77 = 256 := by kernel_rfl
@[simp] theorem bytes77 : bytesT X 77 = 4096 := by kernel_rfl
@[simp] theorem okT77 : okT X 77 = true := by kernel_rfl
@[simp] theorem isAgg77 : isAggT X 77 = true := by kernel_rfl
@[simp] theorem isInt77 : isIntT X 77 = false := by kernel_rfl
@[simp] theorem isArr77 : isArrT X 77 = true := by kernel_rfl
@[simp] theorem isU877 : isU8 X 77 = false := by kernel_rfl
@[simp] theorem zok77 : zeroOk X 77 = true := by kernel_rfl
@[simp] theorem zero77 : zeroAV X 77 = .agg (.pc [.str [], .str [], .str [], .str [], .str [], .str [], .str [], .str [], .str [], .str [], .str [], .str [], .str [], .str [], .str [], .str [], .str [], .str [], .str [], .str [], .str [], .str [], .str [], .str [], .str [], .str [], .str [], .str [], .str [], .str [], .str [], .str [], .str [], .str [], .str [], .str [], .str [], .str [], .str [], .str [], .str [], .str [], .str [], .str [], .str [], .str [], .str [], .str [], .str [], .str [], .str [], .str [], .str [], .str [], .str [], .str [], .str [], .str [], .str [], .str [], .str [], .str [], .str [], .str [], .str [], .str [], .str [], .str [], .str [], .str [], .str [], .str [], .str [], .str [], .str [], .str [], .str [], .str [], .str [], .str [], .str [], .str [], .str [], .str [], .str [], .str [], .str [], .str [], .str [], .str [], .str [], .str [], .str [], .str [], .str [], .str [], .str [], .str [], .str [], .str [], .str [], .str [], .str [], .str [], .str [], .str [], .str [], .str [], .str [], .str [], .str [], .str [], .str [], .str [], .str [], .str [], .str [], .str [], .str [], .str [], .str [], .str [], .str [], .str [], .str [], .str [], .str [], .str [], .str [], .str [], .str [], .str [], .str [], .str [], .str [], .str [], .str [], .str [], .str [], .str [], .str [], .str [], .str [], .str [], .str [], .str [], .str [], .str [], .str [], .str [], .str [], .str [], .str [], .str [], .str [], .str [], .str [], .str [], .str [], .str [], .str [], .str [], .str [], .str [], .str [], .str [], .str [], .str [], .str [], .str [], .str [], .str [], .str [], .str [], .str [], .str [], .str [], .str [], .str [], .str [], .str [], .str [], .str [], .str [], .str [], .str [], .str [], .str [], .str [], .str [], .str [], .str [], .str [], .str [], .str [], .str [], .str [], .str [], .str [], .str [], .str [], .str [], .str [], .str [], .str [], .str [], .str [], .str [], .str [], .str [], .str [], .str [], .str [], .str [], .str [], .str [], .str [], .str [], .str [], .str [], .str [], .str [], .str [], .str [], .str [], .str [], .str [], .str [], .str [], .str [], .str [], .str [], .str [], .str [], .str [], .str [], .str [], .str [], .str [], .str [], .str [], .str [], .str [], .str [], .str [], .str [], .str [], .str [], .str [], .str [], .str [], .str [], .str [], .str [], .str [], .str []]) := by kernel_rfl
@[simp] theorem und79 : und X 79 = .slice 3 := by kernel_rfl
@[simp] theorem size79 : sizeT X 79 = 1 := by kernel_rfl
@[simp] theorem bytes79 : bytesT X 79 = 24 := by kernel_rfl
@[simp] theorem okT79 : okT X 79 = true := by kernel_rfl
@[simp] theorem isAgg79 : isAggT X 79 = false := by kernel_rfl
@[simp] theorem isInt79 : isIntT X 79 = false := by kernel_rfl
@[simp] theorem isArr79 : isArrT X 79 = false := by kernel_rfl
@[simp] theorem isU879 : isU8 X 79 = false := by kernel_rfl
@[simp] theorem zok79 : zeroOk X 79 = true := by kernel_rfl
@[simp] theorem zero79 : zeroAV X 79 = .ro 0 .pn 0 := by kernel_rfl
@[simp] theorem und81 : und X 81 = .slice 9 := by kernel_rfl
@[simp] theorem size81 : sizeT X 81 = 1 := by kernel_rfl
@[simp] theorem bytes81 : bytesT X 81 = 24 := by kernel_rfl
@[simp] theorem okT81 : okT X 81 = true := by kernel_rfl
@[simp] theorem isAgg81 : isAggT X 81 = false := by kernel_rfl
@[simp] theorem isInt81 : isIntT X 81 = false := by kernel_rfl
@[simp] theorem isArr81 : isArrT X 81 = false := by kernel_rfl
@[simp] theorem isU881 : isU8 X 81 = false := by kernel_rfl
@[simp] theorem zok81 : zeroOk X 81 = true := by kernel_rfl
@[simp] theorem zero81 : zeroAV X 81 = .ro 0 .pn 0 := by kernel_rfl
@[simp] theorem fa42_0 (H : AM.Heap) (x : AV) : fieldAddrV X H 42 x 0 = faV H x 0 := fieldAddr_of (ty := 4) (by kernel_rfl) (by kernel_rfl) H x
@[simp] theorem fv42_0 (x : AV) : fieldV X 42 x 0 = fvV X x 0 4 := field_of (by kernel_rfl) x
@[simp] theorem fa42_1 (H : AM.Heap) (x : AV) : fieldAddrV X H 42 x 1 = faV H x 1 := fieldAddr_of (ty := 3) (by kernel_rfl) (by kernel_rfl) H x
@[simp] theorem fv42_1 (x : AV) : fieldV X 42 x 1 = fvV X x 1 3 := field_of (by kernel_rfl) x
@[simp] theorem fa42_2 (H : AM.Heap) (x : AV) : fieldAddrV X H 42 x 2 = faV H x 2 := fieldAddr_of (ty := 3) (by kernel_rfl) (by kernel_rfl) H x
@[simp] theorem fv42_2 (x : AV) : fieldV X 42 x 2 = fvV X x 2 3 := field_of (by kernel_rfl) x
@[simp] theorem fa42_3 (H : AM.Heap) (x : AV) : fieldAddrV X H 42 x 3 = faV H x 3 := fieldAddr_of (ty := 3) (by kernel_rfl) (by kernel_rfl) H x
@[simp] theorem fv42_3 (x : AV) : fieldV X 42 x 3 = fvV X x 3 3 := field_of (by kernel_rfl) x
@[simp] theorem fa42_4 (H : AM.Heap) (x : AV) : fieldAddrV X H 42 x 4 = faV H x 4 := fieldAddr_of (ty := 3) (by kernel_rfl) (by kernel_rfl) H x
@[simp] theorem fv42_4 (x : AV) : fieldV X 42 x 4 = fvV X x 4 3 := field_of (by kernel_rfl) x
@[simp] theorem fa42_5 (H : AM.Heap) (x : AV) : fieldAddrV X H 42 x 5 = faV H x 5 := fieldAddr_of (ty := 3) (by kernel_rfl) (by kernel_rfl) H x
@[simp] theorem fv42_5 (x : AV) : fieldV X 42 x 5 = fvV X x 5 3 := field_of (by kernel_rfl) x
@[simp] theorem fa42_6 (H : AM.Heap) (x : AV) : fieldAddrV X H 42 x 6 = faV H x 6 := fieldAddr_of (ty := 3) (by kernel_rfl) (by kernel_rfl) H x
@[simp] theorem fv42_6 (x : AV) : fieldV X 42 x 6 = fvV X x 6 3 := field_of (by kernel_rfl) x
@[simp] theorem fa42_7 (H : AM.Heap) (x : AV) : fieldAddrV X H 42 x 7 = faV H x 7 := fieldAddr_of (ty := 3) (by kernel_rfl) (by kernel_rfl) H x
@[simp] theorem fv42_7 (x : AV) : fieldV X 42 x 7 = fvV X x 7 3 := field_of (by kernel_rfl) x
@[simp] theorem fa44_0 (H : AM.Heap) (x : AV) : fieldAddrV X H 44 x 0 = faV H x 0 := fieldAddr_of (ty := 3) (by kernel_rfl) (by kernel_rfl) H x
@[simp] theorem fv44_0 (x : AV) : fieldV X 44 x 0 = fvV X x 0 3 := field_of (by kernel_rfl) x
@[simp] theorem fa44_1 (H : AM.Heap) (x : AV) : fieldAddrV X H 44 x 1 = faV H x 1 := fieldAddr_of (ty := 2) (by kernel_rfl) (by kernel_rfl) H x
@[simp] theorem fv44_1 (x : AV) : fieldV X 44 x 1 = fvV X x 1 2 := field_of (by kernel_rfl) x
@[simp] theorem fa44_2 (H : AM.Heap) (x : AV) : fieldAddrV X H 44 x 2 = faV H x 2 := fieldAddr_of (ty := 40) (by kernel_rfl) (by kernel_rfl) H x
@[simp] theorem fv44_2 (x : AV) : fieldV X 44 x 2 = fvV X x 2 40 := field_of (by kernel_rfl) x
@[simp] theorem fa44_3 (H : AM.Heap) (x : AV) : fieldAddrV X H 44 x 3 = faV H x 3 := fieldAddr_of (ty := 9) (by kernel_rfl) (by kernel_rfl) H x
@[simp] theorem fv44_3 (x : AV) : fieldV X 44 x 3 = fvV X x 3 9 := field_of (by kernel_rfl) x
@[simp] theorem fa44_4 (H : AM.Heap) (x : AV) : fieldAddrV X H 44 x 4 = faV H x 4 := fieldAddr_of (ty := 42) (by kernel_rfl) (by kernel_rfl) H x
@[simp] theorem fv44_4 (x : AV) : fieldV X 44 x 4 = fvV X x 4 42 := field_of (by kernel_rfl) x
@[simp] theorem fa46_0 (H : AM.Heap) (x : AV) : fieldAddrV X H 46 x 0 = faV H x 0 := fieldAddr_of (ty := 5) (by kernel_rfl) (by kernel_rfl) H x
@[simp] theorem fv46_0 (x : AV) : fieldV X 46 x 0 = fvV X x 0 5 := field_of (by kernel_rfl) x
@[simp] theorem fa46_1 (H : AM.Heap) (x : AV) : fieldAddrV X H 46 x 1 = faV H x 1 := fieldAddr_of (ty := 4) (by kernel_rfl) (by kernel_rfl) H x
@[simp] theorem fv46_1 (x : AV) : fieldV X 46 x 1 = fvV X x 1 4 := field_of (by kernel_rfl) x

end Go.Proofs.Ytafdnpcamepbmaa
