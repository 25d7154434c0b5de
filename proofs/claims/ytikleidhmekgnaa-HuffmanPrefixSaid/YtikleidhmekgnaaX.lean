/- The seat's tables for the abstract machine, and what walks ask of the program. No conditions. -/
import Derived.Test.YtikleidhmekgnaaRows
import Derived.Test.YtikleidhmekgnaaAm3
namespace Go.Proofs.Ytikleidhmekgnaa
open Go.AM

def keepT : List (List (List Nat)) := [[], [], [[]], [[], [1, 2], [1, 2, 3, 4], [1, 2, 3, 4, 6], [1, 2, 3, 4, 6, 8], [1, 2, 3, 4, 6, 8, 9, 10], [11], [2, 11, 12, 13], [2, 4, 11, 12, 13, 14, 15], [2, 4, 6, 11, 12, 13, 14, 15], [2, 4, 6, 8, 11, 12, 13, 14, 15], [2, 4, 6, 8, 10, 11, 12, 13, 14, 15], [0]], [[0, 1], [0, 1, 12], [4], [0, 1, 20], [4], [0, 1, 5, 6, 7], [5, 6, 7, 8, 9, 10], [4]], [[0, 1], [0, 1, 12], [4], [0, 1, 5, 6], [0, 1, 5, 6, 7, 8], [0, 1, 5, 6, 7, 25], [4], [0, 1, 5, 7, 27], [4], [0, 1, 5, 7, 35], [4], [0, 1, 5, 7, 9], [0, 1, 5, 7, 9, 39], [0, 1, 5, 7, 9], [0, 1, 5, 7, 9, 65], [4], [0, 1, 5, 7, 9, 10], [0, 1, 5, 7, 9, 10, 69], [0, 1, 5, 7, 9, 10], [0, 1, 5, 7, 9, 10, 114], [4], [6, 7], [4]], [[0, 1, 2], [0, 1, 2, 24], [6], [0, 1, 2, 32], [6], [0, 1, 2, 7], [0, 1, 2, 7, 8, 9], [0, 1, 2, 7, 8, 9, 10, 11], [0, 1, 2, 7, 8, 9, 10, 11, 12, 13], [0, 1, 2, 7, 8, 9, 10, 11, 12, 13, 14, 15], [0, 1, 2, 7, 80], [6], [0, 1, 2, 7, 9, 16, 17], [0, 1, 2, 7, 9, 11, 16, 17, 18, 19], [0, 1, 2, 7, 109], [6], [0, 1, 7, 20], [0, 1, 9, 17, 20, 21], [9, 11, 17, 19, 21, 22], [6]], [[0, 1], [0, 1, 17], [4], [0, 1, 25], [4], [0, 1, 5, 6, 7], [0, 1, 5, 6, 34], [4], [0, 1, 5, 6, 8, 9, 10], [0, 1, 5, 6, 71], [4], [0, 1, 5, 6, 11], [0, 1, 5, 6, 11, 12], [0, 1, 5, 6, 11, 12, 75], [0, 1, 5, 6, 11, 12], [0, 1, 5, 6, 11, 12, 13, 14, 15], [0, 1, 5, 6, 11, 12, 14, 103], [4], [0, 1, 5, 6, 11, 12], [4]], [[0], [3, 4], [3, 4, 13], [2, 3], [4, 5], [4, 5, 6], [4, 5, 6, 16], [4, 5, 6], [4, 5, 6], [5, 28], [2, 3], [2, 3]], [[0, 1, 2], [0, 1, 2, 10], [0, 1, 2, 10, 17], [6, 7, 8], [0, 1, 2, 20], [6, 7, 8], [6, 7, 8]], [[], [1, 2], [1, 2, 3, 4, 5], [1, 2, 3, 4, 5, 6, 7, 8], [0]], [[0, 1, 4, 5], [0, 1, 4, 5, 6, 7], [0, 1, 4, 5, 6, 7, 17], [4, 5, 6], [0, 4, 5, 7, 19, 20, 21], [0, 4, 5, 7, 19, 20, 21, 22], [0, 4, 5, 7, 9, 19, 20, 21], [0, 4, 5, 7, 9, 19, 20, 21, 39], [4, 5, 6], [0, 4, 5, 7, 9, 10, 19, 20, 21], [0, 4, 5, 7, 9, 10, 19, 20, 21, 46], [0, 4, 5, 7, 9, 10, 19, 20, 21], [0, 4, 5, 7, 9, 10, 19, 20, 21, 51], [0, 4, 5, 7, 9, 10, 19, 20, 21], [0, 4, 5, 7, 9, 10, 19, 20, 21], [0, 4, 5, 7, 9, 10, 19, 20, 21], [0, 4, 5, 7, 19, 20, 21], [4, 5, 6]], [[0, 1], [0, 1, 7, 8], [0, 1, 7, 8, 21], [4, 5, 6], [0, 1, 7, 9], [0, 1, 7, 9, 26], [0, 1, 7, 9], [0, 1, 7, 9, 52], [4, 5, 6], [0, 1, 7, 10], [0, 1, 7, 10, 11], [0, 1, 7, 10, 11, 12], [0, 1, 7, 10, 11, 12, 56], [0, 1, 7, 10, 11, 12], [0, 1, 7, 10, 11, 12, 13], [0, 1, 7, 10, 11, 12, 14], [0, 1, 7, 10, 11, 12, 14, 69], [0, 1, 7, 10, 11, 12, 14], [0, 1, 7, 10, 11, 12, 14], [0, 1, 7, 10, 11, 12, 14], [4, 5, 6]], [[0, 1], [4]], [[0], [0, 5], [0, 5, 18], [2, 3], [0, 6], [0, 8], [0, 8, 9], [8, 9, 30, 31, 32], [8, 9, 30, 31, 32, 33], [8, 9, 10, 11, 30, 31, 32], [8, 9, 10, 11, 30, 31, 32], [8, 9, 10, 11, 30, 31, 32, 41], [8, 9, 11, 30, 31, 32], [8, 9, 30, 31, 32], [8, 9, 30, 31, 32], [2, 3]], [[0], [0, 8], [2, 3], [0, 4], [0, 4, 5], [0, 4, 5, 12], [0, 4, 5], [0, 4, 5, 26], [2, 3], [0, 4, 5, 31], [0, 4, 5], [4, 42], [2, 3], [2, 3]], [[0], [0, 5], [0, 5, 18], [2, 3], [0, 6], [0, 6, 7, 8], [0, 6, 7, 8, 9], [0, 6, 7, 8, 9, 24], [0, 6, 7, 8, 9], [0, 6, 7, 8, 9, 10], [0, 6, 7, 8, 9, 10, 30], [0, 6, 7, 8, 9, 10], [0, 6, 7, 8, 9, 10, 38], [0, 6, 7, 8, 9, 10, 40], [0, 6, 7, 9, 10], [0, 6, 7, 8, 9, 10], [0, 6, 11], [0, 6, 11, 56], [0, 6, 11], [0, 6, 11, 63], [0, 6, 11], [2, 3]], [[0, 1], [0, 1, 10], [4], [0, 1, 5], [0, 1, 5, 14], [0, 1, 5], [0, 1, 5, 25], [4], [4]], [[0, 1, 2], [0, 1, 2, 9, 10], [0, 1, 2, 9, 10, 17], [6, 7, 8], [0, 1, 2, 9, 20], [6, 7, 8], [6, 7, 8]], [[0, 1, 2, 6, 7], [0, 1, 2, 6, 7, 10], [0, 1, 2, 6, 7, 10, 21], [6, 7, 8], [0, 1, 2, 6, 7, 24], [6, 7, 8], [2, 6, 7, 11], [6, 7, 11, 28, 29], [6, 7, 11, 28, 29, 30], [6, 7, 11, 12, 13, 14, 28, 29], [6, 7, 11, 12, 13, 14, 28, 29, 38], [6, 7, 8], [6, 7, 11, 28, 29], [6, 7, 11, 28, 29], [6, 7, 8]], [[0, 1, 2], [0, 1, 2, 9, 10], [0, 1, 2, 9, 10, 23], [6, 7, 8], [0, 1, 2, 9, 26], [6, 7, 8], [0, 1, 2, 9, 11], [0, 1, 2, 9, 11, 12], [0, 1, 2, 9, 11, 12, 13], [0, 1, 2, 9, 11, 12, 13, 29], [0, 1, 2, 9, 11, 12, 13], [0, 1, 2, 9, 11, 12, 13, 14, 15, 16], [0, 1, 2, 9, 11, 12, 13, 14, 15, 16, 42], [6, 7, 8], [0, 1, 2, 9, 11, 12, 13, 15], [0, 1, 2, 9, 11, 12, 13], [6, 7, 8]], [[0, 2], [0, 2, 4], [0, 2, 4, 9], [2, 3], [2, 4, 11, 12, 13], [2, 4, 11, 12, 13, 14], [2, 4, 6, 11, 12, 13], [2, 4, 6, 11, 12, 13, 22], [2, 3], [2, 4, 11, 12, 13], [2, 4, 11, 12, 13], [2, 3]], [[0, 4, 5], [0, 4, 5, 7], [0, 4, 5, 7, 9], [0, 4, 5, 7, 9, 10], [0, 4, 5, 7, 9, 10, 11], [4, 5, 7, 9, 10, 11, 21, 22, 23], [4, 5, 7, 9, 10, 11, 21, 22, 23, 24], [4, 5, 7, 9, 10, 11, 12, 13, 21, 22, 23], [4, 5, 7, 9, 10, 11, 13, 21, 22, 23], [4, 5, 7, 9, 10, 11, 21, 22, 23], [4, 5, 7, 9, 10, 11, 21, 22, 23], [6]], [[0, 1, 2], [0, 1, 2, 9], [0, 1, 2], [0], [6]], [[1, 2], [1, 2, 3], [1, 2, 3], [1, 2, 3, 4], [1, 2, 3, 4, 7], [1, 2, 3, 4], [1, 2, 3, 4], [2]], [[0, 1, 2, 3], [0, 1, 2, 3, 11], [0, 1, 2, 3, 11, 12], [0, 1, 2, 3, 11, 12, 19], [0, 1, 2, 3, 11, 12], [0, 1, 2, 3, 11, 12], [0, 1, 2, 3, 11, 13], [0, 1, 2, 3, 11, 13, 14], [0, 1, 2, 3, 11, 13, 14, 30], [0, 1, 2, 3, 11, 13, 14], [0, 1, 2, 3, 11, 13, 14, 39], [8, 9, 10], [0, 1, 2, 3, 11, 13, 14], [0, 1, 2, 3, 11, 13, 14, 15], [0, 1, 2, 3, 11, 13, 14, 15, 52], [0, 1, 2, 3, 11, 13, 14, 15], [0, 1, 2, 3, 11, 13, 14, 15, 68], [8, 9, 10], [8, 9, 10]], [[0, 1, 2, 3, 4, 5], [0, 1, 2, 3, 4, 5, 9], [0, 1, 2, 3, 4, 5, 9, 10], [0, 1, 2, 3, 4, 5, 9, 10], [0, 1, 2, 3, 4, 5, 9, 10, 16], [6, 7, 8], [0, 1, 2, 3, 4, 5, 9, 10, 21], [6, 7, 8], [0, 1, 2, 3, 4, 5, 9, 10], [0, 1, 2, 3, 4, 5, 9, 10], [0, 1, 2, 3, 4, 5, 9, 10, 11], [0, 1, 2, 3, 4, 5, 9, 10, 11, 50], [6, 7, 8]], [[0, 1], [4]], [], [], [], [], [], [], [], [], [], [], [], [], [], [], [], []]

noncomputable def X : AM.Ctx := { P := Try.prog, G := fun _ => .none, rw := fun f i => (f == 23 && i == 0), keep := fun f i => ((keepT[f]?).getD [])[i]?, norm := fun _ _ => false, dr := fun _ _ => true, dy := fun f id => [].contains (f, id) }

theorem own : ownKnob Try.prog.godebug = .none := by kernel_rfl
theorem full : ∀ t e, t < Try.prog.types.size → Try.prog.underlying t = some (.slice e) → 0 < Try.prog.cellsOf e := slices_full_of Try.prog (by kernel_rfl)
theorem ctxOk : AM.CtxOk X := AM.ctxOk_of (by kernel_rfl) (by kernel_rfl)
@[simp] theorem X_dr (f i : Nat) : X.dr f i = true := rfl
@[simp] theorem X_norm (f i : Nat) : X.norm f i = false := rfl
@[simp] theorem X_rw (f i : Nat) : X.rw f i = ((f == 23 && i == 0)) := rfl
@[simp] theorem nt4 : ntOf X 4 = 48 := by kernel_rfl
@[simp] theorem bod4 : bodied X 4 = true := by kernel_rfl
@[simp] theorem par4 : paramsOf X 4 = [25, 25] := by kernel_rfl
@[simp] theorem nt5 : ntOf X 5 = 133 := by kernel_rfl
@[simp] theorem bod5 : bodied X 5 = true := by kernel_rfl
@[simp] theorem par5 : paramsOf X 5 = [25, 34] := by kernel_rfl
@[simp] theorem nt6 : ntOf X 6 = 141 := by kernel_rfl
@[simp] theorem bod6 : bodied X 6 = true := by kernel_rfl
@[simp] theorem par6 : paramsOf X 6 = [25, 28, 3] := by kernel_rfl
@[simp] theorem nt7 : ntOf X 7 = 110 := by kernel_rfl
@[simp] theorem bod7 : bodied X 7 = true := by kernel_rfl
@[simp] theorem par7 : paramsOf X 7 = [25, 25] := by kernel_rfl
@[simp] theorem nt8 : ntOf X 8 = 31 := by kernel_rfl
@[simp] theorem bod8 : bodied X 8 = true := by kernel_rfl
@[simp] theorem par8 : paramsOf X 8 = [25] := by kernel_rfl
@[simp] theorem nt9 : ntOf X 9 = 29 := by kernel_rfl
@[simp] theorem bod9 : bodied X 9 = true := by kernel_rfl
@[simp] theorem par9 : paramsOf X 9 = [25, 28, 3] := by kernel_rfl
@[simp] theorem nt10 : ntOf X 10 = 60 := by kernel_rfl
@[simp] theorem bod10 : bodied X 10 = true := by kernel_rfl
@[simp] theorem par10 : paramsOf X 10 = [] := by kernel_rfl
@[simp] theorem nt11 : ntOf X 11 = 78 := by kernel_rfl
@[simp] theorem bod11 : bodied X 11 = true := by kernel_rfl
@[simp] theorem par11 : paramsOf X 11 = [25, 25] := by kernel_rfl
@[simp] theorem nt12 : ntOf X 12 = 90 := by kernel_rfl
@[simp] theorem bod12 : bodied X 12 = true := by kernel_rfl
@[simp] theorem par12 : paramsOf X 12 = [25, 25] := by kernel_rfl
@[simp] theorem nt13 : ntOf X 13 = 10 := by kernel_rfl
@[simp] theorem bod13 : bodied X 13 = true := by kernel_rfl
@[simp] theorem par13 : paramsOf X 13 = [28, 28] := by kernel_rfl
@[simp] theorem nt14 : ntOf X 14 = 55 := by kernel_rfl
@[simp] theorem bod14 : bodied X 14 = true := by kernel_rfl
@[simp] theorem par14 : paramsOf X 14 = [25] := by kernel_rfl
@[simp] theorem nt15 : ntOf X 15 = 45 := by kernel_rfl
@[simp] theorem bod15 : bodied X 15 = true := by kernel_rfl
@[simp] theorem par15 : paramsOf X 15 = [25] := by kernel_rfl
@[simp] theorem nt16 : ntOf X 16 = 68 := by kernel_rfl
@[simp] theorem bod16 : bodied X 16 = true := by kernel_rfl
@[simp] theorem par16 : paramsOf X 16 = [25] := by kernel_rfl
@[simp] theorem nt17 : ntOf X 17 = 26 := by kernel_rfl
@[simp] theorem bod17 : bodied X 17 = true := by kernel_rfl
@[simp] theorem par17 : paramsOf X 17 = [25, 25] := by kernel_rfl
@[simp] theorem nt18 : ntOf X 18 = 29 := by kernel_rfl
@[simp] theorem bod18 : bodied X 18 = true := by kernel_rfl
@[simp] theorem par18 : paramsOf X 18 = [25, 28, 3] := by kernel_rfl
@[simp] theorem nt19 : ntOf X 19 = 50 := by kernel_rfl
@[simp] theorem bod19 : bodied X 19 = true := by kernel_rfl
@[simp] theorem par19 : paramsOf X 19 = [25, 28, 3] := by kernel_rfl
@[simp] theorem nt20 : ntOf X 20 = 53 := by kernel_rfl
@[simp] theorem bod20 : bodied X 20 = true := by kernel_rfl
@[simp] theorem par20 : paramsOf X 20 = [25, 28, 3] := by kernel_rfl
@[simp] theorem nt21 : ntOf X 21 = 31 := by kernel_rfl
@[simp] theorem bod21 : bodied X 21 = true := by kernel_rfl
@[simp] theorem par21 : paramsOf X 21 = [25] := by kernel_rfl
@[simp] theorem nt22 : ntOf X 22 = 41 := by kernel_rfl
@[simp] theorem bod22 : bodied X 22 = true := by kernel_rfl
@[simp] theorem par22 : paramsOf X 22 = [25, 28, 3] := by kernel_rfl
@[simp] theorem nt23 : ntOf X 23 = 30 := by kernel_rfl
@[simp] theorem bod23 : bodied X 23 = true := by kernel_rfl
@[simp] theorem par23 : paramsOf X 23 = [28, 3, 3] := by kernel_rfl
@[simp] theorem nt24 : ntOf X 24 = 22 := by kernel_rfl
@[simp] theorem bod24 : bodied X 24 = true := by kernel_rfl
@[simp] theorem par24 : paramsOf X 24 = [42] := by kernel_rfl
@[simp] theorem nt25 : ntOf X 25 = 71 := by kernel_rfl
@[simp] theorem bod25 : bodied X 25 = true := by kernel_rfl
@[simp] theorem par25 : paramsOf X 25 = [25, 25, 28, 3] := by kernel_rfl
@[simp] theorem nt26 : ntOf X 26 = 58 := by kernel_rfl
@[simp] theorem bod26 : bodied X 26 = true := by kernel_rfl
@[simp] theorem par26 : paramsOf X 26 = [] := by kernel_rfl
@[simp] theorem nt27 : ntOf X 27 = 16 := by kernel_rfl
@[simp] theorem bod27 : bodied X 27 = true := by kernel_rfl
@[simp] theorem par27 : paramsOf X 27 = [28, 3] := by kernel_rfl
@[simp] theorem keep8_0 : X.keep 8 0 = some [0] := by kernel_rfl
@[simp] theorem keep8_1 : X.keep 8 1 = some [3, 4] := by kernel_rfl
@[simp] theorem keep8_2 : X.keep 8 2 = some [3, 4, 13] := by kernel_rfl
@[simp] theorem keep8_3 : X.keep 8 3 = some [2, 3] := by kernel_rfl
@[simp] theorem keep8_4 : X.keep 8 4 = some [4, 5] := by kernel_rfl
@[simp] theorem keep8_5 : X.keep 8 5 = some [4, 5, 6] := by kernel_rfl
@[simp] theorem keep8_6 : X.keep 8 6 = some [4, 5, 6, 16] := by kernel_rfl
@[simp] theorem keep8_7 : X.keep 8 7 = some [4, 5, 6] := by kernel_rfl
@[simp] theorem keep8_8 : X.keep 8 8 = some [4, 5, 6] := by kernel_rfl
@[simp] theorem keep8_9 : X.keep 8 9 = some [5, 28] := by kernel_rfl
@[simp] theorem keep8_10 : X.keep 8 10 = some [2, 3] := by kernel_rfl
@[simp] theorem keep8_11 : X.keep 8 11 = some [2, 3] := by kernel_rfl
@[simp] theorem keep9_0 : X.keep 9 0 = some [0, 1, 2] := by kernel_rfl
@[simp] theorem keep9_1 : X.keep 9 1 = some [0, 1, 2, 10] := by kernel_rfl
@[simp] theorem keep9_2 : X.keep 9 2 = some [0, 1, 2, 10, 17] := by kernel_rfl
@[simp] theorem keep9_3 : X.keep 9 3 = some [6, 7, 8] := by kernel_rfl
@[simp] theorem keep9_4 : X.keep 9 4 = some [0, 1, 2, 20] := by kernel_rfl
@[simp] theorem keep9_5 : X.keep 9 5 = some [6, 7, 8] := by kernel_rfl
@[simp] theorem keep9_6 : X.keep 9 6 = some [6, 7, 8] := by kernel_rfl
@[simp] theorem keep11_0 : X.keep 11 0 = some [0, 1, 4, 5] := by kernel_rfl
@[simp] theorem keep11_1 : X.keep 11 1 = some [0, 1, 4, 5, 6, 7] := by kernel_rfl
@[simp] theorem keep11_2 : X.keep 11 2 = some [0, 1, 4, 5, 6, 7, 17] := by kernel_rfl
@[simp] theorem keep11_3 : X.keep 11 3 = some [4, 5, 6] := by kernel_rfl
@[simp] theorem keep11_4 : X.keep 11 4 = some [0, 4, 5, 7, 19, 20, 21] := by kernel_rfl
@[simp] theorem keep11_5 : X.keep 11 5 = some [0, 4, 5, 7, 19, 20, 21, 22] := by kernel_rfl
@[simp] theorem keep11_6 : X.keep 11 6 = some [0, 4, 5, 7, 9, 19, 20, 21] := by kernel_rfl
@[simp] theorem keep11_7 : X.keep 11 7 = some [0, 4, 5, 7, 9, 19, 20, 21, 39] := by kernel_rfl
@[simp] theorem keep11_8 : X.keep 11 8 = some [4, 5, 6] := by kernel_rfl
@[simp] theorem keep11_9 : X.keep 11 9 = some [0, 4, 5, 7, 9, 10, 19, 20, 21] := by kernel_rfl
@[simp] theorem keep11_10 : X.keep 11 10 = some [0, 4, 5, 7, 9, 10, 19, 20, 21, 46] := by kernel_rfl
@[simp] theorem keep11_11 : X.keep 11 11 = some [0, 4, 5, 7, 9, 10, 19, 20, 21] := by kernel_rfl
@[simp] theorem keep11_12 : X.keep 11 12 = some [0, 4, 5, 7, 9, 10, 19, 20, 21, 51] := by kernel_rfl
@[simp] theorem keep11_13 : X.keep 11 13 = some [0, 4, 5, 7, 9, 10, 19, 20, 21] := by kernel_rfl
@[simp] theorem keep11_14 : X.keep 11 14 = some [0, 4, 5, 7, 9, 10, 19, 20, 21] := by kernel_rfl
@[simp] theorem keep11_15 : X.keep 11 15 = some [0, 4, 5, 7, 9, 10, 19, 20, 21] := by kernel_rfl
@[simp] theorem keep11_16 : X.keep 11 16 = some [0, 4, 5, 7, 19, 20, 21] := by kernel_rfl
@[simp] theorem keep11_17 : X.keep 11 17 = some [4, 5, 6] := by kernel_rfl
@[simp] theorem keep12_0 : X.keep 12 0 = some [0, 1] := by kernel_rfl
@[simp] theorem keep12_1 : X.keep 12 1 = some [0, 1, 7, 8] := by kernel_rfl
@[simp] theorem keep12_2 : X.keep 12 2 = some [0, 1, 7, 8, 21] := by kernel_rfl
@[simp] theorem keep12_3 : X.keep 12 3 = some [4, 5, 6] := by kernel_rfl
@[simp] theorem keep12_4 : X.keep 12 4 = some [0, 1, 7, 9] := by kernel_rfl
@[simp] theorem keep12_5 : X.keep 12 5 = some [0, 1, 7, 9, 26] := by kernel_rfl
@[simp] theorem keep12_6 : X.keep 12 6 = some [0, 1, 7, 9] := by kernel_rfl
@[simp] theorem keep12_7 : X.keep 12 7 = some [0, 1, 7, 9, 52] := by kernel_rfl
@[simp] theorem keep12_8 : X.keep 12 8 = some [4, 5, 6] := by kernel_rfl
@[simp] theorem keep12_9 : X.keep 12 9 = some [0, 1, 7, 10] := by kernel_rfl
@[simp] theorem keep12_10 : X.keep 12 10 = some [0, 1, 7, 10, 11] := by kernel_rfl
@[simp] theorem keep12_11 : X.keep 12 11 = some [0, 1, 7, 10, 11, 12] := by kernel_rfl
@[simp] theorem keep12_12 : X.keep 12 12 = some [0, 1, 7, 10, 11, 12, 56] := by kernel_rfl
@[simp] theorem keep12_13 : X.keep 12 13 = some [0, 1, 7, 10, 11, 12] := by kernel_rfl
@[simp] theorem keep12_14 : X.keep 12 14 = some [0, 1, 7, 10, 11, 12, 13] := by kernel_rfl
@[simp] theorem keep12_15 : X.keep 12 15 = some [0, 1, 7, 10, 11, 12, 14] := by kernel_rfl
@[simp] theorem keep12_16 : X.keep 12 16 = some [0, 1, 7, 10, 11, 12, 14, 69] := by kernel_rfl
@[simp] theorem keep12_17 : X.keep 12 17 = some [0, 1, 7, 10, 11, 12, 14] := by kernel_rfl
@[simp] theorem keep12_18 : X.keep 12 18 = some [0, 1, 7, 10, 11, 12, 14] := by kernel_rfl
@[simp] theorem keep12_19 : X.keep 12 19 = some [0, 1, 7, 10, 11, 12, 14] := by kernel_rfl
@[simp] theorem keep12_20 : X.keep 12 20 = some [4, 5, 6] := by kernel_rfl
@[simp] theorem keep13_0 : X.keep 13 0 = some [0, 1] := by kernel_rfl
@[simp] theorem keep13_1 : X.keep 13 1 = some [4] := by kernel_rfl
@[simp] theorem keep14_0 : X.keep 14 0 = some [0] := by kernel_rfl
@[simp] theorem keep14_1 : X.keep 14 1 = some [0, 5] := by kernel_rfl
@[simp] theorem keep14_2 : X.keep 14 2 = some [0, 5, 18] := by kernel_rfl
@[simp] theorem keep14_3 : X.keep 14 3 = some [2, 3] := by kernel_rfl
@[simp] theorem keep14_4 : X.keep 14 4 = some [0, 6] := by kernel_rfl
@[simp] theorem keep14_5 : X.keep 14 5 = some [0, 8] := by kernel_rfl
@[simp] theorem keep14_6 : X.keep 14 6 = some [0, 8, 9] := by kernel_rfl
@[simp] theorem keep14_7 : X.keep 14 7 = some [8, 9, 30, 31, 32] := by kernel_rfl
@[simp] theorem keep14_8 : X.keep 14 8 = some [8, 9, 30, 31, 32, 33] := by kernel_rfl
@[simp] theorem keep14_9 : X.keep 14 9 = some [8, 9, 10, 11, 30, 31, 32] := by kernel_rfl
@[simp] theorem keep14_10 : X.keep 14 10 = some [8, 9, 10, 11, 30, 31, 32] := by kernel_rfl
@[simp] theorem keep14_11 : X.keep 14 11 = some [8, 9, 10, 11, 30, 31, 32, 41] := by kernel_rfl
@[simp] theorem keep14_12 : X.keep 14 12 = some [8, 9, 11, 30, 31, 32] := by kernel_rfl
@[simp] theorem keep14_13 : X.keep 14 13 = some [8, 9, 30, 31, 32] := by kernel_rfl
@[simp] theorem keep14_14 : X.keep 14 14 = some [8, 9, 30, 31, 32] := by kernel_rfl
@[simp] theorem keep14_15 : X.keep 14 15 = some [2, 3] := by kernel_rfl
@[simp] theorem keep15_0 : X.keep 15 0 = some [0] := by kernel_rfl
@[simp] theorem keep15_1 : X.keep 15 1 = some [0, 8] := by kernel_rfl
@[simp] theorem keep15_2 : X.keep 15 2 = some [2, 3] := by kernel_rfl
@[simp] theorem keep15_3 : X.keep 15 3 = some [0, 4] := by kernel_rfl
@[simp] theorem keep15_4 : X.keep 15 4 = some [0, 4, 5] := by kernel_rfl
@[simp] theorem keep15_5 : X.keep 15 5 = some [0, 4, 5, 12] := by kernel_rfl
@[simp] theorem keep15_6 : X.keep 15 6 = some [0, 4, 5] := by kernel_rfl
@[simp] theorem keep15_7 : X.keep 15 7 = some [0, 4, 5, 26] := by kernel_rfl
@[simp] theorem keep15_8 : X.keep 15 8 = some [2, 3] := by kernel_rfl
@[simp] theorem keep15_9 : X.keep 15 9 = some [0, 4, 5, 31] := by kernel_rfl
@[simp] theorem keep15_10 : X.keep 15 10 = some [0, 4, 5] := by kernel_rfl
@[simp] theorem keep15_11 : X.keep 15 11 = some [4, 42] := by kernel_rfl
@[simp] theorem keep15_12 : X.keep 15 12 = some [2, 3] := by kernel_rfl
@[simp] theorem keep15_13 : X.keep 15 13 = some [2, 3] := by kernel_rfl
@[simp] theorem keep16_0 : X.keep 16 0 = some [0] := by kernel_rfl
@[simp] theorem keep16_1 : X.keep 16 1 = some [0, 5] := by kernel_rfl
@[simp] theorem keep16_2 : X.keep 16 2 = some [0, 5, 18] := by kernel_rfl
@[simp] theorem keep16_3 : X.keep 16 3 = some [2, 3] := by kernel_rfl
@[simp] theorem keep16_4 : X.keep 16 4 = some [0, 6] := by kernel_rfl
@[simp] theorem keep16_5 : X.keep 16 5 = some [0, 6, 7, 8] := by kernel_rfl
@[simp] theorem keep16_6 : X.keep 16 6 = some [0, 6, 7, 8, 9] := by kernel_rfl
@[simp] theorem keep16_7 : X.keep 16 7 = some [0, 6, 7, 8, 9, 24] := by kernel_rfl
@[simp] theorem keep16_8 : X.keep 16 8 = some [0, 6, 7, 8, 9] := by kernel_rfl
@[simp] theorem keep16_9 : X.keep 16 9 = some [0, 6, 7, 8, 9, 10] := by kernel_rfl
@[simp] theorem keep16_10 : X.keep 16 10 = some [0, 6, 7, 8, 9, 10, 30] := by kernel_rfl
@[simp] theorem keep16_11 : X.keep 16 11 = some [0, 6, 7, 8, 9, 10] := by kernel_rfl
@[simp] theorem keep16_12 : X.keep 16 12 = some [0, 6, 7, 8, 9, 10, 38] := by kernel_rfl
@[simp] theorem keep16_13 : X.keep 16 13 = some [0, 6, 7, 8, 9, 10, 40] := by kernel_rfl
@[simp] theorem keep16_14 : X.keep 16 14 = some [0, 6, 7, 9, 10] := by kernel_rfl
@[simp] theorem keep16_15 : X.keep 16 15 = some [0, 6, 7, 8, 9, 10] := by kernel_rfl
@[simp] theorem keep16_16 : X.keep 16 16 = some [0, 6, 11] := by kernel_rfl
@[simp] theorem keep16_17 : X.keep 16 17 = some [0, 6, 11, 56] := by kernel_rfl
@[simp] theorem keep16_18 : X.keep 16 18 = some [0, 6, 11] := by kernel_rfl
@[simp] theorem keep16_19 : X.keep 16 19 = some [0, 6, 11, 63] := by kernel_rfl
@[simp] theorem keep16_20 : X.keep 16 20 = some [0, 6, 11] := by kernel_rfl
@[simp] theorem keep16_21 : X.keep 16 21 = some [2, 3] := by kernel_rfl
@[simp] theorem keep17_0 : X.keep 17 0 = some [0, 1] := by kernel_rfl
@[simp] theorem keep17_1 : X.keep 17 1 = some [0, 1, 10] := by kernel_rfl
@[simp] theorem keep17_2 : X.keep 17 2 = some [4] := by kernel_rfl
@[simp] theorem keep17_3 : X.keep 17 3 = some [0, 1, 5] := by kernel_rfl
@[simp] theorem keep17_4 : X.keep 17 4 = some [0, 1, 5, 14] := by kernel_rfl
@[simp] theorem keep17_5 : X.keep 17 5 = some [0, 1, 5] := by kernel_rfl
@[simp] theorem keep17_6 : X.keep 17 6 = some [0, 1, 5, 25] := by kernel_rfl
@[simp] theorem keep17_7 : X.keep 17 7 = some [4] := by kernel_rfl
@[simp] theorem keep17_8 : X.keep 17 8 = some [4] := by kernel_rfl
@[simp] theorem keep18_0 : X.keep 18 0 = some [0, 1, 2] := by kernel_rfl
@[simp] theorem keep18_1 : X.keep 18 1 = some [0, 1, 2, 9, 10] := by kernel_rfl
@[simp] theorem keep18_2 : X.keep 18 2 = some [0, 1, 2, 9, 10, 17] := by kernel_rfl
@[simp] theorem keep18_3 : X.keep 18 3 = some [6, 7, 8] := by kernel_rfl
@[simp] theorem keep18_4 : X.keep 18 4 = some [0, 1, 2, 9, 20] := by kernel_rfl
@[simp] theorem keep18_5 : X.keep 18 5 = some [6, 7, 8] := by kernel_rfl
@[simp] theorem keep18_6 : X.keep 18 6 = some [6, 7, 8] := by kernel_rfl
@[simp] theorem keep19_0 : X.keep 19 0 = some [0, 1, 2, 6, 7] := by kernel_rfl
@[simp] theorem keep19_1 : X.keep 19 1 = some [0, 1, 2, 6, 7, 10] := by kernel_rfl
@[simp] theorem keep19_2 : X.keep 19 2 = some [0, 1, 2, 6, 7, 10, 21] := by kernel_rfl
@[simp] theorem keep19_3 : X.keep 19 3 = some [6, 7, 8] := by kernel_rfl
@[simp] theorem keep19_4 : X.keep 19 4 = some [0, 1, 2, 6, 7, 24] := by kernel_rfl
@[simp] theorem keep19_5 : X.keep 19 5 = some [6, 7, 8] := by kernel_rfl
@[simp] theorem keep19_6 : X.keep 19 6 = some [2, 6, 7, 11] := by kernel_rfl
@[simp] theorem keep19_7 : X.keep 19 7 = some [6, 7, 11, 28, 29] := by kernel_rfl
@[simp] theorem keep19_8 : X.keep 19 8 = some [6, 7, 11, 28, 29, 30] := by kernel_rfl
@[simp] theorem keep19_9 : X.keep 19 9 = some [6, 7, 11, 12, 13, 14, 28, 29] := by kernel_rfl
@[simp] theorem keep19_10 : X.keep 19 10 = some [6, 7, 11, 12, 13, 14, 28, 29, 38] := by kernel_rfl
@[simp] theorem keep19_11 : X.keep 19 11 = some [6, 7, 8] := by kernel_rfl
@[simp] theorem keep19_12 : X.keep 19 12 = some [6, 7, 11, 28, 29] := by kernel_rfl
@[simp] theorem keep19_13 : X.keep 19 13 = some [6, 7, 11, 28, 29] := by kernel_rfl
@[simp] theorem keep19_14 : X.keep 19 14 = some [6, 7, 8] := by kernel_rfl
@[simp] theorem keep20_0 : X.keep 20 0 = some [0, 1, 2] := by kernel_rfl
@[simp] theorem keep20_1 : X.keep 20 1 = some [0, 1, 2, 9, 10] := by kernel_rfl
@[simp] theorem keep20_2 : X.keep 20 2 = some [0, 1, 2, 9, 10, 23] := by kernel_rfl
@[simp] theorem keep20_3 : X.keep 20 3 = some [6, 7, 8] := by kernel_rfl
@[simp] theorem keep20_4 : X.keep 20 4 = some [0, 1, 2, 9, 26] := by kernel_rfl
@[simp] theorem keep20_5 : X.keep 20 5 = some [6, 7, 8] := by kernel_rfl
@[simp] theorem keep20_6 : X.keep 20 6 = some [0, 1, 2, 9, 11] := by kernel_rfl
@[simp] theorem keep20_7 : X.keep 20 7 = some [0, 1, 2, 9, 11, 12] := by kernel_rfl
@[simp] theorem keep20_8 : X.keep 20 8 = some [0, 1, 2, 9, 11, 12, 13] := by kernel_rfl
@[simp] theorem keep20_9 : X.keep 20 9 = some [0, 1, 2, 9, 11, 12, 13, 29] := by kernel_rfl
@[simp] theorem keep20_10 : X.keep 20 10 = some [0, 1, 2, 9, 11, 12, 13] := by kernel_rfl
@[simp] theorem keep20_11 : X.keep 20 11 = some [0, 1, 2, 9, 11, 12, 13, 14, 15, 16] := by kernel_rfl
@[simp] theorem keep20_12 : X.keep 20 12 = some [0, 1, 2, 9, 11, 12, 13, 14, 15, 16, 42] := by kernel_rfl
@[simp] theorem keep20_13 : X.keep 20 13 = some [6, 7, 8] := by kernel_rfl
@[simp] theorem keep20_14 : X.keep 20 14 = some [0, 1, 2, 9, 11, 12, 13, 15] := by kernel_rfl
@[simp] theorem keep20_15 : X.keep 20 15 = some [0, 1, 2, 9, 11, 12, 13] := by kernel_rfl
@[simp] theorem keep20_16 : X.keep 20 16 = some [6, 7, 8] := by kernel_rfl
@[simp] theorem keep21_0 : X.keep 21 0 = some [0, 2] := by kernel_rfl
@[simp] theorem keep21_1 : X.keep 21 1 = some [0, 2, 4] := by kernel_rfl
@[simp] theorem keep21_2 : X.keep 21 2 = some [0, 2, 4, 9] := by kernel_rfl
@[simp] theorem keep21_3 : X.keep 21 3 = some [2, 3] := by kernel_rfl
@[simp] theorem keep21_4 : X.keep 21 4 = some [2, 4, 11, 12, 13] := by kernel_rfl
@[simp] theorem keep21_5 : X.keep 21 5 = some [2, 4, 11, 12, 13, 14] := by kernel_rfl
@[simp] theorem keep21_6 : X.keep 21 6 = some [2, 4, 6, 11, 12, 13] := by kernel_rfl
@[simp] theorem keep21_7 : X.keep 21 7 = some [2, 4, 6, 11, 12, 13, 22] := by kernel_rfl
@[simp] theorem keep21_8 : X.keep 21 8 = some [2, 3] := by kernel_rfl
@[simp] theorem keep21_9 : X.keep 21 9 = some [2, 4, 11, 12, 13] := by kernel_rfl
@[simp] theorem keep21_10 : X.keep 21 10 = some [2, 4, 11, 12, 13] := by kernel_rfl
@[simp] theorem keep21_11 : X.keep 21 11 = some [2, 3] := by kernel_rfl
@[simp] theorem keep22_0 : X.keep 22 0 = some [0, 4, 5] := by kernel_rfl
@[simp] theorem keep22_1 : X.keep 22 1 = some [0, 4, 5, 7] := by kernel_rfl
@[simp] theorem keep22_2 : X.keep 22 2 = some [0, 4, 5, 7, 9] := by kernel_rfl
@[simp] theorem keep22_3 : X.keep 22 3 = some [0, 4, 5, 7, 9, 10] := by kernel_rfl
@[simp] theorem keep22_4 : X.keep 22 4 = some [0, 4, 5, 7, 9, 10, 11] := by kernel_rfl
@[simp] theorem keep22_5 : X.keep 22 5 = some [4, 5, 7, 9, 10, 11, 21, 22, 23] := by kernel_rfl
@[simp] theorem keep22_6 : X.keep 22 6 = some [4, 5, 7, 9, 10, 11, 21, 22, 23, 24] := by kernel_rfl
@[simp] theorem keep22_7 : X.keep 22 7 = some [4, 5, 7, 9, 10, 11, 12, 13, 21, 22, 23] := by kernel_rfl
@[simp] theorem keep22_8 : X.keep 22 8 = some [4, 5, 7, 9, 10, 11, 13, 21, 22, 23] := by kernel_rfl
@[simp] theorem keep22_9 : X.keep 22 9 = some [4, 5, 7, 9, 10, 11, 21, 22, 23] := by kernel_rfl
@[simp] theorem keep22_10 : X.keep 22 10 = some [4, 5, 7, 9, 10, 11, 21, 22, 23] := by kernel_rfl
@[simp] theorem keep22_11 : X.keep 22 11 = some [6] := by kernel_rfl
@[simp] theorem keep23_0 : X.keep 23 0 = some [0, 1, 2] := by kernel_rfl
@[simp] theorem keep23_1 : X.keep 23 1 = some [0, 1, 2, 9] := by kernel_rfl
@[simp] theorem keep23_2 : X.keep 23 2 = some [0, 1, 2] := by kernel_rfl
@[simp] theorem keep23_3 : X.keep 23 3 = some [0] := by kernel_rfl
@[simp] theorem keep23_4 : X.keep 23 4 = some [6] := by kernel_rfl
@[simp] theorem keep24_0 : X.keep 24 0 = some [1, 2] := by kernel_rfl
@[simp] theorem keep24_1 : X.keep 24 1 = some [1, 2, 3] := by kernel_rfl
@[simp] theorem keep24_2 : X.keep 24 2 = some [1, 2, 3] := by kernel_rfl
@[simp] theorem keep24_3 : X.keep 24 3 = some [1, 2, 3, 4] := by kernel_rfl
@[simp] theorem keep24_4 : X.keep 24 4 = some [1, 2, 3, 4, 7] := by kernel_rfl
@[simp] theorem keep24_5 : X.keep 24 5 = some [1, 2, 3, 4] := by kernel_rfl
@[simp] theorem keep24_6 : X.keep 24 6 = some [1, 2, 3, 4] := by kernel_rfl
@[simp] theorem keep24_7 : X.keep 24 7 = some [2] := by kernel_rfl
@[simp] theorem keep25_0 : X.keep 25 0 = some [0, 1, 2, 3] := by kernel_rfl
@[simp] theorem keep25_1 : X.keep 25 1 = some [0, 1, 2, 3, 11] := by kernel_rfl
@[simp] theorem keep25_2 : X.keep 25 2 = some [0, 1, 2, 3, 11, 12] := by kernel_rfl
@[simp] theorem keep25_3 : X.keep 25 3 = some [0, 1, 2, 3, 11, 12, 19] := by kernel_rfl
@[simp] theorem keep25_4 : X.keep 25 4 = some [0, 1, 2, 3, 11, 12] := by kernel_rfl
@[simp] theorem keep25_5 : X.keep 25 5 = some [0, 1, 2, 3, 11, 12] := by kernel_rfl
@[simp] theorem keep25_6 : X.keep 25 6 = some [0, 1, 2, 3, 11, 13] := by kernel_rfl
@[simp] theorem keep25_7 : X.keep 25 7 = some [0, 1, 2, 3, 11, 13, 14] := by kernel_rfl
@[simp] theorem keep25_8 : X.keep 25 8 = some [0, 1, 2, 3, 11, 13, 14, 30] := by kernel_rfl
@[simp] theorem keep25_9 : X.keep 25 9 = some [0, 1, 2, 3, 11, 13, 14] := by kernel_rfl
@[simp] theorem keep25_10 : X.keep 25 10 = some [0, 1, 2, 3, 11, 13, 14, 39] := by kernel_rfl
@[simp] theorem keep25_11 : X.keep 25 11 = some [8, 9, 10] := by kernel_rfl
@[simp] theorem keep25_12 : X.keep 25 12 = some [0, 1, 2, 3, 11, 13, 14] := by kernel_rfl
@[simp] theorem keep25_13 : X.keep 25 13 = some [0, 1, 2, 3, 11, 13, 14, 15] := by kernel_rfl
@[simp] theorem keep25_14 : X.keep 25 14 = some [0, 1, 2, 3, 11, 13, 14, 15, 52] := by kernel_rfl
@[simp] theorem keep25_15 : X.keep 25 15 = some [0, 1, 2, 3, 11, 13, 14, 15] := by kernel_rfl
@[simp] theorem keep25_16 : X.keep 25 16 = some [0, 1, 2, 3, 11, 13, 14, 15, 68] := by kernel_rfl
@[simp] theorem keep25_17 : X.keep 25 17 = some [8, 9, 10] := by kernel_rfl
@[simp] theorem keep25_18 : X.keep 25 18 = some [8, 9, 10] := by kernel_rfl
@[simp] theorem keep26_0 : X.keep 26 0 = some [0, 1, 2, 3, 4, 5] := by kernel_rfl
@[simp] theorem keep26_1 : X.keep 26 1 = some [0, 1, 2, 3, 4, 5, 9] := by kernel_rfl
@[simp] theorem keep26_2 : X.keep 26 2 = some [0, 1, 2, 3, 4, 5, 9, 10] := by kernel_rfl
@[simp] theorem keep26_3 : X.keep 26 3 = some [0, 1, 2, 3, 4, 5, 9, 10] := by kernel_rfl
@[simp] theorem keep26_4 : X.keep 26 4 = some [0, 1, 2, 3, 4, 5, 9, 10, 16] := by kernel_rfl
@[simp] theorem keep26_5 : X.keep 26 5 = some [6, 7, 8] := by kernel_rfl
@[simp] theorem keep26_6 : X.keep 26 6 = some [0, 1, 2, 3, 4, 5, 9, 10, 21] := by kernel_rfl
@[simp] theorem keep26_7 : X.keep 26 7 = some [6, 7, 8] := by kernel_rfl
@[simp] theorem keep26_8 : X.keep 26 8 = some [0, 1, 2, 3, 4, 5, 9, 10] := by kernel_rfl
@[simp] theorem keep26_9 : X.keep 26 9 = some [0, 1, 2, 3, 4, 5, 9, 10] := by kernel_rfl
@[simp] theorem keep26_10 : X.keep 26 10 = some [0, 1, 2, 3, 4, 5, 9, 10, 11] := by kernel_rfl
@[simp] theorem keep26_11 : X.keep 26 11 = some [0, 1, 2, 3, 4, 5, 9, 10, 11, 50] := by kernel_rfl
@[simp] theorem keep26_12 : X.keep 26 12 = some [6, 7, 8] := by kernel_rfl
@[simp] theorem keep27_0 : X.keep 27 0 = some [0, 1] := by kernel_rfl
@[simp] theorem keep27_1 : X.keep 27 1 = some [4] := by kernel_rfl
@[simp] theorem keep10_0 : X.keep 10 0 = some [] := by kernel_rfl
@[simp] theorem keep10_1 : X.keep 10 1 = some [1, 2] := by kernel_rfl
@[simp] theorem keep10_2 : X.keep 10 2 = some [1, 2, 3, 4, 5] := by kernel_rfl
@[simp] theorem keep10_3 : X.keep 10 3 = some [1, 2, 3, 4, 5, 6, 7, 8] := by kernel_rfl
@[simp] theorem keep10_4 : X.keep 10 4 = some [0] := by kernel_rfl
@[simp] theorem keep4_0 : X.keep 4 0 = some [0, 1] := by kernel_rfl
@[simp] theorem keep4_1 : X.keep 4 1 = some [0, 1, 12] := by kernel_rfl
@[simp] theorem keep4_2 : X.keep 4 2 = some [4] := by kernel_rfl
@[simp] theorem keep4_3 : X.keep 4 3 = some [0, 1, 20] := by kernel_rfl
@[simp] theorem keep4_4 : X.keep 4 4 = some [4] := by kernel_rfl
@[simp] theorem keep4_5 : X.keep 4 5 = some [0, 1, 5, 6, 7] := by kernel_rfl
@[simp] theorem keep4_6 : X.keep 4 6 = some [5, 6, 7, 8, 9, 10] := by kernel_rfl
@[simp] theorem keep4_7 : X.keep 4 7 = some [4] := by kernel_rfl
@[simp] theorem keep5_0 : X.keep 5 0 = some [0, 1] := by kernel_rfl
@[simp] theorem keep5_1 : X.keep 5 1 = some [0, 1, 12] := by kernel_rfl
@[simp] theorem keep5_2 : X.keep 5 2 = some [4] := by kernel_rfl
@[simp] theorem keep5_3 : X.keep 5 3 = some [0, 1, 5, 6] := by kernel_rfl
@[simp] theorem keep5_4 : X.keep 5 4 = some [0, 1, 5, 6, 7, 8] := by kernel_rfl
@[simp] theorem keep5_5 : X.keep 5 5 = some [0, 1, 5, 6, 7, 25] := by kernel_rfl
@[simp] theorem keep5_6 : X.keep 5 6 = some [4] := by kernel_rfl
@[simp] theorem keep5_7 : X.keep 5 7 = some [0, 1, 5, 7, 27] := by kernel_rfl
@[simp] theorem keep5_8 : X.keep 5 8 = some [4] := by kernel_rfl
@[simp] theorem keep5_9 : X.keep 5 9 = some [0, 1, 5, 7, 35] := by kernel_rfl
@[simp] theorem keep5_10 : X.keep 5 10 = some [4] := by kernel_rfl
@[simp] theorem keep5_11 : X.keep 5 11 = some [0, 1, 5, 7, 9] := by kernel_rfl
@[simp] theorem keep5_12 : X.keep 5 12 = some [0, 1, 5, 7, 9, 39] := by kernel_rfl
@[simp] theorem keep5_13 : X.keep 5 13 = some [0, 1, 5, 7, 9] := by kernel_rfl
@[simp] theorem keep5_14 : X.keep 5 14 = some [0, 1, 5, 7, 9, 65] := by kernel_rfl
@[simp] theorem keep5_15 : X.keep 5 15 = some [4] := by kernel_rfl
@[simp] theorem keep5_16 : X.keep 5 16 = some [0, 1, 5, 7, 9, 10] := by kernel_rfl
@[simp] theorem keep5_17 : X.keep 5 17 = some [0, 1, 5, 7, 9, 10, 69] := by kernel_rfl
@[simp] theorem keep5_18 : X.keep 5 18 = some [0, 1, 5, 7, 9, 10] := by kernel_rfl
@[simp] theorem keep5_19 : X.keep 5 19 = some [0, 1, 5, 7, 9, 10, 114] := by kernel_rfl
@[simp] theorem keep5_20 : X.keep 5 20 = some [4] := by kernel_rfl
@[simp] theorem keep5_21 : X.keep 5 21 = some [6, 7] := by kernel_rfl
@[simp] theorem keep5_22 : X.keep 5 22 = some [4] := by kernel_rfl
@[simp] theorem keep6_0 : X.keep 6 0 = some [0, 1, 2] := by kernel_rfl
@[simp] theorem keep6_1 : X.keep 6 1 = some [0, 1, 2, 24] := by kernel_rfl
@[simp] theorem keep6_2 : X.keep 6 2 = some [6] := by kernel_rfl
@[simp] theorem keep6_3 : X.keep 6 3 = some [0, 1, 2, 32] := by kernel_rfl
@[simp] theorem keep6_4 : X.keep 6 4 = some [6] := by kernel_rfl
@[simp] theorem keep6_5 : X.keep 6 5 = some [0, 1, 2, 7] := by kernel_rfl
@[simp] theorem keep6_6 : X.keep 6 6 = some [0, 1, 2, 7, 8, 9] := by kernel_rfl
@[simp] theorem keep6_7 : X.keep 6 7 = some [0, 1, 2, 7, 8, 9, 10, 11] := by kernel_rfl
@[simp] theorem keep6_8 : X.keep 6 8 = some [0, 1, 2, 7, 8, 9, 10, 11, 12, 13] := by kernel_rfl
@[simp] theorem keep6_9 : X.keep 6 9 = some [0, 1, 2, 7, 8, 9, 10, 11, 12, 13, 14, 15] := by kernel_rfl
@[simp] theorem keep6_10 : X.keep 6 10 = some [0, 1, 2, 7, 80] := by kernel_rfl
@[simp] theorem keep6_11 : X.keep 6 11 = some [6] := by kernel_rfl
@[simp] theorem keep6_12 : X.keep 6 12 = some [0, 1, 2, 7, 9, 16, 17] := by kernel_rfl
@[simp] theorem keep6_13 : X.keep 6 13 = some [0, 1, 2, 7, 9, 11, 16, 17, 18, 19] := by kernel_rfl
@[simp] theorem keep6_14 : X.keep 6 14 = some [0, 1, 2, 7, 109] := by kernel_rfl
@[simp] theorem keep6_15 : X.keep 6 15 = some [6] := by kernel_rfl
@[simp] theorem keep6_16 : X.keep 6 16 = some [0, 1, 7, 20] := by kernel_rfl
@[simp] theorem keep6_17 : X.keep 6 17 = some [0, 1, 9, 17, 20, 21] := by kernel_rfl
@[simp] theorem keep6_18 : X.keep 6 18 = some [9, 11, 17, 19, 21, 22] := by kernel_rfl
@[simp] theorem keep6_19 : X.keep 6 19 = some [6] := by kernel_rfl
@[simp] theorem keep7_0 : X.keep 7 0 = some [0, 1] := by kernel_rfl
@[simp] theorem keep7_1 : X.keep 7 1 = some [0, 1, 17] := by kernel_rfl
@[simp] theorem keep7_2 : X.keep 7 2 = some [4] := by kernel_rfl
@[simp] theorem keep7_3 : X.keep 7 3 = some [0, 1, 25] := by kernel_rfl
@[simp] theorem keep7_4 : X.keep 7 4 = some [4] := by kernel_rfl
@[simp] theorem keep7_5 : X.keep 7 5 = some [0, 1, 5, 6, 7] := by kernel_rfl
@[simp] theorem keep7_6 : X.keep 7 6 = some [0, 1, 5, 6, 34] := by kernel_rfl
@[simp] theorem keep7_7 : X.keep 7 7 = some [4] := by kernel_rfl
@[simp] theorem keep7_8 : X.keep 7 8 = some [0, 1, 5, 6, 8, 9, 10] := by kernel_rfl
@[simp] theorem keep7_9 : X.keep 7 9 = some [0, 1, 5, 6, 71] := by kernel_rfl
@[simp] theorem keep7_10 : X.keep 7 10 = some [4] := by kernel_rfl
@[simp] theorem keep7_11 : X.keep 7 11 = some [0, 1, 5, 6, 11] := by kernel_rfl
@[simp] theorem keep7_12 : X.keep 7 12 = some [0, 1, 5, 6, 11, 12] := by kernel_rfl
@[simp] theorem keep7_13 : X.keep 7 13 = some [0, 1, 5, 6, 11, 12, 75] := by kernel_rfl
@[simp] theorem keep7_14 : X.keep 7 14 = some [0, 1, 5, 6, 11, 12] := by kernel_rfl
@[simp] theorem keep7_15 : X.keep 7 15 = some [0, 1, 5, 6, 11, 12, 13, 14, 15] := by kernel_rfl
@[simp] theorem keep7_16 : X.keep 7 16 = some [0, 1, 5, 6, 11, 12, 14, 103] := by kernel_rfl
@[simp] theorem keep7_17 : X.keep 7 17 = some [4] := by kernel_rfl
@[simp] theorem keep7_18 : X.keep 7 18 = some [0, 1, 5, 6, 11, 12] := by kernel_rfl
@[simp] theorem keep7_19 : X.keep 7 19 = some [4] := by kernel_rfl
@[simp] theorem dy11_14 : X.dy 11 14 = false := by kernel_rfl
@[simp] theorem dy17_6 : X.dy 17 6 = false := by kernel_rfl
@[simp] theorem dy24_6 : X.dy 24 6 = false := by kernel_rfl
@[simp] theorem dy26_8 : X.dy 26 8 = false := by kernel_rfl
@[simp] theorem dy5_14 : X.dy 5 14 = false := by kernel_rfl
@[simp] theorem dy5_19 : X.dy 5 19 = false := by kernel_rfl
@[simp] theorem size0 : sizeT X 0 = 1 := by kernel_rfl
@[simp] theorem bytes0 : bytesT X 0 = 0 := by kernel_rfl
@[simp] theorem okT0 : okT X 0 = true := by kernel_rfl
@[simp] theorem isAgg0 : isAggT X 0 = false := by kernel_rfl
@[simp] theorem isInt0 : isIntT X 0 = false := by kernel_rfl
@[simp] theorem isArr0 : isArrT X 0 = false := by kernel_rfl
@[simp] theorem isU80 : isU8 X 0 = false := by kernel_rfl
@[simp] theorem zok0 : zeroOk X 0 = true := by kernel_rfl
@[simp] theorem und3 : und X 3 = .int .i64 := by kernel_rfl
@[simp] theorem size3 : sizeT X 3 = 1 := by kernel_rfl
@[simp] theorem bytes3 : bytesT X 3 = 8 := by kernel_rfl
@[simp] theorem okT3 : okT X 3 = true := by kernel_rfl
@[simp] theorem isAgg3 : isAggT X 3 = false := by kernel_rfl
@[simp] theorem isInt3 : isIntT X 3 = true := by kernel_rfl
@[simp] theorem isArr3 : isArrT X 3 = false := by kernel_rfl
@[simp] theorem isU83 : isU8 X 3 = false := by kernel_rfl
@[simp] theorem zok3 : zeroOk X 3 = true := by kernel_rfl
@[simp] theorem zero3 : zeroAV X 3 = .int .i64 0 := by kernel_rfl
@[simp] theorem und4 : und X 4 = .bool := by kernel_rfl
@[simp] theorem size4 : sizeT X 4 = 1 := by kernel_rfl
@[simp] theorem bytes4 : bytesT X 4 = 1 := by kernel_rfl
@[simp] theorem okT4 : okT X 4 = true := by kernel_rfl
@[simp] theorem isAgg4 : isAggT X 4 = false := by kernel_rfl
@[simp] theorem isInt4 : isIntT X 4 = false := by kernel_rfl
@[simp] theorem isArr4 : isArrT X 4 = false := by kernel_rfl
@[simp] theorem isU84 : isU8 X 4 = false := by kernel_rfl
@[simp] theorem zok4 : zeroOk X 4 = true := by kernel_rfl
@[simp] theorem zero4 : zeroAV X 4 = .bool false := by kernel_rfl
@[simp] theorem und5 : und X 5 = .int .u8 := by kernel_rfl
@[simp] theorem size5 : sizeT X 5 = 1 := by kernel_rfl
@[simp] theorem bytes5 : bytesT X 5 = 1 := by kernel_rfl
@[simp] theorem okT5 : okT X 5 = true := by kernel_rfl
@[simp] theorem isAgg5 : isAggT X 5 = false := by kernel_rfl
@[simp] theorem isInt5 : isIntT X 5 = true := by kernel_rfl
@[simp] theorem isArr5 : isArrT X 5 = false := by kernel_rfl
@[simp] theorem isU85 : isU8 X 5 = true := by kernel_rfl
@[simp] theorem zok5 : zeroOk X 5 = true := by kernel_rfl
@[simp] theorem zero5 : zeroAV X 5 = .int .u8 0 := by kernel_rfl
@[simp] theorem und9 : und X 9 = .string := by kernel_rfl
@[simp] theorem size9 : sizeT X 9 = 1 := by kernel_rfl
@[simp] theorem bytes9 : bytesT X 9 = 16 := by kernel_rfl
@[simp] theorem okT9 : okT X 9 = true := by kernel_rfl
@[simp] theorem isAgg9 : isAggT X 9 = false := by kernel_rfl
@[simp] theorem isInt9 : isIntT X 9 = false := by kernel_rfl
@[simp] theorem isArr9 : isArrT X 9 = false := by kernel_rfl
@[simp] theorem isU89 : isU8 X 9 = false := by kernel_rfl
@[simp] theorem zok9 : zeroOk X 9 = true := by kernel_rfl
@[simp] theorem zero9 : zeroAV X 9 = .str [] := by kernel_rfl
@[simp] theorem und22 : und X 22 = .int .i64 := by kernel_rfl
@[simp] theorem size22 : sizeT X 22 = 1 := by kernel_rfl
@[simp] theorem bytes22 : bytesT X 22 = 8 := by kernel_rfl
@[simp] theorem okT22 : okT X 22 = true := by kernel_rfl
@[simp] theorem isAgg22 : isAggT X 22 = false := by kernel_rfl
@[simp] theorem isInt22 : isIntT X 22 = true := by kernel_rfl
@[simp] theorem isArr22 : isArrT X 22 = false := by kernel_rfl
@[simp] theorem isU822 : isU8 X 22 = false := by kernel_rfl
@[simp] theorem zok22 : zeroOk X 22 = true := by kernel_rfl
@[simp] theorem zero22 : zeroAV X 22 = .int .i64 0 := by kernel_rfl
@[simp] theorem size23 : sizeT X 23 = 1 := by kernel_rfl
@[simp] theorem bytes23 : bytesT X 23 = 0 := by kernel_rfl
@[simp] theorem okT23 : okT X 23 = true := by kernel_rfl
@[simp] theorem isAgg23 : isAggT X 23 = false := by kernel_rfl
@[simp] theorem isInt23 : isIntT X 23 = false := by kernel_rfl
@[simp] theorem isArr23 : isArrT X 23 = false := by kernel_rfl
@[simp] theorem isU823 : isU8 X 23 = false := by kernel_rfl
@[simp] theorem zok23 : zeroOk X 23 = true := by kernel_rfl
@[simp] theorem und25 : und X 25 = .slice 3 := by kernel_rfl
@[simp] theorem size25 : sizeT X 25 = 1 := by kernel_rfl
@[simp] theorem bytes25 : bytesT X 25 = 24 := by kernel_rfl
@[simp] theorem okT25 : okT X 25 = true := by kernel_rfl
@[simp] theorem isAgg25 : isAggT X 25 = false := by kernel_rfl
@[simp] theorem isInt25 : isIntT X 25 = false := by kernel_rfl
@[simp] theorem isArr25 : isArrT X 25 = false := by kernel_rfl
@[simp] theorem isU825 : isU8 X 25 = false := by kernel_rfl
@[simp] theorem zok25 : zeroOk X 25 = true := by kernel_rfl
@[simp] theorem zero25 : zeroAV X 25 = .ro 0 .pn 0 := by kernel_rfl
@[simp] theorem size26 : sizeT X 26 = 1 := by kernel_rfl
@[simp] theorem bytes26 : bytesT X 26 = 0 := by kernel_rfl
@[simp] theorem okT26 : okT X 26 = true := by kernel_rfl
@[simp] theorem isAgg26 : isAggT X 26 = false := by kernel_rfl
@[simp] theorem isInt26 : isIntT X 26 = false := by kernel_rfl
@[simp] theorem isArr26 : isArrT X 26 = false := by kernel_rfl
@[simp] theorem isU826 : isU8 X 26 = false := by kernel_rfl
@[simp] theorem zok26 : zeroOk X 26 = true := by kernel_rfl
@[simp] theorem und28 : und X 28 = .slice 5 := by kernel_rfl
@[simp] theorem size28 : sizeT X 28 = 1 := by kernel_rfl
@[simp] theorem bytes28 : bytesT X 28 = 24 := by kernel_rfl
@[simp] theorem okT28 : okT X 28 = true := by kernel_rfl
@[simp] theorem isAgg28 : isAggT X 28 = false := by kernel_rfl
@[simp] theorem isInt28 : isIntT X 28 = false := by kernel_rfl
@[simp] theorem isArr28 : isArrT X 28 = false := by kernel_rfl
@[simp] theorem isU828 : isU8 X 28 = false := by kernel_rfl
@[simp] theorem zok28 : zeroOk X 28 = true := by kernel_rfl
@[simp] theorem zero28 : zeroAV X 28 = .ro 0 .pn 0 := by kernel_rfl
@[simp] theorem size30 : sizeT X 30 = 1 := by kernel_rfl
@[simp] theorem bytes30 : bytesT X 30 = 0 := by kernel_rfl
@[simp] theorem okT30 : okT X 30 = true := by kernel_rfl
@[simp] theorem isAgg30 : isAggT X 30 = false := by kernel_rfl
@[simp] theorem isInt30 : isIntT X 30 = false := by kernel_rfl
@[simp] theorem isArr30 : isArrT X 30 = false := by kernel_rfl
@[simp] theorem isU830 : isU8 X 30 = false := by kernel_rfl
@[simp] theorem zok30 : zeroOk X 30 = true := by kernel_rfl
@[simp] theorem und34 : und X 34 = .int .u16 := by kernel_rfl
@[simp] theorem size34 : sizeT X 34 = 1 := by kernel_rfl
@[simp] theorem bytes34 : bytesT X 34 = 2 := by kernel_rfl
@[simp] theorem okT34 : okT X 34 = true := by kernel_rfl
@[simp] theorem isAgg34 : isAggT X 34 = false := by kernel_rfl
@[simp] theorem isInt34 : isIntT X 34 = true := by kernel_rfl
@[simp] theorem isArr34 : isArrT X 34 = false := by kernel_rfl
@[simp] theorem isU834 : isU8 X 34 = false := by kernel_rfl
@[simp] theorem zok34 : zeroOk X 34 = true := by kernel_rfl
@[simp] theorem zero34 : zeroAV X 34 = .int .u16 0 := by kernel_rfl
@[simp] theorem size35 : sizeT X 35 = 1 := by kernel_rfl
@[simp] theorem bytes35 : bytesT X 35 = 0 := by kernel_rfl
@[simp] theorem okT35 : okT X 35 = true := by kernel_rfl
@[simp] theorem isAgg35 : isAggT X 35 = false := by kernel_rfl
@[simp] theorem isInt35 : isIntT X 35 = false := by kernel_rfl
@[simp] theorem isArr35 : isArrT X 35 = false := by kernel_rfl
@[simp] theorem isU835 : isU8 X 35 = false := by kernel_rfl
@[simp] theorem zok35 : zeroOk X 35 = true := by kernel_rfl
@[simp] theorem und37 : und X 37 = .int .u64 := by kernel_rfl
@[simp] theorem size37 : sizeT X 37 = 1 := by kernel_rfl
@[simp] theorem bytes37 : bytesT X 37 = 8 := by kernel_rfl
@[simp] theorem okT37 : okT X 37 = true := by kernel_rfl
@[simp] theorem isAgg37 : isAggT X 37 = false := by kernel_rfl
@[simp] theorem isInt37 : isIntT X 37 = true := by kernel_rfl
@[simp] theorem isArr37 : isArrT X 37 = false := by kernel_rfl
@[simp] theorem isU837 : isU8 X 37 = false := by kernel_rfl
@[simp] theorem zok37 : zeroOk X 37 = true := by kernel_rfl
@[simp] theorem zero37 : zeroAV X 37 = .int .u64 0 := by kernel_rfl
@[simp] theorem size39 : sizeT X 39 = 1 := by kernel_rfl
@[simp] theorem bytes39 : bytesT X 39 = 0 := by kernel_rfl
@[simp] theorem okT39 : okT X 39 = true := by kernel_rfl
@[simp] theorem isAgg39 : isAggT X 39 = false := by kernel_rfl
@[simp] theorem isInt39 : isIntT X 39 = false := by kernel_rfl
@[simp] theorem isArr39 : isArrT X 39 = false := by kernel_rfl
@[simp] theorem isU839 : isU8 X 39 = false := by kernel_rfl
@[simp] theorem zok39 : zeroOk X 39 = true := by kernel_rfl
@[simp] theorem und42 : und X 42 = .array 16 3 := by kernel_rfl
@[simp] theorem size42 : sizeT X 42 = 16 := by kernel_rfl
@[simp] theorem bytes42 : bytesT X 42 = 128 := by kernel_rfl
@[simp] theorem okT42 : okT X 42 = true := by kernel_rfl
@[simp] theorem isAgg42 : isAggT X 42 = true := by kernel_rfl
@[simp] theorem isInt42 : isIntT X 42 = false := by kernel_rfl
@[simp] theorem isArr42 : isArrT X 42 = true := by kernel_rfl
@[simp] theorem isU842 : isU8 X 42 = false := by kernel_rfl
@[simp] theorem zok42 : zeroOk X 42 = true := by kernel_rfl
@[simp] theorem zero42 : zeroAV X 42 = .agg (.pi .i64 [0, 0, 0, 0, 0, 0, 0, 0, 0, 0, 0, 0, 0, 0, 0, 0]) := by kernel_rfl
@[simp] theorem size43 : sizeT X 43 = 1 := by kernel_rfl
@[simp] theorem bytes43 : bytesT X 43 = 0 := by kernel_rfl
@[simp] theorem okT43 : okT X 43 = true := by kernel_rfl
@[simp] theorem isAgg43 : isAggT X 43 = false := by kernel_rfl
@[simp] theorem isInt43 : isIntT X 43 = false := by kernel_rfl
@[simp] theorem isArr43 : isArrT X 43 = false := by kernel_rfl
@[simp] theorem isU843 : isU8 X 43 = false := by kernel_rfl
@[simp] theorem zok43 : zeroOk X 43 = true := by kernel_rfl
@[simp] theorem size45 : sizeT X 45 = 1 := by kernel_rfl
@[simp] theorem bytes45 : bytesT X 45 = 8 := by kernel_rfl
@[simp] theorem okT45 : okT X 45 = true := by kernel_rfl
@[simp] theorem isAgg45 : isAggT X 45 = false := by kernel_rfl
@[simp] theorem isInt45 : isIntT X 45 = false := by kernel_rfl
@[simp] theorem isArr45 : isArrT X 45 = false := by kernel_rfl
@[simp] theorem isU845 : isU8 X 45 = false := by kernel_rfl
@[simp] theorem zok45 : zeroOk X 45 = true := by kernel_rfl
@[simp] theorem zero45 : zeroAV X 45 = .nilfn := by kernel_rfl
@[simp] theorem und48 : und X 48 = .array 17 3 := by kernel_rfl
@[simp] theorem size48 : sizeT X 48 = 17 := by kernel_rfl
@[simp] theorem bytes48 : bytesT X 48 = 136 := by kernel_rfl
@[simp] theorem okT48 : okT X 48 = true := by kernel_rfl
@[simp] theorem isAgg48 : isAggT X 48 = true := by kernel_rfl
@[simp] theorem isInt48 : isIntT X 48 = false := by kernel_rfl
@[simp] theorem isArr48 : isArrT X 48 = true := by kernel_rfl
@[simp] theorem isU848 : isU8 X 48 = false := by kernel_rfl
@[simp] theorem zok48 : zeroOk X 48 = true := by kernel_rfl
@[simp] theorem zero48 : zeroAV X 48 = .agg (.pi .i64 [0, 0, 0, 0, 0, 0, 0, 0, 0, 0, 0, 0, 0, 0, 0, 0, 0]) := by kernel_rfl
@[simp] theorem und51 : und X 51 = .array 16 25 := by kernel_rfl
@[simp] theorem size51 : sizeT X 51 = 16 := by kernel_rfl
@[simp] theorem bytes51 : bytesT X 51 = 384 := by kernel_rfl
@[simp] theorem okT51 : okT X 51 = true := by kernel_rfl
@[simp] theorem isAgg51 : isAggT X 51 = true := by kernel_rfl
@[simp] theorem isInt51 : isIntT X 51 = false := by kernel_rfl
@[simp] theorem isArr51 : isArrT X 51 = true := by kernel_rfl
@[simp] theorem isU851 : isU8 X 51 = false := by kernel_rfl
@[simp] theorem zok51 : zeroOk X 51 = true := by kernel_rfl
@[simp] theorem zero51 : zeroAV X 51 = .agg (.pc [.ro 0 .pn 0, .ro 0 .pn 0, .ro 0 .pn 0, .ro 0 .pn 0, .ro 0 .pn 0, .ro 0 .pn 0, .ro 0 .pn 0, .ro 0 .pn 0, .ro 0 .pn 0, .ro 0 .pn 0, .ro 0 .pn 0, .ro 0 .pn 0, .ro 0 .pn 0, .ro 0 .pn 0, .ro 0 .pn 0, .ro 0 .pn 0]) := by kernel_rfl

end Go.Proofs.Ytikleidhmekgnaa
