/- X to WY: texts of this claim, one behind the other; what each shows stands at its head. -/
import Derived.Test.YtdjjekeaeoajpaaRows
import Derived.Test.YtdjjekeaeoajpaaAm3
/- The seat's tables for the abstract machine, and what walks ask of the program. No conditions. -/
namespace Go.Proofs.Ytdjjekeaeoajpaa
open Go.AM

def keepT : List (List (List Nat)) := [[], [], [[]], [[], [1, 2, 3], [1, 2, 3, 4, 5, 6], [7], [3, 7], [3, 6, 7], [3, 6, 7, 10], [3, 6, 7, 10, 13], [3, 6, 7, 10, 13, 14, 15], [0]], [[0, 1], [0, 1, 18], [4], [0, 1, 26], [4], [0, 1, 5, 6, 7], [0, 1, 5, 6, 34], [4], [0, 1, 5, 6, 54], [4], [0, 5, 6, 8, 9, 10], [0, 5, 6, 8, 9, 10, 13], [0, 5, 94], [4], [0, 5, 97], [4], [16], [4]], [[0], [0, 11], [2], [0, 14], [2], [0, 3, 4, 5], [3, 4, 5, 6, 7], [3, 4, 5, 6, 28], [2], [3, 4, 6, 30], [2], [3, 4, 6, 8], [3, 4, 6, 8, 9], [3, 4, 6, 8, 9, 37], [3, 4, 6, 8, 9], [3, 4, 6, 8, 9, 114], [2], [3, 4, 6, 8, 9], [2]], [[0, 1], [0, 1, 9], [4, 5, 6], [7], [7], [7, 20], [4, 5, 6], [4, 5, 6]], [[0, 1], [0, 1, 4], [0, 1, 4, 5], [0, 1, 2, 4], [0, 1, 2, 3, 4], [0, 1, 2, 3, 4, 7], [0, 1, 3, 4], [0, 1, 3, 4, 14], [0, 1, 3, 4], [0, 1, 4], [0, 1, 4], [0, 1, 26], [0, 1, 26, 27], [0, 1, 26], [0, 1, 26], [0, 1]], [[], [1, 2, 3], [1, 2, 3, 4, 5, 6], [0]], [[0, 1], [4]], [[0, 1], [0, 1, 9], [4, 5], [6], [6, 7], [6, 7, 20], [4, 5], [4, 5]], [[0], [0, 3], [0, 3, 4], [0, 3, 17], [0, 3, 5], [0, 3, 5, 6], [0, 3, 5, 6], [0, 3, 5, 6], [0, 3, 5, 6, 39], [0, 3, 5, 6, 41], [0, 3, 5, 6], [0, 3, 5, 6, 41, 44], [0, 3, 5, 6], [0, 3, 5, 6, 41, 48], [0, 3, 5, 6], [0, 3, 5, 6, 55], [0, 3, 5, 6, 7, 8], [0, 3, 5, 6], [0, 3, 5], [0, 3, 4], [2]], [[0, 1], [0, 1, 5], [0, 1, 5, 6], [0, 1, 5, 6, 16], [0, 1, 5, 6], [0, 1, 5, 6, 29], [], [4], [0, 1, 5, 6], [0, 1, 5, 6], [4]], [[0], [0, 2], [0, 2, 3], [0, 2, 29], [0, 2], [0, 2, 4], [0, 2, 4, 41], [0, 2, 4], [0, 2, 4]], [[0, 1, 2, 11], [0, 1, 2, 6], [0, 1, 2], [0, 1, 2, 6, 19], [0, 1, 2, 6, 29], [0, 1, 2]], [[0], [0, 4, 5, 6], [0, 4, 5, 6, 36], [0, 4, 5, 6], [0, 4, 5, 6, 7], [0, 4, 5, 6, 7, 8], [0, 4, 5, 7, 8, 41, 42], [0, 4, 5, 7, 8, 41, 42, 43], [0, 4, 5, 7, 8, 9, 41, 42], [0, 4, 5, 7, 8, 41, 42], [0, 4, 5, 7, 8, 41, 42], [0, 4, 5, 8, 57], [2, 3], [0, 4, 5, 8, 10, 11], [0, 4, 5, 8, 68], [], [2, 3], [0, 4, 12], [0, 4, 12, 81], [2, 3], [0, 2, 3], [0, 2, 3, 13, 14], [0, 2, 3, 109], [0, 2, 3], [0, 2, 3, 13, 14], [0, 2, 3, 132], [2, 3], [2, 3]], [[0, 1, 8], []], [[0, 1, 8], [0, 1, 18], [], []], [[0, 1], [0, 1, 12], [4], [0, 5, 6, 7], [0, 5, 6, 7, 28], [0, 5, 6], [5], [4]], [[0, 1, 2, 6], [0, 1, 2, 6, 44], [], [0, 2, 7], [0, 7, 8], [0, 7, 8, 67], [0, 7, 8, 69], [], [0, 7, 8, 9], [0, 7, 8, 9, 75], [0, 7, 8, 10], [0, 7, 9], [0, 7, 9, 102], [0, 7, 9], [0, 7, 9, 11], [0, 7, 9, 11, 114], [0, 7, 9, 11], [0, 7, 9, 11]], [[0], [3, 4], [3, 4, 13], [2, 3], [4, 5], [4, 5, 6], [4, 5, 6, 16], [4, 5, 6], [4, 5, 6], [5, 28], [2, 3], [2, 3]], [[1, 3, 5], [1, 3, 5, 7], [1, 3, 5, 7, 8], [1, 3, 5, 7, 8, 24], [1, 3, 5, 7, 8, 9], [1, 3, 5, 7, 8, 9, 28], [1, 3, 5, 7, 8], [1, 3, 5, 7, 8, 9, 28, 33], [1, 3, 5, 7, 8, 37], [1, 3, 5, 7, 8], [1, 3, 5, 7, 8, 10], [1, 3, 5, 7, 8, 10, 47], [1, 3, 5, 7, 8], [1, 3, 5, 7, 8, 9, 28, 57], [1, 3, 5, 7, 8, 11], [1, 3, 5, 7, 8, 11, 66], [1, 3, 5, 7, 8], [1, 3, 5, 7, 8, 9, 70], [1, 3, 5, 7, 8, 12], [1, 3, 5, 7, 8, 12, 79], [1, 3, 5, 7, 8], [6]], [[0], [0, 3, 4], [3, 4, 7, 8, 9], [3, 4, 7, 8, 9, 10], [3, 4, 6, 7, 8, 9], [3, 4, 6, 7, 8, 9, 14], [3, 4, 7, 8, 9], [3, 4, 7, 8, 9], [2]], [[0], [5, 6, 7], [5, 6, 7, 8], [4, 5, 6, 7], [5, 6, 7, 12], [2], [5, 6, 7], [2]], [[0, 1, 2], [0, 1, 2, 10], [0, 1, 2, 10, 17], [6, 7, 8], [0, 1, 2, 20], [6, 7, 8], [6, 7, 8]], [[0, 2], [0, 2, 4], [0, 2, 4, 9], [2, 3], [2, 4, 11, 12, 13], [2, 4, 11, 12, 13, 14], [2, 4, 6, 11, 12, 13], [2, 4, 6, 11, 12, 13, 22], [2, 3], [2, 4, 11, 12, 13], [2, 4, 11, 12, 13], [2, 3]], [[0, 1, 2, 4, 12], [], [0, 2, 15, 16], [0, 2, 15, 16, 17], [0, 2, 15, 16], [0, 2, 15, 16]], [[0, 4, 5], [0, 4, 5, 7], [0, 4, 5, 7, 9], [0, 4, 5, 7, 9, 10], [0, 4, 5, 7, 9, 10, 11], [4, 5, 7, 9, 10, 11, 21, 22, 23], [4, 5, 7, 9, 10, 11, 21, 22, 23, 24], [4, 5, 7, 9, 10, 11, 12, 13, 21, 22, 23], [4, 5, 7, 9, 10, 11, 13, 21, 22, 23], [4, 5, 7, 9, 10, 11, 21, 22, 23], [4, 5, 7, 9, 10, 11, 21, 22, 23], [6]], [[1, 2], [1, 2, 3], [1, 2, 3], [1, 2, 3, 4], [1, 2, 3, 4, 7], [1, 2, 3, 4], [1, 2, 3, 4], [2]], [[0, 1, 2, 3, 4, 5], [0, 1, 2, 3, 4, 5, 9], [0, 1, 2, 3, 4, 5, 9, 10], [0, 1, 2, 3, 4, 5, 9, 10], [0, 1, 2, 3, 4, 5, 9, 10, 16], [6, 7, 8], [0, 1, 2, 3, 4, 5, 9, 10, 21], [6, 7, 8], [0, 1, 2, 3, 4, 5, 9, 10], [0, 1, 2, 3, 4, 5, 9, 10], [0, 1, 2, 3, 4, 5, 9, 10, 11], [0, 1, 2, 3, 4, 5, 9, 10, 11, 50], [6, 7, 8]], [], [], [], [], [], [], [], [], [], [], [], [], [], [], [], []]


noncomputable def X : AM.Ctx := { P := Try.prog, G := fun _ => .none, rw := fun f i => false, keep := fun f i => ((keepT[f]?).getD [])[i]?, norm := fun _ _ => false, dr := fun _ _ => true, dy := fun f id => [(6, 6), (6, 7), (10, 6), (11, 19), (15, 9), (15, 20), (19, 3)].contains (f, id) }

theorem own : ownKnob Try.prog.godebug = .none := by kernel_rfl
theorem full : ∀ t e, t < Try.prog.types.size → Try.prog.underlying t = some (.slice e) → 0 < Try.prog.cellsOf e := slices_full_of Try.prog (by kernel_rfl)
theorem ctxOk : AM.CtxOk X := AM.ctxOk_of (by kernel_rfl) (by kernel_rfl)
@[simp] theorem X_dr (f i : Nat) : X.dr f i = true := rfl
@[simp] theorem X_norm (f i : Nat) : X.norm f i = false := rfl
@[simp] theorem X_rw (f i : Nat) : X.rw f i = (false) := rfl
@[simp] theorem nt3 : ntOf X 3 = 140 := by kernel_rfl
@[simp] theorem bod3 : bodied X 3 = true := by kernel_rfl
@[simp] theorem par3 : paramsOf X 3 = [] := by kernel_rfl
@[simp] theorem nt4 : ntOf X 4 = 109 := by kernel_rfl
@[simp] theorem bod4 : bodied X 4 = true := by kernel_rfl
@[simp] theorem par4 : paramsOf X 4 = [22, 22] := by kernel_rfl
@[simp] theorem nt5 : ntOf X 5 = 131 := by kernel_rfl
@[simp] theorem bod5 : bodied X 5 = true := by kernel_rfl
@[simp] theorem par5 : paramsOf X 5 = [22] := by kernel_rfl
@[simp] theorem nt6 : ntOf X 6 = 35 := by kernel_rfl
@[simp] theorem bod6 : bodied X 6 = true := by kernel_rfl
@[simp] theorem par6 : paramsOf X 6 = [22, 3] := by kernel_rfl
@[simp] theorem nt7 : ntOf X 7 = 34 := by kernel_rfl
@[simp] theorem bod7 : bodied X 7 = true := by kernel_rfl
@[simp] theorem par7 : paramsOf X 7 = [] := by kernel_rfl
@[simp] theorem nt8 : ntOf X 8 = 43 := by kernel_rfl
@[simp] theorem bod8 : bodied X 8 = true := by kernel_rfl
@[simp] theorem par8 : paramsOf X 8 = [] := by kernel_rfl
@[simp] theorem nt9 : ntOf X 9 = 10 := by kernel_rfl
@[simp] theorem bod9 : bodied X 9 = true := by kernel_rfl
@[simp] theorem par9 : paramsOf X 9 = [22, 22] := by kernel_rfl
@[simp] theorem nt10 : ntOf X 10 = 26 := by kernel_rfl
@[simp] theorem bod10 : bodied X 10 = true := by kernel_rfl
@[simp] theorem par10 : paramsOf X 10 = [22, 3] := by kernel_rfl
@[simp] theorem nt11 : ntOf X 11 = 81 := by kernel_rfl
@[simp] theorem bod11 : bodied X 11 = true := by kernel_rfl
@[simp] theorem par11 : paramsOf X 11 = [37] := by kernel_rfl
@[simp] theorem nt12 : ntOf X 12 = 63 := by kernel_rfl
@[simp] theorem bod12 : bodied X 12 = true := by kernel_rfl
@[simp] theorem par12 : paramsOf X 12 = [37, 3] := by kernel_rfl
@[simp] theorem nt13 : ntOf X 13 = 49 := by kernel_rfl
@[simp] theorem bod13 : bodied X 13 = true := by kernel_rfl
@[simp] theorem par13 : paramsOf X 13 = [37] := by kernel_rfl
@[simp] theorem nt14 : ntOf X 14 = 36 := by kernel_rfl
@[simp] theorem bod14 : bodied X 14 = true := by kernel_rfl
@[simp] theorem par14 : paramsOf X 14 = [37, 26, 26] := by kernel_rfl
@[simp] theorem nt15 : ntOf X 15 = 137 := by kernel_rfl
@[simp] theorem bod15 : bodied X 15 = true := by kernel_rfl
@[simp] theorem par15 : paramsOf X 15 = [37] := by kernel_rfl
@[simp] theorem nt16 : ntOf X 16 = 13 := by kernel_rfl
@[simp] theorem bod16 : bodied X 16 = true := by kernel_rfl
@[simp] theorem par16 : paramsOf X 16 = [37, 23] := by kernel_rfl
@[simp] theorem nt17 : ntOf X 17 = 31 := by kernel_rfl
@[simp] theorem bod17 : bodied X 17 = true := by kernel_rfl
@[simp] theorem par17 : paramsOf X 17 = [37, 5] := by kernel_rfl
@[simp] theorem nt18 : ntOf X 18 = 41 := by kernel_rfl
@[simp] theorem bod18 : bodied X 18 = true := by kernel_rfl
@[simp] theorem par18 : paramsOf X 18 = [37, 26] := by kernel_rfl
@[simp] theorem nt19 : ntOf X 19 = 132 := by kernel_rfl
@[simp] theorem bod19 : bodied X 19 = true := by kernel_rfl
@[simp] theorem par19 : paramsOf X 19 = [37, 3, 26] := by kernel_rfl
@[simp] theorem nt20 : ntOf X 20 = 31 := by kernel_rfl
@[simp] theorem bod20 : bodied X 20 = true := by kernel_rfl
@[simp] theorem par20 : paramsOf X 20 = [26] := by kernel_rfl
@[simp] theorem nt21 : ntOf X 21 = 84 := by kernel_rfl
@[simp] theorem bod21 : bodied X 21 = true := by kernel_rfl
@[simp] theorem par21 : paramsOf X 21 = [37, 26, 3] := by kernel_rfl
@[simp] theorem nt22 : ntOf X 22 = 27 := by kernel_rfl
@[simp] theorem bod22 : bodied X 22 = true := by kernel_rfl
@[simp] theorem par22 : paramsOf X 22 = [26] := by kernel_rfl
@[simp] theorem nt23 : ntOf X 23 = 14 := by kernel_rfl
@[simp] theorem bod23 : bodied X 23 = true := by kernel_rfl
@[simp] theorem par23 : paramsOf X 23 = [26] := by kernel_rfl
@[simp] theorem nt24 : ntOf X 24 = 29 := by kernel_rfl
@[simp] theorem bod24 : bodied X 24 = true := by kernel_rfl
@[simp] theorem par24 : paramsOf X 24 = [26, 22, 3] := by kernel_rfl
@[simp] theorem nt25 : ntOf X 25 = 31 := by kernel_rfl
@[simp] theorem bod25 : bodied X 25 = true := by kernel_rfl
@[simp] theorem par25 : paramsOf X 25 = [26] := by kernel_rfl
@[simp] theorem nt26 : ntOf X 26 = 23 := by kernel_rfl
@[simp] theorem bod26 : bodied X 26 = true := by kernel_rfl
@[simp] theorem par26 : paramsOf X 26 = [3, 3] := by kernel_rfl
@[simp] theorem nt27 : ntOf X 27 = 41 := by kernel_rfl
@[simp] theorem bod27 : bodied X 27 = true := by kernel_rfl
@[simp] theorem par27 : paramsOf X 27 = [26, 22, 3] := by kernel_rfl
@[simp] theorem nt28 : ntOf X 28 = 22 := by kernel_rfl
@[simp] theorem bod28 : bodied X 28 = true := by kernel_rfl
@[simp] theorem par28 : paramsOf X 28 = [56] := by kernel_rfl
@[simp] theorem nt29 : ntOf X 29 = 58 := by kernel_rfl
@[simp] theorem bod29 : bodied X 29 = true := by kernel_rfl
@[simp] theorem par29 : paramsOf X 29 = [] := by kernel_rfl
@[simp] theorem keep3_0 : X.keep 3 0 = some [] := by kernel_rfl
@[simp] theorem keep3_1 : X.keep 3 1 = some [1, 2, 3] := by kernel_rfl
@[simp] theorem keep3_2 : X.keep 3 2 = some [1, 2, 3, 4, 5, 6] := by kernel_rfl
@[simp] theorem keep3_3 : X.keep 3 3 = some [7] := by kernel_rfl
@[simp] theorem keep3_4 : X.keep 3 4 = some [3, 7] := by kernel_rfl
@[simp] theorem keep3_5 : X.keep 3 5 = some [3, 6, 7] := by kernel_rfl
@[simp] theorem keep3_6 : X.keep 3 6 = some [3, 6, 7, 10] := by kernel_rfl
@[simp] theorem keep3_7 : X.keep 3 7 = some [3, 6, 7, 10, 13] := by kernel_rfl
@[simp] theorem keep3_8 : X.keep 3 8 = some [3, 6, 7, 10, 13, 14, 15] := by kernel_rfl
@[simp] theorem keep3_9 : X.keep 3 9 = some [0] := by kernel_rfl
@[simp] theorem keep4_0 : X.keep 4 0 = some [0, 1] := by kernel_rfl
@[simp] theorem keep4_1 : X.keep 4 1 = some [0, 1, 18] := by kernel_rfl
@[simp] theorem keep4_2 : X.keep 4 2 = some [4] := by kernel_rfl
@[simp] theorem keep4_3 : X.keep 4 3 = some [0, 1, 26] := by kernel_rfl
@[simp] theorem keep4_4 : X.keep 4 4 = some [4] := by kernel_rfl
@[simp] theorem keep4_5 : X.keep 4 5 = some [0, 1, 5, 6, 7] := by kernel_rfl
@[simp] theorem keep4_6 : X.keep 4 6 = some [0, 1, 5, 6, 34] := by kernel_rfl
@[simp] theorem keep4_7 : X.keep 4 7 = some [4] := by kernel_rfl
@[simp] theorem keep4_8 : X.keep 4 8 = some [0, 1, 5, 6, 54] := by kernel_rfl
@[simp] theorem keep4_9 : X.keep 4 9 = some [4] := by kernel_rfl
@[simp] theorem keep4_10 : X.keep 4 10 = some [0, 5, 6, 8, 9, 10] := by kernel_rfl
@[simp] theorem keep4_11 : X.keep 4 11 = some [0, 5, 6, 8, 9, 10, 13] := by kernel_rfl
@[simp] theorem keep4_12 : X.keep 4 12 = some [0, 5, 94] := by kernel_rfl
@[simp] theorem keep4_13 : X.keep 4 13 = some [4] := by kernel_rfl
@[simp] theorem keep4_14 : X.keep 4 14 = some [0, 5, 97] := by kernel_rfl
@[simp] theorem keep4_15 : X.keep 4 15 = some [4] := by kernel_rfl
@[simp] theorem keep4_16 : X.keep 4 16 = some [16] := by kernel_rfl
@[simp] theorem keep4_17 : X.keep 4 17 = some [4] := by kernel_rfl
@[simp] theorem keep5_0 : X.keep 5 0 = some [0] := by kernel_rfl
@[simp] theorem keep5_1 : X.keep 5 1 = some [0, 11] := by kernel_rfl
@[simp] theorem keep5_2 : X.keep 5 2 = some [2] := by kernel_rfl
@[simp] theorem keep5_3 : X.keep 5 3 = some [0, 14] := by kernel_rfl
@[simp] theorem keep5_4 : X.keep 5 4 = some [2] := by kernel_rfl
@[simp] theorem keep5_5 : X.keep 5 5 = some [0, 3, 4, 5] := by kernel_rfl
@[simp] theorem keep5_6 : X.keep 5 6 = some [3, 4, 5, 6, 7] := by kernel_rfl
@[simp] theorem keep5_7 : X.keep 5 7 = some [3, 4, 5, 6, 28] := by kernel_rfl
@[simp] theorem keep5_8 : X.keep 5 8 = some [2] := by kernel_rfl
@[simp] theorem keep5_9 : X.keep 5 9 = some [3, 4, 6, 30] := by kernel_rfl
@[simp] theorem keep5_10 : X.keep 5 10 = some [2] := by kernel_rfl
@[simp] theorem keep5_11 : X.keep 5 11 = some [3, 4, 6, 8] := by kernel_rfl
@[simp] theorem keep5_12 : X.keep 5 12 = some [3, 4, 6, 8, 9] := by kernel_rfl
@[simp] theorem keep5_13 : X.keep 5 13 = some [3, 4, 6, 8, 9, 37] := by kernel_rfl
@[simp] theorem keep5_14 : X.keep 5 14 = some [3, 4, 6, 8, 9] := by kernel_rfl
@[simp] theorem keep5_15 : X.keep 5 15 = some [3, 4, 6, 8, 9, 114] := by kernel_rfl
@[simp] theorem keep5_16 : X.keep 5 16 = some [2] := by kernel_rfl
@[simp] theorem keep5_17 : X.keep 5 17 = some [3, 4, 6, 8, 9] := by kernel_rfl
@[simp] theorem keep5_18 : X.keep 5 18 = some [2] := by kernel_rfl
@[simp] theorem keep6_0 : X.keep 6 0 = some [0, 1] := by kernel_rfl
@[simp] theorem keep6_1 : X.keep 6 1 = some [0, 1, 9] := by kernel_rfl
@[simp] theorem keep6_2 : X.keep 6 2 = some [4, 5, 6] := by kernel_rfl
@[simp] theorem keep6_3 : X.keep 6 3 = some [7] := by kernel_rfl
@[simp] theorem keep6_4 : X.keep 6 4 = some [7] := by kernel_rfl
@[simp] theorem keep6_5 : X.keep 6 5 = some [7, 20] := by kernel_rfl
@[simp] theorem keep6_6 : X.keep 6 6 = some [4, 5, 6] := by kernel_rfl
@[simp] theorem keep6_7 : X.keep 6 7 = some [4, 5, 6] := by kernel_rfl
@[simp] theorem keep7_0 : X.keep 7 0 = some [0, 1] := by kernel_rfl
@[simp] theorem keep7_1 : X.keep 7 1 = some [0, 1, 4] := by kernel_rfl
@[simp] theorem keep7_2 : X.keep 7 2 = some [0, 1, 4, 5] := by kernel_rfl
@[simp] theorem keep7_3 : X.keep 7 3 = some [0, 1, 2, 4] := by kernel_rfl
@[simp] theorem keep7_4 : X.keep 7 4 = some [0, 1, 2, 3, 4] := by kernel_rfl
@[simp] theorem keep7_5 : X.keep 7 5 = some [0, 1, 2, 3, 4, 7] := by kernel_rfl
@[simp] theorem keep7_6 : X.keep 7 6 = some [0, 1, 3, 4] := by kernel_rfl
@[simp] theorem keep7_7 : X.keep 7 7 = some [0, 1, 3, 4, 14] := by kernel_rfl
@[simp] theorem keep7_8 : X.keep 7 8 = some [0, 1, 3, 4] := by kernel_rfl
@[simp] theorem keep7_9 : X.keep 7 9 = some [0, 1, 4] := by kernel_rfl
@[simp] theorem keep7_10 : X.keep 7 10 = some [0, 1, 4] := by kernel_rfl
@[simp] theorem keep7_11 : X.keep 7 11 = some [0, 1, 26] := by kernel_rfl
@[simp] theorem keep7_12 : X.keep 7 12 = some [0, 1, 26, 27] := by kernel_rfl
@[simp] theorem keep7_13 : X.keep 7 13 = some [0, 1, 26] := by kernel_rfl
@[simp] theorem keep7_14 : X.keep 7 14 = some [0, 1, 26] := by kernel_rfl
@[simp] theorem keep7_15 : X.keep 7 15 = some [0, 1] := by kernel_rfl
@[simp] theorem keep8_0 : X.keep 8 0 = some [] := by kernel_rfl
@[simp] theorem keep8_1 : X.keep 8 1 = some [1, 2, 3] := by kernel_rfl
@[simp] theorem keep8_2 : X.keep 8 2 = some [1, 2, 3, 4, 5, 6] := by kernel_rfl
@[simp] theorem keep8_3 : X.keep 8 3 = some [0] := by kernel_rfl
@[simp] theorem keep9_0 : X.keep 9 0 = some [0, 1] := by kernel_rfl
@[simp] theorem keep9_1 : X.keep 9 1 = some [4] := by kernel_rfl
@[simp] theorem keep10_0 : X.keep 10 0 = some [0, 1] := by kernel_rfl
@[simp] theorem keep10_1 : X.keep 10 1 = some [0, 1, 9] := by kernel_rfl
@[simp] theorem keep10_2 : X.keep 10 2 = some [4, 5] := by kernel_rfl
@[simp] theorem keep10_3 : X.keep 10 3 = some [6] := by kernel_rfl
@[simp] theorem keep10_4 : X.keep 10 4 = some [6, 7] := by kernel_rfl
@[simp] theorem keep10_5 : X.keep 10 5 = some [6, 7, 20] := by kernel_rfl
@[simp] theorem keep10_6 : X.keep 10 6 = some [4, 5] := by kernel_rfl
@[simp] theorem keep10_7 : X.keep 10 7 = some [4, 5] := by kernel_rfl
@[simp] theorem keep11_0 : X.keep 11 0 = some [0] := by kernel_rfl
@[simp] theorem keep11_1 : X.keep 11 1 = some [0, 3] := by kernel_rfl
@[simp] theorem keep11_2 : X.keep 11 2 = some [0, 3, 4] := by kernel_rfl
@[simp] theorem keep11_3 : X.keep 11 3 = some [0, 3, 17] := by kernel_rfl
@[simp] theorem keep11_4 : X.keep 11 4 = some [0, 3, 5] := by kernel_rfl
@[simp] theorem keep11_5 : X.keep 11 5 = some [0, 3, 5, 6] := by kernel_rfl
@[simp] theorem keep11_6 : X.keep 11 6 = some [0, 3, 5, 6] := by kernel_rfl
@[simp] theorem keep11_7 : X.keep 11 7 = some [0, 3, 5, 6] := by kernel_rfl
@[simp] theorem keep11_8 : X.keep 11 8 = some [0, 3, 5, 6, 39] := by kernel_rfl
@[simp] theorem keep11_9 : X.keep 11 9 = some [0, 3, 5, 6, 41] := by kernel_rfl
@[simp] theorem keep11_10 : X.keep 11 10 = some [0, 3, 5, 6] := by kernel_rfl
@[simp] theorem keep11_11 : X.keep 11 11 = some [0, 3, 5, 6, 41, 44] := by kernel_rfl
@[simp] theorem keep11_12 : X.keep 11 12 = some [0, 3, 5, 6] := by kernel_rfl
@[simp] theorem keep11_13 : X.keep 11 13 = some [0, 3, 5, 6, 41, 48] := by kernel_rfl
@[simp] theorem keep11_14 : X.keep 11 14 = some [0, 3, 5, 6] := by kernel_rfl
@[simp] theorem keep11_15 : X.keep 11 15 = some [0, 3, 5, 6, 55] := by kernel_rfl
@[simp] theorem keep11_16 : X.keep 11 16 = some [0, 3, 5, 6, 7, 8] := by kernel_rfl
@[simp] theorem keep11_17 : X.keep 11 17 = some [0, 3, 5, 6] := by kernel_rfl
@[simp] theorem keep11_18 : X.keep 11 18 = some [0, 3, 5] := by kernel_rfl
@[simp] theorem keep11_19 : X.keep 11 19 = some [0, 3, 4] := by kernel_rfl
@[simp] theorem keep11_20 : X.keep 11 20 = some [2] := by kernel_rfl
@[simp] theorem keep12_0 : X.keep 12 0 = some [0, 1] := by kernel_rfl
@[simp] theorem keep12_1 : X.keep 12 1 = some [0, 1, 5] := by kernel_rfl
@[simp] theorem keep12_2 : X.keep 12 2 = some [0, 1, 5, 6] := by kernel_rfl
@[simp] theorem keep12_3 : X.keep 12 3 = some [0, 1, 5, 6, 16] := by kernel_rfl
@[simp] theorem keep12_4 : X.keep 12 4 = some [0, 1, 5, 6] := by kernel_rfl
@[simp] theorem keep12_5 : X.keep 12 5 = some [0, 1, 5, 6, 29] := by kernel_rfl
@[simp] theorem keep12_6 : X.keep 12 6 = some [] := by kernel_rfl
@[simp] theorem keep12_7 : X.keep 12 7 = some [4] := by kernel_rfl
@[simp] theorem keep12_8 : X.keep 12 8 = some [0, 1, 5, 6] := by kernel_rfl
@[simp] theorem keep12_9 : X.keep 12 9 = some [0, 1, 5, 6] := by kernel_rfl
@[simp] theorem keep12_10 : X.keep 12 10 = some [4] := by kernel_rfl
@[simp] theorem keep13_0 : X.keep 13 0 = some [0] := by kernel_rfl
@[simp] theorem keep13_1 : X.keep 13 1 = some [0, 2] := by kernel_rfl
@[simp] theorem keep13_2 : X.keep 13 2 = some [0, 2, 3] := by kernel_rfl
@[simp] theorem keep13_3 : X.keep 13 3 = some [0, 2, 29] := by kernel_rfl
@[simp] theorem keep13_4 : X.keep 13 4 = some [0, 2] := by kernel_rfl
@[simp] theorem keep13_5 : X.keep 13 5 = some [0, 2, 4] := by kernel_rfl
@[simp] theorem keep13_6 : X.keep 13 6 = some [0, 2, 4, 41] := by kernel_rfl
@[simp] theorem keep13_7 : X.keep 13 7 = some [0, 2, 4] := by kernel_rfl
@[simp] theorem keep13_8 : X.keep 13 8 = some [0, 2, 4] := by kernel_rfl
@[simp] theorem keep14_0 : X.keep 14 0 = some [0, 1, 2, 11] := by kernel_rfl
@[simp] theorem keep14_1 : X.keep 14 1 = some [0, 1, 2, 6] := by kernel_rfl
@[simp] theorem keep14_2 : X.keep 14 2 = some [0, 1, 2] := by kernel_rfl
@[simp] theorem keep14_3 : X.keep 14 3 = some [0, 1, 2, 6, 19] := by kernel_rfl
@[simp] theorem keep14_4 : X.keep 14 4 = some [0, 1, 2, 6, 29] := by kernel_rfl
@[simp] theorem keep14_5 : X.keep 14 5 = some [0, 1, 2] := by kernel_rfl
@[simp] theorem keep15_0 : X.keep 15 0 = some [0] := by kernel_rfl
@[simp] theorem keep15_1 : X.keep 15 1 = some [0, 4, 5, 6] := by kernel_rfl
@[simp] theorem keep15_2 : X.keep 15 2 = some [0, 4, 5, 6, 36] := by kernel_rfl
@[simp] theorem keep15_3 : X.keep 15 3 = some [0, 4, 5, 6] := by kernel_rfl
@[simp] theorem keep15_4 : X.keep 15 4 = some [0, 4, 5, 6, 7] := by kernel_rfl
@[simp] theorem keep15_5 : X.keep 15 5 = some [0, 4, 5, 6, 7, 8] := by kernel_rfl
@[simp] theorem keep15_6 : X.keep 15 6 = some [0, 4, 5, 7, 8, 41, 42] := by kernel_rfl
@[simp] theorem keep15_7 : X.keep 15 7 = some [0, 4, 5, 7, 8, 41, 42, 43] := by kernel_rfl
@[simp] theorem keep15_8 : X.keep 15 8 = some [0, 4, 5, 7, 8, 9, 41, 42] := by kernel_rfl
@[simp] theorem keep15_9 : X.keep 15 9 = some [0, 4, 5, 7, 8, 41, 42] := by kernel_rfl
@[simp] theorem keep15_10 : X.keep 15 10 = some [0, 4, 5, 7, 8, 41, 42] := by kernel_rfl
@[simp] theorem keep15_11 : X.keep 15 11 = some [0, 4, 5, 8, 57] := by kernel_rfl
@[simp] theorem keep15_12 : X.keep 15 12 = some [2, 3] := by kernel_rfl
@[simp] theorem keep15_13 : X.keep 15 13 = some [0, 4, 5, 8, 10, 11] := by kernel_rfl
@[simp] theorem keep15_14 : X.keep 15 14 = some [0, 4, 5, 8, 68] := by kernel_rfl
@[simp] theorem keep15_15 : X.keep 15 15 = some [] := by kernel_rfl
@[simp] theorem keep15_16 : X.keep 15 16 = some [2, 3] := by kernel_rfl
@[simp] theorem keep15_17 : X.keep 15 17 = some [0, 4, 12] := by kernel_rfl
@[simp] theorem keep15_18 : X.keep 15 18 = some [0, 4, 12, 81] := by kernel_rfl
@[simp] theorem keep15_19 : X.keep 15 19 = some [2, 3] := by kernel_rfl
@[simp] theorem keep15_20 : X.keep 15 20 = some [0, 2, 3] := by kernel_rfl
@[simp] theorem keep15_21 : X.keep 15 21 = some [0, 2, 3, 13, 14] := by kernel_rfl
@[simp] theorem keep15_22 : X.keep 15 22 = some [0, 2, 3, 109] := by kernel_rfl
@[simp] theorem keep15_23 : X.keep 15 23 = some [0, 2, 3] := by kernel_rfl
@[simp] theorem keep15_24 : X.keep 15 24 = some [0, 2, 3, 13, 14] := by kernel_rfl
@[simp] theorem keep15_25 : X.keep 15 25 = some [0, 2, 3, 132] := by kernel_rfl
@[simp] theorem keep15_26 : X.keep 15 26 = some [2, 3] := by kernel_rfl
@[simp] theorem keep15_27 : X.keep 15 27 = some [2, 3] := by kernel_rfl
@[simp] theorem keep16_0 : X.keep 16 0 = some [0, 1, 8] := by kernel_rfl
@[simp] theorem keep16_1 : X.keep 16 1 = some [] := by kernel_rfl
@[simp] theorem keep17_0 : X.keep 17 0 = some [0, 1, 8] := by kernel_rfl
@[simp] theorem keep17_1 : X.keep 17 1 = some [0, 1, 18] := by kernel_rfl
@[simp] theorem keep17_2 : X.keep 17 2 = some [] := by kernel_rfl
@[simp] theorem keep17_3 : X.keep 17 3 = some [] := by kernel_rfl
@[simp] theorem keep18_0 : X.keep 18 0 = some [0, 1] := by kernel_rfl
@[simp] theorem keep18_1 : X.keep 18 1 = some [0, 1, 12] := by kernel_rfl
@[simp] theorem keep18_2 : X.keep 18 2 = some [4] := by kernel_rfl
@[simp] theorem keep18_3 : X.keep 18 3 = some [0, 5, 6, 7] := by kernel_rfl
@[simp] theorem keep18_4 : X.keep 18 4 = some [0, 5, 6, 7, 28] := by kernel_rfl
@[simp] theorem keep18_5 : X.keep 18 5 = some [0, 5, 6] := by kernel_rfl
@[simp] theorem keep18_6 : X.keep 18 6 = some [5] := by kernel_rfl
@[simp] theorem keep18_7 : X.keep 18 7 = some [4] := by kernel_rfl
@[simp] theorem keep19_0 : X.keep 19 0 = some [0, 1, 2, 6] := by kernel_rfl
@[simp] theorem keep19_1 : X.keep 19 1 = some [0, 1, 2, 6, 44] := by kernel_rfl
@[simp] theorem keep19_2 : X.keep 19 2 = some [] := by kernel_rfl
@[simp] theorem keep19_3 : X.keep 19 3 = some [0, 2, 7] := by kernel_rfl
@[simp] theorem keep19_4 : X.keep 19 4 = some [0, 7, 8] := by kernel_rfl
@[simp] theorem keep19_5 : X.keep 19 5 = some [0, 7, 8, 67] := by kernel_rfl
@[simp] theorem keep19_6 : X.keep 19 6 = some [0, 7, 8, 69] := by kernel_rfl
@[simp] theorem keep19_7 : X.keep 19 7 = some [] := by kernel_rfl
@[simp] theorem keep19_8 : X.keep 19 8 = some [0, 7, 8, 9] := by kernel_rfl
@[simp] theorem keep19_9 : X.keep 19 9 = some [0, 7, 8, 9, 75] := by kernel_rfl
@[simp] theorem keep19_10 : X.keep 19 10 = some [0, 7, 8, 10] := by kernel_rfl
@[simp] theorem keep19_11 : X.keep 19 11 = some [0, 7, 9] := by kernel_rfl
@[simp] theorem keep19_12 : X.keep 19 12 = some [0, 7, 9, 102] := by kernel_rfl
@[simp] theorem keep19_13 : X.keep 19 13 = some [0, 7, 9] := by kernel_rfl
@[simp] theorem keep19_14 : X.keep 19 14 = some [0, 7, 9, 11] := by kernel_rfl
@[simp] theorem keep19_15 : X.keep 19 15 = some [0, 7, 9, 11, 114] := by kernel_rfl
@[simp] theorem keep19_16 : X.keep 19 16 = some [0, 7, 9, 11] := by kernel_rfl
@[simp] theorem keep19_17 : X.keep 19 17 = some [0, 7, 9, 11] := by kernel_rfl
@[simp] theorem keep20_0 : X.keep 20 0 = some [0] := by kernel_rfl
@[simp] theorem keep20_1 : X.keep 20 1 = some [3, 4] := by kernel_rfl
@[simp] theorem keep20_2 : X.keep 20 2 = some [3, 4, 13] := by kernel_rfl
@[simp] theorem keep20_3 : X.keep 20 3 = some [2, 3] := by kernel_rfl
@[simp] theorem keep20_4 : X.keep 20 4 = some [4, 5] := by kernel_rfl
@[simp] theorem keep20_5 : X.keep 20 5 = some [4, 5, 6] := by kernel_rfl
@[simp] theorem keep20_6 : X.keep 20 6 = some [4, 5, 6, 16] := by kernel_rfl
@[simp] theorem keep20_7 : X.keep 20 7 = some [4, 5, 6] := by kernel_rfl
@[simp] theorem keep20_8 : X.keep 20 8 = some [4, 5, 6] := by kernel_rfl
@[simp] theorem keep20_9 : X.keep 20 9 = some [5, 28] := by kernel_rfl
@[simp] theorem keep20_10 : X.keep 20 10 = some [2, 3] := by kernel_rfl
@[simp] theorem keep20_11 : X.keep 20 11 = some [2, 3] := by kernel_rfl
@[simp] theorem keep21_0 : X.keep 21 0 = some [1, 3, 5] := by kernel_rfl
@[simp] theorem keep21_1 : X.keep 21 1 = some [1, 3, 5, 7] := by kernel_rfl
@[simp] theorem keep21_2 : X.keep 21 2 = some [1, 3, 5, 7, 8] := by kernel_rfl
@[simp] theorem keep21_3 : X.keep 21 3 = some [1, 3, 5, 7, 8, 24] := by kernel_rfl
@[simp] theorem keep21_4 : X.keep 21 4 = some [1, 3, 5, 7, 8, 9] := by kernel_rfl
@[simp] theorem keep21_5 : X.keep 21 5 = some [1, 3, 5, 7, 8, 9, 28] := by kernel_rfl
@[simp] theorem keep21_6 : X.keep 21 6 = some [1, 3, 5, 7, 8] := by kernel_rfl
@[simp] theorem keep21_7 : X.keep 21 7 = some [1, 3, 5, 7, 8, 9, 28, 33] := by kernel_rfl
@[simp] theorem keep21_8 : X.keep 21 8 = some [1, 3, 5, 7, 8, 37] := by kernel_rfl
@[simp] theorem keep21_9 : X.keep 21 9 = some [1, 3, 5, 7, 8] := by kernel_rfl
@[simp] theorem keep21_10 : X.keep 21 10 = some [1, 3, 5, 7, 8, 10] := by kernel_rfl
@[simp] theorem keep21_11 : X.keep 21 11 = some [1, 3, 5, 7, 8, 10, 47] := by kernel_rfl
@[simp] theorem keep21_12 : X.keep 21 12 = some [1, 3, 5, 7, 8] := by kernel_rfl
@[simp] theorem keep21_13 : X.keep 21 13 = some [1, 3, 5, 7, 8, 9, 28, 57] := by kernel_rfl
@[simp] theorem keep21_14 : X.keep 21 14 = some [1, 3, 5, 7, 8, 11] := by kernel_rfl
@[simp] theorem keep21_15 : X.keep 21 15 = some [1, 3, 5, 7, 8, 11, 66] := by kernel_rfl
@[simp] theorem keep21_16 : X.keep 21 16 = some [1, 3, 5, 7, 8] := by kernel_rfl
@[simp] theorem keep21_17 : X.keep 21 17 = some [1, 3, 5, 7, 8, 9, 70] := by kernel_rfl
@[simp] theorem keep21_18 : X.keep 21 18 = some [1, 3, 5, 7, 8, 12] := by kernel_rfl
@[simp] theorem keep21_19 : X.keep 21 19 = some [1, 3, 5, 7, 8, 12, 79] := by kernel_rfl
@[simp] theorem keep21_20 : X.keep 21 20 = some [1, 3, 5, 7, 8] := by kernel_rfl
@[simp] theorem keep21_21 : X.keep 21 21 = some [6] := by kernel_rfl
@[simp] theorem keep22_0 : X.keep 22 0 = some [0] := by kernel_rfl
@[simp] theorem keep22_1 : X.keep 22 1 = some [0, 3, 4] := by kernel_rfl
@[simp] theorem keep22_2 : X.keep 22 2 = some [3, 4, 7, 8, 9] := by kernel_rfl
@[simp] theorem keep22_3 : X.keep 22 3 = some [3, 4, 7, 8, 9, 10] := by kernel_rfl
@[simp] theorem keep22_4 : X.keep 22 4 = some [3, 4, 6, 7, 8, 9] := by kernel_rfl
@[simp] theorem keep22_5 : X.keep 22 5 = some [3, 4, 6, 7, 8, 9, 14] := by kernel_rfl
@[simp] theorem keep22_6 : X.keep 22 6 = some [3, 4, 7, 8, 9] := by kernel_rfl
@[simp] theorem keep22_7 : X.keep 22 7 = some [3, 4, 7, 8, 9] := by kernel_rfl
@[simp] theorem keep22_8 : X.keep 22 8 = some [2] := by kernel_rfl
@[simp] theorem keep23_0 : X.keep 23 0 = some [0] := by kernel_rfl
@[simp] theorem keep23_1 : X.keep 23 1 = some [5, 6, 7] := by kernel_rfl
@[simp] theorem keep23_2 : X.keep 23 2 = some [5, 6, 7, 8] := by kernel_rfl
@[simp] theorem keep23_3 : X.keep 23 3 = some [4, 5, 6, 7] := by kernel_rfl
@[simp] theorem keep23_4 : X.keep 23 4 = some [5, 6, 7, 12] := by kernel_rfl
@[simp] theorem keep23_5 : X.keep 23 5 = some [2] := by kernel_rfl
@[simp] theorem keep23_6 : X.keep 23 6 = some [5, 6, 7] := by kernel_rfl
@[simp] theorem keep23_7 : X.keep 23 7 = some [2] := by kernel_rfl
@[simp] theorem keep24_0 : X.keep 24 0 = some [0, 1, 2] := by kernel_rfl
@[simp] theorem keep24_1 : X.keep 24 1 = some [0, 1, 2, 10] := by kernel_rfl
@[simp] theorem keep24_2 : X.keep 24 2 = some [0, 1, 2, 10, 17] := by kernel_rfl
@[simp] theorem keep24_3 : X.keep 24 3 = some [6, 7, 8] := by kernel_rfl
@[simp] theorem keep24_4 : X.keep 24 4 = some [0, 1, 2, 20] := by kernel_rfl
@[simp] theorem keep24_5 : X.keep 24 5 = some [6, 7, 8] := by kernel_rfl
@[simp] theorem keep24_6 : X.keep 24 6 = some [6, 7, 8] := by kernel_rfl
@[simp] theorem keep25_0 : X.keep 25 0 = some [0, 2] := by kernel_rfl
@[simp] theorem keep25_1 : X.keep 25 1 = some [0, 2, 4] := by kernel_rfl
@[simp] theorem keep25_2 : X.keep 25 2 = some [0, 2, 4, 9] := by kernel_rfl
@[simp] theorem keep25_3 : X.keep 25 3 = some [2, 3] := by kernel_rfl
@[simp] theorem keep25_4 : X.keep 25 4 = some [2, 4, 11, 12, 13] := by kernel_rfl
@[simp] theorem keep25_5 : X.keep 25 5 = some [2, 4, 11, 12, 13, 14] := by kernel_rfl
@[simp] theorem keep25_6 : X.keep 25 6 = some [2, 4, 6, 11, 12, 13] := by kernel_rfl
@[simp] theorem keep25_7 : X.keep 25 7 = some [2, 4, 6, 11, 12, 13, 22] := by kernel_rfl
@[simp] theorem keep25_8 : X.keep 25 8 = some [2, 3] := by kernel_rfl
@[simp] theorem keep25_9 : X.keep 25 9 = some [2, 4, 11, 12, 13] := by kernel_rfl
@[simp] theorem keep25_10 : X.keep 25 10 = some [2, 4, 11, 12, 13] := by kernel_rfl
@[simp] theorem keep25_11 : X.keep 25 11 = some [2, 3] := by kernel_rfl
@[simp] theorem keep26_0 : X.keep 26 0 = some [0, 1, 2, 4, 12] := by kernel_rfl
@[simp] theorem keep26_1 : X.keep 26 1 = some [] := by kernel_rfl
@[simp] theorem keep26_2 : X.keep 26 2 = some [0, 2, 15, 16] := by kernel_rfl
@[simp] theorem keep26_3 : X.keep 26 3 = some [0, 2, 15, 16, 17] := by kernel_rfl
@[simp] theorem keep26_4 : X.keep 26 4 = some [0, 2, 15, 16] := by kernel_rfl
@[simp] theorem keep26_5 : X.keep 26 5 = some [0, 2, 15, 16] := by kernel_rfl
@[simp] theorem keep27_0 : X.keep 27 0 = some [0, 4, 5] := by kernel_rfl
@[simp] theorem keep27_1 : X.keep 27 1 = some [0, 4, 5, 7] := by kernel_rfl
@[simp] theorem keep27_2 : X.keep 27 2 = some [0, 4, 5, 7, 9] := by kernel_rfl
@[simp] theorem keep27_3 : X.keep 27 3 = some [0, 4, 5, 7, 9, 10] := by kernel_rfl
@[simp] theorem keep27_4 : X.keep 27 4 = some [0, 4, 5, 7, 9, 10, 11] := by kernel_rfl
@[simp] theorem keep27_5 : X.keep 27 5 = some [4, 5, 7, 9, 10, 11, 21, 22, 23] := by kernel_rfl
@[simp] theorem keep27_6 : X.keep 27 6 = some [4, 5, 7, 9, 10, 11, 21, 22, 23, 24] := by kernel_rfl
@[simp] theorem keep27_7 : X.keep 27 7 = some [4, 5, 7, 9, 10, 11, 12, 13, 21, 22, 23] := by kernel_rfl
@[simp] theorem keep27_8 : X.keep 27 8 = some [4, 5, 7, 9, 10, 11, 13, 21, 22, 23] := by kernel_rfl
@[simp] theorem keep27_9 : X.keep 27 9 = some [4, 5, 7, 9, 10, 11, 21, 22, 23] := by kernel_rfl
@[simp] theorem keep27_10 : X.keep 27 10 = some [4, 5, 7, 9, 10, 11, 21, 22, 23] := by kernel_rfl
@[simp] theorem keep27_11 : X.keep 27 11 = some [6] := by kernel_rfl
@[simp] theorem keep28_0 : X.keep 28 0 = some [1, 2] := by kernel_rfl
@[simp] theorem keep28_1 : X.keep 28 1 = some [1, 2, 3] := by kernel_rfl
@[simp] theorem keep28_2 : X.keep 28 2 = some [1, 2, 3] := by kernel_rfl
@[simp] theorem keep28_3 : X.keep 28 3 = some [1, 2, 3, 4] := by kernel_rfl
@[simp] theorem keep28_4 : X.keep 28 4 = some [1, 2, 3, 4, 7] := by kernel_rfl
@[simp] theorem keep28_5 : X.keep 28 5 = some [1, 2, 3, 4] := by kernel_rfl
@[simp] theorem keep28_6 : X.keep 28 6 = some [1, 2, 3, 4] := by kernel_rfl
@[simp] theorem keep28_7 : X.keep 28 7 = some [2] := by kernel_rfl
@[simp] theorem keep29_0 : X.keep 29 0 = some [0, 1, 2, 3, 4, 5] := by kernel_rfl
@[simp] theorem keep29_1 : X.keep 29 1 = some [0, 1, 2, 3, 4, 5, 9] := by kernel_rfl
@[simp] theorem keep29_2 : X.keep 29 2 = some [0, 1, 2, 3, 4, 5, 9, 10] := by kernel_rfl
@[simp] theorem keep29_3 : X.keep 29 3 = some [0, 1, 2, 3, 4, 5, 9, 10] := by kernel_rfl
@[simp] theorem keep29_4 : X.keep 29 4 = some [0, 1, 2, 3, 4, 5, 9, 10, 16] := by kernel_rfl
@[simp] theorem keep29_5 : X.keep 29 5 = some [6, 7, 8] := by kernel_rfl
@[simp] theorem keep29_6 : X.keep 29 6 = some [0, 1, 2, 3, 4, 5, 9, 10, 21] := by kernel_rfl
@[simp] theorem keep29_7 : X.keep 29 7 = some [6, 7, 8] := by kernel_rfl
@[simp] theorem keep29_8 : X.keep 29 8 = some [0, 1, 2, 3, 4, 5, 9, 10] := by kernel_rfl
@[simp] theorem keep29_9 : X.keep 29 9 = some [0, 1, 2, 3, 4, 5, 9, 10] := by kernel_rfl
@[simp] theorem keep29_10 : X.keep 29 10 = some [0, 1, 2, 3, 4, 5, 9, 10, 11] := by kernel_rfl
@[simp] theorem keep29_11 : X.keep 29 11 = some [0, 1, 2, 3, 4, 5, 9, 10, 11, 50] := by kernel_rfl
@[simp] theorem keep29_12 : X.keep 29 12 = some [6, 7, 8] := by kernel_rfl
@[simp] theorem dy5_15 : X.dy 5 15 = false := by kernel_rfl
@[simp] theorem dy6_6 : X.dy 6 6 = true := by kernel_rfl
@[simp] theorem dy6_7 : X.dy 6 7 = true := by kernel_rfl
@[simp] theorem dy10_6 : X.dy 10 6 = true := by kernel_rfl
@[simp] theorem dy11_19 : X.dy 11 19 = true := by kernel_rfl
@[simp] theorem dy12_5 : X.dy 12 5 = false := by kernel_rfl
@[simp] theorem dy12_8 : X.dy 12 8 = false := by kernel_rfl
@[simp] theorem dy15_9 : X.dy 15 9 = true := by kernel_rfl
@[simp] theorem dy15_20 : X.dy 15 20 = true := by kernel_rfl
@[simp] theorem dy17_1 : X.dy 17 1 = false := by kernel_rfl
@[simp] theorem dy18_3 : X.dy 18 3 = false := by kernel_rfl
@[simp] theorem dy19_3 : X.dy 19 3 = true := by kernel_rfl
@[simp] theorem dy19_11 : X.dy 19 11 = false := by kernel_rfl
@[simp] theorem dy19_17 : X.dy 19 17 = false := by kernel_rfl
@[simp] theorem dy28_6 : X.dy 28 6 = false := by kernel_rfl
@[simp] theorem dy29_8 : X.dy 29 8 = false := by kernel_rfl
@[simp] theorem size0 : sizeT X 0 = 1 := by kernel_rfl
@[simp] theorem bytes0 : bytesT X 0 = 0 := by kernel_rfl
@[simp] theorem okT0 : okT X 0 = true := by kernel_rfl
@[simp] theorem isAgg0 : isAggT X 0 = false := by kernel_rfl
@[simp] theorem isInt0 : isIntT X 0 = false := by kernel_rfl
@[simp] theorem isArr0 : isArrT X 0 = false := by kernel_rfl
@[simp] theorem isU80 : isU8 X 0 = false := by kernel_rfl
@[simp] theorem zok0 : zeroOk X 0 = true := by kernel_rfl
@[simp] theorem und3 : und X 3 = .int .i64 := by kernel_rfl
@[simp] theorem size3 : sizeT X 3 = 1 := by kernel_rfl
@[simp] theorem bytes3 : bytesT X 3 = 8 := by kernel_rfl
@[simp] theorem okT3 : okT X 3 = true := by kernel_rfl
@[simp] theorem isAgg3 : isAggT X 3 = false := by kernel_rfl
@[simp] theorem isInt3 : isIntT X 3 = true := by kernel_rfl
@[simp] theorem isArr3 : isArrT X 3 = false := by kernel_rfl
@[simp] theorem isU83 : isU8 X 3 = false := by kernel_rfl
@[simp] theorem zok3 : zeroOk X 3 = true := by kernel_rfl
@[simp] theorem zero3 : zeroAV X 3 = .int .i64 0 := by kernel_rfl
@[simp] theorem und4 : und X 4 = .bool := by kernel_rfl
@[simp] theorem size4 : sizeT X 4 = 1 := by kernel_rfl
@[simp] theorem bytes4 : bytesT X 4 = 1 := by kernel_rfl
@[simp] theorem okT4 : okT X 4 = true := by kernel_rfl
@[simp] theorem isAgg4 : isAggT X 4 = false := by kernel_rfl
@[simp] theorem isInt4 : isIntT X 4 = false := by kernel_rfl
@[simp] theorem isArr4 : isArrT X 4 = false := by kernel_rfl
@[simp] theorem isU84 : isU8 X 4 = false := by kernel_rfl
@[simp] theorem zok4 : zeroOk X 4 = true := by kernel_rfl
@[simp] theorem zero4 : zeroAV X 4 = .bool false := by kernel_rfl
@[simp] theorem und5 : und X 5 = .int .u8 := by kernel_rfl
@[simp] theorem size5 : sizeT X 5 = 1 := by kernel_rfl
@[simp] theorem bytes5 : bytesT X 5 = 1 := by kernel_rfl
@[simp] theorem okT5 : okT X 5 = true := by kernel_rfl
@[simp] theorem isAgg5 : isAggT X 5 = false := by kernel_rfl
@[simp] theorem isInt5 : isIntT X 5 = true := by kernel_rfl
@[simp] theorem isArr5 : isArrT X 5 = false := by kernel_rfl
@[simp] theorem isU85 : isU8 X 5 = true := by kernel_rfl
@[simp] theorem zok5 : zeroOk X 5 = true := by kernel_rfl
@[simp] theorem zero5 : zeroAV X 5 = .int .u8 0 := by kernel_rfl
@[simp] theorem und9 : und X 9 = .string := by kernel_rfl
@[simp] theorem size9 : sizeT X 9 = 1 := by kernel_rfl
@[simp] theorem bytes9 : bytesT X 9 = 16 := by kernel_rfl
@[simp] theorem okT9 : okT X 9 = true := by kernel_rfl
@[simp] theorem isAgg9 : isAggT X 9 = false := by kernel_rfl
@[simp] theorem isInt9 : isIntT X 9 = false := by kernel_rfl
@[simp] theorem isArr9 : isArrT X 9 = false := by kernel_rfl
@[simp] theorem isU89 : isU8 X 9 = false := by kernel_rfl
@[simp] theorem zok9 : zeroOk X 9 = true := by kernel_rfl
@[simp] theorem zero9 : zeroAV X 9 = .str [] := by kernel_rfl
@[simp] theorem und22 : und X 22 = .slice 5 := by kernel_rfl
@[simp] theorem size22 : sizeT X 22 = 1 := by kernel_rfl
@[simp] theorem bytes22 : bytesT X 22 = 24 := by kernel_rfl
@[simp] theorem okT22 : okT X 22 = true := by kernel_rfl
@[simp] theorem isAgg22 : isAggT X 22 = false := by kernel_rfl
@[simp] theorem isInt22 : isIntT X 22 = false := by kernel_rfl
@[simp] theorem isArr22 : isArrT X 22 = false := by kernel_rfl
@[simp] theorem isU822 : isU8 X 22 = false := by kernel_rfl
@[simp] theorem zok22 : zeroOk X 22 = true := by kernel_rfl
@[simp] theorem zero22 : zeroAV X 22 = .ro 0 .pn 0 := by kernel_rfl
@[simp] theorem und23 : und X 23 = .int .i64 := by kernel_rfl
@[simp] theorem size23 : sizeT X 23 = 1 := by kernel_rfl
@[simp] theorem bytes23 : bytesT X 23 = 8 := by kernel_rfl
@[simp] theorem okT23 : okT X 23 = true := by kernel_rfl
@[simp] theorem isAgg23 : isAggT X 23 = false := by kernel_rfl
@[simp] theorem isInt23 : isIntT X 23 = true := by kernel_rfl
@[simp] theorem isArr23 : isArrT X 23 = false := by kernel_rfl
@[simp] theorem isU823 : isU8 X 23 = false := by kernel_rfl
@[simp] theorem zok23 : zeroOk X 23 = true := by kernel_rfl
@[simp] theorem zero23 : zeroAV X 23 = .int .i64 0 := by kernel_rfl
@[simp] theorem size24 : sizeT X 24 = 1 := by kernel_rfl
@[simp] theorem bytes24 : bytesT X 24 = 0 := by kernel_rfl
@[simp] theorem okT24 : okT X 24 = true := by kernel_rfl
@[simp] theorem isAgg24 : isAggT X 24 = false := by kernel_rfl
@[simp] theorem isInt24 : isIntT X 24 = false := by kernel_rfl
@[simp] theorem isArr24 : isArrT X 24 = false := by kernel_rfl
@[simp] theorem isU824 : isU8 X 24 = false := by kernel_rfl
@[simp] theorem zok24 : zeroOk X 24 = true := by kernel_rfl
@[simp] theorem und26 : und X 26 = .slice 3 := by kernel_rfl
@[simp] theorem size26 : sizeT X 26 = 1 := by kernel_rfl
@[simp] theorem bytes26 : bytesT X 26 = 24 := by kernel_rfl
@[simp] theorem okT26 : okT X 26 = true := by kernel_rfl
@[simp] theorem isAgg26 : isAggT X 26 = false := by kernel_rfl
@[simp] theorem isInt26 : isIntT X 26 = false := by kernel_rfl
@[simp] theorem isArr26 : isArrT X 26 = false := by kernel_rfl
@[simp] theorem isU826 : isU8 X 26 = false := by kernel_rfl
@[simp] theorem zok26 : zeroOk X 26 = true := by kernel_rfl
@[simp] theorem zero26 : zeroAV X 26 = .ro 0 .pn 0 := by kernel_rfl
@[simp] theorem size27 : sizeT X 27 = 1 := by kernel_rfl
@[simp] theorem bytes27 : bytesT X 27 = 0 := by kernel_rfl
@[simp] theorem okT27 : okT X 27 = true := by kernel_rfl
@[simp] theorem isAgg27 : isAggT X 27 = false := by kernel_rfl
@[simp] theorem isInt27 : isIntT X 27 = false := by kernel_rfl
@[simp] theorem isArr27 : isArrT X 27 = false := by kernel_rfl
@[simp] theorem isU827 : isU8 X 27 = false := by kernel_rfl
@[simp] theorem zok27 : zeroOk X 27 = true := by kernel_rfl
@[simp] theorem und31 : und X 31 = .slice 35 := by kernel_rfl
@[simp] theorem size31 : sizeT X 31 = 1 := by kernel_rfl
@[simp] theorem bytes31 : bytesT X 31 = 24 := by kernel_rfl
@[simp] theorem okT31 : okT X 31 = true := by kernel_rfl
@[simp] theorem isAgg31 : isAggT X 31 = false := by kernel_rfl
@[simp] theorem isInt31 : isIntT X 31 = false := by kernel_rfl
@[simp] theorem isArr31 : isArrT X 31 = false := by kernel_rfl
@[simp] theorem isU831 : isU8 X 31 = false := by kernel_rfl
@[simp] theorem zok31 : zeroOk X 31 = true := by kernel_rfl
@[simp] theorem zero31 : zeroAV X 31 = .ro 0 .pn 0 := by kernel_rfl
@[simp] theorem size32 : sizeT X 32 = 1 := by kernel_rfl
@[simp] theorem bytes32 : bytesT X 32 = 0 := by kernel_rfl
@[simp] theorem okT32 : okT X 32 = true := by kernel_rfl
@[simp] theorem isAgg32 : isAggT X 32 = false := by kernel_rfl
@[simp] theorem isInt32 : isIntT X 32 = false := by kernel_rfl
@[simp] theorem isArr32 : isArrT X 32 = false := by kernel_rfl
@[simp] theorem isU832 : isU8 X 32 = false := by kernel_rfl
@[simp] theorem zok32 : zeroOk X 32 = true := by kernel_rfl
@[simp] theorem size35 : sizeT X 35 = 4 := by kernel_rfl
@[simp] theorem bytes35 : bytesT X 35 = 32 := by kernel_rfl
@[simp] theorem okT35 : okT X 35 = true := by kernel_rfl
@[simp] theorem isAgg35 : isAggT X 35 = true := by kernel_rfl
@[simp] theorem isInt35 : isIntT X 35 = false := by kernel_rfl
@[simp] theorem isArr35 : isArrT X 35 = false := by kernel_rfl
@[simp] theorem isU835 : isU8 X 35 = false := by kernel_rfl
@[simp] theorem zok35 : zeroOk X 35 = true := by kernel_rfl
@[simp] theorem zero35 : zeroAV X 35 = .agg (.pc [.int .i64 0, .bool false, .int .i64 0, .int .i64 0]) := by kernel_rfl
@[simp] theorem und37 : und X 37 = .pointer 39 := by kernel_rfl
@[simp] theorem size37 : sizeT X 37 = 1 := by kernel_rfl
@[simp] theorem bytes37 : bytesT X 37 = 8 := by kernel_rfl
@[simp] theorem okT37 : okT X 37 = true := by kernel_rfl
@[simp] theorem isAgg37 : isAggT X 37 = false := by kernel_rfl
@[simp] theorem isInt37 : isIntT X 37 = false := by kernel_rfl
@[simp] theorem isArr37 : isArrT X 37 = false := by kernel_rfl
@[simp] theorem isU837 : isU8 X 37 = false := by kernel_rfl
@[simp] theorem zok37 : zeroOk X 37 = true := by kernel_rfl
@[simp] theorem zero37 : zeroAV X 37 = .nilptr := by kernel_rfl
@[simp] theorem size39 : sizeT X 39 = 5 := by kernel_rfl
@[simp] theorem bytes39 : bytesT X 39 = 72 := by kernel_rfl
@[simp] theorem okT39 : okT X 39 = true := by kernel_rfl
@[simp] theorem isAgg39 : isAggT X 39 = true := by kernel_rfl
@[simp] theorem isInt39 : isIntT X 39 = false := by kernel_rfl
@[simp] theorem isArr39 : isArrT X 39 = false := by kernel_rfl
@[simp] theorem isU839 : isU8 X 39 = false := by kernel_rfl
@[simp] theorem zok39 : zeroOk X 39 = true := by kernel_rfl
@[simp] theorem zero39 : zeroAV X 39 = .agg (.pc [.ro 0 .pn 0, .int .i64 0, .ro 0 .pn 0, .int .i64 0, .int .i64 0]) := by kernel_rfl
@[simp] theorem und47 : und X 47 = .array 19 3 := by kernel_rfl
@[simp] theorem size47 : sizeT X 47 = 19 := by kernel_rfl
@[simp] theorem bytes47 : bytesT X 47 = 152 := by kernel_rfl
@[simp] theorem okT47 : okT X 47 = true := by kernel_rfl
@[simp] theorem isAgg47 : isAggT X 47 = true := by kernel_rfl
@[simp] theorem isInt47 : isIntT X 47 = false := by kernel_rfl
@[simp] theorem isArr47 : isArrT X 47 = true := by kernel_rfl
@[simp] theorem isU847 : isU8 X 47 = false := by kernel_rfl
@[simp] theorem zok47 : zeroOk X 47 = true := by kernel_rfl
@[simp] theorem zero47 : zeroAV X 47 = .agg (.pi .i64 [0, 0, 0, 0, 0, 0, 0, 0, 0, 0, 0, 0, 0, 0, 0, 0, 0, 0, 0]) := by kernel_rfl
@[simp] theorem size48 : sizeT X 48 = 1 := by kernel_rfl
@[simp] theorem bytes48 : bytesT X 48 = 0 := by kernel_rfl
@[simp] theorem okT48 : okT X 48 = true := by kernel_rfl
@[simp] theorem isAgg48 : isAggT X 48 = false := by kernel_rfl
@[simp] theorem isInt48 : isIntT X 48 = false := by kernel_rfl
@[simp] theorem isArr48 : isArrT X 48 = false := by kernel_rfl
@[simp] theorem isU848 : isU8 X 48 = false := by kernel_rfl
@[simp] theorem zok48 : zeroOk X 48 = true := by kernel_rfl
@[simp] theorem size52 : sizeT X 52 = 1 := by kernel_rfl
@[simp] theorem bytes52 : bytesT X 52 = 0 := by kernel_rfl
@[simp] theorem okT52 : okT X 52 = true := by kernel_rfl
@[simp] theorem isAgg52 : isAggT X 52 = false := by kernel_rfl
@[simp] theorem isInt52 : isIntT X 52 = false := by kernel_rfl
@[simp] theorem isArr52 : isArrT X 52 = false := by kernel_rfl
@[simp] theorem isU852 : isU8 X 52 = false := by kernel_rfl
@[simp] theorem zok52 : zeroOk X 52 = true := by kernel_rfl
@[simp] theorem und54 : und X 54 = .array 2 3 := by kernel_rfl
@[simp] theorem size54 : sizeT X 54 = 2 := by kernel_rfl
@[simp] theorem bytes54 : bytesT X 54 = 16 := by kernel_rfl
@[simp] theorem okT54 : okT X 54 = true := by kernel_rfl
@[simp] theorem isAgg54 : isAggT X 54 = true := by kernel_rfl
@[simp] theorem isInt54 : isIntT X 54 = false := by kernel_rfl
@[simp] theorem isArr54 : isArrT X 54 = true := by kernel_rfl
@[simp] theorem isU854 : isU8 X 54 = false := by kernel_rfl
@[simp] theorem zok54 : zeroOk X 54 = true := by kernel_rfl
@[simp] theorem zero54 : zeroAV X 54 = .agg (.pi .i64 [0, 0]) := by kernel_rfl
@[simp] theorem und55 : und X 55 = .array 29 54 := by kernel_rfl
@[simp] theorem size55 : sizeT X 55 = 58 := by kernel_rfl
@[simp] theorem bytes55 : bytesT X 55 = 464 := by kernel_rfl
@[simp] theorem okT55 : okT X 55 = true := by kernel_rfl
@[simp] theorem isAgg55 : isAggT X 55 = true := by kernel_rfl
@[simp] theorem isInt55 : isIntT X 55 = false := by kernel_rfl
@[simp] theorem isArr55 : isArrT X 55 = true := by kernel_rfl
@[simp] theorem isU855 : isU8 X 55 = false := by kernel_rfl
@[simp] theorem zok55 : zeroOk X 55 = true := by kernel_rfl
@[simp] theorem zero55 : zeroAV X 55 = .agg (.pr 2 [.pc [.int .i64 0, .int .i64 0], .pc [.int .i64 0, .int .i64 0], .pc [.int .i64 0, .int .i64 0], .pc [.int .i64 0, .int .i64 0], .pc [.int .i64 0, .int .i64 0], .pc [.int .i64 0, .int .i64 0], .pc [.int .i64 0, .int .i64 0], .pc [.int .i64 0, .int .i64 0], .pc [.int .i64 0, .int .i64 0], .pc [.int .i64 0, .int .i64 0], .pc [.int .i64 0, .int .i64 0], .pc [.int .i64 0, .int .i64 0], .pc [.int .i64 0, .int .i64 0], .pc [.int .i64 0, .int .i64 0], .pc [.int .i64 0, .int .i64 0], .pc [.int .i64 0, .int .i64 0], .pc [.int .i64 0, .int .i64 0], .pc [.int .i64 0, .int .i64 0], .pc [.int .i64 0, .int .i64 0], .pc [.int .i64 0, .int .i64 0], .pc [.int .i64 0, .int .i64 0], .pc [.int .i64 0, .int .i64 0], .pc [.int .i64 0, .int .i64 0], .pc [.int .i64 0, .int .i64 0], .pc [.int .i64 0, .int .i64 0], .pc [.int .i64 0, .int .i64 0], .pc [.int .i64 0, .int .i64 0], .pc [.int .i64 0, .int .i64 0], .pc [.int .i64 0, .int .i64 0]]) := by kernel_rfl
@[simp] theorem und56 : und X 56 = .array 16 3 := by kernel_rfl
@[simp] theorem size56 : sizeT X 56 = 16 := by kernel_rfl
@[simp] theorem bytes56 : bytesT X 56 = 128 := by kernel_rfl
@[simp] theorem okT56 : okT X 56 = true := by kernel_rfl
@[simp] theorem isAgg56 : isAggT X 56 = true := by kernel_rfl
@[simp] theorem isInt56 : isIntT X 56 = false := by kernel_rfl
@[simp] theorem isArr56 : isArrT X 56 = true := by kernel_rfl
@[simp] theorem isU856 : isU8 X 56 = false := by kernel_rfl
@[simp] theorem zok56 : zeroOk X 56 = true := by kernel_rfl
@[simp] theorem zero56 : zeroAV X 56 = .agg (.pi .i64 [0, 0, 0, 0, 0, 0, 0, 0, 0, 0, 0, 0, 0, 0, 0, 0]) := by kernel_rfl
@[simp] theorem size57 : sizeT X 57 = 1 := by kernel_rfl
@[simp] theorem bytes57 : bytesT X 57 = 0 := by kernel_rfl
@[simp] theorem okT57 : okT X 57 = true := by kernel_rfl
@[simp] theorem isAgg57 : isAggT X 57 = false := by kernel_rfl
@[simp] theorem isInt57 : isIntT X 57 = false := by kernel_rfl
@[simp] theorem isArr57 : isArrT X 57 = false := by kernel_rfl
@[simp] theorem isU857 : isU8 X 57 = false := by kernel_rfl
@[simp] theorem zok57 : zeroOk X 57 = true := by kernel_rfl
@[simp] theorem size59 : sizeT X 59 = 1 := by kernel_rfl
@[simp] theorem bytes59 : bytesT X 59 = 8 := by kernel_rfl
@[simp] theorem okT59 : okT X 59 = true := by kernel_rfl
@[simp] theorem isAgg59 : isAggT X 59 = false := by kernel_rfl
@[simp] theorem isInt59 : isIntT X 59 = false := by kernel_rfl
@[simp] theorem isArr59 : isArrT X 59 = false := by kernel_rfl
@[simp] theorem isU859 : isU8 X 59 = false := by kernel_rfl
@[simp] theorem zok59 : zeroOk X 59 = true := by kernel_rfl
@[simp] theorem zero59 : zeroAV X 59 = .nilfn := by kernel_rfl
@[simp] theorem size60 : sizeT X 60 = 1 := by kernel_rfl
@[simp] theorem bytes60 : bytesT X 60 = 8 := by kernel_rfl
@[simp] theorem okT60 : okT X 60 = true := by kernel_rfl
@[simp] theorem isAgg60 : isAggT X 60 = false := by kernel_rfl
@[simp] theorem isInt60 : isIntT X 60 = false := by kernel_rfl
@[simp] theorem isArr60 : isArrT X 60 = false := by kernel_rfl
@[simp] theorem isU860 : isU8 X 60 = false := by kernel_rfl
@[simp] theorem zok60 : zeroOk X 60 = true := by kernel_rfl
@[simp] theorem zero60 : zeroAV X 60 = .nilfn := by kernel_rfl
@[simp] theorem und62 : und X 62 = .array 17 3 := by kernel_rfl
@[simp] theorem size62 : sizeT X 62 = 17 := by kernel_rfl
@[simp] theorem bytes62 : bytesT X 62 = 136 := by kernel_rfl
@[simp] theorem okT62 : okT X 62 = true := by kernel_rfl
@[simp] theorem isAgg62 : isAggT X 62 = true := by kernel_rfl
@[simp] theorem isInt62 : isIntT X 62 = false := by kernel_rfl
@[simp] theorem isArr62 : isArrT X 62 = true := by kernel_rfl
@[simp] theorem isU862 : isU8 X 62 = false := by kernel_rfl
@[simp] theorem zok62 : zeroOk X 62 = true := by kernel_rfl
@[simp] theorem zero62 : zeroAV X 62 = .agg (.pi .i64 [0, 0, 0, 0, 0, 0, 0, 0, 0, 0, 0, 0, 0, 0, 0, 0, 0]) := by kernel_rfl
@[simp] theorem und64 : und X 64 = .array 16 26 := by kernel_rfl
@[simp] theorem size64 : sizeT X 64 = 16 := by kernel_rfl
@[simp] theorem bytes64 : bytesT X 64 = 384 := by kernel_rfl
@[simp] theorem okT64 : okT X 64 = true := by kernel_rfl
@[simp] theorem isAgg64 : isAggT X 64 = true := by kernel_rfl
@[simp] theorem isInt64 : isIntT X 64 = false := by kernel_rfl
@[simp] theorem isArr64 : isArrT X 64 = true := by kernel_rfl
@[simp] theorem isU864 : isU8 X 64 = false := by kernel_rfl
@[simp] theorem zok64 : zeroOk X 64 = true := by kernel_rfl
@[simp] theorem zero64 : zeroAV X 64 = .agg (.pc [.ro 0 .pn 0, .ro 0 .pn 0, .ro 0 .pn 0, .ro 0 .pn 0, .ro 0 .pn 0, .ro 0 .pn 0, .ro 0 .pn 0, .ro 0 .pn 0, .ro 0 .pn 0, .ro 0 .pn 0, .ro 0 .pn 0, .ro 0 .pn 0, .ro 0 .pn 0, .ro 0 .pn 0, .ro 0 .pn 0, .ro 0 .pn 0]) := by kernel_rfl
@[simp] theorem fa35_0 (H : AM.Heap) (x : AV) : fieldAddrV X H 35 x 0 = faV H x 0 := fieldAddr_of (ty := 3) (by kernel_rfl) (by kernel_rfl) H x
@[simp] theorem fv35_0 (x : AV) : fieldV X 35 x 0 = fvV X x 0 3 := field_of (by kernel_rfl) x
@[simp] theorem fa35_1 (H : AM.Heap) (x : AV) : fieldAddrV X H 35 x 1 = faV H x 1 := fieldAddr_of (ty := 4) (by kernel_rfl) (by kernel_rfl) H x
@[simp] theorem fv35_1 (x : AV) : fieldV X 35 x 1 = fvV X x 1 4 := field_of (by kernel_rfl) x
@[simp] theorem fa35_2 (H : AM.Heap) (x : AV) : fieldAddrV X H 35 x 2 = faV H x 2 := fieldAddr_of (ty := 3) (by kernel_rfl) (by kernel_rfl) H x
@[simp] theorem fv35_2 (x : AV) : fieldV X 35 x 2 = fvV X x 2 3 := field_of (by kernel_rfl) x
@[simp] theorem fa35_3 (H : AM.Heap) (x : AV) : fieldAddrV X H 35 x 3 = faV H x 3 := fieldAddr_of (ty := 3) (by kernel_rfl) (by kernel_rfl) H x
@[simp] theorem fv35_3 (x : AV) : fieldV X 35 x 3 = fvV X x 3 3 := field_of (by kernel_rfl) x
@[simp] theorem fa39_0 (H : AM.Heap) (x : AV) : fieldAddrV X H 39 x 0 = faV H x 0 := fieldAddr_of (ty := 22) (by kernel_rfl) (by kernel_rfl) H x
@[simp] theorem fv39_0 (x : AV) : fieldV X 39 x 0 = fvV X x 0 22 := field_of (by kernel_rfl) x
@[simp] theorem fa39_1 (H : AM.Heap) (x : AV) : fieldAddrV X H 39 x 1 = faV H x 1 := fieldAddr_of (ty := 3) (by kernel_rfl) (by kernel_rfl) H x
@[simp] theorem fv39_1 (x : AV) : fieldV X 39 x 1 = fvV X x 1 3 := field_of (by kernel_rfl) x
@[simp] theorem fa39_2 (H : AM.Heap) (x : AV) : fieldAddrV X H 39 x 2 = faV H x 2 := fieldAddr_of (ty := 22) (by kernel_rfl) (by kernel_rfl) H x
@[simp] theorem fv39_2 (x : AV) : fieldV X 39 x 2 = fvV X x 2 22 := field_of (by kernel_rfl) x
@[simp] theorem fa39_3 (H : AM.Heap) (x : AV) : fieldAddrV X H 39 x 3 = faV H x 3 := fieldAddr_of (ty := 3) (by kernel_rfl) (by kernel_rfl) H x
@[simp] theorem fv39_3 (x : AV) : fieldV X 39 x 3 = fvV X x 3 3 := field_of (by kernel_rfl) x
@[simp] theorem fa39_4 (H : AM.Heap) (x : AV) : fieldAddrV X H 39 x 4 = faV H x 4 := fieldAddr_of (ty := 23) (by kernel_rfl) (by kernel_rfl) H x
@[simp] theorem fv39_4 (x : AV) : fieldV X 39 x 4 = fvV X x 4 23 := field_of (by kernel_rfl) x

end Go.Proofs.Ytdjjekeaeoajpaa

/- Walks: counts. -/
namespace Go.Proofs.Ytdjjekeaeoajpaa
open Go.AM
set_option linter.unusedSimpArgs false
set_option linter.unusedVariables false

/-- symbols of each length, on from n; 0, or the error -/
def countL : List Int → List Int → List Int × Int
  | n, [] => (n, 0)
  | n, x :: r => if 0 ≤ x ∧ x ≤ 15 then countL (n.set x.toNat (IntKind.i64.wrap (n.getD x.toNat 0 + 1))) r else (n, 2)

def z16 : List Int := [0, 0, 0, 0, 0, 0, 0, 0, 0, 0, 0, 0, 0, 0, 0, 0]
def countsR (l : List Int) : List Int × Int := if 320 < (l.length : Int) then (z16, 3) else countL z16 l

def bx (n : List Int) : Option AM.Obj := some { p := .pi .i64 n, g := 0, cap := some 16, z := 1, row := false, ids := false, tg := 0 }

theorem countL_len : ∀ (l n : List Int), (countL n l).1.length = n.length
  | [], n => rfl
  | x :: r, n => by
    simp only [countL]
    split
    · rw [countL_len r]; simp
    · rfl

/-- what the loop leaves -/
def countsO (c : Nat) (l n todo : List Int) : AM.Out :=
  if (countL n todo).2 = 0 then ⟨.exit 0, [(2, .ptr 0 0 0 0), (4, .ptr 1 0 0 0), (11, .ro c (.pi .i64 l) 1), (12, .int .i64 l.length), (13, .int .i64 l.length), (14, .bool false)], [bx z16, bx (countL n todo).1]⟩
  else ⟨.ret, [(2, .ptr 0 0 0 0), (3, .int .i64 (countL n todo).2)], [bx (countL n todo).1, bx (countL n todo).1]⟩

set_option maxRecDepth 100000 in
theorem counts_code (T : Cf) (c : Nat) (l : List Int) (h63 : l.length < 9223372036854775808) : ∃ code, Try.f25.body = some code ∧
    Run X T 25 0 code [(0, .ro c (.pi .i64 l) 1)] [] ⟨.ret, [(2, .ptr 0 0 0 0), (3, .int .i64 (countsR l).2)], [bx (countsR l).1, bx (countsR l).1]⟩ := by
  refine ⟨_, rfl, ?_⟩
  by_cases hl : 320 < (l.length : Int)
  · simp only [countsR, hl, if_true]
    apply Run.seq
    · (refine ⟨0, ?_⟩; conv => lhs; simp (maxSteps := 2000000) -implicitDefEqProofs [-getElem?_pos, List.getElem?_cons_zero, List.getElem?_cons_succ, go_sem, eqV, plen, loadV, storeV])
    apply Run.seq
    · (refine ⟨0, ?_⟩; conv => lhs; simp (maxSteps := 2000000) -implicitDefEqProofs [-getElem?_pos, List.getElem?_cons_zero, List.getElem?_cons_succ, go_sem, eqV, plen, loadV, storeV])
    apply Run.seq_out
    · apply Run.seq
      · (refine ⟨0, ?_⟩; conv => lhs; simp (maxSteps := 2000000) -implicitDefEqProofs [-getElem?_pos, List.getElem?_cons_zero, List.getElem?_cons_succ, go_sem, eqV, plen, loadV, storeV, hl])
      · refine Run.cond (d := true) rfl ?_
        apply Run.seq
        · (refine ⟨0, ?_⟩; conv => lhs; simp (maxSteps := 2000000) -implicitDefEqProofs [-getElem?_pos, List.getElem?_cons_zero, List.getElem?_cons_succ, go_sem, eqV, plen, loadV, storeV])
        · exact ⟨0, rfl⟩
    · simp
  · simp only [countsR, hl, if_false]
    apply Run.seq
    · (refine ⟨0, ?_⟩; conv => lhs; simp (maxSteps := 2000000) -implicitDefEqProofs [-getElem?_pos, List.getElem?_cons_zero, List.getElem?_cons_succ, go_sem, eqV, plen, loadV, storeV])
    apply Run.seq
    · (refine ⟨0, ?_⟩; conv => lhs; simp (maxSteps := 2000000) -implicitDefEqProofs [-getElem?_pos, List.getElem?_cons_zero, List.getElem?_cons_succ, go_sem, eqV, plen, loadV, storeV])
    apply Run.seq
    · apply Run.seq
      · (refine ⟨0, ?_⟩; conv => lhs; simp (maxSteps := 2000000) -implicitDefEqProofs [-getElem?_pos, List.getElem?_cons_zero, List.getElem?_cons_succ, go_sem, eqV, plen, loadV, storeV, hl])
      · exact Run.cond (d := false) rfl ⟨0, rfl⟩
    -- the loop
    apply Run.seq' (o := blockOut 0 (countsO c l z16 l))
    · apply Run.seq
      · (refine ⟨0, ?_⟩; conv => lhs; simp (maxSteps := 2000000) -implicitDefEqProofs [-getElem?_pos, List.getElem?_cons_zero, List.getElem?_cons_succ, go_sem, eqV, plen, loadV, storeV])
      · apply Run.block'
        refine Run.loop_rule (σ := List Int × List Int × List Int) (fun s => s.1.length = 16 ∧ s.2.1 ++ s.2.2 = l) (fun s => [(2, .ptr 0 0 0 0), (4, .ptr 1 0 0 0), (11, .ro c (.pi .i64 l) 1), (12, .int .i64 l.length), (13, .int .i64 (s.2.1.length : Nat))])
          (fun s => [bx z16, bx s.1]) (fun s => countsO c l s.1 s.2.2) (fun s => s.2.2.length) ?_ (z16, [], l) ⟨rfl, rfl⟩
        rintro ⟨n, done, todo⟩ ⟨hn, hd⟩
        simp only at hn hd ⊢
        cases todo with
        | nil =>
          right
          have hlen : done.length = l.length := by rw [← hd]; simp
          refine ⟨?_, by simp [countsO, countL]⟩
          simp only [countsO, countL, if_true]
          apply Run.seq
          · (refine ⟨0, ?_⟩; conv => lhs; simp (maxSteps := 2000000) -implicitDefEqProofs [-getElem?_pos, List.getElem?_cons_zero, List.getElem?_cons_succ, go_sem, eqV, plen, loadV, storeV, hlen])
          · apply Run.seq_out
            · exact Run.cond (d := false) rfl ⟨0, rfl⟩
            · simp
        | cons x todo =>
          have hlt : done.length < l.length := by rw [← hd]; simp
          have hget : l[done.length]? = some x := by rw [← hd]; simp
          by_cases hx : 0 ≤ x ∧ x ≤ 15
          · left
            obtain ⟨v, hv⟩ : ∃ v, n[x.toNat]? = some v := ⟨n[x.toNat]'(by omega), List.getElem?_eq_getElem (by omega)⟩
            refine ⟨(n.set x.toNat (IntKind.i64.wrap (v + 1)), done ++ [x], todo), ⟨by simpa using hn, by simpa using hd⟩, ?_, ?_, by simp⟩
            · have hltI : (done.length : Int) < (l.length : Int) := by omega
              have hx1 : ¬ x < 0 := by omega
              have hx2 : ¬ 15 < x := by omega
              have hx3 : x < 16 := by omega
              have e : IntKind.i64.wrap ((done.length : Int) + 1) = (done.length : Int) + 1 := wrap_i64 (by omega) (by omega)
              apply Run.seq
              · (refine ⟨0, ?_⟩; conv => lhs; simp (maxSteps := 2000000) -implicitDefEqProofs [-getElem?_pos, List.getElem?_cons_zero, List.getElem?_cons_succ, go_sem, eqV, plen, loadV, storeV, hltI])
              apply Run.seq
              · exact Run.cond (d := true) rfl ⟨0, rfl⟩
              apply Run.seq
              · apply Run.block
                · apply Run.seq
                  · (refine ⟨0, ?_⟩; conv => lhs; simp (maxSteps := 2000000) -implicitDefEqProofs [-getElem?_pos, List.getElem?_cons_zero, List.getElem?_cons_succ, go_sem, eqV, plen, loadV, storeV, hget, hlt])
                  apply Run.seq
                  · apply Run.seq
                    · (refine ⟨0, ?_⟩; conv => lhs; simp (maxSteps := 2000000) -implicitDefEqProofs [-getElem?_pos, List.getElem?_cons_zero, List.getElem?_cons_succ, go_sem, eqV, plen, loadV, storeV, hx1, hx2])
                    · exact Run.cond (d := false) rfl ⟨0, rfl⟩
                  · (refine ⟨0, ?_⟩; conv => lhs; simp (maxSteps := 2000000) -implicitDefEqProofs [-getElem?_pos, List.getElem?_cons_zero, List.getElem?_cons_succ, go_sem, eqV, plen, loadV, storeV, hx.1, hx3, hv, bx, hn])
                · simp
              · (refine ⟨0, ?_⟩; simp (maxSteps := 2000000) -implicitDefEqProofs [-getElem?_pos, List.getElem?_cons_zero, List.getElem?_cons_succ, go_sem, eqV, plen, loadV, storeV, e, bx, List.getD_eq_getElem?_getD, hv])
            · simp [countsO, countL, hx, List.getD_eq_getElem?_getD, hv]
          · right
            refine ⟨?_, by simp [countsO, countL, hx]⟩
            have hltI : (done.length : Int) < (l.length : Int) := by omega
            simp only [countsO, countL, hx, if_false]
            apply Run.seq
            · (refine ⟨0, ?_⟩; conv => lhs; simp (maxSteps := 2000000) -implicitDefEqProofs [-getElem?_pos, List.getElem?_cons_zero, List.getElem?_cons_succ, go_sem, eqV, plen, loadV, storeV, hltI])
            apply Run.seq
            · exact Run.cond (d := true) rfl ⟨0, rfl⟩
            apply Run.seq_out
            · apply Run.block
              · apply Run.seq
                · (refine ⟨0, ?_⟩; conv => lhs; simp (maxSteps := 2000000) -implicitDefEqProofs [-getElem?_pos, List.getElem?_cons_zero, List.getElem?_cons_succ, go_sem, eqV, plen, loadV, storeV, hget, hlt])
                apply Run.seq_out
                · refine Run.seq (fr' := [(2, .ptr 0 0 0 0), (4, .ptr 1 0 0 0), (6, .int .i64 x), (11, .ro c (.pi .i64 l) 1), (12, .int .i64 l.length), (13, .int .i64 done.length), (22, .bool true)]) (H' := [bx z16, bx n]) ⟨0, ?_⟩ ?_
                  · by_cases hx1 : x < 0
                    · simp (maxSteps := 2000000) -implicitDefEqProofs [-getElem?_pos, List.getElem?_cons_zero, List.getElem?_cons_succ, go_sem, eqV, plen, loadV, storeV, hx1]
                    · have hx2 : 15 < x := by omega
                      simp (maxSteps := 2000000) -implicitDefEqProofs [-getElem?_pos, List.getElem?_cons_zero, List.getElem?_cons_succ, go_sem, eqV, plen, loadV, storeV, hx1, hx2]
                  · refine Run.cond (d := true) rfl ?_
                    apply Run.seq
                    · (refine ⟨0, ?_⟩; conv => lhs; simp (maxSteps := 2000000) -implicitDefEqProofs [-getElem?_pos, List.getElem?_cons_zero, List.getElem?_cons_succ, go_sem, eqV, plen, loadV, storeV, bx, z16, hn])
                    · exact ⟨0, rfl⟩
                · simp
              · simp
            · simp
    · intro fr' H' h
      unfold countsO at h
      split at h
      · rename_i he
        simp only [blockOut, if_true, Out.mk.injEq, true_and] at h
        obtain ⟨rfl, rfl⟩ := h
        rw [he]
        have hn := countL_len l z16
        generalize (countL z16 l).1 = n at hn ⊢
        have hn' : n.length = 16 := hn
        apply Run.seq
        · (refine ⟨0, ?_⟩; conv => lhs; simp (maxSteps := 2000000) -implicitDefEqProofs [-getElem?_pos, List.getElem?_cons_zero, List.getElem?_cons_succ, go_sem, eqV, plen, loadV, storeV, bx, z16, hn'])
        · exact ⟨0, rfl⟩
      · simp [blockOut] at h
    · intro h
      unfold countsO at h ⊢
      split at h
      · simp [blockOut] at h
      · rename_i he
        rw [if_neg he]
        rfl
end Go.Proofs.Ytdjjekeaeoajpaa

/- Walks: Check, firsts. -/
namespace Go.Proofs.Ytdjjekeaeoajpaa
open Go.AM
set_option linter.unusedSimpArgs false
set_option linter.unusedVariables false

theorem countsR_len (l : List Int) : (countsR l).1.length = 16 := by
  unfold countsR
  split
  · rfl
  · rw [countL_len]; rfl

def cnt (l : List Int) : AV := .tup [.agg (.pi .i64 (countsR l).1), .int .i64 (countsR l).2]

theorem counts_ev (c : Nat) (l : List Int) (h63 : l.length < 9223372036854775808) : Ev1 X 25 [.ro c (.pi .i64 l) 1] [] (cnt l, []) := by
  obtain ⟨code, hb, hr⟩ := counts_code (fun _ _ _ => .none) c l h63
  have hn := countsR_len l
  exact Ev1.plain (l := [.agg (.pi .i64 (countsR l).1), .int .i64 (countsR l).2]) Below.none Try.func25 hb rfl rfl (by simp [gtag]) hr (.inr rfl) (by
    have : Try.f25.results.toList = [.cell 2 56, .tmp 3] := rfl
    rw [this]
    simp [-getElem?_pos, List.getElem?_cons_zero, resultsV, loadV, getF, live, bx, pagg, hn, retagP]) rfl rfl

def S1 (f : Nat) (xs : List AV) : Option (AV × AM.Heap) :=
  match f, xs with
  | 25, [.ro _ (.pi .i64 l) 1] => if l.length < 9223372036854775808 then some (cnt l, []) else .none
  | _, _ => .none

theorem S1_ok : ∀ f xs v N, S1 f xs = some (v, N) → Ev1 X f xs [] (v, N) := by
  intro f xs v N h
  unfold S1 at h
  split at h
  · split at h
    · rename_i hl
      simp only [Option.some.injEq, Prod.mk.injEq] at h
      obtain ⟨rfl, rfl⟩ := h
      exact counts_ev _ _ hl
    · cases h
  · cases h

noncomputable def T1 : Cf := lentT X S1
theorem T1_below : Below X T1 := lentT_below S1_ok

theorem T1_counts {H : AM.Heap} {a : AV} {l : List Int} (h : payOf H a = some (.pi .i64 l)) (hl : l.length < 9223372036854775808) : T1 25 [a] H = some (cnt l, H) := by
  obtain ⟨c, x, hx⟩ := args_pay (C := X) (f := 25) (i := 0) rfl h (args_nil 1)
  unfold T1 lentT
  rw [hx]
  simp [S1, hl, idsL, ids, cnt, cleanV, cleanH, tags, tagsL, shiftV, shiftH, ren, renL]

theorem T1_ro (c t : Nat) (l : List Int) (H : AM.Heap) (hl : l.length < 9223372036854775808) : T1 25 [.ro c (.pi .i64 l) t] H = some (cnt l, H) := T1_counts rfl hl

/-- Check's sum, k lengths from i on -/
def sumL (n : List Int) : Nat → Nat → Int → Int
  | 0, _, s => s
  | k + 1, i, s => sumL n k (i + 1) (IntKind.i64.wrap (s + IntKind.i64.wrap (n.getD i 0 * 2 ^ (min (15 - i) 64))))

def checkR (l : List Int) : Bool × Int :=
  if (countsR l).2 = 0 then
    if 32768 < sumL (countsR l).1 15 1 0 then (false, 7) else (sumL (countsR l).1 15 1 0 == 32768, 0)
  else (false, (countsR l).2)

set_option maxRecDepth 100000 in
theorem check_code (c : Nat) (l : List Int) (h63 : l.length < 9223372036854775808) : ∃ code, Try.f20.body = some code ∧
    Run X T1 20 0 code [(0, .ro c (.pi .i64 l) 1)] [] ⟨.ret, [(2, .bool (checkR l).1), (3, .int .i64 (checkR l).2)], [bx (countsR l).1]⟩ := by
  refine ⟨_, rfl, ?_⟩
  have hT := fun H => T1_ro c 1 l H h63
  have hn := countsR_len l
  unfold checkR
  unfold cnt at hT
  generalize (countsR l).1 = n at hT hn ⊢
  generalize (countsR l).2 = e at hT ⊢
  apply Run.seq
  · (refine ⟨0, ?_⟩; conv => lhs; simp (maxSteps := 2000000) -implicitDefEqProofs [-getElem?_pos, List.getElem?_cons_zero, List.getElem?_cons_succ, go_sem, eqV, plen, loadV, storeV])
  apply Run.seq
  · (refine ⟨0, ?_⟩; conv => lhs; simp (maxSteps := 2000000) -implicitDefEqProofs [-getElem?_pos, List.getElem?_cons_zero, List.getElem?_cons_succ, go_sem, eqV, plen, loadV, storeV, hT, hn])
  by_cases he : e = 0
  · subst he
    simp only [if_true]
    apply Run.seq
    · apply Run.seq
      · (refine ⟨0, ?_⟩; conv => lhs; simp (maxSteps := 2000000) -implicitDefEqProofs [-getElem?_pos, List.getElem?_cons_zero, List.getElem?_cons_succ, go_sem, eqV, plen, loadV, storeV])
      · exact Run.cond (d := false) rfl ⟨0, rfl⟩
    apply Run.seq
    · (refine ⟨0, ?_⟩; conv => lhs; simp (maxSteps := 2000000) -implicitDefEqProofs [-getElem?_pos, List.getElem?_cons_zero, List.getElem?_cons_succ, go_sem, eqV, plen, loadV, storeV])
    apply Run.seq (fr' := [(4, .ptr 0 0 0 0), (5, .int .i64 (sumL n 15 1 0)), (6, .int .i64 16), (16, .bool false)]) (H' := [bx n])
    · apply Run.seq (fr' := [(4, .ptr 0 0 0 0), (5, .int .i64 0), (6, .int .i64 (1 : Nat))]) (H' := [bx n])
      · (refine ⟨0, ?_⟩; simp (maxSteps := 2000000) -implicitDefEqProofs [-getElem?_pos, List.getElem?_cons_zero, List.getElem?_cons_succ, go_sem, eqV, plen, loadV, storeV, bx])
      · apply Run.block_exit
        refine Run.loop_rule (σ := Nat × Nat × Int) (fun s => s.1 + s.2.1 = 16 ∧ 1 ≤ s.2.1) (fun s => [(4, .ptr 0 0 0 0), (5, .int .i64 s.2.2), (6, .int .i64 (s.2.1 : Nat))]) (fun _ => [bx n])
          (fun s => ⟨.exit 0, [(4, .ptr 0 0 0 0), (5, .int .i64 (sumL n s.1 s.2.1 s.2.2)), (6, .int .i64 16), (16, .bool false)], [bx n]⟩) (fun s => s.1) ?_ (15, 1, 0) ⟨rfl, Nat.le_refl 1⟩
        rintro ⟨k, i, s⟩ ⟨hk, hi⟩
        simp only at hk hi ⊢
        cases k with
        | zero =>
          right
          have : i = 16 := by omega
          subst this
          refine ⟨?_, by simp⟩
          apply Run.seq_out
          · (refine ⟨0, ?_⟩; simp (maxSteps := 2000000) -implicitDefEqProofs [-getElem?_pos, List.getElem?_cons_zero, List.getElem?_cons_succ, go_sem, eqV, plen, loadV, storeV, sumL])
          · simp
        | succ k =>
          left
          refine ⟨(k, i + 1, IntKind.i64.wrap (s + IntKind.i64.wrap (n.getD i 0 * 2 ^ (min (15 - i) 64)))), ⟨show k + (i + 1) = 16 by omega, show 1 ≤ i + 1 by omega⟩, ?_, rfl, by simp⟩
          obtain ⟨v, hv⟩ : ∃ v, n[i]? = some v := ⟨n[i]'(by omega), List.getElem?_eq_getElem (by omega)⟩
          have hi15 : (i : Int) ≤ 15 := by omega
          have hi16 : i < 16 := by omega
          have hI16 : (i : Int) < 16 := by omega
          have e1 : IntKind.i64.wrap (15 - (i : Int)) = 15 - (i : Int) := wrap_i64 (by omega) (by omega)
          have e2 : (15 - (i : Int)).toNat = 15 - i := by omega
          have e3 : ¬ (15 - (i : Int) < 0) := by omega
          have e4 : IntKind.i64.wrap ((i : Int) + 1) = (i : Int) + 1 := wrap_i64 (by omega) (by omega)
          apply Run.seq
          · (refine ⟨0, ?_⟩; conv => lhs; simp (maxSteps := 2000000) -implicitDefEqProofs [-getElem?_pos, List.getElem?_cons_zero, List.getElem?_cons_succ, go_sem, eqV, plen, loadV, storeV, hi15])
          apply Run.seq
          · apply Run.block
            · (refine ⟨0, ?_⟩; conv => lhs; simp (maxSteps := 2000000) -implicitDefEqProofs [-getElem?_pos, List.getElem?_cons_zero, List.getElem?_cons_succ, go_sem, eqV, plen, loadV, storeV, bx, hn, hi16, hI16, hv, e1, e2, e3, IntKind.bits])
            · simp
          · (refine ⟨0, ?_⟩; simp (maxSteps := 2000000) -implicitDefEqProofs [-getElem?_pos, List.getElem?_cons_zero, List.getElem?_cons_succ, go_sem, eqV, plen, loadV, storeV, e4, List.getD_eq_getElem?_getD, hv, bx])
    · by_cases hs : 32768 < sumL n 15 1 0
      · simp only [hs, if_true]
        apply Run.seq_out
        · apply Run.seq
          · (refine ⟨0, ?_⟩; conv => lhs; simp (maxSteps := 2000000) -implicitDefEqProofs [-getElem?_pos, List.getElem?_cons_zero, List.getElem?_cons_succ, go_sem, eqV, plen, loadV, storeV, hs])
          · refine Run.cond (d := true) rfl ?_
            apply Run.seq
            · (refine ⟨0, ?_⟩; conv => lhs; simp (maxSteps := 2000000) -implicitDefEqProofs [-getElem?_pos, List.getElem?_cons_zero, List.getElem?_cons_succ, go_sem, eqV, plen, loadV, storeV])
            · exact ⟨0, rfl⟩
        · simp
      · simp only [hs, if_false]
        apply Run.seq
        · apply Run.seq
          · (refine ⟨0, ?_⟩; conv => lhs; simp (maxSteps := 2000000) -implicitDefEqProofs [-getElem?_pos, List.getElem?_cons_zero, List.getElem?_cons_succ, go_sem, eqV, plen, loadV, storeV, hs])
          · exact Run.cond (d := false) rfl ⟨0, rfl⟩
        apply Run.seq
        · (refine ⟨0, ?_⟩; conv => lhs; simp (maxSteps := 2000000) -implicitDefEqProofs [-getElem?_pos, List.getElem?_cons_zero, List.getElem?_cons_succ, go_sem, eqV, plen, loadV, storeV])
        · exact ⟨0, rfl⟩
  · simp only [he, if_false]
    have hb : (e != 0) = true := by simpa using he
    apply Run.seq_out
    · apply Run.seq
      · (refine ⟨0, ?_⟩; conv => lhs; simp (maxSteps := 2000000) -implicitDefEqProofs [-getElem?_pos, List.getElem?_cons_zero, List.getElem?_cons_succ, go_sem, eqV, plen, loadV, storeV, hb])
      · refine Run.cond (d := true) rfl ?_
        apply Run.seq
        · (refine ⟨0, ?_⟩; conv => lhs; simp (maxSteps := 2000000) -implicitDefEqProofs [-getElem?_pos, List.getElem?_cons_zero, List.getElem?_cons_succ, go_sem, eqV, plen, loadV, storeV, bx])
        · exact ⟨0, rfl⟩
    · simp

end Go.Proofs.Ytdjjekeaeoajpaa

/- Walks: firsts. -/
namespace Go.Proofs.Ytdjjekeaeoajpaa
open Go.AM
set_option linter.unusedSimpArgs false
set_option linter.unusedVariables false

def bx17 (n : List Int) : Option AM.Obj := some { p := .pi .i64 n, g := 0, cap := some 17, z := 1, row := false, ids := false, tg := 0 }
def z17 : List Int := [0, 0, 0, 0, 0, 0, 0, 0, 0, 0, 0, 0, 0, 0, 0, 0, 0]

/-- the first codes, k lengths from i on -/
def firstL (n : List Int) : Nat → Nat → List Int → List Int
  | 0, _, f => f
  | k + 1, i, f => firstL n k (i + 1) (f.set (i + 1) (IntKind.i64.wrap (IntKind.i64.wrap (f.getD i 0 + n.getD i 0) * 2)))

def firstsR (n : List Int) : List Int := firstL (n.set 0 0) 15 1 z17

theorem firstL_len (n : List Int) : ∀ (k i : Nat) (f : List Int), (firstL n k i f).length = f.length
  | 0, _, _ => rfl
  | k + 1, i, f => by rw [firstL, firstL_len n k]; simp

set_option maxRecDepth 100000 in
theorem firsts_code (T : Cf) (n0 : List Int) (hn0 : n0.length = 16) : ∃ code, Try.f28.body = some code ∧
    Run X T 28 0 code [(0, .agg (.pi .i64 n0))] [] ⟨.ret, [(2, .ptr 1 0 0 0)], [bx (n0.set 0 0), bx17 (firstsR n0), bx17 (firstsR n0)]⟩ := by
  refine ⟨_, rfl, ?_⟩
  unfold firstsR
  have hn : (n0.set 0 0).length = 16 := by simpa using hn0
  have h0 : 0 < n0.length := by omega
  apply Run.seq
  · (refine ⟨0, ?_⟩; conv => lhs; simp (maxSteps := 2000000) -implicitDefEqProofs [-getElem?_pos, List.getElem?_cons_zero, List.getElem?_cons_succ, go_sem, eqV, plen, loadV, storeV, hn0])
  apply Run.seq
  · (refine ⟨0, ?_⟩; conv => lhs; simp (maxSteps := 2000000) -implicitDefEqProofs [-getElem?_pos, List.getElem?_cons_zero, List.getElem?_cons_succ, go_sem, eqV, plen, loadV, storeV])
  apply Run.seq (fr' := [(1, .ptr 0 0 0 0), (2, .ptr 1 0 0 0), (3, .ptr 2 0 0 0)]) (H' := [bx (n0.set 0 0), bx17 z17, bx17 z17])
  · (refine ⟨0, ?_⟩; simp (maxSteps := 2000000) -implicitDefEqProofs [-getElem?_pos, List.getElem?_cons_zero, List.getElem?_cons_succ, go_sem, eqV, plen, loadV, storeV, h0, bx, bx17, z17, hn0])
  generalize n0.set 0 0 = n at hn ⊢
  have hlen := firstL_len n 15 1 z17
  apply Run.seq (fr' := [(1, .ptr 0 0 0 0), (2, .ptr 1 0 0 0), (3, .ptr 2 0 0 0), (4, .int .i64 16), (7, .bool false)]) (H' := [bx n, bx17 z17, bx17 (firstL n 15 1 z17)])
  · apply Run.seq (fr' := [(1, .ptr 0 0 0 0), (2, .ptr 1 0 0 0), (3, .ptr 2 0 0 0), (4, .int .i64 (1 : Nat))]) (H' := [bx n, bx17 z17, bx17 z17])
    · (refine ⟨0, ?_⟩; simp (maxSteps := 2000000) -implicitDefEqProofs [-getElem?_pos, List.getElem?_cons_zero, List.getElem?_cons_succ, go_sem, eqV, plen, loadV, storeV])
    · apply Run.block_exit
      refine Run.loop_rule (σ := Nat × Nat × List Int) (fun s => s.1 + s.2.1 = 16 ∧ 1 ≤ s.2.1 ∧ s.2.2.length = 17) (fun s => [(1, .ptr 0 0 0 0), (2, .ptr 1 0 0 0), (3, .ptr 2 0 0 0), (4, .int .i64 (s.2.1 : Nat))]) (fun s => [bx n, bx17 z17, bx17 s.2.2])
        (fun s => ⟨.exit 0, [(1, .ptr 0 0 0 0), (2, .ptr 1 0 0 0), (3, .ptr 2 0 0 0), (4, .int .i64 16), (7, .bool false)], [bx n, bx17 z17, bx17 (firstL n s.1 s.2.1 s.2.2)]⟩) (fun s => s.1) ?_ (15, 1, z17) ⟨rfl, Nat.le_refl 1, rfl⟩
      rintro ⟨k, i, f⟩ ⟨hk, hi, hf⟩
      simp only at hk hi hf ⊢
      cases k with
      | zero =>
        right
        have : i = 16 := by omega
        subst this
        refine ⟨?_, by simp⟩
        apply Run.seq_out
        · (refine ⟨0, ?_⟩; simp (maxSteps := 2000000) -implicitDefEqProofs [-getElem?_pos, List.getElem?_cons_zero, List.getElem?_cons_succ, go_sem, eqV, plen, loadV, storeV, firstL])
        · simp
      | succ k =>
        left
        refine ⟨(k, i + 1, f.set (i + 1) (IntKind.i64.wrap (IntKind.i64.wrap (f.getD i 0 + n.getD i 0) * 2))), ⟨show k + (i + 1) = 16 by omega, show 1 ≤ i + 1 by omega, by simpa using hf⟩, ?_, rfl, by simp⟩
        obtain ⟨v, hv⟩ : ∃ v, n[i]? = some v := ⟨n[i]'(by omega), List.getElem?_eq_getElem (by omega)⟩
        obtain ⟨u, hu⟩ : ∃ v, f[i]? = some v := ⟨f[i]'(by omega), List.getElem?_eq_getElem (by omega)⟩
        have hi15 : (i : Int) ≤ 15 := by omega
        have hi16 : i < 16 := by omega
        have hI16 : (i : Int) < 16 := by omega
        have hI17 : (i : Int) < 17 := by omega
        have hJ17 : i + 1 < 17 := by omega
        have hi17 : i < 17 := by omega
        have hiI : (i : Int) + 1 < 17 := by omega
        have hiJ : (0 : Int) ≤ (i : Int) + 1 := by omega
        have e4 : IntKind.i64.wrap ((i : Int) + 1) = (i : Int) + 1 := wrap_i64 (by omega) (by omega)
        have e5 : ((i : Int) + 1).toNat = i + 1 := by omega
        apply Run.seq
        · (refine ⟨0, ?_⟩; conv => lhs; simp (maxSteps := 2000000) -implicitDefEqProofs [-getElem?_pos, List.getElem?_cons_zero, List.getElem?_cons_succ, go_sem, eqV, plen, loadV, storeV, hi15])
        apply Run.seq
        · apply Run.block
          · (refine ⟨0, ?_⟩; conv => lhs; simp (maxSteps := 2000000) -implicitDefEqProofs [-getElem?_pos, List.getElem?_cons_zero, List.getElem?_cons_succ, go_sem, eqV, plen, loadV, storeV, bx, bx17, hn, hf, hi16, hI16, hI17, hJ17, hi17, hiI, hiJ, hv, hu, e4, e5, IntKind.bits])
          · simp
        · (refine ⟨0, ?_⟩; simp (maxSteps := 2000000) -implicitDefEqProofs [-getElem?_pos, List.getElem?_cons_zero, List.getElem?_cons_succ, go_sem, eqV, plen, loadV, storeV, e4, List.getD_eq_getElem?_getD, hv, hu, bx, bx17])
  generalize firstL n 15 1 z17 = F at hlen ⊢
  have hF : F.length = 17 := hlen
  apply Run.seq
  · (refine ⟨0, ?_⟩; conv => lhs; simp (maxSteps := 2000000) -implicitDefEqProofs [-getElem?_pos, List.getElem?_cons_zero, List.getElem?_cons_succ, go_sem, eqV, plen, loadV, storeV, bx, bx17, z17, hF])
  · exact ⟨0, rfl⟩

def ckV (l : List Int) : AV := .tup [.bool (checkR l).1, .int .i64 (checkR l).2]

theorem check_ev (c : Nat) (l : List Int) (h63 : l.length < 9223372036854775808) : Ev1 X 20 [.ro c (.pi .i64 l) 1] [] (ckV l, []) := by
  obtain ⟨code, hb, hr⟩ := check_code c l h63
  exact Ev1.plain (l := [.bool (checkR l).1, .int .i64 (checkR l).2]) T1_below Try.func20 hb rfl rfl (by simp [gtag]) hr (.inr rfl) rfl rfl rfl

theorem firsts_ev (n : List Int) (hn : n.length = 16) : Ev1 X 28 [.agg (.pi .i64 n)] [] (.agg (.pi .i64 (firstsR n)), []) := by
  obtain ⟨code, hb, hr⟩ := firsts_code (fun _ _ _ => .none) n hn
  have hF : (firstsR n).length = 17 := firstL_len _ _ _ _
  exact Ev1.plain (l := [.agg (.pi .i64 (firstsR n))]) Below.none Try.func28 hb rfl rfl (by simp [gtag]) hr (.inr rfl) (by
    have : Try.f28.results.toList = [.cell 2 62] := rfl
    rw [this]
    simp [-getElem?_pos, List.getElem?_cons_zero, List.getElem?_cons_succ, resultsV, loadV, getF, live, bx, bx17, pagg, hF, retagP]) rfl rfl

def S2 (f : Nat) (xs : List AV) : Option (AV × AM.Heap) :=
  match f, xs with
  | 20, [.ro _ (.pi .i64 l) 1] => if l.length < 9223372036854775808 then some (ckV l, []) else .none
  | 28, [.agg (.pi .i64 n)] => if n.length = 16 then some (.agg (.pi .i64 (firstsR n)), []) else .none
  | f, xs => S1 f xs

theorem S2_ok : ∀ f xs v N, S2 f xs = some (v, N) → Ev1 X f xs [] (v, N) := by
  intro f xs v N h
  unfold S2 at h
  split at h
  · split at h
    · rename_i hl
      simp only [Option.some.injEq, Prod.mk.injEq] at h
      obtain ⟨rfl, rfl⟩ := h
      exact check_ev _ _ hl
    · cases h
  · split at h
    · rename_i hl
      simp only [Option.some.injEq, Prod.mk.injEq] at h
      obtain ⟨rfl, rfl⟩ := h
      exact firsts_ev _ hl
    · cases h
  · exact S1_ok _ _ _ _ h

noncomputable def T2 : Cf := lentT X S2
theorem T2_below : Below X T2 := lentT_below S2_ok

theorem T2_counts {H : AM.Heap} {a : AV} {l : List Int} (h : payOf H a = some (.pi .i64 l)) (hl : l.length < 9223372036854775808) : T2 25 [a] H = some (cnt l, H) := by
  obtain ⟨c, x, hx⟩ := args_pay (C := X) (f := 25) (i := 0) rfl h (args_nil 1)
  unfold T2 lentT
  rw [hx]
  simp [S1, S2, hl, idsL, ids, cnt, cleanV, cleanH, tags, tagsL, shiftV, shiftH, ren, renL]

theorem T2_check {H : AM.Heap} {a : AV} {l : List Int} (h : payOf H a = some (.pi .i64 l)) (hl : l.length < 9223372036854775808) : T2 20 [a] H = some (ckV l, H) := by
  obtain ⟨c, x, hx⟩ := args_pay (C := X) (f := 20) (i := 0) rfl h (args_nil 1)
  unfold T2 lentT
  rw [hx]
  simp [S2, hl, idsL, ids, ckV, cleanV, cleanH, tags, tagsL, shiftV, shiftH, ren, renL]

theorem T2_firsts {H : AM.Heap} {n : List Int} (hn : n.length = 16) : T2 28 [.agg (.pi .i64 n)] H = some (.agg (.pi .i64 (firstsR n)), H) := by
  unfold T2 lentT
  rw [args_flat (C := X) (f := 28) (i := 0) rfl rfl (args_nil 1)]
  simp [S2, hn, idsL, ids, cleanV, cleanH, tags, tagsL, shiftV, shiftH, ren, renL]

end Go.Proofs.Ytdjjekeaeoajpaa

/- Walks: Codes. -/
namespace Go.Proofs.Ytdjjekeaeoajpaa
open Go.AM
set_option linter.unusedSimpArgs false
set_option linter.unusedVariables false

/-- a nil slice of ints, a slice of ints with xs much room xs it has elements -/
def nilI : Option AM.Obj := some { p := .pi .i64 [], g := 0, cap := .none, z := 0, row := true, ids := false, tg := 0 }
def rowI (k : Nat) (l : List Int) : Option AM.Obj := some { p := .pi .i64 l, g := 0, cap := some k, z := 1, row := true, ids := false, tg := 0 }

/-- codes by lengths, the next code of each length -/
def codesL : List Int → List Int → List Int
  | _, [] => []
  | next, x :: r => if 0 < x then next.getD x.toNat 0 :: codesL (next.set x.toNat (IntKind.i64.wrap (next.getD x.toNat 0 + 1))) r else -1 :: codesL next r

/-- what is next behind them -/
def codesN : List Int → List Int → List Int
  | next, [] => next
  | next, x :: r => if 0 < x then codesN (next.set x.toNat (IntKind.i64.wrap (next.getD x.toNat 0 + 1))) r else codesN next r

theorem codesL_len : ∀ (next l : List Int), (codesL next l).length = l.length
  | _, [] => rfl
  | next, x :: r => by
    simp only [codesL]
    split <;> simp [codesL_len _ r]

def codesR (l : List Int) : List Int := codesL (firstsR (countsR l).1) l

/-- the frame of Codes' loop -/
def coFr (c : Nat) (l : List Int) (i : Nat) : AM.Frame := [(8, .ptr 2 0 0 0), (9, .sl 3 0 l.length 0), (30, .ro c (.pi .i64 l) 1), (31, .int .i64 l.length), (32, .int .i64 (i : Nat))]

end Go.Proofs.Ytdjjekeaeoajpaa

/- Plain: the document's sum and codes. -/
namespace Go.Proofs.Ytdjjekeaeoajpaa
open Go.AM
set_option linter.unusedSimpArgs false
set_option linter.unusedVariables false

/-- the document's sum -/
def rsumL : List Int → Int → Int × Int
  | [], s => (s, 0)
  | x :: r, s => if 0 ≤ x ∧ x ≤ 15 then rsumL r (if 0 < x then IntKind.i64.wrap (s + IntKind.i64.wrap (2 ^ (min (15 - x).toNat 64))) else s) else (s, 2)

def rcheckR (l : List Int) : Bool × Int :=
  if 320 < (l.length : Int) then (false, 3) else
  if (rsumL l 0).2 = 0 then (if 32768 < (rsumL l 0).1 then (false, 7) else ((rsumL l 0).1 == 32768, 0)) else (false, 2)

/-- the next code, of length n, behind one of length la -/
def rStep (n nx la : Int) : Int := if 0 < la then IntKind.i64.wrap (IntKind.i64.wrap (nx + 1) * 2 ^ (min (IntKind.u64.wrap (IntKind.i64.wrap (n - la))).toNat 64)) else nx

/-- the codes of length n -/
def rIn (n : Int) : List Int → Nat → Int → Int → List Int → Int × Int × List Int
  | [], _, nx, la, o => (nx, la, o)
  | x :: r, i, nx, la, o => if x = n then rIn n r (i + 1) (rStep n nx la) n (o.set i (rStep n nx la)) else rIn n r (i + 1) nx la o

/-- the codes of k lengths from n on -/
def rOut (l : List Int) : Nat → Nat → Int → Int → List Int → Int × Int × List Int
  | 0, _, nx, la, o => (nx, la, o)
  | k + 1, n, nx, la, o => rOut l k (n + 1) (rIn n l 0 nx la o).1 (rIn n l 0 nx la o).2.1 (rIn n l 0 nx la o).2.2

/-- no code where the length is none -/
def rNeg : List Int → Nat → List Int → List Int
  | [], _, o => o
  | x :: r, i, o => rNeg r (i + 1) (if x = 0 then o.set i (-1) else o)

def rcodesR (l : List Int) : List Int := rNeg l 0 (rOut l 15 1 0 0 (List.replicate l.length 0)).2.2

theorem rIn_len (n : Int) : ∀ (l : List Int) (i : Nat) (nx la : Int) (o : List Int), (rIn n l i nx la o).2.2.length = o.length
  | [], _, _, _, _ => rfl
  | x :: r, i, nx, la, o => by
    simp only [rIn]
    split
    · rw [rIn_len n r]; simp
    · rw [rIn_len n r]

theorem rOut_len (l : List Int) : ∀ (k n : Nat) (nx la : Int) (o : List Int), (rOut l k n nx la o).2.2.length = o.length
  | 0, _, _, _, _ => rfl
  | k + 1, n, nx, la, o => by rw [rOut, rOut_len l k, rIn_len]

theorem rNeg_len : ∀ (l : List Int) (i : Nat) (o : List Int), (rNeg l i o).length = o.length
  | [], _, _ => rfl
  | x :: r, i, o => by
    rw [rNeg, rNeg_len r]
    split <;> simp

end Go.Proofs.Ytdjjekeaeoajpaa
