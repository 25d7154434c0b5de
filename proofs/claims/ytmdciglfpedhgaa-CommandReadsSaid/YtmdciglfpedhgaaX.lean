/- The seat's tables for the abstract machine, and what walks ask of the program. No conditions. -/
import Derived.Test.YtmdciglfpedhgaaRows
import Derived.Test.YtmdciglfpedhgaaAm3
namespace Go.Proofs.Ytmdciglfpedhgaa
open Go.AM

def keepT : List (List (List Nat)) := [[], [], [[]], [[1, 2], [1, 2, 14], [4], [1, 2, 22], [4], [1, 2, 5, 6], [1, 2, 5, 6, 31], [4], [1, 2, 5, 33], [1, 2, 7, 8], [1, 46], [4], [1, 9, 10], [1, 9, 53], [4], [1, 11, 12], [4]], [[0, 1], [0, 1, 15], [4], [0, 1, 18], [4], [0, 1, 5], [0, 1, 5, 6, 7], [0, 1, 5, 6, 7, 8, 9], [0, 1, 5, 6, 7, 8, 9, 10, 11], [0, 5, 6, 7, 8, 9, 10, 11, 12, 13], [4]], [[0, 1], [0, 1, 15], [4], [0, 1, 18], [4], [0, 1, 5, 6], [0, 1, 5, 6, 7, 8], [0, 1, 5, 7, 8, 37], [4], [0, 1, 5, 7, 8, 9, 10], [0, 1, 7, 8, 9, 10, 11, 12], [0, 7, 85], [4], [0, 7, 13], [0, 7, 13, 89], [0, 7, 13], [0, 7, 13, 108], [4], [4]], [[], [1, 2], [1, 2, 3, 4], [0]], [[1], [2]], [[0, 3], [0, 3, 6], [0, 3, 6, 11], [4, 5], [3, 7], [3, 7, 21], [3, 7, 21, 22], [3, 7], [3, 7, 21, 28], [3, 7], [3, 7, 21, 35], [3, 7], [3, 7, 21, 46], [3, 7], [3, 7, 21, 57], [3, 7], [3, 7, 21, 64], [3, 7], [3, 7, 71], [3, 7], [4, 5]], [[1], [1, 3], [1, 4], [62], [2], [2]], [[0, 2], [2, 4], [2, 4, 5], [2, 4, 5, 17], [2, 3], [2, 4, 5, 25], [2, 4, 5, 25, 26], [2, 4, 5], [2, 4, 5, 25, 32], [2, 4, 5], [2, 4, 5, 25, 38], [2, 4, 5], [2, 4, 5, 57], [2, 4, 5], [2, 4, 5, 70], [2, 4, 5], [2, 4, 5], [2, 4, 5, 25, 77], [2, 4, 5], [2, 4, 5, 25, 90], [2, 4, 5], [2, 4, 5, 25, 96], [2, 4, 5], [2, 4, 5, 25, 102], [2, 4, 5], [2, 4, 5, 112], [2, 4, 5], [2, 4, 5, 129], [2, 4, 5], [2, 4, 5, 137], [2, 3], [2, 3]], [[2, 3], [4]], [[0, 1], [4]], [[0], [2]], [[0, 2], [2, 4], [2, 4, 5], [2, 4, 5, 6], [2, 4, 5, 6, 26], [2, 4, 5, 6], [2, 4, 5, 31], [2, 4, 5, 31, 32], [2, 4, 5], [2, 4, 5, 31, 38], [2, 4, 5, 31, 38], [2, 4, 5], [2, 4, 5, 31, 45], [2, 4, 5], [2, 4, 5], [2, 4, 5, 7], [2, 4, 5], [2, 4, 5], [2, 4, 5, 31, 64], [2, 4, 5], [2, 4, 5], [2, 4, 5, 31, 73], [2, 4, 5], [2, 4, 5, 79], [2, 4, 5], [2, 4, 5, 86], [2, 3], [2, 3]], [[0, 1], [1, 6, 7], [1, 6, 7, 14], [4, 5], [1, 6, 19], [4, 5], [6], [4, 5]], [[0, 1], [1, 6, 7], [1, 6, 7, 14], [4, 5], [1, 6, 19], [4, 5], [6], [4, 5]], [[0, 1], [0, 1, 18], [4], [5], [5, 6], [5, 6, 33], [5, 6], [5, 6, 40], [4], [4]], [[0], [3], [3, 4], [3, 4], [3, 4], [3, 4], [4], [2], [2]], [[0], [0, 4], [2], [2]], [[0], [3], [3, 4], [3, 4], [3, 4], [3, 4], [2], [3, 9], [3, 9], [3, 9], [2], [3, 13], [2], [3, 15], [2], [3, 17], [2], [3, 19], [3, 19], [2], [3, 22], [2], [24], [2], [2]], [[0, 1, 2], [7], [6]], [[1, 2], [1, 2, 3], [1, 2, 3, 9], [1, 2, 3, 9, 10], [2, 3], [1, 2, 3, 9, 15], [2, 3], [1, 2, 3, 9, 20], [2, 3], [1, 2, 3, 9, 31], [2, 3], [1, 2, 3, 9, 42], [2, 3], [1, 2, 3, 9, 47], [2, 3], [1, 2, 3, 9, 52], [2, 3], [1, 2, 3, 60], [2, 3], [2]], [[0, 1], [0, 1, 11], [4], [0, 1, 5, 6], [0, 1, 5, 6, 22], [], [4], [5], [4]], [[0], [0, 3], [3], [2]], [[0], [2]], [[0], [3], [3, 4], [3, 4], [3, 4], [3, 4], [2], [3, 9], [3, 9], [3, 9], [2], [3, 13], [2], [3, 15], [2], [3, 17], [2], [3, 19], [3, 19], [2], [3, 22], [2], [24], [2], [2]], [[0, 1], [5], [4]], [[0], [0, 8], [2], [0, 3], [3], [2]], [[0, 11], []], [[0], [0], [2]], [[0], [3], [2]], [[0, 3], [0, 3, 10], [4, 5], [3, 6], [3, 6, 7], [3, 6, 7, 30], [3, 6, 7], [3, 6, 36], [3, 6, 36, 37], [6], [3, 6, 36, 43], [3, 6, 36, 43], [6], [3, 6, 36, 51], [6], [3, 6, 36, 61], [6], [3, 6, 36, 71], [6], [3, 6, 78], [6], [4, 5]], [[0, 1, 2], [0, 1, 2, 26], [6, 7], [1, 2, 8], [1, 8, 29, 30], [1, 8, 29, 30, 31], [1, 8, 9, 29, 30], [1, 8, 29, 30], [1, 8, 29, 30], [6, 7]], [[0, 1], [0, 1, 13], [4, 5], [0, 1, 17], [4, 5], [0, 1, 6], [0, 6, 18, 19], [0, 6, 18, 19, 20], [0, 6, 7, 18, 19], [0, 6, 18, 19], [0, 6, 18, 19], [4, 5]], [[0, 1], [0, 1, 19], [0, 1], [0, 1, 27], [4], [0, 1, 5], [5], [4]], [[0, 1], [0, 1, 13], [4, 5], [0, 1, 17], [4, 5], [0, 1, 6], [0, 1, 6, 7], [0, 1, 6, 7, 20], [0, 1, 6, 7], [0, 1, 6, 7], [4, 5]], [[1], [1, 3], [1, 3, 53], [2], [91], [2], [2]], [[0, 1, 2], [7], [6]], [[0, 1, 2], [0, 1, 2, 27], [6, 7], [1, 2, 8], [1, 2, 8, 9], [1, 2, 8, 9, 33], [1, 2, 8, 9], [1, 2, 8, 9], [6, 7]], [], [], [], [], [], [], [], [], [], [], [], [], [], [], [], []]


noncomputable def X : AM.Ctx := { P := Try.prog, G := fun _ => .none, rw := fun f i => (f == 17 && i == 0), keep := fun f i => ((keepT[f]?).getD [])[i]?, norm := fun _ _ => false, dr := fun _ _ => true, dy := fun f id => [(8, 4), (8, 11), (8, 13), (8, 19), (10, 4), (10, 30), (14, 26), (22, 8), (22, 10), (22, 16), (32, 3), (32, 14), (32, 16)].contains (f, id) }

theorem own : ownKnob Try.prog.godebug = .none := by kernel_rfl
theorem full : ∀ t e, t < Try.prog.types.size → Try.prog.underlying t = some (.slice e) → 0 < Try.prog.cellsOf e := slices_full_of Try.prog (by kernel_rfl)
theorem ctxOk : AM.CtxOk X := AM.ctxOk_of (by kernel_rfl) (by kernel_rfl)
@[simp] theorem X_dr (f i : Nat) : X.dr f i = true := rfl
@[simp] theorem X_norm (f i : Nat) : X.norm f i = false := rfl
@[simp] theorem X_rw (f i : Nat) : X.rw f i = (f == 17 && i == 0) := rfl
@[simp] theorem nt3 : ntOf X 3 = 69 := by kernel_rfl
@[simp] theorem bod3 : bodied X 3 = true := by kernel_rfl
@[simp] theorem par3 : paramsOf X 3 = [26, 24] := by kernel_rfl
@[simp] theorem nt4 : ntOf X 4 = 66 := by kernel_rfl
@[simp] theorem bod4 : bodied X 4 = true := by kernel_rfl
@[simp] theorem par4 : paramsOf X 4 = [24, 22] := by kernel_rfl
@[simp] theorem nt5 : ntOf X 5 = 109 := by kernel_rfl
@[simp] theorem bod5 : bodied X 5 = true := by kernel_rfl
@[simp] theorem par5 : paramsOf X 5 = [24, 22] := by kernel_rfl
@[simp] theorem nt6 : ntOf X 6 = 42 := by kernel_rfl
@[simp] theorem bod6 : bodied X 6 = true := by kernel_rfl
@[simp] theorem par6 : paramsOf X 6 = [] := by kernel_rfl
@[simp] theorem nt7 : ntOf X 7 = 13 := by kernel_rfl
@[simp] theorem bod7 : bodied X 7 = true := by kernel_rfl
@[simp] theorem par7 : paramsOf X 7 = [26] := by kernel_rfl
@[simp] theorem nt8 : ntOf X 8 = 86 := by kernel_rfl
@[simp] theorem bod8 : bodied X 8 = true := by kernel_rfl
@[simp] theorem par8 : paramsOf X 8 = [24, 26] := by kernel_rfl
@[simp] theorem nt9 : ntOf X 9 = 63 := by kernel_rfl
@[simp] theorem bod9 : bodied X 9 = true := by kernel_rfl
@[simp] theorem par9 : paramsOf X 9 = [26] := by kernel_rfl
@[simp] theorem nt10 : ntOf X 10 = 144 := by kernel_rfl
@[simp] theorem bod10 : bodied X 10 = true := by kernel_rfl
@[simp] theorem par10 : paramsOf X 10 = [24] := by kernel_rfl
@[simp] theorem nt11 : ntOf X 11 = 59 := by kernel_rfl
@[simp] theorem bod11 : bodied X 11 = true := by kernel_rfl
@[simp] theorem par11 : paramsOf X 11 = [26, 26] := by kernel_rfl
@[simp] theorem nt12 : ntOf X 12 = 10 := by kernel_rfl
@[simp] theorem bod12 : bodied X 12 = true := by kernel_rfl
@[simp] theorem par12 : paramsOf X 12 = [24, 24] := by kernel_rfl
@[simp] theorem nt13 : ntOf X 13 = 14 := by kernel_rfl
@[simp] theorem bod13 : bodied X 13 = true := by kernel_rfl
@[simp] theorem par13 : paramsOf X 13 = [24] := by kernel_rfl
@[simp] theorem nt14 : ntOf X 14 = 93 := by kernel_rfl
@[simp] theorem bod14 : bodied X 14 = true := by kernel_rfl
@[simp] theorem par14 : paramsOf X 14 = [24] := by kernel_rfl
@[simp] theorem nt15 : ntOf X 15 = 26 := by kernel_rfl
@[simp] theorem bod15 : bodied X 15 = true := by kernel_rfl
@[simp] theorem par15 : paramsOf X 15 = [24, 22] := by kernel_rfl
@[simp] theorem nt16 : ntOf X 16 = 26 := by kernel_rfl
@[simp] theorem bod16 : bodied X 16 = true := by kernel_rfl
@[simp] theorem par16 : paramsOf X 16 = [24, 22] := by kernel_rfl
@[simp] theorem nt17 : ntOf X 17 = 41 := by kernel_rfl
@[simp] theorem bod17 : bodied X 17 = true := by kernel_rfl
@[simp] theorem par17 : paramsOf X 17 = [24, 24] := by kernel_rfl
@[simp] theorem nt18 : ntOf X 18 = 10 := by kernel_rfl
@[simp] theorem bod18 : bodied X 18 = true := by kernel_rfl
@[simp] theorem par18 : paramsOf X 18 = [5] := by kernel_rfl
@[simp] theorem nt19 : ntOf X 19 = 8 := by kernel_rfl
@[simp] theorem bod19 : bodied X 19 = true := by kernel_rfl
@[simp] theorem par19 : paramsOf X 19 = [24] := by kernel_rfl
@[simp] theorem nt20 : ntOf X 20 = 26 := by kernel_rfl
@[simp] theorem bod20 : bodied X 20 = true := by kernel_rfl
@[simp] theorem par20 : paramsOf X 20 = [5] := by kernel_rfl
@[simp] theorem nt21 : ntOf X 21 = 17 := by kernel_rfl
@[simp] theorem bod21 : bodied X 21 = true := by kernel_rfl
@[simp] theorem par21 : paramsOf X 21 = [24, 44, 3] := by kernel_rfl
@[simp] theorem nt22 : ntOf X 22 = 66 := by kernel_rfl
@[simp] theorem bod22 : bodied X 22 = true := by kernel_rfl
@[simp] theorem par22 : paramsOf X 22 = [26] := by kernel_rfl
@[simp] theorem nt23 : ntOf X 23 = 37 := by kernel_rfl
@[simp] theorem bod23 : bodied X 23 = true := by kernel_rfl
@[simp] theorem par23 : paramsOf X 23 = [46, 3] := by kernel_rfl
@[simp] theorem nt24 : ntOf X 24 = 13 := by kernel_rfl
@[simp] theorem bod24 : bodied X 24 = true := by kernel_rfl
@[simp] theorem par24 : paramsOf X 24 = [46] := by kernel_rfl
@[simp] theorem nt25 : ntOf X 25 = 7 := by kernel_rfl
@[simp] theorem bod25 : bodied X 25 = true := by kernel_rfl
@[simp] theorem par25 : paramsOf X 25 = [51] := by kernel_rfl
@[simp] theorem nt26 : ntOf X 26 = 26 := by kernel_rfl
@[simp] theorem bod26 : bodied X 26 = true := by kernel_rfl
@[simp] theorem par26 : paramsOf X 26 = [5] := by kernel_rfl
@[simp] theorem nt27 : ntOf X 27 = 16 := by kernel_rfl
@[simp] theorem bod27 : bodied X 27 = true := by kernel_rfl
@[simp] theorem par27 : paramsOf X 27 = [51, 3] := by kernel_rfl
@[simp] theorem nt28 : ntOf X 28 = 19 := by kernel_rfl
@[simp] theorem bod28 : bodied X 28 = true := by kernel_rfl
@[simp] theorem par28 : paramsOf X 28 = [51] := by kernel_rfl
@[simp] theorem nt29 : ntOf X 29 = 15 := by kernel_rfl
@[simp] theorem bod29 : bodied X 29 = true := by kernel_rfl
@[simp] theorem par29 : paramsOf X 29 = [51, 4] := by kernel_rfl
@[simp] theorem nt30 : ntOf X 30 = 15 := by kernel_rfl
@[simp] theorem bod30 : bodied X 30 = true := by kernel_rfl
@[simp] theorem par30 : paramsOf X 30 = [51] := by kernel_rfl
@[simp] theorem nt31 : ntOf X 31 = 20 := by kernel_rfl
@[simp] theorem bod31 : bodied X 31 = true := by kernel_rfl
@[simp] theorem par31 : paramsOf X 31 = [5] := by kernel_rfl
@[simp] theorem nt32 : ntOf X 32 = 85 := by kernel_rfl
@[simp] theorem bod32 : bodied X 32 = true := by kernel_rfl
@[simp] theorem par32 : paramsOf X 32 = [24, 26] := by kernel_rfl
@[simp] theorem nt33 : ntOf X 33 = 43 := by kernel_rfl
@[simp] theorem bod33 : bodied X 33 = true := by kernel_rfl
@[simp] theorem par33 : paramsOf X 33 = [24, 44, 3] := by kernel_rfl
@[simp] theorem nt34 : ntOf X 34 = 34 := by kernel_rfl
@[simp] theorem bod34 : bodied X 34 = true := by kernel_rfl
@[simp] theorem par34 : paramsOf X 34 = [24, 3] := by kernel_rfl
@[simp] theorem nt35 : ntOf X 35 = 48 := by kernel_rfl
@[simp] theorem bod35 : bodied X 35 = true := by kernel_rfl
@[simp] theorem par35 : paramsOf X 35 = [51, 3] := by kernel_rfl
@[simp] theorem nt36 : ntOf X 36 = 35 := by kernel_rfl
@[simp] theorem bod36 : bodied X 36 = true := by kernel_rfl
@[simp] theorem par36 : paramsOf X 36 = [24, 3] := by kernel_rfl
@[simp] theorem nt37 : ntOf X 37 = 92 := by kernel_rfl
@[simp] theorem bod37 : bodied X 37 = true := by kernel_rfl
@[simp] theorem par37 : paramsOf X 37 = [26] := by kernel_rfl
@[simp] theorem nt38 : ntOf X 38 = 17 := by kernel_rfl
@[simp] theorem bod38 : bodied X 38 = true := by kernel_rfl
@[simp] theorem par38 : paramsOf X 38 = [24, 44, 3] := by kernel_rfl
@[simp] theorem nt39 : ntOf X 39 = 46 := by kernel_rfl
@[simp] theorem bod39 : bodied X 39 = true := by kernel_rfl
@[simp] theorem par39 : paramsOf X 39 = [24, 44, 3] := by kernel_rfl
@[simp] theorem keep3_0 : X.keep 3 0 = some [1, 2] := by kernel_rfl
@[simp] theorem keep3_1 : X.keep 3 1 = some [1, 2, 14] := by kernel_rfl
@[simp] theorem keep3_2 : X.keep 3 2 = some [4] := by kernel_rfl
@[simp] theorem keep3_3 : X.keep 3 3 = some [1, 2, 22] := by kernel_rfl
@[simp] theorem keep3_4 : X.keep 3 4 = some [4] := by kernel_rfl
@[simp] theorem keep3_5 : X.keep 3 5 = some [1, 2, 5, 6] := by kernel_rfl
@[simp] theorem keep3_6 : X.keep 3 6 = some [1, 2, 5, 6, 31] := by kernel_rfl
@[simp] theorem keep3_7 : X.keep 3 7 = some [4] := by kernel_rfl
@[simp] theorem keep3_8 : X.keep 3 8 = some [1, 2, 5, 33] := by kernel_rfl
@[simp] theorem keep3_9 : X.keep 3 9 = some [1, 2, 7, 8] := by kernel_rfl
@[simp] theorem keep3_10 : X.keep 3 10 = some [1, 46] := by kernel_rfl
@[simp] theorem keep3_11 : X.keep 3 11 = some [4] := by kernel_rfl
@[simp] theorem keep3_12 : X.keep 3 12 = some [1, 9, 10] := by kernel_rfl
@[simp] theorem keep3_13 : X.keep 3 13 = some [1, 9, 53] := by kernel_rfl
@[simp] theorem keep3_14 : X.keep 3 14 = some [4] := by kernel_rfl
@[simp] theorem keep3_15 : X.keep 3 15 = some [1, 11, 12] := by kernel_rfl
@[simp] theorem keep3_16 : X.keep 3 16 = some [4] := by kernel_rfl
@[simp] theorem keep4_0 : X.keep 4 0 = some [0, 1] := by kernel_rfl
@[simp] theorem keep4_1 : X.keep 4 1 = some [0, 1, 15] := by kernel_rfl
@[simp] theorem keep4_2 : X.keep 4 2 = some [4] := by kernel_rfl
@[simp] theorem keep4_3 : X.keep 4 3 = some [0, 1, 18] := by kernel_rfl
@[simp] theorem keep4_4 : X.keep 4 4 = some [4] := by kernel_rfl
@[simp] theorem keep4_5 : X.keep 4 5 = some [0, 1, 5] := by kernel_rfl
@[simp] theorem keep4_6 : X.keep 4 6 = some [0, 1, 5, 6, 7] := by kernel_rfl
@[simp] theorem keep4_7 : X.keep 4 7 = some [0, 1, 5, 6, 7, 8, 9] := by kernel_rfl
@[simp] theorem keep4_8 : X.keep 4 8 = some [0, 1, 5, 6, 7, 8, 9, 10, 11] := by kernel_rfl
@[simp] theorem keep4_9 : X.keep 4 9 = some [0, 5, 6, 7, 8, 9, 10, 11, 12, 13] := by kernel_rfl
@[simp] theorem keep4_10 : X.keep 4 10 = some [4] := by kernel_rfl
@[simp] theorem keep5_0 : X.keep 5 0 = some [0, 1] := by kernel_rfl
@[simp] theorem keep5_1 : X.keep 5 1 = some [0, 1, 15] := by kernel_rfl
@[simp] theorem keep5_2 : X.keep 5 2 = some [4] := by kernel_rfl
@[simp] theorem keep5_3 : X.keep 5 3 = some [0, 1, 18] := by kernel_rfl
@[simp] theorem keep5_4 : X.keep 5 4 = some [4] := by kernel_rfl
@[simp] theorem keep5_5 : X.keep 5 5 = some [0, 1, 5, 6] := by kernel_rfl
@[simp] theorem keep5_6 : X.keep 5 6 = some [0, 1, 5, 6, 7, 8] := by kernel_rfl
@[simp] theorem keep5_7 : X.keep 5 7 = some [0, 1, 5, 7, 8, 37] := by kernel_rfl
@[simp] theorem keep5_8 : X.keep 5 8 = some [4] := by kernel_rfl
@[simp] theorem keep5_9 : X.keep 5 9 = some [0, 1, 5, 7, 8, 9, 10] := by kernel_rfl
@[simp] theorem keep5_10 : X.keep 5 10 = some [0, 1, 7, 8, 9, 10, 11, 12] := by kernel_rfl
@[simp] theorem keep5_11 : X.keep 5 11 = some [0, 7, 85] := by kernel_rfl
@[simp] theorem keep5_12 : X.keep 5 12 = some [4] := by kernel_rfl
@[simp] theorem keep5_13 : X.keep 5 13 = some [0, 7, 13] := by kernel_rfl
@[simp] theorem keep5_14 : X.keep 5 14 = some [0, 7, 13, 89] := by kernel_rfl
@[simp] theorem keep5_15 : X.keep 5 15 = some [0, 7, 13] := by kernel_rfl
@[simp] theorem keep5_16 : X.keep 5 16 = some [0, 7, 13, 108] := by kernel_rfl
@[simp] theorem keep5_17 : X.keep 5 17 = some [4] := by kernel_rfl
@[simp] theorem keep5_18 : X.keep 5 18 = some [4] := by kernel_rfl
@[simp] theorem keep6_0 : X.keep 6 0 = some [] := by kernel_rfl
@[simp] theorem keep6_1 : X.keep 6 1 = some [1, 2] := by kernel_rfl
@[simp] theorem keep6_2 : X.keep 6 2 = some [1, 2, 3, 4] := by kernel_rfl
@[simp] theorem keep6_3 : X.keep 6 3 = some [0] := by kernel_rfl
@[simp] theorem keep7_0 : X.keep 7 0 = some [1] := by kernel_rfl
@[simp] theorem keep7_1 : X.keep 7 1 = some [2] := by kernel_rfl
@[simp] theorem keep8_0 : X.keep 8 0 = some [0, 3] := by kernel_rfl
@[simp] theorem keep8_1 : X.keep 8 1 = some [0, 3, 6] := by kernel_rfl
@[simp] theorem keep8_2 : X.keep 8 2 = some [0, 3, 6, 11] := by kernel_rfl
@[simp] theorem keep8_3 : X.keep 8 3 = some [4, 5] := by kernel_rfl
@[simp] theorem keep8_4 : X.keep 8 4 = some [3, 7] := by kernel_rfl
@[simp] theorem keep8_5 : X.keep 8 5 = some [3, 7, 21] := by kernel_rfl
@[simp] theorem keep8_6 : X.keep 8 6 = some [3, 7, 21, 22] := by kernel_rfl
@[simp] theorem keep8_7 : X.keep 8 7 = some [3, 7] := by kernel_rfl
@[simp] theorem keep8_8 : X.keep 8 8 = some [3, 7, 21, 28] := by kernel_rfl
@[simp] theorem keep8_9 : X.keep 8 9 = some [3, 7] := by kernel_rfl
@[simp] theorem keep8_10 : X.keep 8 10 = some [3, 7, 21, 35] := by kernel_rfl
@[simp] theorem keep8_11 : X.keep 8 11 = some [3, 7] := by kernel_rfl
@[simp] theorem keep8_12 : X.keep 8 12 = some [3, 7, 21, 46] := by kernel_rfl
@[simp] theorem keep8_13 : X.keep 8 13 = some [3, 7] := by kernel_rfl
@[simp] theorem keep8_14 : X.keep 8 14 = some [3, 7, 21, 57] := by kernel_rfl
@[simp] theorem keep8_15 : X.keep 8 15 = some [3, 7] := by kernel_rfl
@[simp] theorem keep8_16 : X.keep 8 16 = some [3, 7, 21, 64] := by kernel_rfl
@[simp] theorem keep8_17 : X.keep 8 17 = some [3, 7] := by kernel_rfl
@[simp] theorem keep8_18 : X.keep 8 18 = some [3, 7, 71] := by kernel_rfl
@[simp] theorem keep8_19 : X.keep 8 19 = some [3, 7] := by kernel_rfl
@[simp] theorem keep8_20 : X.keep 8 20 = some [4, 5] := by kernel_rfl
@[simp] theorem keep9_0 : X.keep 9 0 = some [1] := by kernel_rfl
@[simp] theorem keep9_1 : X.keep 9 1 = some [1, 3] := by kernel_rfl
@[simp] theorem keep9_2 : X.keep 9 2 = some [1, 4] := by kernel_rfl
@[simp] theorem keep9_3 : X.keep 9 3 = some [62] := by kernel_rfl
@[simp] theorem keep9_4 : X.keep 9 4 = some [2] := by kernel_rfl
@[simp] theorem keep9_5 : X.keep 9 5 = some [2] := by kernel_rfl
@[simp] theorem keep10_0 : X.keep 10 0 = some [0, 2] := by kernel_rfl
@[simp] theorem keep10_1 : X.keep 10 1 = some [2, 4] := by kernel_rfl
@[simp] theorem keep10_2 : X.keep 10 2 = some [2, 4, 5] := by kernel_rfl
@[simp] theorem keep10_3 : X.keep 10 3 = some [2, 4, 5, 17] := by kernel_rfl
@[simp] theorem keep10_4 : X.keep 10 4 = some [2, 3] := by kernel_rfl
@[simp] theorem keep10_5 : X.keep 10 5 = some [2, 4, 5, 25] := by kernel_rfl
@[simp] theorem keep10_6 : X.keep 10 6 = some [2, 4, 5, 25, 26] := by kernel_rfl
@[simp] theorem keep10_7 : X.keep 10 7 = some [2, 4, 5] := by kernel_rfl
@[simp] theorem keep10_8 : X.keep 10 8 = some [2, 4, 5, 25, 32] := by kernel_rfl
@[simp] theorem keep10_9 : X.keep 10 9 = some [2, 4, 5] := by kernel_rfl
@[simp] theorem keep10_10 : X.keep 10 10 = some [2, 4, 5, 25, 38] := by kernel_rfl
@[simp] theorem keep10_11 : X.keep 10 11 = some [2, 4, 5] := by kernel_rfl
@[simp] theorem keep10_12 : X.keep 10 12 = some [2, 4, 5, 57] := by kernel_rfl
@[simp] theorem keep10_13 : X.keep 10 13 = some [2, 4, 5] := by kernel_rfl
@[simp] theorem keep10_14 : X.keep 10 14 = some [2, 4, 5, 70] := by kernel_rfl
@[simp] theorem keep10_15 : X.keep 10 15 = some [2, 4, 5] := by kernel_rfl
@[simp] theorem keep10_16 : X.keep 10 16 = some [2, 4, 5] := by kernel_rfl
@[simp] theorem keep10_17 : X.keep 10 17 = some [2, 4, 5, 25, 77] := by kernel_rfl
@[simp] theorem keep10_18 : X.keep 10 18 = some [2, 4, 5] := by kernel_rfl
@[simp] theorem keep10_19 : X.keep 10 19 = some [2, 4, 5, 25, 90] := by kernel_rfl
@[simp] theorem keep10_20 : X.keep 10 20 = some [2, 4, 5] := by kernel_rfl
@[simp] theorem keep10_21 : X.keep 10 21 = some [2, 4, 5, 25, 96] := by kernel_rfl
@[simp] theorem keep10_22 : X.keep 10 22 = some [2, 4, 5] := by kernel_rfl
@[simp] theorem keep10_23 : X.keep 10 23 = some [2, 4, 5, 25, 102] := by kernel_rfl
@[simp] theorem keep10_24 : X.keep 10 24 = some [2, 4, 5] := by kernel_rfl
@[simp] theorem keep10_25 : X.keep 10 25 = some [2, 4, 5, 112] := by kernel_rfl
@[simp] theorem keep10_26 : X.keep 10 26 = some [2, 4, 5] := by kernel_rfl
@[simp] theorem keep10_27 : X.keep 10 27 = some [2, 4, 5, 129] := by kernel_rfl
@[simp] theorem keep10_28 : X.keep 10 28 = some [2, 4, 5] := by kernel_rfl
@[simp] theorem keep10_29 : X.keep 10 29 = some [2, 4, 5, 137] := by kernel_rfl
@[simp] theorem keep10_30 : X.keep 10 30 = some [2, 3] := by kernel_rfl
@[simp] theorem keep10_31 : X.keep 10 31 = some [2, 3] := by kernel_rfl
@[simp] theorem keep11_0 : X.keep 11 0 = some [2, 3] := by kernel_rfl
@[simp] theorem keep11_1 : X.keep 11 1 = some [4] := by kernel_rfl
@[simp] theorem keep12_0 : X.keep 12 0 = some [0, 1] := by kernel_rfl
@[simp] theorem keep12_1 : X.keep 12 1 = some [4] := by kernel_rfl
@[simp] theorem keep13_0 : X.keep 13 0 = some [0] := by kernel_rfl
@[simp] theorem keep13_1 : X.keep 13 1 = some [2] := by kernel_rfl
@[simp] theorem keep14_0 : X.keep 14 0 = some [0, 2] := by kernel_rfl
@[simp] theorem keep14_1 : X.keep 14 1 = some [2, 4] := by kernel_rfl
@[simp] theorem keep14_2 : X.keep 14 2 = some [2, 4, 5] := by kernel_rfl
@[simp] theorem keep14_3 : X.keep 14 3 = some [2, 4, 5, 6] := by kernel_rfl
@[simp] theorem keep14_4 : X.keep 14 4 = some [2, 4, 5, 6, 26] := by kernel_rfl
@[simp] theorem keep14_5 : X.keep 14 5 = some [2, 4, 5, 6] := by kernel_rfl
@[simp] theorem keep14_6 : X.keep 14 6 = some [2, 4, 5, 31] := by kernel_rfl
@[simp] theorem keep14_7 : X.keep 14 7 = some [2, 4, 5, 31, 32] := by kernel_rfl
@[simp] theorem keep14_8 : X.keep 14 8 = some [2, 4, 5] := by kernel_rfl
@[simp] theorem keep14_9 : X.keep 14 9 = some [2, 4, 5, 31, 38] := by kernel_rfl
@[simp] theorem keep14_10 : X.keep 14 10 = some [2, 4, 5, 31, 38] := by kernel_rfl
@[simp] theorem keep14_11 : X.keep 14 11 = some [2, 4, 5] := by kernel_rfl
@[simp] theorem keep14_12 : X.keep 14 12 = some [2, 4, 5, 31, 45] := by kernel_rfl
@[simp] theorem keep14_13 : X.keep 14 13 = some [2, 4, 5] := by kernel_rfl
@[simp] theorem keep14_14 : X.keep 14 14 = some [2, 4, 5] := by kernel_rfl
@[simp] theorem keep14_15 : X.keep 14 15 = some [2, 4, 5, 7] := by kernel_rfl
@[simp] theorem keep14_16 : X.keep 14 16 = some [2, 4, 5] := by kernel_rfl
@[simp] theorem keep14_17 : X.keep 14 17 = some [2, 4, 5] := by kernel_rfl
@[simp] theorem keep14_18 : X.keep 14 18 = some [2, 4, 5, 31, 64] := by kernel_rfl
@[simp] theorem keep14_19 : X.keep 14 19 = some [2, 4, 5] := by kernel_rfl
@[simp] theorem keep14_20 : X.keep 14 20 = some [2, 4, 5] := by kernel_rfl
@[simp] theorem keep14_21 : X.keep 14 21 = some [2, 4, 5, 31, 73] := by kernel_rfl
@[simp] theorem keep14_22 : X.keep 14 22 = some [2, 4, 5] := by kernel_rfl
@[simp] theorem keep14_23 : X.keep 14 23 = some [2, 4, 5, 79] := by kernel_rfl
@[simp] theorem keep14_24 : X.keep 14 24 = some [2, 4, 5] := by kernel_rfl
@[simp] theorem keep14_25 : X.keep 14 25 = some [2, 4, 5, 86] := by kernel_rfl
@[simp] theorem keep14_26 : X.keep 14 26 = some [2, 3] := by kernel_rfl
@[simp] theorem keep14_27 : X.keep 14 27 = some [2, 3] := by kernel_rfl
@[simp] theorem keep15_0 : X.keep 15 0 = some [0, 1] := by kernel_rfl
@[simp] theorem keep15_1 : X.keep 15 1 = some [1, 6, 7] := by kernel_rfl
@[simp] theorem keep15_2 : X.keep 15 2 = some [1, 6, 7, 14] := by kernel_rfl
@[simp] theorem keep15_3 : X.keep 15 3 = some [4, 5] := by kernel_rfl
@[simp] theorem keep15_4 : X.keep 15 4 = some [1, 6, 19] := by kernel_rfl
@[simp] theorem keep15_5 : X.keep 15 5 = some [4, 5] := by kernel_rfl
@[simp] theorem keep15_6 : X.keep 15 6 = some [6] := by kernel_rfl
@[simp] theorem keep15_7 : X.keep 15 7 = some [4, 5] := by kernel_rfl
@[simp] theorem keep16_0 : X.keep 16 0 = some [0, 1] := by kernel_rfl
@[simp] theorem keep16_1 : X.keep 16 1 = some [1, 6, 7] := by kernel_rfl
@[simp] theorem keep16_2 : X.keep 16 2 = some [1, 6, 7, 14] := by kernel_rfl
@[simp] theorem keep16_3 : X.keep 16 3 = some [4, 5] := by kernel_rfl
@[simp] theorem keep16_4 : X.keep 16 4 = some [1, 6, 19] := by kernel_rfl
@[simp] theorem keep16_5 : X.keep 16 5 = some [4, 5] := by kernel_rfl
@[simp] theorem keep16_6 : X.keep 16 6 = some [6] := by kernel_rfl
@[simp] theorem keep16_7 : X.keep 16 7 = some [4, 5] := by kernel_rfl
@[simp] theorem keep17_0 : X.keep 17 0 = some [0, 1] := by kernel_rfl
@[simp] theorem keep17_1 : X.keep 17 1 = some [0, 1, 18] := by kernel_rfl
@[simp] theorem keep17_2 : X.keep 17 2 = some [4] := by kernel_rfl
@[simp] theorem keep17_3 : X.keep 17 3 = some [5] := by kernel_rfl
@[simp] theorem keep17_4 : X.keep 17 4 = some [5, 6] := by kernel_rfl
@[simp] theorem keep17_5 : X.keep 17 5 = some [5, 6, 33] := by kernel_rfl
@[simp] theorem keep17_6 : X.keep 17 6 = some [5, 6] := by kernel_rfl
@[simp] theorem keep17_7 : X.keep 17 7 = some [5, 6, 40] := by kernel_rfl
@[simp] theorem keep17_8 : X.keep 17 8 = some [4] := by kernel_rfl
@[simp] theorem keep17_9 : X.keep 17 9 = some [4] := by kernel_rfl
@[simp] theorem keep18_0 : X.keep 18 0 = some [0] := by kernel_rfl
@[simp] theorem keep18_1 : X.keep 18 1 = some [3] := by kernel_rfl
@[simp] theorem keep18_2 : X.keep 18 2 = some [3, 4] := by kernel_rfl
@[simp] theorem keep18_3 : X.keep 18 3 = some [3, 4] := by kernel_rfl
@[simp] theorem keep18_4 : X.keep 18 4 = some [3, 4] := by kernel_rfl
@[simp] theorem keep18_5 : X.keep 18 5 = some [3, 4] := by kernel_rfl
@[simp] theorem keep18_6 : X.keep 18 6 = some [4] := by kernel_rfl
@[simp] theorem keep18_7 : X.keep 18 7 = some [2] := by kernel_rfl
@[simp] theorem keep18_8 : X.keep 18 8 = some [2] := by kernel_rfl
@[simp] theorem keep19_0 : X.keep 19 0 = some [0] := by kernel_rfl
@[simp] theorem keep19_1 : X.keep 19 1 = some [0, 4] := by kernel_rfl
@[simp] theorem keep19_2 : X.keep 19 2 = some [2] := by kernel_rfl
@[simp] theorem keep19_3 : X.keep 19 3 = some [2] := by kernel_rfl
@[simp] theorem keep20_0 : X.keep 20 0 = some [0] := by kernel_rfl
@[simp] theorem keep20_1 : X.keep 20 1 = some [3] := by kernel_rfl
@[simp] theorem keep20_2 : X.keep 20 2 = some [3, 4] := by kernel_rfl
@[simp] theorem keep20_3 : X.keep 20 3 = some [3, 4] := by kernel_rfl
@[simp] theorem keep20_4 : X.keep 20 4 = some [3, 4] := by kernel_rfl
@[simp] theorem keep20_5 : X.keep 20 5 = some [3, 4] := by kernel_rfl
@[simp] theorem keep20_6 : X.keep 20 6 = some [2] := by kernel_rfl
@[simp] theorem keep20_7 : X.keep 20 7 = some [3, 9] := by kernel_rfl
@[simp] theorem keep20_8 : X.keep 20 8 = some [3, 9] := by kernel_rfl
@[simp] theorem keep20_9 : X.keep 20 9 = some [3, 9] := by kernel_rfl
@[simp] theorem keep20_10 : X.keep 20 10 = some [2] := by kernel_rfl
@[simp] theorem keep20_11 : X.keep 20 11 = some [3, 13] := by kernel_rfl
@[simp] theorem keep20_12 : X.keep 20 12 = some [2] := by kernel_rfl
@[simp] theorem keep20_13 : X.keep 20 13 = some [3, 15] := by kernel_rfl
@[simp] theorem keep20_14 : X.keep 20 14 = some [2] := by kernel_rfl
@[simp] theorem keep20_15 : X.keep 20 15 = some [3, 17] := by kernel_rfl
@[simp] theorem keep20_16 : X.keep 20 16 = some [2] := by kernel_rfl
@[simp] theorem keep20_17 : X.keep 20 17 = some [3, 19] := by kernel_rfl
@[simp] theorem keep20_18 : X.keep 20 18 = some [3, 19] := by kernel_rfl
@[simp] theorem keep20_19 : X.keep 20 19 = some [2] := by kernel_rfl
@[simp] theorem keep20_20 : X.keep 20 20 = some [3, 22] := by kernel_rfl
@[simp] theorem keep20_21 : X.keep 20 21 = some [2] := by kernel_rfl
@[simp] theorem keep20_22 : X.keep 20 22 = some [24] := by kernel_rfl
@[simp] theorem keep20_23 : X.keep 20 23 = some [2] := by kernel_rfl
@[simp] theorem keep20_24 : X.keep 20 24 = some [2] := by kernel_rfl
@[simp] theorem keep21_0 : X.keep 21 0 = some [0, 1, 2] := by kernel_rfl
@[simp] theorem keep21_1 : X.keep 21 1 = some [7] := by kernel_rfl
@[simp] theorem keep21_2 : X.keep 21 2 = some [6] := by kernel_rfl
@[simp] theorem keep22_0 : X.keep 22 0 = some [1, 2] := by kernel_rfl
@[simp] theorem keep22_1 : X.keep 22 1 = some [1, 2, 3] := by kernel_rfl
@[simp] theorem keep22_2 : X.keep 22 2 = some [1, 2, 3, 9] := by kernel_rfl
@[simp] theorem keep22_3 : X.keep 22 3 = some [1, 2, 3, 9, 10] := by kernel_rfl
@[simp] theorem keep22_4 : X.keep 22 4 = some [2, 3] := by kernel_rfl
@[simp] theorem keep22_5 : X.keep 22 5 = some [1, 2, 3, 9, 15] := by kernel_rfl
@[simp] theorem keep22_6 : X.keep 22 6 = some [2, 3] := by kernel_rfl
@[simp] theorem keep22_7 : X.keep 22 7 = some [1, 2, 3, 9, 20] := by kernel_rfl
@[simp] theorem keep22_8 : X.keep 22 8 = some [2, 3] := by kernel_rfl
@[simp] theorem keep22_9 : X.keep 22 9 = some [1, 2, 3, 9, 31] := by kernel_rfl
@[simp] theorem keep22_10 : X.keep 22 10 = some [2, 3] := by kernel_rfl
@[simp] theorem keep22_11 : X.keep 22 11 = some [1, 2, 3, 9, 42] := by kernel_rfl
@[simp] theorem keep22_12 : X.keep 22 12 = some [2, 3] := by kernel_rfl
@[simp] theorem keep22_13 : X.keep 22 13 = some [1, 2, 3, 9, 47] := by kernel_rfl
@[simp] theorem keep22_14 : X.keep 22 14 = some [2, 3] := by kernel_rfl
@[simp] theorem keep22_15 : X.keep 22 15 = some [1, 2, 3, 9, 52] := by kernel_rfl
@[simp] theorem keep22_16 : X.keep 22 16 = some [2, 3] := by kernel_rfl
@[simp] theorem keep22_17 : X.keep 22 17 = some [1, 2, 3, 60] := by kernel_rfl
@[simp] theorem keep22_18 : X.keep 22 18 = some [2, 3] := by kernel_rfl
@[simp] theorem keep22_19 : X.keep 22 19 = some [2] := by kernel_rfl
@[simp] theorem keep23_0 : X.keep 23 0 = some [0, 1] := by kernel_rfl
@[simp] theorem keep23_1 : X.keep 23 1 = some [0, 1, 11] := by kernel_rfl
@[simp] theorem keep23_2 : X.keep 23 2 = some [4] := by kernel_rfl
@[simp] theorem keep23_3 : X.keep 23 3 = some [0, 1, 5, 6] := by kernel_rfl
@[simp] theorem keep23_4 : X.keep 23 4 = some [0, 1, 5, 6, 22] := by kernel_rfl
@[simp] theorem keep23_5 : X.keep 23 5 = some [] := by kernel_rfl
@[simp] theorem keep23_6 : X.keep 23 6 = some [4] := by kernel_rfl
@[simp] theorem keep23_7 : X.keep 23 7 = some [5] := by kernel_rfl
@[simp] theorem keep23_8 : X.keep 23 8 = some [4] := by kernel_rfl
@[simp] theorem keep24_0 : X.keep 24 0 = some [0] := by kernel_rfl
@[simp] theorem keep24_1 : X.keep 24 1 = some [0, 3] := by kernel_rfl
@[simp] theorem keep24_2 : X.keep 24 2 = some [3] := by kernel_rfl
@[simp] theorem keep24_3 : X.keep 24 3 = some [2] := by kernel_rfl
@[simp] theorem keep25_0 : X.keep 25 0 = some [0] := by kernel_rfl
@[simp] theorem keep25_1 : X.keep 25 1 = some [2] := by kernel_rfl
@[simp] theorem keep26_0 : X.keep 26 0 = some [0] := by kernel_rfl
@[simp] theorem keep26_1 : X.keep 26 1 = some [3] := by kernel_rfl
@[simp] theorem keep26_2 : X.keep 26 2 = some [3, 4] := by kernel_rfl
@[simp] theorem keep26_3 : X.keep 26 3 = some [3, 4] := by kernel_rfl
@[simp] theorem keep26_4 : X.keep 26 4 = some [3, 4] := by kernel_rfl
@[simp] theorem keep26_5 : X.keep 26 5 = some [3, 4] := by kernel_rfl
@[simp] theorem keep26_6 : X.keep 26 6 = some [2] := by kernel_rfl
@[simp] theorem keep26_7 : X.keep 26 7 = some [3, 9] := by kernel_rfl
@[simp] theorem keep26_8 : X.keep 26 8 = some [3, 9] := by kernel_rfl
@[simp] theorem keep26_9 : X.keep 26 9 = some [3, 9] := by kernel_rfl
@[simp] theorem keep26_10 : X.keep 26 10 = some [2] := by kernel_rfl
@[simp] theorem keep26_11 : X.keep 26 11 = some [3, 13] := by kernel_rfl
@[simp] theorem keep26_12 : X.keep 26 12 = some [2] := by kernel_rfl
@[simp] theorem keep26_13 : X.keep 26 13 = some [3, 15] := by kernel_rfl
@[simp] theorem keep26_14 : X.keep 26 14 = some [2] := by kernel_rfl
@[simp] theorem keep26_15 : X.keep 26 15 = some [3, 17] := by kernel_rfl
@[simp] theorem keep26_16 : X.keep 26 16 = some [2] := by kernel_rfl
@[simp] theorem keep26_17 : X.keep 26 17 = some [3, 19] := by kernel_rfl
@[simp] theorem keep26_18 : X.keep 26 18 = some [3, 19] := by kernel_rfl
@[simp] theorem keep26_19 : X.keep 26 19 = some [2] := by kernel_rfl
@[simp] theorem keep26_20 : X.keep 26 20 = some [3, 22] := by kernel_rfl
@[simp] theorem keep26_21 : X.keep 26 21 = some [2] := by kernel_rfl
@[simp] theorem keep26_22 : X.keep 26 22 = some [24] := by kernel_rfl
@[simp] theorem keep26_23 : X.keep 26 23 = some [2] := by kernel_rfl
@[simp] theorem keep26_24 : X.keep 26 24 = some [2] := by kernel_rfl
@[simp] theorem keep27_0 : X.keep 27 0 = some [0, 1] := by kernel_rfl
@[simp] theorem keep27_1 : X.keep 27 1 = some [5] := by kernel_rfl
@[simp] theorem keep27_2 : X.keep 27 2 = some [4] := by kernel_rfl
@[simp] theorem keep28_0 : X.keep 28 0 = some [0] := by kernel_rfl
@[simp] theorem keep28_1 : X.keep 28 1 = some [0, 8] := by kernel_rfl
@[simp] theorem keep28_2 : X.keep 28 2 = some [2] := by kernel_rfl
@[simp] theorem keep28_3 : X.keep 28 3 = some [0, 3] := by kernel_rfl
@[simp] theorem keep28_4 : X.keep 28 4 = some [3] := by kernel_rfl
@[simp] theorem keep28_5 : X.keep 28 5 = some [2] := by kernel_rfl
@[simp] theorem keep29_0 : X.keep 29 0 = some [0, 11] := by kernel_rfl
@[simp] theorem keep29_1 : X.keep 29 1 = some [] := by kernel_rfl
@[simp] theorem keep30_0 : X.keep 30 0 = some [0] := by kernel_rfl
@[simp] theorem keep30_1 : X.keep 30 1 = some [0] := by kernel_rfl
@[simp] theorem keep30_2 : X.keep 30 2 = some [2] := by kernel_rfl
@[simp] theorem keep31_0 : X.keep 31 0 = some [0] := by kernel_rfl
@[simp] theorem keep31_1 : X.keep 31 1 = some [3] := by kernel_rfl
@[simp] theorem keep31_2 : X.keep 31 2 = some [2] := by kernel_rfl
@[simp] theorem keep32_0 : X.keep 32 0 = some [0, 3] := by kernel_rfl
@[simp] theorem keep32_1 : X.keep 32 1 = some [0, 3, 10] := by kernel_rfl
@[simp] theorem keep32_2 : X.keep 32 2 = some [4, 5] := by kernel_rfl
@[simp] theorem keep32_3 : X.keep 32 3 = some [3, 6] := by kernel_rfl
@[simp] theorem keep32_4 : X.keep 32 4 = some [3, 6, 7] := by kernel_rfl
@[simp] theorem keep32_5 : X.keep 32 5 = some [3, 6, 7, 30] := by kernel_rfl
@[simp] theorem keep32_6 : X.keep 32 6 = some [3, 6, 7] := by kernel_rfl
@[simp] theorem keep32_7 : X.keep 32 7 = some [3, 6, 36] := by kernel_rfl
@[simp] theorem keep32_8 : X.keep 32 8 = some [3, 6, 36, 37] := by kernel_rfl
@[simp] theorem keep32_9 : X.keep 32 9 = some [6] := by kernel_rfl
@[simp] theorem keep32_10 : X.keep 32 10 = some [3, 6, 36, 43] := by kernel_rfl
@[simp] theorem keep32_11 : X.keep 32 11 = some [3, 6, 36, 43] := by kernel_rfl
@[simp] theorem keep32_12 : X.keep 32 12 = some [6] := by kernel_rfl
@[simp] theorem keep32_13 : X.keep 32 13 = some [3, 6, 36, 51] := by kernel_rfl
@[simp] theorem keep32_14 : X.keep 32 14 = some [6] := by kernel_rfl
@[simp] theorem keep32_15 : X.keep 32 15 = some [3, 6, 36, 61] := by kernel_rfl
@[simp] theorem keep32_16 : X.keep 32 16 = some [6] := by kernel_rfl
@[simp] theorem keep32_17 : X.keep 32 17 = some [3, 6, 36, 71] := by kernel_rfl
@[simp] theorem keep32_18 : X.keep 32 18 = some [6] := by kernel_rfl
@[simp] theorem keep32_19 : X.keep 32 19 = some [3, 6, 78] := by kernel_rfl
@[simp] theorem keep32_20 : X.keep 32 20 = some [6] := by kernel_rfl
@[simp] theorem keep32_21 : X.keep 32 21 = some [4, 5] := by kernel_rfl
@[simp] theorem keep33_0 : X.keep 33 0 = some [0, 1, 2] := by kernel_rfl
@[simp] theorem keep33_1 : X.keep 33 1 = some [0, 1, 2, 26] := by kernel_rfl
@[simp] theorem keep33_2 : X.keep 33 2 = some [6, 7] := by kernel_rfl
@[simp] theorem keep33_3 : X.keep 33 3 = some [1, 2, 8] := by kernel_rfl
@[simp] theorem keep33_4 : X.keep 33 4 = some [1, 8, 29, 30] := by kernel_rfl
@[simp] theorem keep33_5 : X.keep 33 5 = some [1, 8, 29, 30, 31] := by kernel_rfl
@[simp] theorem keep33_6 : X.keep 33 6 = some [1, 8, 9, 29, 30] := by kernel_rfl
@[simp] theorem keep33_7 : X.keep 33 7 = some [1, 8, 29, 30] := by kernel_rfl
@[simp] theorem keep33_8 : X.keep 33 8 = some [1, 8, 29, 30] := by kernel_rfl
@[simp] theorem keep33_9 : X.keep 33 9 = some [6, 7] := by kernel_rfl
@[simp] theorem keep34_0 : X.keep 34 0 = some [0, 1] := by kernel_rfl
@[simp] theorem keep34_1 : X.keep 34 1 = some [0, 1, 13] := by kernel_rfl
@[simp] theorem keep34_2 : X.keep 34 2 = some [4, 5] := by kernel_rfl
@[simp] theorem keep34_3 : X.keep 34 3 = some [0, 1, 17] := by kernel_rfl
@[simp] theorem keep34_4 : X.keep 34 4 = some [4, 5] := by kernel_rfl
@[simp] theorem keep34_5 : X.keep 34 5 = some [0, 1, 6] := by kernel_rfl
@[simp] theorem keep34_6 : X.keep 34 6 = some [0, 6, 18, 19] := by kernel_rfl
@[simp] theorem keep34_7 : X.keep 34 7 = some [0, 6, 18, 19, 20] := by kernel_rfl
@[simp] theorem keep34_8 : X.keep 34 8 = some [0, 6, 7, 18, 19] := by kernel_rfl
@[simp] theorem keep34_9 : X.keep 34 9 = some [0, 6, 18, 19] := by kernel_rfl
@[simp] theorem keep34_10 : X.keep 34 10 = some [0, 6, 18, 19] := by kernel_rfl
@[simp] theorem keep34_11 : X.keep 34 11 = some [4, 5] := by kernel_rfl
@[simp] theorem keep35_0 : X.keep 35 0 = some [0, 1] := by kernel_rfl
@[simp] theorem keep35_1 : X.keep 35 1 = some [0, 1, 19] := by kernel_rfl
@[simp] theorem keep35_2 : X.keep 35 2 = some [0, 1] := by kernel_rfl
@[simp] theorem keep35_3 : X.keep 35 3 = some [0, 1, 27] := by kernel_rfl
@[simp] theorem keep35_4 : X.keep 35 4 = some [4] := by kernel_rfl
@[simp] theorem keep35_5 : X.keep 35 5 = some [0, 1, 5] := by kernel_rfl
@[simp] theorem keep35_6 : X.keep 35 6 = some [5] := by kernel_rfl
@[simp] theorem keep35_7 : X.keep 35 7 = some [4] := by kernel_rfl
@[simp] theorem keep36_0 : X.keep 36 0 = some [0, 1] := by kernel_rfl
@[simp] theorem keep36_1 : X.keep 36 1 = some [0, 1, 13] := by kernel_rfl
@[simp] theorem keep36_2 : X.keep 36 2 = some [4, 5] := by kernel_rfl
@[simp] theorem keep36_3 : X.keep 36 3 = some [0, 1, 17] := by kernel_rfl
@[simp] theorem keep36_4 : X.keep 36 4 = some [4, 5] := by kernel_rfl
@[simp] theorem keep36_5 : X.keep 36 5 = some [0, 1, 6] := by kernel_rfl
@[simp] theorem keep36_6 : X.keep 36 6 = some [0, 1, 6, 7] := by kernel_rfl
@[simp] theorem keep36_7 : X.keep 36 7 = some [0, 1, 6, 7, 20] := by kernel_rfl
@[simp] theorem keep36_8 : X.keep 36 8 = some [0, 1, 6, 7] := by kernel_rfl
@[simp] theorem keep36_9 : X.keep 36 9 = some [0, 1, 6, 7] := by kernel_rfl
@[simp] theorem keep36_10 : X.keep 36 10 = some [4, 5] := by kernel_rfl
@[simp] theorem keep37_0 : X.keep 37 0 = some [1] := by kernel_rfl
@[simp] theorem keep37_1 : X.keep 37 1 = some [1, 3] := by kernel_rfl
@[simp] theorem keep37_2 : X.keep 37 2 = some [1, 3, 53] := by kernel_rfl
@[simp] theorem keep37_3 : X.keep 37 3 = some [2] := by kernel_rfl
@[simp] theorem keep37_4 : X.keep 37 4 = some [91] := by kernel_rfl
@[simp] theorem keep37_5 : X.keep 37 5 = some [2] := by kernel_rfl
@[simp] theorem keep37_6 : X.keep 37 6 = some [2] := by kernel_rfl
@[simp] theorem keep38_0 : X.keep 38 0 = some [0, 1, 2] := by kernel_rfl
@[simp] theorem keep38_1 : X.keep 38 1 = some [7] := by kernel_rfl
@[simp] theorem keep38_2 : X.keep 38 2 = some [6] := by kernel_rfl
@[simp] theorem keep39_0 : X.keep 39 0 = some [0, 1, 2] := by kernel_rfl
@[simp] theorem keep39_1 : X.keep 39 1 = some [0, 1, 2, 27] := by kernel_rfl
@[simp] theorem keep39_2 : X.keep 39 2 = some [6, 7] := by kernel_rfl
@[simp] theorem keep39_3 : X.keep 39 3 = some [1, 2, 8] := by kernel_rfl
@[simp] theorem keep39_4 : X.keep 39 4 = some [1, 2, 8, 9] := by kernel_rfl
@[simp] theorem keep39_5 : X.keep 39 5 = some [1, 2, 8, 9, 33] := by kernel_rfl
@[simp] theorem keep39_6 : X.keep 39 6 = some [1, 2, 8, 9] := by kernel_rfl
@[simp] theorem keep39_7 : X.keep 39 7 = some [1, 2, 8, 9] := by kernel_rfl
@[simp] theorem keep39_8 : X.keep 39 8 = some [6, 7] := by kernel_rfl
@[simp] theorem dy5_16 : X.dy 5 16 = false := by kernel_rfl
@[simp] theorem dy8_4 : X.dy 8 4 = true := by kernel_rfl
@[simp] theorem dy8_11 : X.dy 8 11 = true := by kernel_rfl
@[simp] theorem dy8_13 : X.dy 8 13 = true := by kernel_rfl
@[simp] theorem dy8_19 : X.dy 8 19 = true := by kernel_rfl
@[simp] theorem dy10_4 : X.dy 10 4 = true := by kernel_rfl
@[simp] theorem dy10_30 : X.dy 10 30 = true := by kernel_rfl
@[simp] theorem dy14_26 : X.dy 14 26 = true := by kernel_rfl
@[simp] theorem dy22_8 : X.dy 22 8 = true := by kernel_rfl
@[simp] theorem dy22_10 : X.dy 22 10 = true := by kernel_rfl
@[simp] theorem dy22_16 : X.dy 22 16 = true := by kernel_rfl
@[simp] theorem dy32_3 : X.dy 32 3 = true := by kernel_rfl
@[simp] theorem dy32_14 : X.dy 32 14 = true := by kernel_rfl
@[simp] theorem dy32_16 : X.dy 32 16 = true := by kernel_rfl
@[simp] theorem size0 : sizeT X 0 = 1 := by kernel_rfl
@[simp] theorem bytes0 : bytesT X 0 = 0 := by kernel_rfl
@[simp] theorem okT0 : okT X 0 = true := by kernel_rfl
@[simp] theorem isAgg0 : isAggT X 0 = false := by kernel_rfl
@[simp] theorem isInt0 : isIntT X 0 = false := by kernel_rfl
@[simp] theorem isArr0 : isArrT X 0 = false := by kernel_rfl
@[simp] theorem isU80 : isU8 X 0 = false := by kernel_rfl
@[simp] theorem zok0 : zeroOk X 0 = true := by kernel_rfl
@[simp] theorem und3 : und X 3 = .int .i64 := by kernel_rfl
@[simp] theorem size3 : sizeT X 3 = 1 := by kernel_rfl
@[simp] theorem bytes3 : bytesT X 3 = 8 := by kernel_rfl
@[simp] theorem okT3 : okT X 3 = true := by kernel_rfl
@[simp] theorem isAgg3 : isAggT X 3 = false := by kernel_rfl
@[simp] theorem isInt3 : isIntT X 3 = true := by kernel_rfl
@[simp] theorem isArr3 : isArrT X 3 = false := by kernel_rfl
@[simp] theorem isU83 : isU8 X 3 = false := by kernel_rfl
@[simp] theorem zok3 : zeroOk X 3 = true := by kernel_rfl
@[simp] theorem zero3 : zeroAV X 3 = .int .i64 0 := by kernel_rfl
@[simp] theorem und4 : und X 4 = .bool := by kernel_rfl
@[simp] theorem size4 : sizeT X 4 = 1 := by kernel_rfl
@[simp] theorem bytes4 : bytesT X 4 = 1 := by kernel_rfl
@[simp] theorem okT4 : okT X 4 = true := by kernel_rfl
@[simp] theorem isAgg4 : isAggT X 4 = false := by kernel_rfl
@[simp] theorem isInt4 : isIntT X 4 = false := by kernel_rfl
@[simp] theorem isArr4 : isArrT X 4 = false := by kernel_rfl
@[simp] theorem isU84 : isU8 X 4 = false := by kernel_rfl
@[simp] theorem zok4 : zeroOk X 4 = true := by kernel_rfl
@[simp] theorem zero4 : zeroAV X 4 = .bool false := by kernel_rfl
@[simp] theorem und5 : und X 5 = .int .u8 := by kernel_rfl
@[simp] theorem size5 : sizeT X 5 = 1 := by kernel_rfl
@[simp] theorem bytes5 : bytesT X 5 = 1 := by kernel_rfl
@[simp] theorem okT5 : okT X 5 = true := by kernel_rfl
@[simp] theorem isAgg5 : isAggT X 5 = false := by kernel_rfl
@[simp] theorem isInt5 : isIntT X 5 = true := by kernel_rfl
@[simp] theorem isArr5 : isArrT X 5 = false := by kernel_rfl
@[simp] theorem isU85 : isU8 X 5 = true := by kernel_rfl
@[simp] theorem zok5 : zeroOk X 5 = true := by kernel_rfl
@[simp] theorem zero5 : zeroAV X 5 = .int .u8 0 := by kernel_rfl
@[simp] theorem und9 : und X 9 = .string := by kernel_rfl
@[simp] theorem size9 : sizeT X 9 = 1 := by kernel_rfl
@[simp] theorem bytes9 : bytesT X 9 = 16 := by kernel_rfl
@[simp] theorem okT9 : okT X 9 = true := by kernel_rfl
@[simp] theorem isAgg9 : isAggT X 9 = false := by kernel_rfl
@[simp] theorem isInt9 : isIntT X 9 = false := by kernel_rfl
@[simp] theorem isArr9 : isArrT X 9 = false := by kernel_rfl
@[simp] theorem isU89 : isU8 X 9 = false := by kernel_rfl
@[simp] theorem zok9 : zeroOk X 9 = true := by kernel_rfl
@[simp] theorem zero9 : zeroAV X 9 = .str [] := by kernel_rfl
@[simp] theorem und22 : und X 22 = .int .u32 := by kernel_rfl
@[simp] theorem size22 : sizeT X 22 = 1 := by kernel_rfl
@[simp] theorem bytes22 : bytesT X 22 = 4 := by kernel_rfl
@[simp] theorem okT22 : okT X 22 = true := by kernel_rfl
@[simp] theorem isAgg22 : isAggT X 22 = false := by kernel_rfl
@[simp] theorem isInt22 : isIntT X 22 = true := by kernel_rfl
@[simp] theorem isArr22 : isArrT X 22 = false := by kernel_rfl
@[simp] theorem isU822 : isU8 X 22 = false := by kernel_rfl
@[simp] theorem zok22 : zeroOk X 22 = true := by kernel_rfl
@[simp] theorem zero22 : zeroAV X 22 = .int .u32 0 := by kernel_rfl
@[simp] theorem und23 : und X 23 = .int .u16 := by kernel_rfl
@[simp] theorem size23 : sizeT X 23 = 1 := by kernel_rfl
@[simp] theorem bytes23 : bytesT X 23 = 2 := by kernel_rfl
@[simp] theorem okT23 : okT X 23 = true := by kernel_rfl
@[simp] theorem isAgg23 : isAggT X 23 = false := by kernel_rfl
@[simp] theorem isInt23 : isIntT X 23 = true := by kernel_rfl
@[simp] theorem isArr23 : isArrT X 23 = false := by kernel_rfl
@[simp] theorem isU823 : isU8 X 23 = false := by kernel_rfl
@[simp] theorem zok23 : zeroOk X 23 = true := by kernel_rfl
@[simp] theorem zero23 : zeroAV X 23 = .int .u16 0 := by kernel_rfl
@[simp] theorem und24 : und X 24 = .slice 5 := by kernel_rfl
@[simp] theorem size24 : sizeT X 24 = 1 := by kernel_rfl
@[simp] theorem bytes24 : bytesT X 24 = 24 := by kernel_rfl
@[simp] theorem okT24 : okT X 24 = true := by kernel_rfl
@[simp] theorem isAgg24 : isAggT X 24 = false := by kernel_rfl
@[simp] theorem isInt24 : isIntT X 24 = false := by kernel_rfl
@[simp] theorem isArr24 : isArrT X 24 = false := by kernel_rfl
@[simp] theorem isU824 : isU8 X 24 = false := by kernel_rfl
@[simp] theorem zok24 : zeroOk X 24 = true := by kernel_rfl
@[simp] theorem zero24 : zeroAV X 24 = .ro 0 .pn 0 := by kernel_rfl
@[simp] theorem size26 : sizeT X 26 = 8 := by kernel_rfl
@[simp] theorem bytes26 : bytesT X 26 = 64 := by kernel_rfl
@[simp] theorem okT26 : okT X 26 = true := by kernel_rfl
@[simp] theorem isAgg26 : isAggT X 26 = true := by kernel_rfl
@[simp] theorem isInt26 : isIntT X 26 = false := by kernel_rfl
@[simp] theorem isArr26 : isArrT X 26 = false := by kernel_rfl
@[simp] theorem isU826 : isU8 X 26 = false := by kernel_rfl
@[simp] theorem zok26 : zeroOk X 26 = true := by kernel_rfl
@[simp] theorem zero26 : zeroAV X 26 = .agg (.pc [.int .u8 0, .str [], .int .u32 0, .int .u16 0, .int .u8 0, .int .u32 0, .int .u16 0, .ro 0 .pn 0]) := by kernel_rfl
@[simp] theorem und29 : und X 29 = .int .i64 := by kernel_rfl
@[simp] theorem size29 : sizeT X 29 = 1 := by kernel_rfl
@[simp] theorem bytes29 : bytesT X 29 = 8 := by kernel_rfl
@[simp] theorem okT29 : okT X 29 = true := by kernel_rfl
@[simp] theorem isAgg29 : isAggT X 29 = false := by kernel_rfl
@[simp] theorem isInt29 : isIntT X 29 = true := by kernel_rfl
@[simp] theorem isArr29 : isArrT X 29 = false := by kernel_rfl
@[simp] theorem isU829 : isU8 X 29 = false := by kernel_rfl
@[simp] theorem zok29 : zeroOk X 29 = true := by kernel_rfl
@[simp] theorem zero29 : zeroAV X 29 = .int .i64 0 := by kernel_rfl
@[simp] theorem size30 : sizeT X 30 = 1 := by kernel_rfl
@[simp] theorem bytes30 : bytesT X 30 = 0 := by kernel_rfl
@[simp] theorem okT30 : okT X 30 = true := by kernel_rfl
@[simp] theorem isAgg30 : isAggT X 30 = false := by kernel_rfl
@[simp] theorem isInt30 : isIntT X 30 = false := by kernel_rfl
@[simp] theorem isArr30 : isArrT X 30 = false := by kernel_rfl
@[simp] theorem isU830 : isU8 X 30 = false := by kernel_rfl
@[simp] theorem zok30 : zeroOk X 30 = true := by kernel_rfl
@[simp] theorem size33 : sizeT X 33 = 1 := by kernel_rfl
@[simp] theorem bytes33 : bytesT X 33 = 0 := by kernel_rfl
@[simp] theorem okT33 : okT X 33 = true := by kernel_rfl
@[simp] theorem isAgg33 : isAggT X 33 = false := by kernel_rfl
@[simp] theorem isInt33 : isIntT X 33 = false := by kernel_rfl
@[simp] theorem isArr33 : isArrT X 33 = false := by kernel_rfl
@[simp] theorem isU833 : isU8 X 33 = false := by kernel_rfl
@[simp] theorem zok33 : zeroOk X 33 = true := by kernel_rfl
@[simp] theorem und44 : und X 44 = .int .u64 := by kernel_rfl
@[simp] theorem size44 : sizeT X 44 = 1 := by kernel_rfl
@[simp] theorem bytes44 : bytesT X 44 = 8 := by kernel_rfl
@[simp] theorem okT44 : okT X 44 = true := by kernel_rfl
@[simp] theorem isAgg44 : isAggT X 44 = false := by kernel_rfl
@[simp] theorem isInt44 : isIntT X 44 = true := by kernel_rfl
@[simp] theorem isArr44 : isArrT X 44 = false := by kernel_rfl
@[simp] theorem isU844 : isU8 X 44 = false := by kernel_rfl
@[simp] theorem zok44 : zeroOk X 44 = true := by kernel_rfl
@[simp] theorem zero44 : zeroAV X 44 = .int .u64 0 := by kernel_rfl
@[simp] theorem und46 : und X 46 = .pointer 48 := by kernel_rfl
@[simp] theorem size46 : sizeT X 46 = 1 := by kernel_rfl
@[simp] theorem bytes46 : bytesT X 46 = 8 := by kernel_rfl
@[simp] theorem okT46 : okT X 46 = true := by kernel_rfl
@[simp] theorem isAgg46 : isAggT X 46 = false := by kernel_rfl
@[simp] theorem isInt46 : isIntT X 46 = false := by kernel_rfl
@[simp] theorem isArr46 : isArrT X 46 = false := by kernel_rfl
@[simp] theorem isU846 : isU8 X 46 = false := by kernel_rfl
@[simp] theorem zok46 : zeroOk X 46 = true := by kernel_rfl
@[simp] theorem zero46 : zeroAV X 46 = .nilptr := by kernel_rfl
@[simp] theorem size48 : sizeT X 48 = 2 := by kernel_rfl
@[simp] theorem bytes48 : bytesT X 48 = 32 := by kernel_rfl
@[simp] theorem okT48 : okT X 48 = true := by kernel_rfl
@[simp] theorem isAgg48 : isAggT X 48 = true := by kernel_rfl
@[simp] theorem isInt48 : isIntT X 48 = false := by kernel_rfl
@[simp] theorem isArr48 : isArrT X 48 = false := by kernel_rfl
@[simp] theorem isU848 : isU8 X 48 = false := by kernel_rfl
@[simp] theorem zok48 : zeroOk X 48 = true := by kernel_rfl
@[simp] theorem zero48 : zeroAV X 48 = .agg (.pc [.ro 0 .pn 0, .int .i64 0]) := by kernel_rfl
@[simp] theorem und51 : und X 51 = .pointer 53 := by kernel_rfl
@[simp] theorem size51 : sizeT X 51 = 1 := by kernel_rfl
@[simp] theorem bytes51 : bytesT X 51 = 8 := by kernel_rfl
@[simp] theorem okT51 : okT X 51 = true := by kernel_rfl
@[simp] theorem isAgg51 : isAggT X 51 = false := by kernel_rfl
@[simp] theorem isInt51 : isIntT X 51 = false := by kernel_rfl
@[simp] theorem isArr51 : isArrT X 51 = false := by kernel_rfl
@[simp] theorem isU851 : isU8 X 51 = false := by kernel_rfl
@[simp] theorem zok51 : zeroOk X 51 = true := by kernel_rfl
@[simp] theorem zero51 : zeroAV X 51 = .nilptr := by kernel_rfl
@[simp] theorem size53 : sizeT X 53 = 2 := by kernel_rfl
@[simp] theorem bytes53 : bytesT X 53 = 32 := by kernel_rfl
@[simp] theorem okT53 : okT X 53 = true := by kernel_rfl
@[simp] theorem isAgg53 : isAggT X 53 = true := by kernel_rfl
@[simp] theorem isInt53 : isIntT X 53 = false := by kernel_rfl
@[simp] theorem isArr53 : isArrT X 53 = false := by kernel_rfl
@[simp] theorem isU853 : isU8 X 53 = false := by kernel_rfl
@[simp] theorem zok53 : zeroOk X 53 = true := by kernel_rfl
@[simp] theorem zero53 : zeroAV X 53 = .agg (.pc [.ro 0 .pn 0, .int .i64 0]) := by kernel_rfl
@[simp] theorem size58 : sizeT X 58 = 1 := by kernel_rfl
@[simp] theorem bytes58 : bytesT X 58 = 0 := by kernel_rfl
@[simp] theorem okT58 : okT X 58 = true := by kernel_rfl
@[simp] theorem isAgg58 : isAggT X 58 = false := by kernel_rfl
@[simp] theorem isInt58 : isIntT X 58 = false := by kernel_rfl
@[simp] theorem isArr58 : isArrT X 58 = false := by kernel_rfl
@[simp] theorem isU858 : isU8 X 58 = false := by kernel_rfl
@[simp] theorem zok58 : zeroOk X 58 = true := by kernel_rfl
@[simp] theorem und61 : und X 61 = .int .u64 := by kernel_rfl
@[simp] theorem size61 : sizeT X 61 = 1 := by kernel_rfl
@[simp] theorem bytes61 : bytesT X 61 = 8 := by kernel_rfl
@[simp] theorem okT61 : okT X 61 = true := by kernel_rfl
@[simp] theorem isAgg61 : isAggT X 61 = false := by kernel_rfl
@[simp] theorem isInt61 : isIntT X 61 = true := by kernel_rfl
@[simp] theorem isArr61 : isArrT X 61 = false := by kernel_rfl
@[simp] theorem isU861 : isU8 X 61 = false := by kernel_rfl
@[simp] theorem zok61 : zeroOk X 61 = true := by kernel_rfl
@[simp] theorem zero61 : zeroAV X 61 = .int .u64 0 := by kernel_rfl
@[simp] theorem fa26_0 (H : AM.Heap) (x : AV) : fieldAddrV X H 26 x 0 = faV H x 0 := fieldAddr_of (ty := 5) (by kernel_rfl) (by kernel_rfl) H x
@[simp] theorem fv26_0 (x : AV) : fieldV X 26 x 0 = fvV X x 0 5 := field_of (by kernel_rfl) x
@[simp] theorem fa26_1 (H : AM.Heap) (x : AV) : fieldAddrV X H 26 x 1 = faV H x 1 := fieldAddr_of (ty := 9) (by kernel_rfl) (by kernel_rfl) H x
@[simp] theorem fv26_1 (x : AV) : fieldV X 26 x 1 = fvV X x 1 9 := field_of (by kernel_rfl) x
@[simp] theorem fa26_2 (H : AM.Heap) (x : AV) : fieldAddrV X H 26 x 2 = faV H x 2 := fieldAddr_of (ty := 22) (by kernel_rfl) (by kernel_rfl) H x
@[simp] theorem fv26_2 (x : AV) : fieldV X 26 x 2 = fvV X x 2 22 := field_of (by kernel_rfl) x
@[simp] theorem fa26_3 (H : AM.Heap) (x : AV) : fieldAddrV X H 26 x 3 = faV H x 3 := fieldAddr_of (ty := 23) (by kernel_rfl) (by kernel_rfl) H x
@[simp] theorem fv26_3 (x : AV) : fieldV X 26 x 3 = fvV X x 3 23 := field_of (by kernel_rfl) x
@[simp] theorem fa26_4 (H : AM.Heap) (x : AV) : fieldAddrV X H 26 x 4 = faV H x 4 := fieldAddr_of (ty := 5) (by kernel_rfl) (by kernel_rfl) H x
@[simp] theorem fv26_4 (x : AV) : fieldV X 26 x 4 = fvV X x 4 5 := field_of (by kernel_rfl) x
@[simp] theorem fa26_5 (H : AM.Heap) (x : AV) : fieldAddrV X H 26 x 5 = faV H x 5 := fieldAddr_of (ty := 22) (by kernel_rfl) (by kernel_rfl) H x
@[simp] theorem fv26_5 (x : AV) : fieldV X 26 x 5 = fvV X x 5 22 := field_of (by kernel_rfl) x
@[simp] theorem fa26_6 (H : AM.Heap) (x : AV) : fieldAddrV X H 26 x 6 = faV H x 6 := fieldAddr_of (ty := 23) (by kernel_rfl) (by kernel_rfl) H x
@[simp] theorem fv26_6 (x : AV) : fieldV X 26 x 6 = fvV X x 6 23 := field_of (by kernel_rfl) x
@[simp] theorem fa26_7 (H : AM.Heap) (x : AV) : fieldAddrV X H 26 x 7 = faV H x 7 := fieldAddr_of (ty := 24) (by kernel_rfl) (by kernel_rfl) H x
@[simp] theorem fv26_7 (x : AV) : fieldV X 26 x 7 = fvV X x 7 24 := field_of (by kernel_rfl) x
@[simp] theorem fa48_0 (H : AM.Heap) (x : AV) : fieldAddrV X H 48 x 0 = faV H x 0 := fieldAddr_of (ty := 24) (by kernel_rfl) (by kernel_rfl) H x
@[simp] theorem fv48_0 (x : AV) : fieldV X 48 x 0 = fvV X x 0 24 := field_of (by kernel_rfl) x
@[simp] theorem fa48_1 (H : AM.Heap) (x : AV) : fieldAddrV X H 48 x 1 = faV H x 1 := fieldAddr_of (ty := 29) (by kernel_rfl) (by kernel_rfl) H x
@[simp] theorem fv48_1 (x : AV) : fieldV X 48 x 1 = fvV X x 1 29 := field_of (by kernel_rfl) x
@[simp] theorem fa53_0 (H : AM.Heap) (x : AV) : fieldAddrV X H 53 x 0 = faV H x 0 := fieldAddr_of (ty := 24) (by kernel_rfl) (by kernel_rfl) H x
@[simp] theorem fv53_0 (x : AV) : fieldV X 53 x 0 = fvV X x 0 24 := field_of (by kernel_rfl) x
@[simp] theorem fa53_1 (H : AM.Heap) (x : AV) : fieldAddrV X H 53 x 1 = faV H x 1 := fieldAddr_of (ty := 29) (by kernel_rfl) (by kernel_rfl) H x
@[simp] theorem fv53_1 (x : AV) : fieldV X 53 x 1 = fvV X x 1 29 := field_of (by kernel_rfl) x

end Go.Proofs.Ytmdciglfpedhgaa
