/- X to F2: texts of this claim, one behind the other; what each shows stands at its head. -/
import Derived.Test.YtconnpileacfeaaRows
import Derived.Test.YtconnpileacfeaaAm4
/- The seat's tables for the abstract machine, and what walks ask of the program. No conditions. -/
namespace Go.Proofs.Ytconnpileacfeaa
open Go.AM

def keepT : List (List (List Nat)) := [[], [], [[]], [[0, 1, 2, 3], [0, 1, 2, 3, 21], [8], [0, 1, 2, 3, 24], [8], [0, 1, 2, 3, 9], [0, 1, 2, 3, 9, 10, 11, 12], [0, 2, 3, 9, 10, 11, 12, 13, 14, 15], [0, 2, 3, 9, 62], [8], [0, 2, 3, 12, 16, 17], [12, 15, 16, 17, 18, 19], [8]], [[], [1, 2, 3], [4], [3, 4, 5], [4, 5, 39], [0], [3, 4, 5, 6], [3, 4, 5, 6, 7, 8], [3, 4, 5, 6, 7, 8, 9, 10], [4, 11], [3, 4, 11], [3, 4, 5, 8, 11], [3, 4, 5, 11, 106], [0], [3, 4, 5, 8, 11], [3, 4, 5, 8, 10, 11], [0]], [[0, 1, 2], [0, 1, 2, 24], [6], [0, 1, 2, 40], [6], [0, 1, 2, 7], [0, 1, 2, 7, 8], [0, 1, 2, 7, 8, 9], [0, 1, 2, 7, 8, 9, 10], [0, 1, 2, 7, 8, 9, 10, 44], [0, 1, 2, 7, 8, 9, 10], [0, 1, 2, 7, 8, 9, 10, 52], [6], [0, 1, 2, 7, 8, 10, 11, 12, 13], [0, 1, 2, 7, 8, 10, 11, 12, 65], [6], [0, 1, 2, 7, 8, 10, 12], [0, 1, 2, 7, 8, 10, 12], [0, 1, 2, 7, 8, 9, 10], [0, 2, 7, 8, 9, 14, 15], [0, 2, 7, 8, 9, 14, 85], [6], [0, 2, 7, 8, 9, 14, 16, 17], [0, 8, 9, 14, 16, 17, 18], [0, 8, 9, 14, 16, 17, 18, 19], [0, 8, 9, 14, 16, 17, 18, 19, 92], [0, 8, 9, 14, 16, 17, 18, 19], [0, 8, 9, 14, 16, 17, 18, 19, 20, 21], [0, 8, 9, 14, 16, 17, 18, 19, 20, 21], [0, 8, 9, 14, 16, 17, 18, 19, 20, 112], [6], [0, 8, 9, 14, 16, 17, 18, 19, 20, 22], [0, 8, 9, 14, 16, 17, 18, 19, 20, 22, 116], [0, 8, 9, 14, 16, 17, 18, 19, 20, 22], [0, 8, 9, 14, 16, 17, 18, 19, 20, 22, 143], [6], [0, 8, 9, 14, 16, 17, 18, 19, 20, 22], [0, 8, 9, 14, 16, 17, 18, 19, 157], [6], [6]], [[0, 1, 2], [0, 1, 2, 14], [6], [1, 2, 7, 8], [1, 2, 7, 22], [6], [1, 2, 7, 26], [6], [1, 2, 7, 9], [1, 2, 7, 9, 42], [1, 2, 7, 9], [1, 2, 7, 9, 10, 11], [1, 2, 7, 9, 10, 11, 12], [1, 2, 7, 9, 10, 11, 12, 57], [1, 2, 7, 9, 10, 11, 12], [1, 2, 7, 9, 10, 11, 12, 67], [6], [1, 2, 7, 9, 91], [6], [6]], [[0, 1], [0, 1, 5], [0, 1, 5, 6], [0, 1, 5, 6, 15], [0, 1, 5, 6], [0, 1, 5, 6, 7, 8], [0, 1, 5, 6, 66], [4], [4]], [[], [1, 2, 3], [1, 2, 3, 4, 5, 6], [0]], [[0], [2]], [[0, 1, 2], [0, 1, 2, 13], [6, 7, 8], [0, 1, 2, 16], [6, 7, 8], [0, 1, 2, 9], [0, 1, 2, 9, 10], [0, 1, 2, 9, 10], [0, 1, 2, 9, 10], [0, 1, 2, 9, 10], [0, 1, 2, 9, 10], [0, 1, 2, 9, 43], [6, 7, 8]], [[0, 1, 2], [0, 1, 2, 17], [6, 7, 8], [0, 1, 2, 20], [6, 7, 8], [0, 1, 2, 9], [0, 1, 2, 9, 10], [0, 1, 2, 9, 10, 11], [0, 1, 2, 9, 10, 11], [0, 1, 2, 9, 10, 11], [0, 1, 2, 9, 10, 11], [0, 1, 2, 9, 10, 11], [0, 1, 2, 9, 10, 54], [6, 7, 8]], [[0, 1], [4]], [[0, 1], [0, 1, 18], [4], [5], [5, 6], [5, 6, 33], [5, 6], [5, 6, 40], [4], [4]], [[0, 1, 2], [0, 1, 9, 10], [0, 1, 9, 10, 22], [6, 7, 8], [0, 1, 9, 26], [0, 1, 9], [0, 1, 10, 11], [0, 1, 10, 11, 12], [0, 1, 10, 11, 12, 39, 40, 41], [0, 1, 10, 11, 12, 39, 40, 41, 42], [0, 1, 10, 11, 12, 14, 39, 40, 41], [0, 1, 10, 11, 12, 39, 40, 41], [0, 1, 10, 11, 12, 39, 40, 41], [10, 11, 12, 66], [10, 11, 12], [6, 7, 8]], [[0, 1, 2], [0, 1, 9, 10], [0, 1, 9, 10, 25], [6, 7, 8], [0, 1, 9, 29], [0, 1, 9], [0, 1, 10, 11], [0, 1, 10, 11, 13], [0, 1, 10, 11, 13, 14], [0, 1, 10, 11, 13, 14, 15], [0, 1, 10, 11, 13, 14, 15, 45], [0, 1, 10, 11, 13, 14, 15], [0, 1, 10, 11, 14, 15, 16], [0, 1, 10, 11, 14, 15, 16, 17], [0, 1, 10, 11, 14, 15, 16, 17], [0, 1, 10, 11, 14, 15, 16, 17], [0, 1, 10, 11, 14, 15, 16, 66], [0, 1, 10, 11, 13, 14, 15], [0, 10, 11, 12], [10, 11, 12, 76], [10, 11, 12], [6, 7, 8]], [[0, 1], [0, 1, 10], [4], [0, 1, 5], [0, 1, 5, 14], [0, 1, 5], [0, 1, 5, 54], [4], [4]], [[0, 1], [0, 1, 16], [4, 5], [4, 5]], [[0, 1], [0, 1, 9], [4, 5], [0, 1, 12], [4, 5], [0], [0, 6], [0, 6, 32], [0, 6, 7, 8], [0, 6, 7, 8, 39], [6, 8], [4, 5], [0, 6, 7, 53], [0, 6, 7, 58], [0, 6, 7], [0, 6, 7], [0, 6, 7], [0, 6, 7], [0, 6, 106], [0, 6], [0, 6], [4, 5]], [[0], [0, 4], [2], [0, 9], [2], [2]], [[0], [0, 4], [2], [2]], [[0, 1], [0, 1, 5], [0, 1, 5, 6], [0, 1, 5, 6, 16], [0, 1, 5, 6], [0, 1, 5, 6, 7], [0, 1, 5, 6, 7], [0, 1, 5, 6], [4]], [[0], [0, 4], [2], [2]], [[0, 1], [0, 1, 5], [4], [0, 1, 8], [4], [0, 1, 14], [4], [], [4]], [[0], [2]], [[0, 1, 2], [0, 1, 2, 26], [6, 7], [1, 2, 8], [1, 8, 29, 30], [1, 8, 29, 30, 31], [1, 8, 9, 29, 30], [1, 8, 29, 30], [1, 8, 29, 30], [6, 7]], [[0, 1], [0, 1, 19], [4, 5], [4, 5]], [[0, 1], [0, 1, 12], [4, 5], [0], [0, 6], [0, 6, 29], [0, 6], [0, 6, 39], [0, 6], [4, 5], [0, 6, 7], [0, 6, 7, 83], [4, 5], [0, 6, 7, 89], [0, 6, 7], [0, 6, 7], [0, 6, 7], [0, 6, 7], [0, 6], [0, 6, 142], [0, 6], [0, 6], [4, 5]], [[0], [2]], [[0], [0, 4], [0, 6], [0, 6, 17], [2, 3], [0, 6, 24], [2, 3], [6, 36], [2, 3], [2, 3]], [[0, 1], [0, 1], [0, 1, 9], [0], [4]], [[0], [0, 4], [2], [2]], [[0], [0, 3], [0, 3, 34], [2], [0, 3, 45], [2], [57], [2], [2]], [[0, 1], [0, 1, 13], [4, 5], [0, 1, 17], [4, 5], [0, 1, 6], [0, 6, 18, 19], [0, 6, 18, 19, 20], [0, 6, 7, 18, 19], [0, 6, 18, 19], [0, 6, 18, 19], [4, 5]], [], [], [], [], [], [], [], [], [], [], [], [], [], [], [], [], []]


noncomputable def X : AM.Ctx := { P := Try.prog, G := fun _ => .none, rw := fun f i => (f == 13 && i == 0), keep := fun f i => ((keepT[f]?).getD [])[i]?, norm := fun _ _ => false, dr := fun _ _ => true, dy := fun f id => [(10, 8), (27, 9)].contains (f, id) }

theorem own : ownKnob Try.prog.godebug = .none := by kernel_rfl
theorem full : ∀ t e, t < Try.prog.types.size → Try.prog.underlying t = some (.slice e) → 0 < Try.prog.cellsOf e := slices_full_of Try.prog (by kernel_rfl)
theorem ctxOk : AM.CtxOk X := AM.ctxOk_of (by kernel_rfl) (by kernel_rfl)
@[simp] theorem X_dr (f i : Nat) : X.dr f i = true := rfl
@[simp] theorem X_norm (f i : Nat) : X.norm f i = false := rfl
@[simp] theorem X_rw (f i : Nat) : X.rw f i = ((f == 13 && i == 0)) := rfl
@[simp] theorem nt3 : ntOf X 3 = 92 := by kernel_rfl
@[simp] theorem bod3 : bodied X 3 = true := by kernel_rfl
@[simp] theorem par3 : paramsOf X 3 = [22, 5, 3, 3] := by kernel_rfl
@[simp] theorem nt4 : ntOf X 4 = 145 := by kernel_rfl
@[simp] theorem bod4 : bodied X 4 = true := by kernel_rfl
@[simp] theorem par4 : paramsOf X 4 = [] := by kernel_rfl
@[simp] theorem nt5 : ntOf X 5 = 173 := by kernel_rfl
@[simp] theorem bod5 : bodied X 5 = true := by kernel_rfl
@[simp] theorem par5 : paramsOf X 5 = [43, 3, 44] := by kernel_rfl
@[simp] theorem nt6 : ntOf X 6 = 92 := by kernel_rfl
@[simp] theorem bod6 : bodied X 6 = true := by kernel_rfl
@[simp] theorem par6 : paramsOf X 6 = [3, 3, 43] := by kernel_rfl
@[simp] theorem nt7 : ntOf X 7 = 68 := by kernel_rfl
@[simp] theorem bod7 : bodied X 7 = true := by kernel_rfl
@[simp] theorem par7 : paramsOf X 7 = [22, 5] := by kernel_rfl
@[simp] theorem nt8 : ntOf X 8 = 47 := by kernel_rfl
@[simp] theorem bod8 : bodied X 8 = true := by kernel_rfl
@[simp] theorem par8 : paramsOf X 8 = [] := by kernel_rfl
@[simp] theorem nt9 : ntOf X 9 = 14 := by kernel_rfl
@[simp] theorem bod9 : bodied X 9 = true := by kernel_rfl
@[simp] theorem par9 : paramsOf X 9 = [22] := by kernel_rfl
@[simp] theorem nt10 : ntOf X 10 = 46 := by kernel_rfl
@[simp] theorem bod10 : bodied X 10 = true := by kernel_rfl
@[simp] theorem par10 : paramsOf X 10 = [22, 5, 3] := by kernel_rfl
@[simp] theorem nt11 : ntOf X 11 = 57 := by kernel_rfl
@[simp] theorem bod11 : bodied X 11 = true := by kernel_rfl
@[simp] theorem par11 : paramsOf X 11 = [22, 5, 3] := by kernel_rfl
@[simp] theorem nt12 : ntOf X 12 = 10 := by kernel_rfl
@[simp] theorem bod12 : bodied X 12 = true := by kernel_rfl
@[simp] theorem par12 : paramsOf X 12 = [22, 22] := by kernel_rfl
@[simp] theorem nt13 : ntOf X 13 = 41 := by kernel_rfl
@[simp] theorem bod13 : bodied X 13 = true := by kernel_rfl
@[simp] theorem par13 : paramsOf X 13 = [22, 22] := by kernel_rfl
@[simp] theorem nt14 : ntOf X 14 = 70 := by kernel_rfl
@[simp] theorem bod14 : bodied X 14 = true := by kernel_rfl
@[simp] theorem par14 : paramsOf X 14 = [22, 3, 3] := by kernel_rfl
@[simp] theorem nt15 : ntOf X 15 = 80 := by kernel_rfl
@[simp] theorem bod15 : bodied X 15 = true := by kernel_rfl
@[simp] theorem par15 : paramsOf X 15 = [22, 3, 3] := by kernel_rfl
@[simp] theorem nt16 : ntOf X 16 = 55 := by kernel_rfl
@[simp] theorem bod16 : bodied X 16 = true := by kernel_rfl
@[simp] theorem par16 : paramsOf X 16 = [29, 29] := by kernel_rfl
@[simp] theorem nt17 : ntOf X 17 = 21 := by kernel_rfl
@[simp] theorem bod17 : bodied X 17 = true := by kernel_rfl
@[simp] theorem par17 : paramsOf X 17 = [3, 3] := by kernel_rfl
@[simp] theorem nt18 : ntOf X 18 = 130 := by kernel_rfl
@[simp] theorem bod18 : bodied X 18 = true := by kernel_rfl
@[simp] theorem par18 : paramsOf X 18 = [34, 22] := by kernel_rfl
@[simp] theorem nt19 : ntOf X 19 = 21 := by kernel_rfl
@[simp] theorem bod19 : bodied X 19 = true := by kernel_rfl
@[simp] theorem par19 : paramsOf X 19 = [34] := by kernel_rfl
@[simp] theorem nt20 : ntOf X 20 = 9 := by kernel_rfl
@[simp] theorem bod20 : bodied X 20 = true := by kernel_rfl
@[simp] theorem par20 : paramsOf X 20 = [34] := by kernel_rfl
@[simp] theorem nt21 : ntOf X 21 = 40 := by kernel_rfl
@[simp] theorem bod21 : bodied X 21 = true := by kernel_rfl
@[simp] theorem par21 : paramsOf X 21 = [22, 44] := by kernel_rfl
@[simp] theorem nt22 : ntOf X 22 = 9 := by kernel_rfl
@[simp] theorem bod22 : bodied X 22 = true := by kernel_rfl
@[simp] theorem par22 : paramsOf X 22 = [34] := by kernel_rfl
@[simp] theorem nt23 : ntOf X 23 = 31 := by kernel_rfl
@[simp] theorem bod23 : bodied X 23 = true := by kernel_rfl
@[simp] theorem par23 : paramsOf X 23 = [34, 5] := by kernel_rfl
@[simp] theorem nt24 : ntOf X 24 = 9 := by kernel_rfl
@[simp] theorem bod24 : bodied X 24 = true := by kernel_rfl
@[simp] theorem par24 : paramsOf X 24 = [3] := by kernel_rfl
@[simp] theorem nt25 : ntOf X 25 = 43 := by kernel_rfl
@[simp] theorem bod25 : bodied X 25 = true := by kernel_rfl
@[simp] theorem par25 : paramsOf X 25 = [22, 57, 3] := by kernel_rfl
@[simp] theorem nt26 : ntOf X 26 = 24 := by kernel_rfl
@[simp] theorem bod26 : bodied X 26 = true := by kernel_rfl
@[simp] theorem par26 : paramsOf X 26 = [3, 3] := by kernel_rfl
@[simp] theorem nt27 : ntOf X 27 = 163 := by kernel_rfl
@[simp] theorem bod27 : bodied X 27 = true := by kernel_rfl
@[simp] theorem par27 : paramsOf X 27 = [59, 22] := by kernel_rfl
@[simp] theorem nt28 : ntOf X 28 = 12 := by kernel_rfl
@[simp] theorem bod28 : bodied X 28 = true := by kernel_rfl
@[simp] theorem par28 : paramsOf X 28 = [34] := by kernel_rfl
@[simp] theorem nt29 : ntOf X 29 = 50 := by kernel_rfl
@[simp] theorem bod29 : bodied X 29 = true := by kernel_rfl
@[simp] theorem par29 : paramsOf X 29 = [34] := by kernel_rfl
@[simp] theorem nt30 : ntOf X 30 = 14 := by kernel_rfl
@[simp] theorem bod30 : bodied X 30 = true := by kernel_rfl
@[simp] theorem par30 : paramsOf X 30 = [3, 3] := by kernel_rfl
@[simp] theorem nt31 : ntOf X 31 = 8 := by kernel_rfl
@[simp] theorem bod31 : bodied X 31 = true := by kernel_rfl
@[simp] theorem par31 : paramsOf X 31 = [22] := by kernel_rfl
@[simp] theorem nt32 : ntOf X 32 = 58 := by kernel_rfl
@[simp] theorem bod32 : bodied X 32 = true := by kernel_rfl
@[simp] theorem par32 : paramsOf X 32 = [59] := by kernel_rfl
@[simp] theorem nt33 : ntOf X 33 = 34 := by kernel_rfl
@[simp] theorem bod33 : bodied X 33 = true := by kernel_rfl
@[simp] theorem par33 : paramsOf X 33 = [22, 3] := by kernel_rfl
@[simp] theorem keep3_0 : X.keep 3 0 = some [0, 1, 2, 3] := by kernel_rfl
@[simp] theorem keep3_1 : X.keep 3 1 = some [0, 1, 2, 3, 21] := by kernel_rfl
@[simp] theorem keep3_2 : X.keep 3 2 = some [8] := by kernel_rfl
@[simp] theorem keep3_3 : X.keep 3 3 = some [0, 1, 2, 3, 24] := by kernel_rfl
@[simp] theorem keep3_4 : X.keep 3 4 = some [8] := by kernel_rfl
@[simp] theorem keep3_5 : X.keep 3 5 = some [0, 1, 2, 3, 9] := by kernel_rfl
@[simp] theorem keep3_6 : X.keep 3 6 = some [0, 1, 2, 3, 9, 10, 11, 12] := by kernel_rfl
@[simp] theorem keep3_7 : X.keep 3 7 = some [0, 2, 3, 9, 10, 11, 12, 13, 14, 15] := by kernel_rfl
@[simp] theorem keep3_8 : X.keep 3 8 = some [0, 2, 3, 9, 62] := by kernel_rfl
@[simp] theorem keep3_9 : X.keep 3 9 = some [8] := by kernel_rfl
@[simp] theorem keep3_10 : X.keep 3 10 = some [0, 2, 3, 12, 16, 17] := by kernel_rfl
@[simp] theorem keep3_11 : X.keep 3 11 = some [12, 15, 16, 17, 18, 19] := by kernel_rfl
@[simp] theorem keep3_12 : X.keep 3 12 = some [8] := by kernel_rfl
@[simp] theorem keep4_0 : X.keep 4 0 = some [] := by kernel_rfl
@[simp] theorem keep4_1 : X.keep 4 1 = some [1, 2, 3] := by kernel_rfl
@[simp] theorem keep4_2 : X.keep 4 2 = some [4] := by kernel_rfl
@[simp] theorem keep4_3 : X.keep 4 3 = some [3, 4, 5] := by kernel_rfl
@[simp] theorem keep4_4 : X.keep 4 4 = some [4, 5, 39] := by kernel_rfl
@[simp] theorem keep4_5 : X.keep 4 5 = some [0] := by kernel_rfl
@[simp] theorem keep4_6 : X.keep 4 6 = some [3, 4, 5, 6] := by kernel_rfl
@[simp] theorem keep4_7 : X.keep 4 7 = some [3, 4, 5, 6, 7, 8] := by kernel_rfl
@[simp] theorem keep4_8 : X.keep 4 8 = some [3, 4, 5, 6, 7, 8, 9, 10] := by kernel_rfl
@[simp] theorem keep4_9 : X.keep 4 9 = some [4, 11] := by kernel_rfl
@[simp] theorem keep4_10 : X.keep 4 10 = some [3, 4, 11] := by kernel_rfl
@[simp] theorem keep4_11 : X.keep 4 11 = some [3, 4, 5, 8, 11] := by kernel_rfl
@[simp] theorem keep4_12 : X.keep 4 12 = some [3, 4, 5, 11, 106] := by kernel_rfl
@[simp] theorem keep4_13 : X.keep 4 13 = some [0] := by kernel_rfl
@[simp] theorem keep4_14 : X.keep 4 14 = some [3, 4, 5, 8, 11] := by kernel_rfl
@[simp] theorem keep4_15 : X.keep 4 15 = some [3, 4, 5, 8, 10, 11] := by kernel_rfl
@[simp] theorem keep4_16 : X.keep 4 16 = some [0] := by kernel_rfl
@[simp] theorem keep5_0 : X.keep 5 0 = some [0, 1, 2] := by kernel_rfl
@[simp] theorem keep5_1 : X.keep 5 1 = some [0, 1, 2, 24] := by kernel_rfl
@[simp] theorem keep5_2 : X.keep 5 2 = some [6] := by kernel_rfl
@[simp] theorem keep5_3 : X.keep 5 3 = some [0, 1, 2, 40] := by kernel_rfl
@[simp] theorem keep5_4 : X.keep 5 4 = some [6] := by kernel_rfl
@[simp] theorem keep5_5 : X.keep 5 5 = some [0, 1, 2, 7] := by kernel_rfl
@[simp] theorem keep5_6 : X.keep 5 6 = some [0, 1, 2, 7, 8] := by kernel_rfl
@[simp] theorem keep5_7 : X.keep 5 7 = some [0, 1, 2, 7, 8, 9] := by kernel_rfl
@[simp] theorem keep5_8 : X.keep 5 8 = some [0, 1, 2, 7, 8, 9, 10] := by kernel_rfl
@[simp] theorem keep5_9 : X.keep 5 9 = some [0, 1, 2, 7, 8, 9, 10, 44] := by kernel_rfl
@[simp] theorem keep5_10 : X.keep 5 10 = some [0, 1, 2, 7, 8, 9, 10] := by kernel_rfl
@[simp] theorem keep5_11 : X.keep 5 11 = some [0, 1, 2, 7, 8, 9, 10, 52] := by kernel_rfl
@[simp] theorem keep5_12 : X.keep 5 12 = some [6] := by kernel_rfl
@[simp] theorem keep5_13 : X.keep 5 13 = some [0, 1, 2, 7, 8, 10, 11, 12, 13] := by kernel_rfl
@[simp] theorem keep5_14 : X.keep 5 14 = some [0, 1, 2, 7, 8, 10, 11, 12, 65] := by kernel_rfl
@[simp] theorem keep5_15 : X.keep 5 15 = some [6] := by kernel_rfl
@[simp] theorem keep5_16 : X.keep 5 16 = some [0, 1, 2, 7, 8, 10, 12] := by kernel_rfl
@[simp] theorem keep5_17 : X.keep 5 17 = some [0, 1, 2, 7, 8, 10, 12] := by kernel_rfl
@[simp] theorem keep5_18 : X.keep 5 18 = some [0, 1, 2, 7, 8, 9, 10] := by kernel_rfl
@[simp] theorem keep5_19 : X.keep 5 19 = some [0, 2, 7, 8, 9, 14, 15] := by kernel_rfl
@[simp] theorem keep5_20 : X.keep 5 20 = some [0, 2, 7, 8, 9, 14, 85] := by kernel_rfl
@[simp] theorem keep5_21 : X.keep 5 21 = some [6] := by kernel_rfl
@[simp] theorem keep5_22 : X.keep 5 22 = some [0, 2, 7, 8, 9, 14, 16, 17] := by kernel_rfl
@[simp] theorem keep5_23 : X.keep 5 23 = some [0, 8, 9, 14, 16, 17, 18] := by kernel_rfl
@[simp] theorem keep5_24 : X.keep 5 24 = some [0, 8, 9, 14, 16, 17, 18, 19] := by kernel_rfl
@[simp] theorem keep5_25 : X.keep 5 25 = some [0, 8, 9, 14, 16, 17, 18, 19, 92] := by kernel_rfl
@[simp] theorem keep5_26 : X.keep 5 26 = some [0, 8, 9, 14, 16, 17, 18, 19] := by kernel_rfl
@[simp] theorem keep5_27 : X.keep 5 27 = some [0, 8, 9, 14, 16, 17, 18, 19, 20, 21] := by kernel_rfl
@[simp] theorem keep5_28 : X.keep 5 28 = some [0, 8, 9, 14, 16, 17, 18, 19, 20, 21] := by kernel_rfl
@[simp] theorem keep5_29 : X.keep 5 29 = some [0, 8, 9, 14, 16, 17, 18, 19, 20, 112] := by kernel_rfl
@[simp] theorem keep5_30 : X.keep 5 30 = some [6] := by kernel_rfl
@[simp] theorem keep5_31 : X.keep 5 31 = some [0, 8, 9, 14, 16, 17, 18, 19, 20, 22] := by kernel_rfl
@[simp] theorem keep5_32 : X.keep 5 32 = some [0, 8, 9, 14, 16, 17, 18, 19, 20, 22, 116] := by kernel_rfl
@[simp] theorem keep5_33 : X.keep 5 33 = some [0, 8, 9, 14, 16, 17, 18, 19, 20, 22] := by kernel_rfl
@[simp] theorem keep5_34 : X.keep 5 34 = some [0, 8, 9, 14, 16, 17, 18, 19, 20, 22, 143] := by kernel_rfl
@[simp] theorem keep5_35 : X.keep 5 35 = some [6] := by kernel_rfl
@[simp] theorem keep5_36 : X.keep 5 36 = some [0, 8, 9, 14, 16, 17, 18, 19, 20, 22] := by kernel_rfl
@[simp] theorem keep5_37 : X.keep 5 37 = some [0, 8, 9, 14, 16, 17, 18, 19, 157] := by kernel_rfl
@[simp] theorem keep5_38 : X.keep 5 38 = some [6] := by kernel_rfl
@[simp] theorem keep5_39 : X.keep 5 39 = some [6] := by kernel_rfl
@[simp] theorem keep6_0 : X.keep 6 0 = some [0, 1, 2] := by kernel_rfl
@[simp] theorem keep6_1 : X.keep 6 1 = some [0, 1, 2, 14] := by kernel_rfl
@[simp] theorem keep6_2 : X.keep 6 2 = some [6] := by kernel_rfl
@[simp] theorem keep6_3 : X.keep 6 3 = some [1, 2, 7, 8] := by kernel_rfl
@[simp] theorem keep6_4 : X.keep 6 4 = some [1, 2, 7, 22] := by kernel_rfl
@[simp] theorem keep6_5 : X.keep 6 5 = some [6] := by kernel_rfl
@[simp] theorem keep6_6 : X.keep 6 6 = some [1, 2, 7, 26] := by kernel_rfl
@[simp] theorem keep6_7 : X.keep 6 7 = some [6] := by kernel_rfl
@[simp] theorem keep6_8 : X.keep 6 8 = some [1, 2, 7, 9] := by kernel_rfl
@[simp] theorem keep6_9 : X.keep 6 9 = some [1, 2, 7, 9, 42] := by kernel_rfl
@[simp] theorem keep6_10 : X.keep 6 10 = some [1, 2, 7, 9] := by kernel_rfl
@[simp] theorem keep6_11 : X.keep 6 11 = some [1, 2, 7, 9, 10, 11] := by kernel_rfl
@[simp] theorem keep6_12 : X.keep 6 12 = some [1, 2, 7, 9, 10, 11, 12] := by kernel_rfl
@[simp] theorem keep6_13 : X.keep 6 13 = some [1, 2, 7, 9, 10, 11, 12, 57] := by kernel_rfl
@[simp] theorem keep6_14 : X.keep 6 14 = some [1, 2, 7, 9, 10, 11, 12] := by kernel_rfl
@[simp] theorem keep6_15 : X.keep 6 15 = some [1, 2, 7, 9, 10, 11, 12, 67] := by kernel_rfl
@[simp] theorem keep6_16 : X.keep 6 16 = some [6] := by kernel_rfl
@[simp] theorem keep6_17 : X.keep 6 17 = some [1, 2, 7, 9, 91] := by kernel_rfl
@[simp] theorem keep6_18 : X.keep 6 18 = some [6] := by kernel_rfl
@[simp] theorem keep6_19 : X.keep 6 19 = some [6] := by kernel_rfl
@[simp] theorem keep7_0 : X.keep 7 0 = some [0, 1] := by kernel_rfl
@[simp] theorem keep7_1 : X.keep 7 1 = some [0, 1, 5] := by kernel_rfl
@[simp] theorem keep7_2 : X.keep 7 2 = some [0, 1, 5, 6] := by kernel_rfl
@[simp] theorem keep7_3 : X.keep 7 3 = some [0, 1, 5, 6, 15] := by kernel_rfl
@[simp] theorem keep7_4 : X.keep 7 4 = some [0, 1, 5, 6] := by kernel_rfl
@[simp] theorem keep7_5 : X.keep 7 5 = some [0, 1, 5, 6, 7, 8] := by kernel_rfl
@[simp] theorem keep7_6 : X.keep 7 6 = some [0, 1, 5, 6, 66] := by kernel_rfl
@[simp] theorem keep7_7 : X.keep 7 7 = some [4] := by kernel_rfl
@[simp] theorem keep7_8 : X.keep 7 8 = some [4] := by kernel_rfl
@[simp] theorem keep8_0 : X.keep 8 0 = some [] := by kernel_rfl
@[simp] theorem keep8_1 : X.keep 8 1 = some [1, 2, 3] := by kernel_rfl
@[simp] theorem keep8_2 : X.keep 8 2 = some [1, 2, 3, 4, 5, 6] := by kernel_rfl
@[simp] theorem keep8_3 : X.keep 8 3 = some [0] := by kernel_rfl
@[simp] theorem keep9_0 : X.keep 9 0 = some [0] := by kernel_rfl
@[simp] theorem keep9_1 : X.keep 9 1 = some [2] := by kernel_rfl
@[simp] theorem keep10_0 : X.keep 10 0 = some [0, 1, 2] := by kernel_rfl
@[simp] theorem keep10_1 : X.keep 10 1 = some [0, 1, 2, 13] := by kernel_rfl
@[simp] theorem keep10_2 : X.keep 10 2 = some [6, 7, 8] := by kernel_rfl
@[simp] theorem keep10_3 : X.keep 10 3 = some [0, 1, 2, 16] := by kernel_rfl
@[simp] theorem keep10_4 : X.keep 10 4 = some [6, 7, 8] := by kernel_rfl
@[simp] theorem keep10_5 : X.keep 10 5 = some [0, 1, 2, 9] := by kernel_rfl
@[simp] theorem keep10_6 : X.keep 10 6 = some [0, 1, 2, 9, 10] := by kernel_rfl
@[simp] theorem keep10_7 : X.keep 10 7 = some [0, 1, 2, 9, 10] := by kernel_rfl
@[simp] theorem keep10_8 : X.keep 10 8 = some [0, 1, 2, 9, 10] := by kernel_rfl
@[simp] theorem keep10_9 : X.keep 10 9 = some [0, 1, 2, 9, 10] := by kernel_rfl
@[simp] theorem keep10_10 : X.keep 10 10 = some [0, 1, 2, 9, 10] := by kernel_rfl
@[simp] theorem keep10_11 : X.keep 10 11 = some [0, 1, 2, 9, 43] := by kernel_rfl
@[simp] theorem keep10_12 : X.keep 10 12 = some [6, 7, 8] := by kernel_rfl
@[simp] theorem keep11_0 : X.keep 11 0 = some [0, 1, 2] := by kernel_rfl
@[simp] theorem keep11_1 : X.keep 11 1 = some [0, 1, 2, 17] := by kernel_rfl
@[simp] theorem keep11_2 : X.keep 11 2 = some [6, 7, 8] := by kernel_rfl
@[simp] theorem keep11_3 : X.keep 11 3 = some [0, 1, 2, 20] := by kernel_rfl
@[simp] theorem keep11_4 : X.keep 11 4 = some [6, 7, 8] := by kernel_rfl
@[simp] theorem keep11_5 : X.keep 11 5 = some [0, 1, 2, 9] := by kernel_rfl
@[simp] theorem keep11_6 : X.keep 11 6 = some [0, 1, 2, 9, 10] := by kernel_rfl
@[simp] theorem keep11_7 : X.keep 11 7 = some [0, 1, 2, 9, 10, 11] := by kernel_rfl
@[simp] theorem keep11_8 : X.keep 11 8 = some [0, 1, 2, 9, 10, 11] := by kernel_rfl
@[simp] theorem keep11_9 : X.keep 11 9 = some [0, 1, 2, 9, 10, 11] := by kernel_rfl
@[simp] theorem keep11_10 : X.keep 11 10 = some [0, 1, 2, 9, 10, 11] := by kernel_rfl
@[simp] theorem keep11_11 : X.keep 11 11 = some [0, 1, 2, 9, 10, 11] := by kernel_rfl
@[simp] theorem keep11_12 : X.keep 11 12 = some [0, 1, 2, 9, 10, 54] := by kernel_rfl
@[simp] theorem keep11_13 : X.keep 11 13 = some [6, 7, 8] := by kernel_rfl
@[simp] theorem keep12_0 : X.keep 12 0 = some [0, 1] := by kernel_rfl
@[simp] theorem keep12_1 : X.keep 12 1 = some [4] := by kernel_rfl
@[simp] theorem keep13_0 : X.keep 13 0 = some [0, 1] := by kernel_rfl
@[simp] theorem keep13_1 : X.keep 13 1 = some [0, 1, 18] := by kernel_rfl
@[simp] theorem keep13_2 : X.keep 13 2 = some [4] := by kernel_rfl
@[simp] theorem keep13_3 : X.keep 13 3 = some [5] := by kernel_rfl
@[simp] theorem keep13_4 : X.keep 13 4 = some [5, 6] := by kernel_rfl
@[simp] theorem keep13_5 : X.keep 13 5 = some [5, 6, 33] := by kernel_rfl
@[simp] theorem keep13_6 : X.keep 13 6 = some [5, 6] := by kernel_rfl
@[simp] theorem keep13_7 : X.keep 13 7 = some [5, 6, 40] := by kernel_rfl
@[simp] theorem keep13_8 : X.keep 13 8 = some [4] := by kernel_rfl
@[simp] theorem keep13_9 : X.keep 13 9 = some [4] := by kernel_rfl
@[simp] theorem keep14_0 : X.keep 14 0 = some [0, 1, 2] := by kernel_rfl
@[simp] theorem keep14_1 : X.keep 14 1 = some [0, 1, 9, 10] := by kernel_rfl
@[simp] theorem keep14_2 : X.keep 14 2 = some [0, 1, 9, 10, 22] := by kernel_rfl
@[simp] theorem keep14_3 : X.keep 14 3 = some [6, 7, 8] := by kernel_rfl
@[simp] theorem keep14_4 : X.keep 14 4 = some [0, 1, 9, 26] := by kernel_rfl
@[simp] theorem keep14_5 : X.keep 14 5 = some [0, 1, 9] := by kernel_rfl
@[simp] theorem keep14_6 : X.keep 14 6 = some [0, 1, 10, 11] := by kernel_rfl
@[simp] theorem keep14_7 : X.keep 14 7 = some [0, 1, 10, 11, 12] := by kernel_rfl
@[simp] theorem keep14_8 : X.keep 14 8 = some [0, 1, 10, 11, 12, 39, 40, 41] := by kernel_rfl
@[simp] theorem keep14_9 : X.keep 14 9 = some [0, 1, 10, 11, 12, 39, 40, 41, 42] := by kernel_rfl
@[simp] theorem keep14_10 : X.keep 14 10 = some [0, 1, 10, 11, 12, 14, 39, 40, 41] := by kernel_rfl
@[simp] theorem keep14_11 : X.keep 14 11 = some [0, 1, 10, 11, 12, 39, 40, 41] := by kernel_rfl
@[simp] theorem keep14_12 : X.keep 14 12 = some [0, 1, 10, 11, 12, 39, 40, 41] := by kernel_rfl
@[simp] theorem keep14_13 : X.keep 14 13 = some [10, 11, 12, 66] := by kernel_rfl
@[simp] theorem keep14_14 : X.keep 14 14 = some [10, 11, 12] := by kernel_rfl
@[simp] theorem keep14_15 : X.keep 14 15 = some [6, 7, 8] := by kernel_rfl
@[simp] theorem keep15_0 : X.keep 15 0 = some [0, 1, 2] := by kernel_rfl
@[simp] theorem keep15_1 : X.keep 15 1 = some [0, 1, 9, 10] := by kernel_rfl
@[simp] theorem keep15_2 : X.keep 15 2 = some [0, 1, 9, 10, 25] := by kernel_rfl
@[simp] theorem keep15_3 : X.keep 15 3 = some [6, 7, 8] := by kernel_rfl
@[simp] theorem keep15_4 : X.keep 15 4 = some [0, 1, 9, 29] := by kernel_rfl
@[simp] theorem keep15_5 : X.keep 15 5 = some [0, 1, 9] := by kernel_rfl
@[simp] theorem keep15_6 : X.keep 15 6 = some [0, 1, 10, 11] := by kernel_rfl
@[simp] theorem keep15_7 : X.keep 15 7 = some [0, 1, 10, 11, 13] := by kernel_rfl
@[simp] theorem keep15_8 : X.keep 15 8 = some [0, 1, 10, 11, 13, 14] := by kernel_rfl
@[simp] theorem keep15_9 : X.keep 15 9 = some [0, 1, 10, 11, 13, 14, 15] := by kernel_rfl
@[simp] theorem keep15_10 : X.keep 15 10 = some [0, 1, 10, 11, 13, 14, 15, 45] := by kernel_rfl
@[simp] theorem keep15_11 : X.keep 15 11 = some [0, 1, 10, 11, 13, 14, 15] := by kernel_rfl
@[simp] theorem keep15_12 : X.keep 15 12 = some [0, 1, 10, 11, 14, 15, 16] := by kernel_rfl
@[simp] theorem keep15_13 : X.keep 15 13 = some [0, 1, 10, 11, 14, 15, 16, 17] := by kernel_rfl
@[simp] theorem keep15_14 : X.keep 15 14 = some [0, 1, 10, 11, 14, 15, 16, 17] := by kernel_rfl
@[simp] theorem keep15_15 : X.keep 15 15 = some [0, 1, 10, 11, 14, 15, 16, 17] := by kernel_rfl
@[simp] theorem keep15_16 : X.keep 15 16 = some [0, 1, 10, 11, 14, 15, 16, 66] := by kernel_rfl
@[simp] theorem keep15_17 : X.keep 15 17 = some [0, 1, 10, 11, 13, 14, 15] := by kernel_rfl
@[simp] theorem keep15_18 : X.keep 15 18 = some [0, 10, 11, 12] := by kernel_rfl
@[simp] theorem keep15_19 : X.keep 15 19 = some [10, 11, 12, 76] := by kernel_rfl
@[simp] theorem keep15_20 : X.keep 15 20 = some [10, 11, 12] := by kernel_rfl
@[simp] theorem keep15_21 : X.keep 15 21 = some [6, 7, 8] := by kernel_rfl
@[simp] theorem keep16_0 : X.keep 16 0 = some [0, 1] := by kernel_rfl
@[simp] theorem keep16_1 : X.keep 16 1 = some [0, 1, 10] := by kernel_rfl
@[simp] theorem keep16_2 : X.keep 16 2 = some [4] := by kernel_rfl
@[simp] theorem keep16_3 : X.keep 16 3 = some [0, 1, 5] := by kernel_rfl
@[simp] theorem keep16_4 : X.keep 16 4 = some [0, 1, 5, 14] := by kernel_rfl
@[simp] theorem keep16_5 : X.keep 16 5 = some [0, 1, 5] := by kernel_rfl
@[simp] theorem keep16_6 : X.keep 16 6 = some [0, 1, 5, 54] := by kernel_rfl
@[simp] theorem keep16_7 : X.keep 16 7 = some [4] := by kernel_rfl
@[simp] theorem keep16_8 : X.keep 16 8 = some [4] := by kernel_rfl
@[simp] theorem keep17_0 : X.keep 17 0 = some [0, 1] := by kernel_rfl
@[simp] theorem keep17_1 : X.keep 17 1 = some [0, 1, 16] := by kernel_rfl
@[simp] theorem keep17_2 : X.keep 17 2 = some [4, 5] := by kernel_rfl
@[simp] theorem keep17_3 : X.keep 17 3 = some [4, 5] := by kernel_rfl
@[simp] theorem keep18_0 : X.keep 18 0 = some [0, 1] := by kernel_rfl
@[simp] theorem keep18_1 : X.keep 18 1 = some [0, 1, 9] := by kernel_rfl
@[simp] theorem keep18_2 : X.keep 18 2 = some [4, 5] := by kernel_rfl
@[simp] theorem keep18_3 : X.keep 18 3 = some [0, 1, 12] := by kernel_rfl
@[simp] theorem keep18_4 : X.keep 18 4 = some [4, 5] := by kernel_rfl
@[simp] theorem keep18_5 : X.keep 18 5 = some [0] := by kernel_rfl
@[simp] theorem keep18_6 : X.keep 18 6 = some [0, 6] := by kernel_rfl
@[simp] theorem keep18_7 : X.keep 18 7 = some [0, 6, 32] := by kernel_rfl
@[simp] theorem keep18_8 : X.keep 18 8 = some [0, 6, 7, 8] := by kernel_rfl
@[simp] theorem keep18_9 : X.keep 18 9 = some [0, 6, 7, 8, 39] := by kernel_rfl
@[simp] theorem keep18_10 : X.keep 18 10 = some [6, 8] := by kernel_rfl
@[simp] theorem keep18_11 : X.keep 18 11 = some [4, 5] := by kernel_rfl
@[simp] theorem keep18_12 : X.keep 18 12 = some [0, 6, 7, 53] := by kernel_rfl
@[simp] theorem keep18_13 : X.keep 18 13 = some [0, 6, 7, 58] := by kernel_rfl
@[simp] theorem keep18_14 : X.keep 18 14 = some [0, 6, 7] := by kernel_rfl
@[simp] theorem keep18_15 : X.keep 18 15 = some [0, 6, 7] := by kernel_rfl
@[simp] theorem keep18_16 : X.keep 18 16 = some [0, 6, 7] := by kernel_rfl
@[simp] theorem keep18_17 : X.keep 18 17 = some [0, 6, 7] := by kernel_rfl
@[simp] theorem keep18_18 : X.keep 18 18 = some [0, 6, 106] := by kernel_rfl
@[simp] theorem keep18_19 : X.keep 18 19 = some [0, 6] := by kernel_rfl
@[simp] theorem keep18_20 : X.keep 18 20 = some [0, 6] := by kernel_rfl
@[simp] theorem keep18_21 : X.keep 18 21 = some [4, 5] := by kernel_rfl
@[simp] theorem keep19_0 : X.keep 19 0 = some [0] := by kernel_rfl
@[simp] theorem keep19_1 : X.keep 19 1 = some [0, 4] := by kernel_rfl
@[simp] theorem keep19_2 : X.keep 19 2 = some [2] := by kernel_rfl
@[simp] theorem keep19_3 : X.keep 19 3 = some [0, 9] := by kernel_rfl
@[simp] theorem keep19_4 : X.keep 19 4 = some [2] := by kernel_rfl
@[simp] theorem keep19_5 : X.keep 19 5 = some [2] := by kernel_rfl
@[simp] theorem keep20_0 : X.keep 20 0 = some [0] := by kernel_rfl
@[simp] theorem keep20_1 : X.keep 20 1 = some [0, 4] := by kernel_rfl
@[simp] theorem keep20_2 : X.keep 20 2 = some [2] := by kernel_rfl
@[simp] theorem keep20_3 : X.keep 20 3 = some [2] := by kernel_rfl
@[simp] theorem keep21_0 : X.keep 21 0 = some [0, 1] := by kernel_rfl
@[simp] theorem keep21_1 : X.keep 21 1 = some [0, 1, 5] := by kernel_rfl
@[simp] theorem keep21_2 : X.keep 21 2 = some [0, 1, 5, 6] := by kernel_rfl
@[simp] theorem keep21_3 : X.keep 21 3 = some [0, 1, 5, 6, 16] := by kernel_rfl
@[simp] theorem keep21_4 : X.keep 21 4 = some [0, 1, 5, 6] := by kernel_rfl
@[simp] theorem keep21_5 : X.keep 21 5 = some [0, 1, 5, 6, 7] := by kernel_rfl
@[simp] theorem keep21_6 : X.keep 21 6 = some [0, 1, 5, 6, 7] := by kernel_rfl
@[simp] theorem keep21_7 : X.keep 21 7 = some [0, 1, 5, 6] := by kernel_rfl
@[simp] theorem keep21_8 : X.keep 21 8 = some [4] := by kernel_rfl
@[simp] theorem keep22_0 : X.keep 22 0 = some [0] := by kernel_rfl
@[simp] theorem keep22_1 : X.keep 22 1 = some [0, 4] := by kernel_rfl
@[simp] theorem keep22_2 : X.keep 22 2 = some [2] := by kernel_rfl
@[simp] theorem keep22_3 : X.keep 22 3 = some [2] := by kernel_rfl
@[simp] theorem keep23_0 : X.keep 23 0 = some [0, 1] := by kernel_rfl
@[simp] theorem keep23_1 : X.keep 23 1 = some [0, 1, 5] := by kernel_rfl
@[simp] theorem keep23_2 : X.keep 23 2 = some [4] := by kernel_rfl
@[simp] theorem keep23_3 : X.keep 23 3 = some [0, 1, 8] := by kernel_rfl
@[simp] theorem keep23_4 : X.keep 23 4 = some [4] := by kernel_rfl
@[simp] theorem keep23_5 : X.keep 23 5 = some [0, 1, 14] := by kernel_rfl
@[simp] theorem keep23_6 : X.keep 23 6 = some [4] := by kernel_rfl
@[simp] theorem keep23_7 : X.keep 23 7 = some [] := by kernel_rfl
@[simp] theorem keep23_8 : X.keep 23 8 = some [4] := by kernel_rfl
@[simp] theorem keep24_0 : X.keep 24 0 = some [0] := by kernel_rfl
@[simp] theorem keep24_1 : X.keep 24 1 = some [2] := by kernel_rfl
@[simp] theorem keep25_0 : X.keep 25 0 = some [0, 1, 2] := by kernel_rfl
@[simp] theorem keep25_1 : X.keep 25 1 = some [0, 1, 2, 26] := by kernel_rfl
@[simp] theorem keep25_2 : X.keep 25 2 = some [6, 7] := by kernel_rfl
@[simp] theorem keep25_3 : X.keep 25 3 = some [1, 2, 8] := by kernel_rfl
@[simp] theorem keep25_4 : X.keep 25 4 = some [1, 8, 29, 30] := by kernel_rfl
@[simp] theorem keep25_5 : X.keep 25 5 = some [1, 8, 29, 30, 31] := by kernel_rfl
@[simp] theorem keep25_6 : X.keep 25 6 = some [1, 8, 9, 29, 30] := by kernel_rfl
@[simp] theorem keep25_7 : X.keep 25 7 = some [1, 8, 29, 30] := by kernel_rfl
@[simp] theorem keep25_8 : X.keep 25 8 = some [1, 8, 29, 30] := by kernel_rfl
@[simp] theorem keep25_9 : X.keep 25 9 = some [6, 7] := by kernel_rfl
@[simp] theorem keep26_0 : X.keep 26 0 = some [0, 1] := by kernel_rfl
@[simp] theorem keep26_1 : X.keep 26 1 = some [0, 1, 19] := by kernel_rfl
@[simp] theorem keep26_2 : X.keep 26 2 = some [4, 5] := by kernel_rfl
@[simp] theorem keep26_3 : X.keep 26 3 = some [4, 5] := by kernel_rfl
@[simp] theorem keep27_0 : X.keep 27 0 = some [0, 1] := by kernel_rfl
@[simp] theorem keep27_1 : X.keep 27 1 = some [0, 1, 12] := by kernel_rfl
@[simp] theorem keep27_2 : X.keep 27 2 = some [4, 5] := by kernel_rfl
@[simp] theorem keep27_3 : X.keep 27 3 = some [0] := by kernel_rfl
@[simp] theorem keep27_4 : X.keep 27 4 = some [0, 6] := by kernel_rfl
@[simp] theorem keep27_5 : X.keep 27 5 = some [0, 6, 29] := by kernel_rfl
@[simp] theorem keep27_6 : X.keep 27 6 = some [0, 6] := by kernel_rfl
@[simp] theorem keep27_7 : X.keep 27 7 = some [0, 6, 39] := by kernel_rfl
@[simp] theorem keep27_8 : X.keep 27 8 = some [0, 6] := by kernel_rfl
@[simp] theorem keep27_9 : X.keep 27 9 = some [4, 5] := by kernel_rfl
@[simp] theorem keep27_10 : X.keep 27 10 = some [0, 6, 7] := by kernel_rfl
@[simp] theorem keep27_11 : X.keep 27 11 = some [0, 6, 7, 83] := by kernel_rfl
@[simp] theorem keep27_12 : X.keep 27 12 = some [4, 5] := by kernel_rfl
@[simp] theorem keep27_13 : X.keep 27 13 = some [0, 6, 7, 89] := by kernel_rfl
@[simp] theorem keep27_14 : X.keep 27 14 = some [0, 6, 7] := by kernel_rfl
@[simp] theorem keep27_15 : X.keep 27 15 = some [0, 6, 7] := by kernel_rfl
@[simp] theorem keep27_16 : X.keep 27 16 = some [0, 6, 7] := by kernel_rfl
@[simp] theorem keep27_17 : X.keep 27 17 = some [0, 6, 7] := by kernel_rfl
@[simp] theorem keep27_18 : X.keep 27 18 = some [0, 6] := by kernel_rfl
@[simp] theorem keep27_19 : X.keep 27 19 = some [0, 6, 142] := by kernel_rfl
@[simp] theorem keep27_20 : X.keep 27 20 = some [0, 6] := by kernel_rfl
@[simp] theorem keep27_21 : X.keep 27 21 = some [0, 6] := by kernel_rfl
@[simp] theorem keep27_22 : X.keep 27 22 = some [4, 5] := by kernel_rfl
@[simp] theorem keep28_0 : X.keep 28 0 = some [0] := by kernel_rfl
@[simp] theorem keep28_1 : X.keep 28 1 = some [2] := by kernel_rfl
@[simp] theorem keep29_0 : X.keep 29 0 = some [0] := by kernel_rfl
@[simp] theorem keep29_1 : X.keep 29 1 = some [0, 4] := by kernel_rfl
@[simp] theorem keep29_2 : X.keep 29 2 = some [0, 6] := by kernel_rfl
@[simp] theorem keep29_3 : X.keep 29 3 = some [0, 6, 17] := by kernel_rfl
@[simp] theorem keep29_4 : X.keep 29 4 = some [2, 3] := by kernel_rfl
@[simp] theorem keep29_5 : X.keep 29 5 = some [0, 6, 24] := by kernel_rfl
@[simp] theorem keep29_6 : X.keep 29 6 = some [2, 3] := by kernel_rfl
@[simp] theorem keep29_7 : X.keep 29 7 = some [6, 36] := by kernel_rfl
@[simp] theorem keep29_8 : X.keep 29 8 = some [2, 3] := by kernel_rfl
@[simp] theorem keep29_9 : X.keep 29 9 = some [2, 3] := by kernel_rfl
@[simp] theorem keep30_0 : X.keep 30 0 = some [0, 1] := by kernel_rfl
@[simp] theorem keep30_1 : X.keep 30 1 = some [0, 1] := by kernel_rfl
@[simp] theorem keep30_2 : X.keep 30 2 = some [0, 1, 9] := by kernel_rfl
@[simp] theorem keep30_3 : X.keep 30 3 = some [0] := by kernel_rfl
@[simp] theorem keep30_4 : X.keep 30 4 = some [4] := by kernel_rfl
@[simp] theorem keep31_0 : X.keep 31 0 = some [0] := by kernel_rfl
@[simp] theorem keep31_1 : X.keep 31 1 = some [0, 4] := by kernel_rfl
@[simp] theorem keep31_2 : X.keep 31 2 = some [2] := by kernel_rfl
@[simp] theorem keep31_3 : X.keep 31 3 = some [2] := by kernel_rfl
@[simp] theorem keep32_0 : X.keep 32 0 = some [0] := by kernel_rfl
@[simp] theorem keep32_1 : X.keep 32 1 = some [0, 3] := by kernel_rfl
@[simp] theorem keep32_2 : X.keep 32 2 = some [0, 3, 34] := by kernel_rfl
@[simp] theorem keep32_3 : X.keep 32 3 = some [2] := by kernel_rfl
@[simp] theorem keep32_4 : X.keep 32 4 = some [0, 3, 45] := by kernel_rfl
@[simp] theorem keep32_5 : X.keep 32 5 = some [2] := by kernel_rfl
@[simp] theorem keep32_6 : X.keep 32 6 = some [57] := by kernel_rfl
@[simp] theorem keep32_7 : X.keep 32 7 = some [2] := by kernel_rfl
@[simp] theorem keep32_8 : X.keep 32 8 = some [2] := by kernel_rfl
@[simp] theorem keep33_0 : X.keep 33 0 = some [0, 1] := by kernel_rfl
@[simp] theorem keep33_1 : X.keep 33 1 = some [0, 1, 13] := by kernel_rfl
@[simp] theorem keep33_2 : X.keep 33 2 = some [4, 5] := by kernel_rfl
@[simp] theorem keep33_3 : X.keep 33 3 = some [0, 1, 17] := by kernel_rfl
@[simp] theorem keep33_4 : X.keep 33 4 = some [4, 5] := by kernel_rfl
@[simp] theorem keep33_5 : X.keep 33 5 = some [0, 1, 6] := by kernel_rfl
@[simp] theorem keep33_6 : X.keep 33 6 = some [0, 6, 18, 19] := by kernel_rfl
@[simp] theorem keep33_7 : X.keep 33 7 = some [0, 6, 18, 19, 20] := by kernel_rfl
@[simp] theorem keep33_8 : X.keep 33 8 = some [0, 6, 7, 18, 19] := by kernel_rfl
@[simp] theorem keep33_9 : X.keep 33 9 = some [0, 6, 18, 19] := by kernel_rfl
@[simp] theorem keep33_10 : X.keep 33 10 = some [0, 6, 18, 19] := by kernel_rfl
@[simp] theorem keep33_11 : X.keep 33 11 = some [4, 5] := by kernel_rfl
@[simp] theorem dy5_34 : X.dy 5 34 = false := by kernel_rfl
@[simp] theorem dy10_8 : X.dy 10 8 = true := by kernel_rfl
@[simp] theorem dy14_11 : X.dy 14 11 = false := by kernel_rfl
@[simp] theorem dy16_6 : X.dy 16 6 = false := by kernel_rfl
@[simp] theorem dy18_15 : X.dy 18 15 = false := by kernel_rfl
@[simp] theorem dy18_19 : X.dy 18 19 = false := by kernel_rfl
@[simp] theorem dy19_5 : X.dy 19 5 = false := by kernel_rfl
@[simp] theorem dy27_9 : X.dy 27 9 = true := by kernel_rfl
@[simp] theorem dy27_10 : X.dy 27 10 = false := by kernel_rfl
@[simp] theorem dy27_15 : X.dy 27 15 = false := by kernel_rfl
@[simp] theorem dy27_20 : X.dy 27 20 = false := by kernel_rfl
@[simp] theorem dy29_5 : X.dy 29 5 = false := by kernel_rfl
@[simp] theorem dy29_7 : X.dy 29 7 = false := by kernel_rfl
@[simp] theorem dy32_1 : X.dy 32 1 = false := by kernel_rfl
@[simp] theorem dy32_4 : X.dy 32 4 = false := by kernel_rfl
@[simp] theorem dy32_6 : X.dy 32 6 = false := by kernel_rfl
@[simp] theorem size0 : sizeT X 0 = 1 := by kernel_rfl
@[simp] theorem bytes0 : bytesT X 0 = 0 := by kernel_rfl
@[simp] theorem okT0 : okT X 0 = true := by kernel_rfl
@[simp] theorem isAgg0 : isAggT X 0 = false := by kernel_rfl
@[simp] theorem isInt0 : isIntT X 0 = false := by kernel_rfl
@[simp] theorem isArr0 : isArrT X 0 = false := by kernel_rfl
@[simp] theorem isU80 : isU8 X 0 = false := by kernel_rfl
@[simp] theorem zok0 : zeroOk X 0 = true := by kernel_rfl
@[simp] theorem und3 : und X 3 = .int .i64 := by kernel_rfl
@[simp] theorem size3 : sizeT X 3 = 1 := by kernel_rfl
@[simp] theorem bytes3 : bytesT X 3 = 8 := by kernel_rfl
@[simp] theorem okT3 : okT X 3 = true := by kernel_rfl
@[simp] theorem isAgg3 : isAggT X 3 = false := by kernel_rfl
@[simp] theorem isInt3 : isIntT X 3 = true := by kernel_rfl
@[simp] theorem isArr3 : isArrT X 3 = false := by kernel_rfl
@[simp] theorem isU83 : isU8 X 3 = false := by kernel_rfl
@[simp] theorem zok3 : zeroOk X 3 = true := by kernel_rfl
@[simp] theorem zero3 : zeroAV X 3 = .int .i64 0 := by kernel_rfl
@[simp] theorem und4 : und X 4 = .bool := by kernel_rfl
@[simp] theorem size4 : sizeT X 4 = 1 := by kernel_rfl
@[simp] theorem bytes4 : bytesT X 4 = 1 := by kernel_rfl
@[simp] theorem okT4 : okT X 4 = true := by kernel_rfl
@[simp] theorem isAgg4 : isAggT X 4 = false := by kernel_rfl
@[simp] theorem isInt4 : isIntT X 4 = false := by kernel_rfl
@[simp] theorem isArr4 : isArrT X 4 = false := by kernel_rfl
@[simp] theorem isU84 : isU8 X 4 = false := by kernel_rfl
@[simp] theorem zok4 : zeroOk X 4 = true := by kernel_rfl
@[simp] theorem zero4 : zeroAV X 4 = .bool false := by kernel_rfl
@[simp] theorem und5 : und X 5 = .int .u8 := by kernel_rfl
@[simp] theorem size5 : sizeT X 5 = 1 := by kernel_rfl
@[simp] theorem bytes5 : bytesT X 5 = 1 := by kernel_rfl
@[simp] theorem okT5 : okT X 5 = true := by kernel_rfl
@[simp] theorem isAgg5 : isAggT X 5 = false := by kernel_rfl
@[simp] theorem isInt5 : isIntT X 5 = true := by kernel_rfl
@[simp] theorem isArr5 : isArrT X 5 = false := by kernel_rfl
@[simp] theorem isU85 : isU8 X 5 = true := by kernel_rfl
@[simp] theorem zok5 : zeroOk X 5 = true := by kernel_rfl
@[simp] theorem zero5 : zeroAV X 5 = .int .u8 0 := by kernel_rfl
@[simp] theorem und9 : und X 9 = .string := by kernel_rfl
@[simp] theorem size9 : sizeT X 9 = 1 := by kernel_rfl
@[simp] theorem bytes9 : bytesT X 9 = 16 := by kernel_rfl
@[simp] theorem okT9 : okT X 9 = true := by kernel_rfl
@[simp] theorem isAgg9 : isAggT X 9 = false := by kernel_rfl
@[simp] theorem isInt9 : isIntT X 9 = false := by kernel_rfl
@[simp] theorem isArr9 : isArrT X 9 = false := by kernel_rfl
@[simp] theorem isU89 : isU8 X 9 = false := by kernel_rfl
@[simp] theorem zok9 : zeroOk X 9 = true := by kernel_rfl
@[simp] theorem zero9 : zeroAV X 9 = .str [] := by kernel_rfl
@[simp] theorem und22 : und X 22 = .slice 5 := by kernel_rfl
@[simp] theorem size22 : sizeT X 22 = 1 := by kernel_rfl
@[simp] theorem bytes22 : bytesT X 22 = 24 := by kernel_rfl
@[simp] theorem okT22 : okT X 22 = true := by kernel_rfl
@[simp] theorem isAgg22 : isAggT X 22 = false := by kernel_rfl
@[simp] theorem isInt22 : isIntT X 22 = false := by kernel_rfl
@[simp] theorem isArr22 : isArrT X 22 = false := by kernel_rfl
@[simp] theorem isU822 : isU8 X 22 = false := by kernel_rfl
@[simp] theorem zok22 : zeroOk X 22 = true := by kernel_rfl
@[simp] theorem zero22 : zeroAV X 22 = .ro 0 .pn 0 := by kernel_rfl
@[simp] theorem und25 : und X 25 = .int .i64 := by kernel_rfl
@[simp] theorem size25 : sizeT X 25 = 1 := by kernel_rfl
@[simp] theorem bytes25 : bytesT X 25 = 8 := by kernel_rfl
@[simp] theorem okT25 : okT X 25 = true := by kernel_rfl
@[simp] theorem isAgg25 : isAggT X 25 = false := by kernel_rfl
@[simp] theorem isInt25 : isIntT X 25 = true := by kernel_rfl
@[simp] theorem isArr25 : isArrT X 25 = false := by kernel_rfl
@[simp] theorem isU825 : isU8 X 25 = false := by kernel_rfl
@[simp] theorem zok25 : zeroOk X 25 = true := by kernel_rfl
@[simp] theorem zero25 : zeroAV X 25 = .int .i64 0 := by kernel_rfl
@[simp] theorem size26 : sizeT X 26 = 1 := by kernel_rfl
@[simp] theorem bytes26 : bytesT X 26 = 0 := by kernel_rfl
@[simp] theorem okT26 : okT X 26 = true := by kernel_rfl
@[simp] theorem isAgg26 : isAggT X 26 = false := by kernel_rfl
@[simp] theorem isInt26 : isIntT X 26 = false := by kernel_rfl
@[simp] theorem isArr26 : isArrT X 26 = false := by kernel_rfl
@[simp] theorem isU826 : isU8 X 26 = false := by kernel_rfl
@[simp] theorem zok26 : zeroOk X 26 = true := by kernel_rfl
@[simp] theorem und29 : und X 29 = .slice 40 := by kernel_rfl
@[simp] theorem size29 : sizeT X 29 = 1 := by kernel_rfl
@[simp] theorem bytes29 : bytesT X 29 = 24 := by kernel_rfl
@[simp] theorem okT29 : okT X 29 = true := by kernel_rfl
@[simp] theorem isAgg29 : isAggT X 29 = false := by kernel_rfl
@[simp] theorem isInt29 : isIntT X 29 = false := by kernel_rfl
@[simp] theorem isArr29 : isArrT X 29 = false := by kernel_rfl
@[simp] theorem isU829 : isU8 X 29 = false := by kernel_rfl
@[simp] theorem zok29 : zeroOk X 29 = true := by kernel_rfl
@[simp] theorem zero29 : zeroAV X 29 = .ro 0 .pn 0 := by kernel_rfl
@[simp] theorem size30 : sizeT X 30 = 1 := by kernel_rfl
@[simp] theorem bytes30 : bytesT X 30 = 0 := by kernel_rfl
@[simp] theorem okT30 : okT X 30 = true := by kernel_rfl
@[simp] theorem isAgg30 : isAggT X 30 = false := by kernel_rfl
@[simp] theorem isInt30 : isIntT X 30 = false := by kernel_rfl
@[simp] theorem isArr30 : isArrT X 30 = false := by kernel_rfl
@[simp] theorem isU830 : isU8 X 30 = false := by kernel_rfl
@[simp] theorem zok30 : zeroOk X 30 = true := by kernel_rfl
@[simp] theorem und34 : und X 34 = .pointer 50 := by kernel_rfl
@[simp] theorem size34 : sizeT X 34 = 1 := by kernel_rfl
@[simp] theorem bytes34 : bytesT X 34 = 8 := by kernel_rfl
@[simp] theorem okT34 : okT X 34 = true := by kernel_rfl
@[simp] theorem isAgg34 : isAggT X 34 = false := by kernel_rfl
@[simp] theorem isInt34 : isIntT X 34 = false := by kernel_rfl
@[simp] theorem isArr34 : isArrT X 34 = false := by kernel_rfl
@[simp] theorem isU834 : isU8 X 34 = false := by kernel_rfl
@[simp] theorem zok34 : zeroOk X 34 = true := by kernel_rfl
@[simp] theorem zero34 : zeroAV X 34 = .nilptr := by kernel_rfl
@[simp] theorem size35 : sizeT X 35 = 1 := by kernel_rfl
@[simp] theorem bytes35 : bytesT X 35 = 0 := by kernel_rfl
@[simp] theorem okT35 : okT X 35 = true := by kernel_rfl
@[simp] theorem isAgg35 : isAggT X 35 = false := by kernel_rfl
@[simp] theorem isInt35 : isIntT X 35 = false := by kernel_rfl
@[simp] theorem isArr35 : isArrT X 35 = false := by kernel_rfl
@[simp] theorem isU835 : isU8 X 35 = false := by kernel_rfl
@[simp] theorem zok35 : zeroOk X 35 = true := by kernel_rfl
@[simp] theorem size37 : sizeT X 37 = 1 := by kernel_rfl
@[simp] theorem bytes37 : bytesT X 37 = 0 := by kernel_rfl
@[simp] theorem okT37 : okT X 37 = true := by kernel_rfl
@[simp] theorem isAgg37 : isAggT X 37 = false := by kernel_rfl
@[simp] theorem isInt37 : isIntT X 37 = false := by kernel_rfl
@[simp] theorem isArr37 : isArrT X 37 = false := by kernel_rfl
@[simp] theorem isU837 : isU8 X 37 = false := by kernel_rfl
@[simp] theorem zok37 : zeroOk X 37 = true := by kernel_rfl
@[simp] theorem size40 : sizeT X 40 = 3 := by kernel_rfl
@[simp] theorem bytes40 : bytesT X 40 = 32 := by kernel_rfl
@[simp] theorem okT40 : okT X 40 = true := by kernel_rfl
@[simp] theorem isAgg40 : isAggT X 40 = true := by kernel_rfl
@[simp] theorem isInt40 : isIntT X 40 = false := by kernel_rfl
@[simp] theorem isArr40 : isArrT X 40 = false := by kernel_rfl
@[simp] theorem isU840 : isU8 X 40 = false := by kernel_rfl
@[simp] theorem zok40 : zeroOk X 40 = true := by kernel_rfl
@[simp] theorem zero40 : zeroAV X 40 = .agg (.pc [.int .u8 0, .int .u8 0, .ro 0 .pn 0]) := by kernel_rfl
@[simp] theorem und43 : und X 43 = .slice 22 := by kernel_rfl
@[simp] theorem size43 : sizeT X 43 = 1 := by kernel_rfl
@[simp] theorem bytes43 : bytesT X 43 = 24 := by kernel_rfl
@[simp] theorem okT43 : okT X 43 = true := by kernel_rfl
@[simp] theorem isAgg43 : isAggT X 43 = false := by kernel_rfl
@[simp] theorem isInt43 : isIntT X 43 = false := by kernel_rfl
@[simp] theorem isArr43 : isArrT X 43 = false := by kernel_rfl
@[simp] theorem isU843 : isU8 X 43 = false := by kernel_rfl
@[simp] theorem zok43 : zeroOk X 43 = true := by kernel_rfl
@[simp] theorem zero43 : zeroAV X 43 = .ro 0 .pn 0 := by kernel_rfl
@[simp] theorem und44 : und X 44 = .slice 3 := by kernel_rfl
@[simp] theorem size44 : sizeT X 44 = 1 := by kernel_rfl
@[simp] theorem bytes44 : bytesT X 44 = 24 := by kernel_rfl
@[simp] theorem okT44 : okT X 44 = true := by kernel_rfl
@[simp] theorem isAgg44 : isAggT X 44 = false := by kernel_rfl
@[simp] theorem isInt44 : isIntT X 44 = false := by kernel_rfl
@[simp] theorem isArr44 : isArrT X 44 = false := by kernel_rfl
@[simp] theorem isU844 : isU8 X 44 = false := by kernel_rfl
@[simp] theorem zok44 : zeroOk X 44 = true := by kernel_rfl
@[simp] theorem zero44 : zeroAV X 44 = .ro 0 .pn 0 := by kernel_rfl
@[simp] theorem size50 : sizeT X 50 = 8 := by kernel_rfl
@[simp] theorem bytes50 : bytesT X 50 = 88 := by kernel_rfl
@[simp] theorem okT50 : okT X 50 = true := by kernel_rfl
@[simp] theorem isAgg50 : isAggT X 50 = true := by kernel_rfl
@[simp] theorem isInt50 : isIntT X 50 = false := by kernel_rfl
@[simp] theorem isArr50 : isArrT X 50 = false := by kernel_rfl
@[simp] theorem isU850 : isU8 X 50 = false := by kernel_rfl
@[simp] theorem zok50 : zeroOk X 50 = true := by kernel_rfl
@[simp] theorem zero50 : zeroAV X 50 = .agg (.pc [.int .i64 0, .int .i64 0, .int .u8 0, .ro 0 .pn 0, .ro 0 .pn 0, .int .u8 0, .bool false, .int .i64 0]) := by kernel_rfl
@[simp] theorem und51 : und X 51 = .slice 34 := by kernel_rfl
@[simp] theorem size51 : sizeT X 51 = 1 := by kernel_rfl
@[simp] theorem bytes51 : bytesT X 51 = 24 := by kernel_rfl
@[simp] theorem okT51 : okT X 51 = true := by kernel_rfl
@[simp] theorem isAgg51 : isAggT X 51 = false := by kernel_rfl
@[simp] theorem isInt51 : isIntT X 51 = false := by kernel_rfl
@[simp] theorem isArr51 : isArrT X 51 = false := by kernel_rfl
@[simp] theorem isU851 : isU8 X 51 = false := by kernel_rfl
@[simp] theorem zok51 : zeroOk X 51 = true := by kernel_rfl
@[simp] theorem zero51 : zeroAV X 51 = .ro 0 .pn 0 := by kernel_rfl
@[simp] theorem size55 : sizeT X 55 = 1 := by kernel_rfl
@[simp] theorem bytes55 : bytesT X 55 = 0 := by kernel_rfl
@[simp] theorem okT55 : okT X 55 = true := by kernel_rfl
@[simp] theorem isAgg55 : isAggT X 55 = false := by kernel_rfl
@[simp] theorem isInt55 : isIntT X 55 = false := by kernel_rfl
@[simp] theorem isArr55 : isArrT X 55 = false := by kernel_rfl
@[simp] theorem isU855 : isU8 X 55 = false := by kernel_rfl
@[simp] theorem zok55 : zeroOk X 55 = true := by kernel_rfl
@[simp] theorem und57 : und X 57 = .int .u64 := by kernel_rfl
@[simp] theorem size57 : sizeT X 57 = 1 := by kernel_rfl
@[simp] theorem bytes57 : bytesT X 57 = 8 := by kernel_rfl
@[simp] theorem okT57 : okT X 57 = true := by kernel_rfl
@[simp] theorem isAgg57 : isAggT X 57 = false := by kernel_rfl
@[simp] theorem isInt57 : isIntT X 57 = true := by kernel_rfl
@[simp] theorem isArr57 : isArrT X 57 = false := by kernel_rfl
@[simp] theorem isU857 : isU8 X 57 = false := by kernel_rfl
@[simp] theorem zok57 : zeroOk X 57 = true := by kernel_rfl
@[simp] theorem zero57 : zeroAV X 57 = .int .u64 0 := by kernel_rfl
@[simp] theorem und59 : und X 59 = .pointer 63 := by kernel_rfl
@[simp] theorem size59 : sizeT X 59 = 1 := by kernel_rfl
@[simp] theorem bytes59 : bytesT X 59 = 8 := by kernel_rfl
@[simp] theorem okT59 : okT X 59 = true := by kernel_rfl
@[simp] theorem isAgg59 : isAggT X 59 = false := by kernel_rfl
@[simp] theorem isInt59 : isIntT X 59 = false := by kernel_rfl
@[simp] theorem isArr59 : isArrT X 59 = false := by kernel_rfl
@[simp] theorem isU859 : isU8 X 59 = false := by kernel_rfl
@[simp] theorem zok59 : zeroOk X 59 = true := by kernel_rfl
@[simp] theorem zero59 : zeroAV X 59 = .nilptr := by kernel_rfl
@[simp] theorem size60 : sizeT X 60 = 1 := by kernel_rfl
@[simp] theorem bytes60 : bytesT X 60 = 0 := by kernel_rfl
@[simp] theorem okT60 : okT X 60 = true := by kernel_rfl
@[simp] theorem isAgg60 : isAggT X 60 = false := by kernel_rfl
@[simp] theorem isInt60 : isIntT X 60 = false := by kernel_rfl
@[simp] theorem isArr60 : isArrT X 60 = false := by kernel_rfl
@[simp] theorem isU860 : isU8 X 60 = false := by kernel_rfl
@[simp] theorem zok60 : zeroOk X 60 = true := by kernel_rfl
@[simp] theorem size63 : sizeT X 63 = 8 := by kernel_rfl
@[simp] theorem bytes63 : bytesT X 63 = 88 := by kernel_rfl
@[simp] theorem okT63 : okT X 63 = true := by kernel_rfl
@[simp] theorem isAgg63 : isAggT X 63 = true := by kernel_rfl
@[simp] theorem isInt63 : isIntT X 63 = false := by kernel_rfl
@[simp] theorem isArr63 : isArrT X 63 = false := by kernel_rfl
@[simp] theorem isU863 : isU8 X 63 = false := by kernel_rfl
@[simp] theorem zok63 : zeroOk X 63 = true := by kernel_rfl
@[simp] theorem zero63 : zeroAV X 63 = .agg (.pc [.int .i64 0, .int .i64 0, .int .u8 0, .ro 0 .pn 0, .ro 0 .pn 0, .int .u8 0, .bool false, .int .i64 0]) := by kernel_rfl
@[simp] theorem size64 : sizeT X 64 = 1 := by kernel_rfl
@[simp] theorem bytes64 : bytesT X 64 = 0 := by kernel_rfl
@[simp] theorem okT64 : okT X 64 = true := by kernel_rfl
@[simp] theorem isAgg64 : isAggT X 64 = false := by kernel_rfl
@[simp] theorem isInt64 : isIntT X 64 = false := by kernel_rfl
@[simp] theorem isArr64 : isArrT X 64 = false := by kernel_rfl
@[simp] theorem isU864 : isU8 X 64 = false := by kernel_rfl
@[simp] theorem zok64 : zeroOk X 64 = true := by kernel_rfl
@[simp] theorem size67 : sizeT X 67 = 1 := by kernel_rfl
@[simp] theorem bytes67 : bytesT X 67 = 0 := by kernel_rfl
@[simp] theorem okT67 : okT X 67 = true := by kernel_rfl
@[simp] theorem isAgg67 : isAggT X 67 = false := by kernel_rfl
@[simp] theorem isInt67 : isIntT X 67 = false := by kernel_rfl
@[simp] theorem isArr67 : isArrT X 67 = false := by kernel_rfl
@[simp] theorem isU867 : isU8 X 67 = false := by kernel_rfl
@[simp] theorem zok67 : zeroOk X 67 = true := by kernel_rfl
@[simp] theorem fa40_0 (H : AM.Heap) (x : AV) : fieldAddrV X H 40 x 0 = faV H x 0 := fieldAddr_of (ty := 5) (by kernel_rfl) (by kernel_rfl) H x
@[simp] theorem fv40_0 (x : AV) : fieldV X 40 x 0 = fvV X x 0 5 := field_of (by kernel_rfl) x
@[simp] theorem fa40_1 (H : AM.Heap) (x : AV) : fieldAddrV X H 40 x 1 = faV H x 1 := fieldAddr_of (ty := 5) (by kernel_rfl) (by kernel_rfl) H x
@[simp] theorem fv40_1 (x : AV) : fieldV X 40 x 1 = fvV X x 1 5 := field_of (by kernel_rfl) x
@[simp] theorem fa40_2 (H : AM.Heap) (x : AV) : fieldAddrV X H 40 x 2 = faV H x 2 := fieldAddr_of (ty := 22) (by kernel_rfl) (by kernel_rfl) H x
@[simp] theorem fv40_2 (x : AV) : fieldV X 40 x 2 = fvV X x 2 22 := field_of (by kernel_rfl) x
@[simp] theorem fa50_0 (H : AM.Heap) (x : AV) : fieldAddrV X H 50 x 0 = faV H x 0 := fieldAddr_of (ty := 3) (by kernel_rfl) (by kernel_rfl) H x
@[simp] theorem fv50_0 (x : AV) : fieldV X 50 x 0 = fvV X x 0 3 := field_of (by kernel_rfl) x
@[simp] theorem fa50_1 (H : AM.Heap) (x : AV) : fieldAddrV X H 50 x 1 = faV H x 1 := fieldAddr_of (ty := 3) (by kernel_rfl) (by kernel_rfl) H x
@[simp] theorem fv50_1 (x : AV) : fieldV X 50 x 1 = fvV X x 1 3 := field_of (by kernel_rfl) x
@[simp] theorem fa50_2 (H : AM.Heap) (x : AV) : fieldAddrV X H 50 x 2 = faV H x 2 := fieldAddr_of (ty := 5) (by kernel_rfl) (by kernel_rfl) H x
@[simp] theorem fv50_2 (x : AV) : fieldV X 50 x 2 = fvV X x 2 5 := field_of (by kernel_rfl) x
@[simp] theorem fa50_3 (H : AM.Heap) (x : AV) : fieldAddrV X H 50 x 3 = faV H x 3 := fieldAddr_of (ty := 22) (by kernel_rfl) (by kernel_rfl) H x
@[simp] theorem fv50_3 (x : AV) : fieldV X 50 x 3 = fvV X x 3 22 := field_of (by kernel_rfl) x
@[simp] theorem fa50_4 (H : AM.Heap) (x : AV) : fieldAddrV X H 50 x 4 = faV H x 4 := fieldAddr_of (ty := 22) (by kernel_rfl) (by kernel_rfl) H x
@[simp] theorem fv50_4 (x : AV) : fieldV X 50 x 4 = fvV X x 4 22 := field_of (by kernel_rfl) x
@[simp] theorem fa50_5 (H : AM.Heap) (x : AV) : fieldAddrV X H 50 x 5 = faV H x 5 := fieldAddr_of (ty := 5) (by kernel_rfl) (by kernel_rfl) H x
@[simp] theorem fv50_5 (x : AV) : fieldV X 50 x 5 = fvV X x 5 5 := field_of (by kernel_rfl) x
@[simp] theorem fa50_6 (H : AM.Heap) (x : AV) : fieldAddrV X H 50 x 6 = faV H x 6 := fieldAddr_of (ty := 4) (by kernel_rfl) (by kernel_rfl) H x
@[simp] theorem fv50_6 (x : AV) : fieldV X 50 x 6 = fvV X x 6 4 := field_of (by kernel_rfl) x
@[simp] theorem fa50_7 (H : AM.Heap) (x : AV) : fieldAddrV X H 50 x 7 = faV H x 7 := fieldAddr_of (ty := 25) (by kernel_rfl) (by kernel_rfl) H x
@[simp] theorem fv50_7 (x : AV) : fieldV X 50 x 7 = fvV X x 7 25 := field_of (by kernel_rfl) x
@[simp] theorem fa63_0 (H : AM.Heap) (x : AV) : fieldAddrV X H 63 x 0 = faV H x 0 := fieldAddr_of (ty := 3) (by kernel_rfl) (by kernel_rfl) H x
@[simp] theorem fv63_0 (x : AV) : fieldV X 63 x 0 = fvV X x 0 3 := field_of (by kernel_rfl) x
@[simp] theorem fa63_1 (H : AM.Heap) (x : AV) : fieldAddrV X H 63 x 1 = faV H x 1 := fieldAddr_of (ty := 3) (by kernel_rfl) (by kernel_rfl) H x
@[simp] theorem fv63_1 (x : AV) : fieldV X 63 x 1 = fvV X x 1 3 := field_of (by kernel_rfl) x
@[simp] theorem fa63_2 (H : AM.Heap) (x : AV) : fieldAddrV X H 63 x 2 = faV H x 2 := fieldAddr_of (ty := 5) (by kernel_rfl) (by kernel_rfl) H x
@[simp] theorem fv63_2 (x : AV) : fieldV X 63 x 2 = fvV X x 2 5 := field_of (by kernel_rfl) x
@[simp] theorem fa63_3 (H : AM.Heap) (x : AV) : fieldAddrV X H 63 x 3 = faV H x 3 := fieldAddr_of (ty := 22) (by kernel_rfl) (by kernel_rfl) H x
@[simp] theorem fv63_3 (x : AV) : fieldV X 63 x 3 = fvV X x 3 22 := field_of (by kernel_rfl) x
@[simp] theorem fa63_4 (H : AM.Heap) (x : AV) : fieldAddrV X H 63 x 4 = faV H x 4 := fieldAddr_of (ty := 22) (by kernel_rfl) (by kernel_rfl) H x
@[simp] theorem fv63_4 (x : AV) : fieldV X 63 x 4 = fvV X x 4 22 := field_of (by kernel_rfl) x
@[simp] theorem fa63_5 (H : AM.Heap) (x : AV) : fieldAddrV X H 63 x 5 = faV H x 5 := fieldAddr_of (ty := 5) (by kernel_rfl) (by kernel_rfl) H x
@[simp] theorem fv63_5 (x : AV) : fieldV X 63 x 5 = fvV X x 5 5 := field_of (by kernel_rfl) x
@[simp] theorem fa63_6 (H : AM.Heap) (x : AV) : fieldAddrV X H 63 x 6 = faV H x 6 := fieldAddr_of (ty := 4) (by kernel_rfl) (by kernel_rfl) H x
@[simp] theorem fv63_6 (x : AV) : fieldV X 63 x 6 = fvV X x 6 4 := field_of (by kernel_rfl) x
@[simp] theorem fa63_7 (H : AM.Heap) (x : AV) : fieldAddrV X H 63 x 7 = faV H x 7 := fieldAddr_of (ty := 25) (by kernel_rfl) (by kernel_rfl) H x
@[simp] theorem fv63_7 (x : AV) : fieldV X 63 x 7 = fvV X x 7 25 := field_of (by kernel_rfl) x

end Go.Proofs.Ytconnpileacfeaa

/- Plain: numbers in bytes, the lowest first; walks: both ReadFixed. -/
namespace Go.Proofs.Ytconnpileacfeaa
open Go.AM
set_option linter.unusedSimpArgs false
set_option linter.unusedVariables false

/-- bytes as a number, the lowest first -/
def leV : List UInt8 → Nat
  | [] => 0
  | b :: r => b.toNat + 256 * leV r

/-- the n lowest bytes of a number -/
def leB : Nat → Nat → List UInt8
  | 0, _ => []
  | n + 1, x => UInt8.ofNat (x % 256) :: leB n (x / 256)

theorem leB_len : ∀ n x, (leB n x).length = n
  | 0, _ => rfl
  | n + 1, x => by simp [leB, leB_len n]

theorem leV_lt : ∀ l : List UInt8, leV l < 256 ^ l.length
  | [] => by simp [leV]
  | b :: r => by
    have := leV_lt r
    have := b.toNat_lt
    simp only [leV, List.length_cons, Nat.pow_succ]
    omega

theorem leV_snoc (b : UInt8) : ∀ l : List UInt8, leV (l ++ [b]) = leV l + b.toNat * 256 ^ l.length
  | [] => by simp [leV]
  | c :: r => by
    simp only [List.cons_append, leV, leV_snoc b r, List.length_cons, Nat.pow_succ, Nat.mul_add]
    rw [Nat.mul_comm (256 ^ r.length) 256, ← Nat.mul_assoc, ← Nat.mul_assoc, Nat.mul_comm 256 b.toNat]
    omega

theorem leV_leB : ∀ n x, leV (leB n x) = x % 256 ^ n
  | 0, x => by simp [leB, leV]; omega
  | n + 1, x => by
    simp only [leB, leV, leV_leB n]
    have h : (UInt8.ofNat (x % 256)).toNat = x % 256 := by simp
    rw [h, Nat.pow_succ, Nat.mul_comm (256 ^ n) 256, Nat.mod_mul]

theorem leB_leV : ∀ l : List UInt8, leB l.length (leV l) = l
  | [] => rfl
  | b :: r => by
    have hb := b.toNat_lt
    simp only [List.length_cons, leB, leV]
    rw [show (b.toNat + 256 * leV r) % 256 = b.toNat by omega, show (b.toNat + 256 * leV r) / 256 = leV r by omega, leB_leV r]
    simp

theorem leB_snoc : ∀ n x, leB (n + 1) x = leB n x ++ [UInt8.ofNat (x / 256 ^ n % 256)]
  | 0, x => by simp [leB]
  | n + 1, x => by
    rw [leB, leB_snoc n (x / 256), leB]
    simp only [List.cons_append]
    rw [Nat.div_div_eq_div_mul, Nat.pow_succ, Nat.mul_comm]

theorem pow256 (i : Nat) : (256 : Nat) ^ i = 2 ^ (8 * i) := by rw [Nat.pow_mul]

theorem or_le {x y i : Nat} (hx : x < 256 ^ i) (hy : y < 256) (hi : i < 8) :
    IntKind.u64.wrap ((AM.bits .u64 (x : Int) ||| AM.bits .u64 (IntKind.u64.wrap ((y : Int) * 2 ^ (8 * i)))).toNat : Nat) = ((x + y * 256 ^ i : Nat) : Int) := by
  have hp : (256 : Nat) ^ i ≤ 256 ^ 7 := Nat.pow_le_pow_right (by omega) (by omega)
  have hm : y * 256 ^ i ≤ 255 * 256 ^ 7 := Nat.mul_le_mul (by omega) hp
  have hpi : ((y : Int) * 2 ^ (8 * i)) = ((y * 256 ^ i : Nat) : Int) := by rw [pow256]; simp
  have hxx : x < 18446744073709551616 := by omega
  rw [hpi, wrap_u64 (n := ((y * 256 ^ i : Nat) : Int)) (by omega) (by omega)]
  have hb : ∀ v : Nat, v < 18446744073709551616 → (AM.bits .u64 (v : Int)).toNat = v := by
    intro v hv
    unfold AM.bits
    simp [IntKind.bits]
    omega
  have e : (AM.bits .u64 (x : Int) ||| AM.bits .u64 ((y * 256 ^ i : Nat) : Int)).toNat = x + y * 256 ^ i := by
    rw [show (AM.bits .u64 (x : Int) ||| AM.bits .u64 ((y * 256 ^ i : Nat) : Int)).toNat = (AM.bits .u64 (x : Int)).toNat ||| (AM.bits .u64 ((y * 256 ^ i : Nat) : Int)).toNat by simp]
    rw [hb x hxx, hb _ (by omega), pow256, ← Nat.shiftLeft_eq, Nat.or_comm, ← Nat.shiftLeft_add_eq_or_of_lt (by rw [← pow256]; exact hx), Nat.add_comm]
  rw [e, wrap_u64 (by omega) (by omega)]

theorem take_snoc {l : List UInt8} {i : Nat} {y : UInt8} (h : l[i]? = some y) : l.take (i + 1) = l.take i ++ [y] := by
  rw [List.take_add_one, h]; rfl

/-- what a fixed number's reading tells -/
def rfR (b : List UInt8) (n : Int) : Int × Int :=
  if n < 1 ∨ 8 < n then (0, 2) else if (b.length : Int) < n then (0, 4) else ((leV (b.take n.toNat) : Nat), 0)

section
variable (T : Cf) (c : Nat) (b : List UInt8) (n : Nat)

def rfFr (i : Nat) (x : Nat) : AM.Frame := [(0, .ro c (.pb b) 1), (6, .int .u64 (x : Nat)), (18, .int .i64 (n : Nat)), (19, .int .i64 (i : Nat))]

set_option maxRecDepth 100000 in
theorem readFixed_code (n : Int) (hb : b.length < 9223372036854775808) : ∃ code, Try.f33.body = some code ∧
    Run X T 33 0 code [(0, .ro c (.pb b) 1), (1, .int .i64 n)] [] ⟨.ret, [(4, .int .u64 (rfR b n).1), (5, .int .i64 (rfR b n).2)], []⟩ := by
  refine ⟨_, rfl, ?_⟩
  unfold rfR
  by_cases h1 : n < 1
  · rw [if_pos (.inl h1)]
    refine ⟨0, ?_⟩
    simp (maxSteps := 2000000) -implicitDefEqProofs [-getElem?_pos, List.getElem?_cons_zero, List.getElem?_cons_succ, go_sem, eqV, plen, loadV, storeV, h1]
  by_cases h8 : 8 < n
  · rw [if_pos (.inr h8)]
    refine ⟨0, ?_⟩
    simp (maxSteps := 2000000) -implicitDefEqProofs [-getElem?_pos, List.getElem?_cons_zero, List.getElem?_cons_succ, go_sem, eqV, plen, loadV, storeV, h1, h8]
  rw [if_neg (by omega)]
  by_cases hl : (b.length : Int) < n
  · rw [if_pos hl]
    refine ⟨0, ?_⟩
    simp (maxSteps := 2000000) -implicitDefEqProofs [-getElem?_pos, List.getElem?_cons_zero, List.getElem?_cons_succ, go_sem, eqV, plen, loadV, storeV, h1, h8, hl]
  rw [if_neg hl]
  obtain ⟨n, rfl⟩ : ∃ m : Nat, n = (m : Int) := ⟨n.toNat, by omega⟩
  rw [Int.toNat_natCast]
  apply Run.seq
  · (refine ⟨0, ?_⟩; conv => lhs; simp (maxSteps := 2000000) -implicitDefEqProofs [-getElem?_pos, List.getElem?_cons_zero, List.getElem?_cons_succ, go_sem, eqV, plen, loadV, storeV])
  apply Run.seq
  · (refine ⟨0, ?_⟩; conv => lhs; simp (maxSteps := 2000000) -implicitDefEqProofs [-getElem?_pos, List.getElem?_cons_zero, List.getElem?_cons_succ, go_sem, eqV, plen, loadV, storeV, h1, h8])
  apply Run.seq
  · (refine ⟨0, ?_⟩; conv => lhs; simp (maxSteps := 2000000) -implicitDefEqProofs [-getElem?_pos, List.getElem?_cons_zero, List.getElem?_cons_succ, go_sem, eqV, plen, loadV, storeV, hl])
  apply Run.seq
  · (refine ⟨0, ?_⟩; conv => lhs; simp (maxSteps := 2000000) -implicitDefEqProofs [-getElem?_pos, List.getElem?_cons_zero, List.getElem?_cons_succ, go_sem, eqV, plen, loadV, storeV])
  apply Run.seq (fr' := rfFr c b n n (leV (b.take n)) ++ [(20, .bool false)]) (H' := [])
  · apply Run.seq (fr' := rfFr c b n 0 0) (H' := [])
    · (refine ⟨0, ?_⟩; simp (maxSteps := 2000000) -implicitDefEqProofs [-getElem?_pos, List.getElem?_cons_zero, List.getElem?_cons_succ, go_sem, eqV, plen, loadV, storeV, rfFr])
    · apply Run.block_exit
      refine Run.loop_rule (σ := Nat) (fun i => i ≤ n) (fun i => rfFr c b n i (leV (b.take i))) (fun _ => []) (fun _ => ⟨.exit 0, rfFr c b n n (leV (b.take n)) ++ [(20, .bool false)], []⟩) (fun i => n - i) ?_ 0 (Nat.zero_le _)
      intro i hi
      simp only
      by_cases hin : i = n
      · right
        refine ⟨?_, by simp⟩
        subst hin
        (refine ⟨0, ?_⟩; simp (maxSteps := 2000000) -implicitDefEqProofs [-getElem?_pos, List.getElem?_cons_zero, List.getElem?_cons_succ, go_sem, eqV, plen, loadV, storeV, rfFr])
      · left
        have hlt : i < b.length := by omega
        have hiI : (i : Int) < (n : Int) := by omega
        obtain ⟨y, hy⟩ : ∃ y, b[i]? = some y := ⟨b[i], List.getElem?_eq_getElem hlt⟩
        have hx := leV_lt (b.take i)
        rw [List.length_take, Nat.min_eq_left (by omega)] at hx
        have hor := or_le hx y.toNat_lt (show i < 8 by omega)
        have hsn := leV_snoc y (b.take i)
        rw [← take_snoc hy, List.length_take, Nat.min_eq_left (by omega)] at hsn
        rw [← hsn] at hor
        refine ⟨i + 1, by omega, ?_, trivial, by omega⟩
        have w1 : IntKind.i64.wrap ((i : Int) + 1) = ((i + 1 : Nat) : Int) := by rw [wrap_i64 (by omega) (by omega)]; omega
        have w8 : IntKind.i64.wrap (8 * (i : Int)) = ((8 * i : Nat) : Int) := by rw [wrap_i64 (by omega) (by omega)]; omega
        have wy : IntKind.u64.wrap (y.toNat : Int) = (y.toNat : Int) := wrap_u64 (by omega) (by have := y.toNat_lt; omega)
        have hm : min (8 * i) 64 = 8 * i := by omega
        have hm0 : ¬ (((8 * i : Nat) : Int) < 0) := by omega
        generalize h8i : 8 * i = i8 at *
        (refine ⟨0, ?_⟩; simp (maxSteps := 2000000) -implicitDefEqProofs [-getElem?_pos, List.getElem?_cons_zero, List.getElem?_cons_succ, go_sem, eqV, plen, loadV, storeV, rfFr, hiI, hlt, hy, w8, wy, hm, hm0, w1, IntKind.bits])
        exact hor
  refine ⟨0, ?_⟩
  simp (maxSteps := 2000000) -implicitDefEqProofs [-getElem?_pos, List.getElem?_cons_zero, List.getElem?_cons_succ, go_sem, eqV, plen, loadV, storeV, rfFr]

def rgFr (i : Nat) (x : Nat) : AM.Frame := [(0, .ro c (.pb b) 1), (1, .int .i64 (n : Nat)), (6, .int .u64 (x : Nat)), (7, .int .i64 (i : Nat))]

end

end Go.Proofs.Ytconnpileacfeaa

/- Walks: a copy of bytes; a fixed number behind bytes. -/
namespace Go.Proofs.Ytconnpileacfeaa
open Go.AM
set_option linter.unusedSimpArgs false
set_option linter.unusedVariables false

/-- an empty slice of bytes -/
def nilB : AM.Obj := ⟨.pb [], 0, .none, 0, true, false, 0⟩
theorem nilB_rw : Rw (.pb []) 0 nilB := ⟨rfl, rfl, rfl, rfl, rfl⟩
theorem emB : rowOf (emptyRow X 5) .none 0 = nilB := by simp [emptyRow, rowOf, nilB]

theorem app_b {H : AM.Heap} {o g : Nat} {ob : AM.Obj} {l m : List UInt8} {src : AV} (ho : H[o]? = some (some ob)) (h : Rw (.pb l) g ob) (hsrc : srcV H src = some (.pb m, 0) ∨ (srcV H src = some (.pn, 0) ∧ m = [])) (hn : l.length + m.length ≤ 100000000) :
    ∃ ob', Rw (.pb (l ++ m)) (g + 1) ob' ∧ appendV X H 22 (.sl o 0 l.length g) src = some (.sl o 0 (l.length + m.length) (g + 1), upd H o (some ob')) :=
  app_rw (by simp) (und5) (by simp) (by simp) (by simp) ho h hsrc hn

/-- onto an empty literal -/
theorem app_lit {H : AM.Heap} {m : List UInt8} {src : AV} (hsrc : srcV H src = some (.pb m, 0) ∨ (srcV H src = some (.pn, 0) ∧ m = [])) (hn : m.length ≤ 100000000) :
    appendV X H 22 (.ro 1 (.pb []) 0) src = some (.sl H.length 0 m.length 0, H ++ [some ⟨.pb m, 0, .none, 1, true, false, 0⟩]) := by
  have hroom : roomOk X 5 m.length = true := by simp [roomOk]; omega
  simp only [appendV, und22, size5, zok5]
  rcases hsrc with h | ⟨h, rfl⟩
  · simp [h, payB, plen, hroom, papp, emptyRow, pesz]
  · simp only [List.length_nil] at hroom
    simp [h, payB, plen, hroom, papp, emptyRow, pesz]

theorem srcB {H : AM.Heap} {c t : Nat} {p : AV} {l : List UInt8} (hp : PB p l) : srcV H (.ro c p t) = some (.pb l, 0) ∨ (srcV H (.ro c p t) = some (.pn, 0) ∧ l = []) := by
  rcases hp with rfl | ⟨rfl, rfl⟩
  · left; rfl
  · right; exact ⟨rfl, rfl⟩

theorem bs0 (H : AM.Heap) : buildSliceV X H 22 0 [] = some (.ro 1 (.pb []) 0, H) := by kernel_rfl

theorem coB {p : AV} {b : List UInt8} {c t : Nat} {r : List AV} {ts : List TypeId} (hp : PB p b) : coerce X (.ro c p t :: r) (22 :: ts) = .ro c (.pb b) t :: coerce X r ts := by
  rcases hp with rfl | ⟨rfl, rfl⟩
  · simp [coerce]
  · simp [coerce, emptyRow]

section
variable (T : Cf) (c : Nat) (b : List UInt8)

set_option maxRecDepth 100000 in
theorem clone_code (hc : c = 0 → b = []) (hb : b.length ≤ 100000000) : ∃ code, Try.f31.body = some code ∧
    Tells (Rets fun fr H => ∃ o g ob, getF fr 2 = .sl o 0 b.length g ∧ H[o]? = some (some ob) ∧ Rw (.pb b) g ob) X T 31 0 code [(0, .ro c (.pb b) 1)] [] := by
  refine ⟨_, rfl, ?_⟩
  by_cases h0 : c = 0
  · have hbn := hc h0
    subst hbn
    subst h0
    refine Tells.of (o := ⟨.ret, [(2, .sl 1 0 0 0)], [some nilB, some nilB]⟩) ?_ ⟨rfl, 1, 0, nilB, rfl, rfl, nilB_rw⟩
    refine ⟨0, ?_⟩
    simp (maxSteps := 2000000) -implicitDefEqProofs [-getElem?_pos, List.getElem?_cons_zero, List.getElem?_cons_succ, go_sem, eqV, plen, loadV, storeV, assignV, emB, isNil, nilFor]
  · have hA := app_lit (H := [some nilB]) (srcB (H := [some nilB]) (c := c) (t := 1) (.inl rfl)) hb
    refine Tells.of (o := ⟨.ret, [(2, .sl 1 0 b.length 0)], [some nilB, some ⟨.pb b, 0, .none, 1, true, false, 0⟩]⟩) ?_ ⟨rfl, 1, 0, _, rfl, rfl, ⟨rfl, rfl, rfl, rfl, rfl⟩⟩
    refine ⟨0, ?_⟩
    simp (maxSteps := 2000000) -implicitDefEqProofs [-getElem?_pos, List.getElem?_cons_zero, List.getElem?_cons_succ, go_sem, eqV, plen, loadV, storeV, assignV, emB, isNil, nilFor, h0, bs0, hA]

end

theorem clone_ev {H : AM.Heap} {a : AV} {b : List UInt8} (h : Byt H a b) (hb : b.length ≤ 100000000) : ∃ ob, Rw (.pb b) 0 ob ∧ evT X 31 [a] H = some (.sl H.length 0 b.length 0, H ++ [some ob]) := by
  obtain ⟨c, p, x, hp, hc, hx⟩ := args_byt (C := X) (f := 31) (i := 0) rfl h (args_nil 1)
  obtain ⟨code, hcode, hr⟩ := clone_code (evT X) c b hc hb
  obtain ⟨ob, h1, h2⟩ := Ev1.newB (H := H) (n := b.length) (l := b) (rest := []) (evT_below X) Try.func31 hcode hx (by simp [idsL, ids, hp.ids]) (by simp [gtag]) rfl rfl rfl (by
    obtain ⟨o, ⟨he, o1, g, ob, q1, q2, q3⟩, hrun⟩ := hr
    exact ⟨o, ⟨he, o1, g, ob, congrArg (fun v => some [v]) q1, q2, q3⟩, by rw [par31, coB hp]; exact hrun⟩)
  exact ⟨ob, h1, evT_eq h2⟩

theorem bs1 (H : AM.Heap) (y : UInt8) : buildSliceV X H 22 1 [(0, .int .u8 (y.toNat : Nat))] = some (.ro 1 (.pb [y]) 0, H) := by
  have := y.toNat_lt
  have h1 : (y.toNat : Int) < 256 := by omega
  simp [buildSliceV, setParts, litRow, mkRow, asBytes, cellsAV, cellsOf, scalars, scalar, idsL, ids, tagsL, tags, joinTags, h1]

theorem shr_u64 {x i : Nat} (hi : i < 8) : Int.fdiv (x : Int) (2 ^ (min (8 * i) 64)) = ((x / 256 ^ i : Nat) : Int) := by
  rw [Nat.min_eq_left (by omega), pow256]
  rw [show ((2 : Int) ^ (8 * i)) = ((2 ^ (8 * i) : Nat) : Int) by simp]
  rw [Int.fdiv_eq_ediv_of_nonneg _ (Int.natCast_nonneg _)]
  exact (Int.natCast_ediv _ _).symm

theorem wrap_byte (z : Nat) : IntKind.u8.wrap (z : Int) = ((UInt8.ofNat (z % 256)).toNat : Nat) := by
  have : (UInt8.ofNat (z % 256)).toNat = z % 256 := by simp
  rw [this]
  unfold IntKind.wrap
  simp [IntKind.signed, IntKind.bits]

section
variable (c : Nat) (b : List UInt8) (x n : Nat)

def afFr (i : Nat) : AM.Frame := [(1, .int .u64 (x : Nat)), (8, .sl 1 0 (b.length + i) i), (29, .int .i64 (n : Nat)), (30, .int .i64 (i : Nat))]

set_option maxRecDepth 100000 in
theorem af_code (hc : c = 0 → b = []) (hb : b.length ≤ 90000000) (h1 : 1 ≤ n) (h8 : n ≤ 8) (hx : x < 256 ^ n) : ∃ code, Try.f25.body = some code ∧
    Tells (Rets fun fr H => ∃ o g ob, getF fr 6 = .sl o 0 (b.length + n) g ∧ getF fr 7 = .int .i64 0 ∧ H[o]? = some (some ob) ∧ Rw (.pb (b ++ leB n x)) g ob) X (evT X) 25 0 code [(0, .ro c (.pb b) 1), (1, .int .u64 (x : Nat)), (2, .int .i64 (n : Nat))] [] := by
  refine ⟨_, rfl, ?_⟩
  obtain ⟨ob0, hw0, hC⟩ := clone_ev (H := [some nilB]) (a := .ro c (.pb b) 1) (b := b) (Byt.ro (.inl rfl) hc) (by omega)
  have g1 : ¬ (n : Int) < 1 := by omega
  have g8 : ¬ (8 : Int) < (n : Int) := by omega
  have hz : (n : Int) < 8 → Int.fdiv (x : Int) (2 ^ (min (8 * n) 64)) = 0 := by
    intro h
    rw [shr_u64 (by omega), Nat.div_eq_of_lt hx]; rfl
  have w8 : IntKind.i64.wrap (8 * (n : Int)) = ((8 * n : Nat) : Int) := by rw [wrap_i64 (by omega) (by omega)]; omega
  have hn0 : ¬ (((8 * n : Nat) : Int) < 0) := by omega
  have hmb : IntKind.u64.bits = 64 := rfl
  apply Tells.seq
  · (refine ⟨0, ?_⟩; conv => lhs; simp (maxSteps := 2000000) -implicitDefEqProofs [-getElem?_pos, List.getElem?_cons_zero, List.getElem?_cons_succ, go_sem, eqV, plen, loadV, storeV, assignV, emB])
  apply Tells.seq (fr' := [(0, .ro c (.pb b) 1), (1, .int .u64 (x : Nat)), (2, .int .i64 (n : Nat)), (26, .bool false)]) (H' := [some nilB])
  · by_cases h : (n : Int) < 8
    · have hz := hz h
      generalize 8 * n = n8 at *
      (refine ⟨0, ?_⟩; simp (maxSteps := 2000000) -implicitDefEqProofs [-getElem?_pos, List.getElem?_cons_zero, List.getElem?_cons_succ, go_sem, eqV, plen, loadV, storeV, g1, g8, h, hz, w8, hn0, hmb])
    · (refine ⟨0, ?_⟩; simp (maxSteps := 2000000) -implicitDefEqProofs [-getElem?_pos, List.getElem?_cons_zero, List.getElem?_cons_succ, go_sem, eqV, plen, loadV, storeV, g1, g8, h, hz, w8, hn0, hmb])
  apply Tells.seq (fr' := [(1, .int .u64 (x : Nat)), (2, .int .i64 (n : Nat)), (8, .sl 1 0 b.length 0)]) (H' := [some nilB, some ob0])
  · (refine ⟨0, ?_⟩; simp (maxSteps := 2000000) -implicitDefEqProofs [-getElem?_pos, List.getElem?_cons_zero, List.getElem?_cons_succ, go_sem, eqV, plen, loadV, storeV, hC, assignV])
  apply Tells.andThen (P := fun fr H => ∃ ob, Rw (.pb (b ++ leB n x)) n ob ∧ fr = afFr b x n n ++ [(31, .bool false)] ∧ H = [some nilB, some ob])
  · apply Tells.seq (fr' := afFr b x n 0) (H' := [some nilB, some ob0])
    · (refine ⟨0, ?_⟩; simp (maxSteps := 2000000) -implicitDefEqProofs [-getElem?_pos, List.getElem?_cons_zero, List.getElem?_cons_succ, go_sem, eqV, plen, loadV, storeV, afFr])
    apply Tells.block
    refine Tells.loop (σ := Nat × AM.Obj) (fun s => s.1 ≤ n ∧ Rw (.pb (b ++ leB s.1 x)) s.1 s.2) (fun s => afFr b x n s.1) (fun s => [some nilB, some s.2]) (fun s => n - s.1) ?_ (0, ob0) ⟨by simp, by simpa [leB] using hw0⟩
    rintro ⟨i, ob⟩ ⟨hi, hw⟩
    simp only at hi hw ⊢
    by_cases hin : i = n
    · right
      subst hin
      refine ⟨⟨.exit 0, afFr b x i i ++ [(31, .bool false)], [some nilB, some ob]⟩, ⟨rfl, ob, hw, rfl, rfl⟩, by simp, ?_⟩
      (refine ⟨0, ?_⟩; simp (maxSteps := 2000000) -implicitDefEqProofs [-getElem?_pos, List.getElem?_cons_zero, List.getElem?_cons_succ, go_sem, eqV, plen, loadV, storeV, afFr])
    · left
      have hlt : i < 8 := by omega
      have hiI : (i : Int) < (n : Int) := by omega
      have w1 : IntKind.i64.wrap ((i : Int) + 1) = ((i + 1 : Nat) : Int) := by rw [wrap_i64 (by omega) (by omega)]; omega
      have w8 : IntKind.i64.wrap (8 * (i : Int)) = ((8 * i : Nat) : Int) := by rw [wrap_i64 (by omega) (by omega)]; omega
      have hn0 : ¬ (((8 * i : Nat) : Int) < 0) := by omega
      have hsh := shr_u64 (x := x) hlt
      have hlen := leB_len i x
      obtain ⟨ob', hw', hA⟩ := app_b (H := [some nilB, some ob]) (o := 1) (src := .ro 1 (.pb [UInt8.ofNat (x / 256 ^ i % 256)]) 0) rfl hw (.inl rfl) (by simp [hlen]; omega)
      rw [List.append_assoc, ← leB_snoc] at hw'
      simp only [List.length_append, hlen, List.length_cons, List.length_nil] at hA
      refine ⟨(i + 1, ob'), ⟨by simp only; omega, hw'⟩, ?_, by simp only; omega⟩
      have hwb := wrap_byte (x / 256 ^ i)
      have hbs := fun H => bs1 H (UInt8.ofNat (x / 256 ^ i % 256))
      generalize x / 256 ^ i = z at *
      generalize UInt8.ofNat (z % 256) = y at *
      generalize 8 * i = i8 at *
      (refine ⟨0, ?_⟩; simp (maxSteps := 2000000) -implicitDefEqProofs [-getElem?_pos, List.getElem?_cons_zero, List.getElem?_cons_succ, go_sem, eqV, plen, loadV, storeV, afFr, hiI, w1, w8, hn0, hmb, hsh, hwb, hbs, hA, upd])
      omega
  · rintro fr H ⟨ob, hw, rfl, rfl⟩
    refine Tells.of (o := ⟨.ret, [(6, .sl 1 0 (b.length + n) n), (7, .int .i64 0)], [some nilB, some ob]⟩) ?_ ⟨rfl, 1, n, ob, rfl, rfl, rfl, hw⟩
    refine ⟨0, ?_⟩
    simp (maxSteps := 2000000) -implicitDefEqProofs [-getElem?_pos, List.getElem?_cons_zero, List.getElem?_cons_succ, go_sem, eqV, plen, loadV, storeV, afFr, assignV]

end

theorem af_ev {H : AM.Heap} {a : AV} {b : List UInt8} {x n : Nat} (h : Byt H a b) (hb : b.length ≤ 90000000) (h1 : 1 ≤ n) (h8 : n ≤ 8) (hx : x < 256 ^ n) :
    ∃ ob, Rw (.pb (b ++ leB n x)) 0 ob ∧ evT X 25 [a, .int .u64 (x : Nat), .int .i64 (n : Nat)] H = some (.tup [.sl H.length 0 (b.length + n) 0, .int .i64 0], H ++ [some ob]) := by
  obtain ⟨c, p, xl, hp, hc, hx'⟩ := args_byt (C := X) (f := 25) (i := 0) rfl h (args_flat (i := 1) (a := .int .u64 (x : Nat)) rfl rfl (args_flat (i := 2) (a := .int .i64 (n : Nat)) rfl rfl (args_nil 3)))
  obtain ⟨code, hcode, hr⟩ := af_code c b x n hc hb h1 h8 hx
  obtain ⟨ob, q1, q2⟩ := Ev1.newB (H := H) (n := b.length + n) (l := b ++ leB n x) (rest := [.int .i64 0]) (evT_below X) Try.func25 hcode hx' (by simp [idsL, ids, hp.ids]) (by simp [gtag]) rfl rfl rfl (by
    obtain ⟨o, ⟨he, o1, g, ob, q1, q2, q3, q4⟩, hrun⟩ := hr
    exact ⟨o, ⟨he, o1, g, ob, by show some [getF o.fr 6, getF o.fr 7] = _; rw [q1, q2], q3, q4⟩, by rw [par25, coB hp]; exact hrun⟩)
  exact ⟨ob, q1, evT_eq q2⟩

end Go.Proofs.Ytconnpileacfeaa

/- Walks: the column reader of fixed numbers; SameBytes. -/
namespace Go.Proofs.Ytconnpileacfeaa
open Go.AM
set_option linter.unusedSimpArgs false
set_option linter.unusedVariables false

def cL : Code → Option Code
  | .seq a _ => some a
  | _ => none
def cR : Code → Option Code
  | .seq _ b => some b
  | _ => none

theorem app_at {H : AM.Heap} {o : Nat} {x : Option AM.Obj} (h : H[o]? = some x) (N : AM.Heap) : (H ++ N)[o]? = some x := by
  have : o < H.length := (List.getElem?_eq_some_iff.1 h).1
  rw [List.getElem?_append_left this]; exact h

/-- what is left, and the error -/
abbrev St := List UInt8 × Int

/-- a fixed number off what is left -/
def fx (n : Nat) (s : St) : Nat × St :=
  if s.2 ≠ 0 then (0, s) else if s.1.length < n then (0, s.1, 4) else (leV (s.1.take n), s.1.drop n, 0)

theorem rf_ev {H : AM.Heap} {a : AV} {b : List UInt8} {n : Nat} (h : Byt H a b) (hb : b.length ≤ 90000000) :
    evT X 33 [a, .int .i64 (n : Nat)] H = some (.tup [.int .u64 (rfR b n).1, .int .i64 (rfR b n).2], H) := by
  obtain ⟨c, p, xl, hp, hc, hx'⟩ := args_byt (C := X) (f := 33) (i := 0) rfl h (args_flat (i := 1) (a := .int .i64 (n : Nat)) rfl rfl (args_nil 2))
  obtain ⟨code, hcode, hr⟩ := readFixed_code (evT X) c b n (by omega)
  refine evT_eq (Ev1.toldP (l := [.int .u64 (rfR b n).1, .int .i64 (rfR b n).2]) (evT_below X) Try.func33 hcode hx' (by simp [idsL, ids, hp.ids]) (by simp [gtag]) rfl rfl rfl ?_)
  rw [par33, coB hp]
  exact ⟨_, ⟨rfl, rfl⟩, hr⟩

/-- the reader's box -/
def rdO (c t tg : Nat) (s : St) : AM.Obj := ⟨.pc [.ro c (.pb s.1) t, .int .i64 s.2], 0, some 2, 1, false, true, tg⟩

section
variable (c t tg : Nat) (s : St) (n : Nat)

/-- the reader's box when all is taken -/
def rdN (tg : Nat) (e : Int) : AM.Obj := ⟨.pc [.ro 0 .pn 0, .int .i64 e], 0, some 2, 1, false, true, tg⟩

end

theorem fx_lt {n : Nat} (s : St) : (fx n s).1 < 256 ^ n := by
  unfold fx
  split
  · exact Nat.pow_pos (by omega)
  · split
    · exact Nat.pow_pos (by omega)
    · have := leV_lt (s.1.take n)
      rw [List.length_take, Nat.min_eq_left (by omega)] at this
      exact this

theorem fx_len (n : Nat) (s : St) : (fx n s).2.1.length ≤ s.1.length := by
  unfold fx
  split
  · exact Nat.le_refl _
  · split
    · exact Nat.le_refl _
    · simp

theorem fx_nil {n : Nat} {s : St} {c : Nat} (h : c = 0 → s.1 = []) : c = 0 → (fx n s).2.1 = [] := by
  intro hc
  have := h hc
  unfold fx
  split
  · exact this
  · split
    · exact this
    · simp [this]

set_option maxRecDepth 100000 in
theorem sameB_code (c c2 : Nat) (a b : List UInt8) : ∃ code, Try.f12.body = some code ∧
    Run X (evT X) 12 0 code [(0, .ro c (.pb a) 1), (1, .ro c2 (.pb b) 2)] [] ⟨.ret, [(4, .bool (a == b))], []⟩ := by
  refine ⟨_, rfl, 0, ?_⟩
  simp (maxSteps := 2000000) -implicitDefEqProofs [-getElem?_pos, List.getElem?_cons_zero, List.getElem?_cons_succ, go_sem, eqV, plen, loadV, storeV, readSl, strOp]

theorem sameB_ev {H : AM.Heap} {a a2 : AV} {l m : List UInt8} (h : Byt H a l) (h2 : Byt H a2 m) : evT X 12 [a, a2] H = some (.bool (l == m), H) := by
  obtain ⟨c2, p2, x2, hp2, _, hx2⟩ := args_byt (C := X) (f := 12) (i := 1) rfl h2 (args_nil 2)
  obtain ⟨c, p, x, hp, _, hx⟩ := args_byt (C := X) (f := 12) (i := 0) rfl h hx2
  obtain ⟨code, hcode, hr⟩ := sameB_code c c2 l m
  refine evT_eq (Ev1.toldP (l := [.bool (l == m)]) (evT_below X) Try.func12 hcode hx (by simp [idsL, ids, hp.ids, hp2.ids]) (by simp [gtag]) rfl rfl rfl ?_)
  rw [par12, coB hp, coB hp2]
  exact ⟨_, ⟨rfl, rfl⟩, hr⟩

end Go.Proofs.Ytconnpileacfeaa

/- Walks: the document's fixed number behind bytes. -/
namespace Go.Proofs.Ytconnpileacfeaa
open Go.AM
set_option linter.unusedSimpArgs false
set_option linter.unusedVariables false

section
variable (c : Nat) (b : List UInt8) (x n : Nat)

def rafFr (i : Nat) : AM.Frame := [(1, .int .u64 (x : Nat)), (2, .int .i64 (n : Nat)), (8, .sl 1 0 (b.length + i) i), (9, .int .i64 (i : Nat))]

end

end Go.Proofs.Ytconnpileacfeaa
