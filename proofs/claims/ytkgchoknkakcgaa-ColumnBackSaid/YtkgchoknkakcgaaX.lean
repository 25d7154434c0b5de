/- The seat's tables for the abstract machine, and what walks ask of the program. No conditions. -/
import Derived.Test.YtkgchoknkakcgaaRows
import Derived.Test.YtkgchoknkakcgaaAm3
namespace Go.Proofs.Ytkgchoknkakcgaa
open Go.AM

def keepT : List (List (List Nat)) := [[], [], [[]], [[0], [0, 13], [2], [0, 16], [2], [0, 3], [0, 3, 4, 5], [0, 3, 4, 5, 6, 7], [0, 3, 4, 5, 6, 7, 8, 9], [0, 3, 4, 5, 6, 7, 8, 9, 10, 11], [2]], [[1, 2, 3, 4], [1, 2, 3, 4, 21], [8], [1, 2, 3, 4, 24], [8], [1, 2, 3, 4, 9, 10], [1, 2, 3, 4, 9, 31], [1, 2, 3, 4, 11, 12], [2, 3, 4, 43], [8], [2, 3, 4, 10, 13], [2, 3, 4, 10, 13, 50], [8], [2, 3, 4, 13, 14, 15], [3, 4, 13, 14, 15, 17], [4, 14, 15, 17, 19], [8]], [[], [1, 2], [1, 2, 3, 4], [0]], [[0], [2]], [[0, 2], [2, 4], [2, 4], [2, 4, 5], [2, 4, 5, 21, 22, 23], [2, 4, 5, 21, 22, 23, 24], [2, 4, 5, 7, 21, 22, 23], [2, 4, 5, 21, 22, 23], [2, 4, 5, 21, 22, 23], [2, 4, 5], [2, 4, 5], [2, 4, 5], [2, 4, 5], [2, 4, 5], [2, 4, 5], [2, 4, 5], [2, 4, 5], [2, 4, 5], [2, 4, 5, 79], [2, 3], [2, 3]], [[0, 2], [2, 4], [2, 4, 5], [2, 4], [2, 4, 6], [2, 4, 6], [2, 4, 6], [2, 4, 6], [2, 4, 6], [2, 4, 6, 7], [2, 4, 6], [2, 4, 6], [2, 4, 6], [2, 4, 6], [2, 4, 6], [2, 4, 6], [2, 4, 6], [2, 4, 6], [2, 4, 6, 66], [2, 3], [2, 3]], [[0], [0, 4, 5, 6], [0, 4, 5, 6, 14], [2, 3], [4, 33], [2, 3], [2, 3]], [[0], [0, 4, 5, 6], [0, 4, 5, 6, 14], [2, 3], [4, 33], [2, 3], [2, 3]], [[0, 1], [0, 1, 18], [4], [5], [5, 6], [5, 6, 33], [5, 6], [5, 6, 40], [4], [4]], [[1], [2]], [[0, 1], [0, 1, 11], [4, 5], [4, 5]], [[0, 3], [0, 3, 6], [0, 3, 6, 13], [4, 5], [3, 7], [3, 7, 27, 28, 29], [3, 7, 27, 28, 29, 30], [3, 7, 9, 27, 28, 29], [3, 7, 27, 28, 29], [3, 7, 27, 28, 29], [3, 7], [3, 7], [4, 5]], [[1], [1, 15, 16, 17], [1, 15, 16, 17, 18], [1, 4, 15, 16, 17], [1, 15, 16, 17, 23], [2], [1, 15, 16, 17], [28], [2], [2]], [[0, 1], [0, 1], [0, 1, 9], [0], [4]], [[0], [0]], [[0, 1], [4]], [[0, 12], []], [[0], [0, 10], [2], [0, 3, 4, 5], [0, 3, 4, 5, 26], [0, 3, 4, 5], [0, 3, 4, 5, 28], [], [2], [3], [2]], [[0, 1], [0, 1, 11], [4], [0, 1, 5, 6], [0, 1, 5, 6, 22], [], [4], [5], [4]], [[0], [2]], [[0], [0, 10], [2], [0, 3, 4, 5], [0, 3, 4], [3], [2]], [[0, 11], []], [[0], [0, 3], [3], [2]], [[0], [2]], [[0, 1], [5], [4]], [[0], [2]], [[0, 1, 4], [0, 1, 4, 5], [0, 1, 4, 5, 6], [0, 1, 4, 5, 6, 12], [0, 1, 4, 5, 6], [0, 1, 4, 5, 6], []], [[0], [0], [2]], [[0], [0, 8], [2, 3, 4], [0], [0, 11], [2, 3, 4], [0, 11, 16], [0, 5], [0, 11, 18], [0, 5], [0, 11, 20], [0, 5], [0, 11, 22], [0, 22], [2, 3, 4], [2, 4, 5], [2, 4, 5, 33], [2, 3, 4], [2, 3, 4]], [[0], [3, 4], [4, 11], [2], [2]], [[0], [0, 10], [2, 3, 4], [0, 14], [2, 3, 4], [0, 28], [2, 3, 4], [0, 5], [0, 5, 37], [0, 5], [5, 6, 7], [5, 6, 7, 46], [2, 3, 4], [2, 3, 4]], [[0], [0, 4], [2], [0, 6], [2], [8], [2], [2]], [[0, 1], [0, 1, 5, 6], [1, 5, 6, 7], [1, 5, 6, 7, 16], [1, 6, 7], [7], [4]], [[0, 1], [4]], [[0, 1, 2], [7], [6]], [[0], [0, 3, 4, 5], [0, 3, 4, 5, 13], [2, 3, 4], [0, 3, 5, 21], [2, 3, 4], [2, 3, 4]], [[0, 1], [0, 1, 13], [4, 5], [0, 1, 17], [4, 5], [0, 1, 6], [0, 6, 18, 19], [0, 6, 18, 19, 20], [0, 6, 7, 18, 19], [0, 6, 18, 19], [0, 6, 18, 19], [4, 5]], [[0], [0]], [[0], [0, 5, 6, 7], [0, 5, 6, 7, 15], [2, 3, 4], [0, 5, 6, 23], [2, 3, 4], [2, 3, 4]], [[0, 1], [0, 1, 19], [0, 1], [0, 1, 27], [4], [0, 1, 5], [5], [4]], [[0, 1], [0, 1, 13], [4, 5], [0, 1, 17], [4, 5], [0, 1, 6], [0, 1, 6, 7], [0, 1, 6, 7, 20], [0, 1, 6, 7], [0, 1, 6, 7], [4, 5]], [[0], [0, 3], [0, 3, 9], [2], [0, 14], [0, 14, 15], [2], [0, 17], [2], [0, 3], [0, 3, 21], [2], [2]], [[0], [0, 4], [2, 3], [0, 7], [2, 3], [10], [2, 3], [2, 3]], [[0], [0, 4], [2], [2]], [[0, 1, 2], [0, 1, 2, 26], [6, 7], [1, 2, 8], [1, 8, 29, 30], [1, 8, 29, 30, 31], [1, 8, 9, 29, 30], [1, 8, 29, 30], [1, 8, 29, 30], [6, 7]], [], [], [], [], [], [], [], [], [], [], [], [], [], [], [], []]


noncomputable def X : AM.Ctx := { P := Try.prog, G := fun _ => .none, rw := fun f i => (f == 11 && i == 0), keep := fun f i => ((keepT[f]?).getD [])[i]?, norm := fun _ _ => false, dr := fun _ _ => true, dy := fun f id => [(7, 19), (8, 19), (14, 10), (14, 11), (14, 12)].contains (f, id) }

theorem own : ownKnob Try.prog.godebug = .none := by kernel_rfl
theorem full : ∀ t e, t < Try.prog.types.size → Try.prog.underlying t = some (.slice e) → 0 < Try.prog.cellsOf e := slices_full_of Try.prog (by kernel_rfl)
theorem ctxOk : AM.CtxOk X := AM.ctxOk_of (by kernel_rfl) (by kernel_rfl)
@[simp] theorem X_dr (f i : Nat) : X.dr f i = true := rfl
@[simp] theorem X_norm (f i : Nat) : X.norm f i = false := rfl
@[simp] theorem X_rw (f i : Nat) : X.rw f i = ((f == 11 && i == 0)) := rfl
@[simp] theorem nt3 : ntOf X 3 = 62 := by kernel_rfl
@[simp] theorem bod3 : bodied X 3 = true := by kernel_rfl
@[simp] theorem par3 : paramsOf X 3 = [22] := by kernel_rfl
@[simp] theorem nt4 : ntOf X 4 = 100 := by kernel_rfl
@[simp] theorem bod4 : bodied X 4 = true := by kernel_rfl
@[simp] theorem par4 : paramsOf X 4 = [28, 3, 3, 5] := by kernel_rfl
@[simp] theorem nt5 : ntOf X 5 = 36 := by kernel_rfl
@[simp] theorem bod5 : bodied X 5 = true := by kernel_rfl
@[simp] theorem par5 : paramsOf X 5 = [] := by kernel_rfl
@[simp] theorem nt6 : ntOf X 6 = 14 := by kernel_rfl
@[simp] theorem bod6 : bodied X 6 = true := by kernel_rfl
@[simp] theorem par6 : paramsOf X 6 = [22] := by kernel_rfl
@[simp] theorem nt7 : ntOf X 7 = 86 := by kernel_rfl
@[simp] theorem bod7 : bodied X 7 = true := by kernel_rfl
@[simp] theorem par7 : paramsOf X 7 = [22] := by kernel_rfl
@[simp] theorem nt8 : ntOf X 8 = 73 := by kernel_rfl
@[simp] theorem bod8 : bodied X 8 = true := by kernel_rfl
@[simp] theorem par8 : paramsOf X 8 = [22] := by kernel_rfl
@[simp] theorem nt9 : ntOf X 9 = 36 := by kernel_rfl
@[simp] theorem bod9 : bodied X 9 = true := by kernel_rfl
@[simp] theorem par9 : paramsOf X 9 = [22] := by kernel_rfl
@[simp] theorem nt10 : ntOf X 10 = 36 := by kernel_rfl
@[simp] theorem bod10 : bodied X 10 = true := by kernel_rfl
@[simp] theorem par10 : paramsOf X 10 = [22] := by kernel_rfl
@[simp] theorem nt11 : ntOf X 11 = 41 := by kernel_rfl
@[simp] theorem bod11 : bodied X 11 = true := by kernel_rfl
@[simp] theorem par11 : paramsOf X 11 = [22, 22] := by kernel_rfl
@[simp] theorem nt12 : ntOf X 12 = 23 := by kernel_rfl
@[simp] theorem bod12 : bodied X 12 = true := by kernel_rfl
@[simp] theorem par12 : paramsOf X 12 = [28] := by kernel_rfl
@[simp] theorem nt13 : ntOf X 13 = 16 := by kernel_rfl
@[simp] theorem bod13 : bodied X 13 = true := by kernel_rfl
@[simp] theorem par13 : paramsOf X 13 = [22, 3] := by kernel_rfl
@[simp] theorem nt14 : ntOf X 14 = 62 := by kernel_rfl
@[simp] theorem bod14 : bodied X 14 = true := by kernel_rfl
@[simp] theorem par14 : paramsOf X 14 = [22, 28] := by kernel_rfl
@[simp] theorem nt15 : ntOf X 15 = 29 := by kernel_rfl
@[simp] theorem bod15 : bodied X 15 = true := by kernel_rfl
@[simp] theorem par15 : paramsOf X 15 = [28] := by kernel_rfl
@[simp] theorem nt16 : ntOf X 16 = 14 := by kernel_rfl
@[simp] theorem bod16 : bodied X 16 = true := by kernel_rfl
@[simp] theorem par16 : paramsOf X 16 = [3, 3] := by kernel_rfl
@[simp] theorem nt17 : ntOf X 17 = 2 := by kernel_rfl
@[simp] theorem bod17 : bodied X 17 = true := by kernel_rfl
@[simp] theorem par17 : paramsOf X 17 = [] := by kernel_rfl
@[simp] theorem nt18 : ntOf X 18 = 10 := by kernel_rfl
@[simp] theorem bod18 : bodied X 18 = true := by kernel_rfl
@[simp] theorem par18 : paramsOf X 18 = [22, 22] := by kernel_rfl
@[simp] theorem nt19 : ntOf X 19 = 16 := by kernel_rfl
@[simp] theorem bod19 : bodied X 19 = true := by kernel_rfl
@[simp] theorem par19 : paramsOf X 19 = [44, 4] := by kernel_rfl
@[simp] theorem nt20 : ntOf X 20 = 43 := by kernel_rfl
@[simp] theorem bod20 : bodied X 20 = true := by kernel_rfl
@[simp] theorem par20 : paramsOf X 20 = [44] := by kernel_rfl
@[simp] theorem nt21 : ntOf X 21 = 37 := by kernel_rfl
@[simp] theorem bod21 : bodied X 21 = true := by kernel_rfl
@[simp] theorem par21 : paramsOf X 21 = [44, 3] := by kernel_rfl
@[simp] theorem nt22 : ntOf X 22 = 7 := by kernel_rfl
@[simp] theorem bod22 : bodied X 22 = true := by kernel_rfl
@[simp] theorem par22 : paramsOf X 22 = [5] := by kernel_rfl
@[simp] theorem nt23 : ntOf X 23 = 34 := by kernel_rfl
@[simp] theorem bod23 : bodied X 23 = true := by kernel_rfl
@[simp] theorem par23 : paramsOf X 23 = [54] := by kernel_rfl
@[simp] theorem nt24 : ntOf X 24 = 15 := by kernel_rfl
@[simp] theorem bod24 : bodied X 24 = true := by kernel_rfl
@[simp] theorem par24 : paramsOf X 24 = [54, 4] := by kernel_rfl
@[simp] theorem nt25 : ntOf X 25 = 12 := by kernel_rfl
@[simp] theorem bod25 : bodied X 25 = true := by kernel_rfl
@[simp] theorem par25 : paramsOf X 25 = [54] := by kernel_rfl
@[simp] theorem nt26 : ntOf X 26 = 7 := by kernel_rfl
@[simp] theorem bod26 : bodied X 26 = true := by kernel_rfl
@[simp] theorem par26 : paramsOf X 26 = [54] := by kernel_rfl
@[simp] theorem nt27 : ntOf X 27 = 16 := by kernel_rfl
@[simp] theorem bod27 : bodied X 27 = true := by kernel_rfl
@[simp] theorem par27 : paramsOf X 27 = [54, 3] := by kernel_rfl
@[simp] theorem nt28 : ntOf X 28 = 6 := by kernel_rfl
@[simp] theorem bod28 : bodied X 28 = true := by kernel_rfl
@[simp] theorem par28 : paramsOf X 28 = [5] := by kernel_rfl
@[simp] theorem nt29 : ntOf X 29 = 26 := by kernel_rfl
@[simp] theorem bod29 : bodied X 29 = true := by kernel_rfl
@[simp] theorem par29 : paramsOf X 29 = [54, 3] := by kernel_rfl
@[simp] theorem nt30 : ntOf X 30 = 15 := by kernel_rfl
@[simp] theorem bod30 : bodied X 30 = true := by kernel_rfl
@[simp] theorem par30 : paramsOf X 30 = [54] := by kernel_rfl
@[simp] theorem nt31 : ntOf X 31 = 38 := by kernel_rfl
@[simp] theorem bod31 : bodied X 31 = true := by kernel_rfl
@[simp] theorem par31 : paramsOf X 31 = [22] := by kernel_rfl
@[simp] theorem nt32 : ntOf X 32 = 15 := by kernel_rfl
@[simp] theorem bod32 : bodied X 32 = true := by kernel_rfl
@[simp] theorem par32 : paramsOf X 32 = [51] := by kernel_rfl
@[simp] theorem nt33 : ntOf X 33 = 51 := by kernel_rfl
@[simp] theorem bod33 : bodied X 33 = true := by kernel_rfl
@[simp] theorem par33 : paramsOf X 33 = [22] := by kernel_rfl
@[simp] theorem nt34 : ntOf X 34 = 9 := by kernel_rfl
@[simp] theorem bod34 : bodied X 34 = true := by kernel_rfl
@[simp] theorem par34 : paramsOf X 34 = [51] := by kernel_rfl
@[simp] theorem nt35 : ntOf X 35 = 29 := by kernel_rfl
@[simp] theorem bod35 : bodied X 35 = true := by kernel_rfl
@[simp] theorem par35 : paramsOf X 35 = [22, 51] := by kernel_rfl
@[simp] theorem nt36 : ntOf X 36 = 12 := by kernel_rfl
@[simp] theorem bod36 : bodied X 36 = true := by kernel_rfl
@[simp] theorem par36 : paramsOf X 36 = [22, 9] := by kernel_rfl
@[simp] theorem nt37 : ntOf X 37 = 17 := by kernel_rfl
@[simp] theorem bod37 : bodied X 37 = true := by kernel_rfl
@[simp] theorem par37 : paramsOf X 37 = [22, 51, 3] := by kernel_rfl
@[simp] theorem nt38 : ntOf X 38 = 34 := by kernel_rfl
@[simp] theorem bod38 : bodied X 38 = true := by kernel_rfl
@[simp] theorem par38 : paramsOf X 38 = [22] := by kernel_rfl
@[simp] theorem nt39 : ntOf X 39 = 34 := by kernel_rfl
@[simp] theorem bod39 : bodied X 39 = true := by kernel_rfl
@[simp] theorem par39 : paramsOf X 39 = [22, 3] := by kernel_rfl
@[simp] theorem nt40 : ntOf X 40 = 2 := by kernel_rfl
@[simp] theorem bod40 : bodied X 40 = true := by kernel_rfl
@[simp] theorem par40 : paramsOf X 40 = [] := by kernel_rfl
@[simp] theorem nt41 : ntOf X 41 = 36 := by kernel_rfl
@[simp] theorem bod41 : bodied X 41 = true := by kernel_rfl
@[simp] theorem par41 : paramsOf X 41 = [22] := by kernel_rfl
@[simp] theorem nt42 : ntOf X 42 = 48 := by kernel_rfl
@[simp] theorem bod42 : bodied X 42 = true := by kernel_rfl
@[simp] theorem par42 : paramsOf X 42 = [54, 3] := by kernel_rfl
@[simp] theorem nt43 : ntOf X 43 = 35 := by kernel_rfl
@[simp] theorem bod43 : bodied X 43 = true := by kernel_rfl
@[simp] theorem par43 : paramsOf X 43 = [22, 3] := by kernel_rfl
@[simp] theorem nt44 : ntOf X 44 = 27 := by kernel_rfl
@[simp] theorem bod44 : bodied X 44 = true := by kernel_rfl
@[simp] theorem par44 : paramsOf X 44 = [5] := by kernel_rfl
@[simp] theorem nt45 : ntOf X 45 = 13 := by kernel_rfl
@[simp] theorem bod45 : bodied X 45 = true := by kernel_rfl
@[simp] theorem par45 : paramsOf X 45 = [51] := by kernel_rfl
@[simp] theorem nt46 : ntOf X 46 = 8 := by kernel_rfl
@[simp] theorem bod46 : bodied X 46 = true := by kernel_rfl
@[simp] theorem par46 : paramsOf X 46 = [22] := by kernel_rfl
@[simp] theorem nt47 : ntOf X 47 = 43 := by kernel_rfl
@[simp] theorem bod47 : bodied X 47 = true := by kernel_rfl
@[simp] theorem par47 : paramsOf X 47 = [22, 51, 3] := by kernel_rfl
@[simp] theorem keep3_0 : X.keep 3 0 = some [0] := by kernel_rfl
@[simp] theorem keep3_1 : X.keep 3 1 = some [0, 13] := by kernel_rfl
@[simp] theorem keep3_2 : X.keep 3 2 = some [2] := by kernel_rfl
@[simp] theorem keep3_3 : X.keep 3 3 = some [0, 16] := by kernel_rfl
@[simp] theorem keep3_4 : X.keep 3 4 = some [2] := by kernel_rfl
@[simp] theorem keep3_5 : X.keep 3 5 = some [0, 3] := by kernel_rfl
@[simp] theorem keep3_6 : X.keep 3 6 = some [0, 3, 4, 5] := by kernel_rfl
@[simp] theorem keep3_7 : X.keep 3 7 = some [0, 3, 4, 5, 6, 7] := by kernel_rfl
@[simp] theorem keep3_8 : X.keep 3 8 = some [0, 3, 4, 5, 6, 7, 8, 9] := by kernel_rfl
@[simp] theorem keep3_9 : X.keep 3 9 = some [0, 3, 4, 5, 6, 7, 8, 9, 10, 11] := by kernel_rfl
@[simp] theorem keep3_10 : X.keep 3 10 = some [2] := by kernel_rfl
@[simp] theorem keep4_0 : X.keep 4 0 = some [1, 2, 3, 4] := by kernel_rfl
@[simp] theorem keep4_1 : X.keep 4 1 = some [1, 2, 3, 4, 21] := by kernel_rfl
@[simp] theorem keep4_2 : X.keep 4 2 = some [8] := by kernel_rfl
@[simp] theorem keep4_3 : X.keep 4 3 = some [1, 2, 3, 4, 24] := by kernel_rfl
@[simp] theorem keep4_4 : X.keep 4 4 = some [8] := by kernel_rfl
@[simp] theorem keep4_5 : X.keep 4 5 = some [1, 2, 3, 4, 9, 10] := by kernel_rfl
@[simp] theorem keep4_6 : X.keep 4 6 = some [1, 2, 3, 4, 9, 31] := by kernel_rfl
@[simp] theorem keep4_7 : X.keep 4 7 = some [1, 2, 3, 4, 11, 12] := by kernel_rfl
@[simp] theorem keep4_8 : X.keep 4 8 = some [2, 3, 4, 43] := by kernel_rfl
@[simp] theorem keep4_9 : X.keep 4 9 = some [8] := by kernel_rfl
@[simp] theorem keep4_10 : X.keep 4 10 = some [2, 3, 4, 10, 13] := by kernel_rfl
@[simp] theorem keep4_11 : X.keep 4 11 = some [2, 3, 4, 10, 13, 50] := by kernel_rfl
@[simp] theorem keep4_12 : X.keep 4 12 = some [8] := by kernel_rfl
@[simp] theorem keep4_13 : X.keep 4 13 = some [2, 3, 4, 13, 14, 15] := by kernel_rfl
@[simp] theorem keep4_14 : X.keep 4 14 = some [3, 4, 13, 14, 15, 17] := by kernel_rfl
@[simp] theorem keep4_15 : X.keep 4 15 = some [4, 14, 15, 17, 19] := by kernel_rfl
@[simp] theorem keep4_16 : X.keep 4 16 = some [8] := by kernel_rfl
@[simp] theorem keep5_0 : X.keep 5 0 = some [] := by kernel_rfl
@[simp] theorem keep5_1 : X.keep 5 1 = some [1, 2] := by kernel_rfl
@[simp] theorem keep5_2 : X.keep 5 2 = some [1, 2, 3, 4] := by kernel_rfl
@[simp] theorem keep5_3 : X.keep 5 3 = some [0] := by kernel_rfl
@[simp] theorem keep6_0 : X.keep 6 0 = some [0] := by kernel_rfl
@[simp] theorem keep6_1 : X.keep 6 1 = some [2] := by kernel_rfl
@[simp] theorem keep7_0 : X.keep 7 0 = some [0, 2] := by kernel_rfl
@[simp] theorem keep7_1 : X.keep 7 1 = some [2, 4] := by kernel_rfl
@[simp] theorem keep7_2 : X.keep 7 2 = some [2, 4] := by kernel_rfl
@[simp] theorem keep7_3 : X.keep 7 3 = some [2, 4, 5] := by kernel_rfl
@[simp] theorem keep7_4 : X.keep 7 4 = some [2, 4, 5, 21, 22, 23] := by kernel_rfl
@[simp] theorem keep7_5 : X.keep 7 5 = some [2, 4, 5, 21, 22, 23, 24] := by kernel_rfl
@[simp] theorem keep7_6 : X.keep 7 6 = some [2, 4, 5, 7, 21, 22, 23] := by kernel_rfl
@[simp] theorem keep7_7 : X.keep 7 7 = some [2, 4, 5, 21, 22, 23] := by kernel_rfl
@[simp] theorem keep7_8 : X.keep 7 8 = some [2, 4, 5, 21, 22, 23] := by kernel_rfl
@[simp] theorem keep7_9 : X.keep 7 9 = some [2, 4, 5] := by kernel_rfl
@[simp] theorem keep7_10 : X.keep 7 10 = some [2, 4, 5] := by kernel_rfl
@[simp] theorem keep7_11 : X.keep 7 11 = some [2, 4, 5] := by kernel_rfl
@[simp] theorem keep7_12 : X.keep 7 12 = some [2, 4, 5] := by kernel_rfl
@[simp] theorem keep7_13 : X.keep 7 13 = some [2, 4, 5] := by kernel_rfl
@[simp] theorem keep7_14 : X.keep 7 14 = some [2, 4, 5] := by kernel_rfl
@[simp] theorem keep7_15 : X.keep 7 15 = some [2, 4, 5] := by kernel_rfl
@[simp] theorem keep7_16 : X.keep 7 16 = some [2, 4, 5] := by kernel_rfl
@[simp] theorem keep7_17 : X.keep 7 17 = some [2, 4, 5] := by kernel_rfl
@[simp] theorem keep7_18 : X.keep 7 18 = some [2, 4, 5, 79] := by kernel_rfl
@[simp] theorem keep7_19 : X.keep 7 19 = some [2, 3] := by kernel_rfl
@[simp] theorem keep7_20 : X.keep 7 20 = some [2, 3] := by kernel_rfl
@[simp] theorem keep8_0 : X.keep 8 0 = some [0, 2] := by kernel_rfl
@[simp] theorem keep8_1 : X.keep 8 1 = some [2, 4] := by kernel_rfl
@[simp] theorem keep8_2 : X.keep 8 2 = some [2, 4, 5] := by kernel_rfl
@[simp] theorem keep8_3 : X.keep 8 3 = some [2, 4] := by kernel_rfl
@[simp] theorem keep8_4 : X.keep 8 4 = some [2, 4, 6] := by kernel_rfl
@[simp] theorem keep8_5 : X.keep 8 5 = some [2, 4, 6] := by kernel_rfl
@[simp] theorem keep8_6 : X.keep 8 6 = some [2, 4, 6] := by kernel_rfl
@[simp] theorem keep8_7 : X.keep 8 7 = some [2, 4, 6] := by kernel_rfl
@[simp] theorem keep8_8 : X.keep 8 8 = some [2, 4, 6] := by kernel_rfl
@[simp] theorem keep8_9 : X.keep 8 9 = some [2, 4, 6, 7] := by kernel_rfl
@[simp] theorem keep8_10 : X.keep 8 10 = some [2, 4, 6] := by kernel_rfl
@[simp] theorem keep8_11 : X.keep 8 11 = some [2, 4, 6] := by kernel_rfl
@[simp] theorem keep8_12 : X.keep 8 12 = some [2, 4, 6] := by kernel_rfl
@[simp] theorem keep8_13 : X.keep 8 13 = some [2, 4, 6] := by kernel_rfl
@[simp] theorem keep8_14 : X.keep 8 14 = some [2, 4, 6] := by kernel_rfl
@[simp] theorem keep8_15 : X.keep 8 15 = some [2, 4, 6] := by kernel_rfl
@[simp] theorem keep8_16 : X.keep 8 16 = some [2, 4, 6] := by kernel_rfl
@[simp] theorem keep8_17 : X.keep 8 17 = some [2, 4, 6] := by kernel_rfl
@[simp] theorem keep8_18 : X.keep 8 18 = some [2, 4, 6, 66] := by kernel_rfl
@[simp] theorem keep8_19 : X.keep 8 19 = some [2, 3] := by kernel_rfl
@[simp] theorem keep8_20 : X.keep 8 20 = some [2, 3] := by kernel_rfl
@[simp] theorem keep9_0 : X.keep 9 0 = some [0] := by kernel_rfl
@[simp] theorem keep9_1 : X.keep 9 1 = some [0, 4, 5, 6] := by kernel_rfl
@[simp] theorem keep9_2 : X.keep 9 2 = some [0, 4, 5, 6, 14] := by kernel_rfl
@[simp] theorem keep9_3 : X.keep 9 3 = some [2, 3] := by kernel_rfl
@[simp] theorem keep9_4 : X.keep 9 4 = some [4, 33] := by kernel_rfl
@[simp] theorem keep9_5 : X.keep 9 5 = some [2, 3] := by kernel_rfl
@[simp] theorem keep9_6 : X.keep 9 6 = some [2, 3] := by kernel_rfl
@[simp] theorem keep10_0 : X.keep 10 0 = some [0] := by kernel_rfl
@[simp] theorem keep10_1 : X.keep 10 1 = some [0, 4, 5, 6] := by kernel_rfl
@[simp] theorem keep10_2 : X.keep 10 2 = some [0, 4, 5, 6, 14] := by kernel_rfl
@[simp] theorem keep10_3 : X.keep 10 3 = some [2, 3] := by kernel_rfl
@[simp] theorem keep10_4 : X.keep 10 4 = some [4, 33] := by kernel_rfl
@[simp] theorem keep10_5 : X.keep 10 5 = some [2, 3] := by kernel_rfl
@[simp] theorem keep10_6 : X.keep 10 6 = some [2, 3] := by kernel_rfl
@[simp] theorem keep11_0 : X.keep 11 0 = some [0, 1] := by kernel_rfl
@[simp] theorem keep11_1 : X.keep 11 1 = some [0, 1, 18] := by kernel_rfl
@[simp] theorem keep11_2 : X.keep 11 2 = some [4] := by kernel_rfl
@[simp] theorem keep11_3 : X.keep 11 3 = some [5] := by kernel_rfl
@[simp] theorem keep11_4 : X.keep 11 4 = some [5, 6] := by kernel_rfl
@[simp] theorem keep11_5 : X.keep 11 5 = some [5, 6, 33] := by kernel_rfl
@[simp] theorem keep11_6 : X.keep 11 6 = some [5, 6] := by kernel_rfl
@[simp] theorem keep11_7 : X.keep 11 7 = some [5, 6, 40] := by kernel_rfl
@[simp] theorem keep11_8 : X.keep 11 8 = some [4] := by kernel_rfl
@[simp] theorem keep11_9 : X.keep 11 9 = some [4] := by kernel_rfl
@[simp] theorem keep12_0 : X.keep 12 0 = some [1] := by kernel_rfl
@[simp] theorem keep12_1 : X.keep 12 1 = some [2] := by kernel_rfl
@[simp] theorem keep13_0 : X.keep 13 0 = some [0, 1] := by kernel_rfl
@[simp] theorem keep13_1 : X.keep 13 1 = some [0, 1, 11] := by kernel_rfl
@[simp] theorem keep13_2 : X.keep 13 2 = some [4, 5] := by kernel_rfl
@[simp] theorem keep13_3 : X.keep 13 3 = some [4, 5] := by kernel_rfl
@[simp] theorem keep14_0 : X.keep 14 0 = some [0, 3] := by kernel_rfl
@[simp] theorem keep14_1 : X.keep 14 1 = some [0, 3, 6] := by kernel_rfl
@[simp] theorem keep14_2 : X.keep 14 2 = some [0, 3, 6, 13] := by kernel_rfl
@[simp] theorem keep14_3 : X.keep 14 3 = some [4, 5] := by kernel_rfl
@[simp] theorem keep14_4 : X.keep 14 4 = some [3, 7] := by kernel_rfl
@[simp] theorem keep14_5 : X.keep 14 5 = some [3, 7, 27, 28, 29] := by kernel_rfl
@[simp] theorem keep14_6 : X.keep 14 6 = some [3, 7, 27, 28, 29, 30] := by kernel_rfl
@[simp] theorem keep14_7 : X.keep 14 7 = some [3, 7, 9, 27, 28, 29] := by kernel_rfl
@[simp] theorem keep14_8 : X.keep 14 8 = some [3, 7, 27, 28, 29] := by kernel_rfl
@[simp] theorem keep14_9 : X.keep 14 9 = some [3, 7, 27, 28, 29] := by kernel_rfl
@[simp] theorem keep14_10 : X.keep 14 10 = some [3, 7] := by kernel_rfl
@[simp] theorem keep14_11 : X.keep 14 11 = some [3, 7] := by kernel_rfl
@[simp] theorem keep14_12 : X.keep 14 12 = some [4, 5] := by kernel_rfl
@[simp] theorem keep15_0 : X.keep 15 0 = some [1] := by kernel_rfl
@[simp] theorem keep15_1 : X.keep 15 1 = some [1, 15, 16, 17] := by kernel_rfl
@[simp] theorem keep15_2 : X.keep 15 2 = some [1, 15, 16, 17, 18] := by kernel_rfl
@[simp] theorem keep15_3 : X.keep 15 3 = some [1, 4, 15, 16, 17] := by kernel_rfl
@[simp] theorem keep15_4 : X.keep 15 4 = some [1, 15, 16, 17, 23] := by kernel_rfl
@[simp] theorem keep15_5 : X.keep 15 5 = some [2] := by kernel_rfl
@[simp] theorem keep15_6 : X.keep 15 6 = some [1, 15, 16, 17] := by kernel_rfl
@[simp] theorem keep15_7 : X.keep 15 7 = some [28] := by kernel_rfl
@[simp] theorem keep15_8 : X.keep 15 8 = some [2] := by kernel_rfl
@[simp] theorem keep15_9 : X.keep 15 9 = some [2] := by kernel_rfl
@[simp] theorem keep16_0 : X.keep 16 0 = some [0, 1] := by kernel_rfl
@[simp] theorem keep16_1 : X.keep 16 1 = some [0, 1] := by kernel_rfl
@[simp] theorem keep16_2 : X.keep 16 2 = some [0, 1, 9] := by kernel_rfl
@[simp] theorem keep16_3 : X.keep 16 3 = some [0] := by kernel_rfl
@[simp] theorem keep16_4 : X.keep 16 4 = some [4] := by kernel_rfl
@[simp] theorem keep17_0 : X.keep 17 0 = some [0] := by kernel_rfl
@[simp] theorem keep17_1 : X.keep 17 1 = some [0] := by kernel_rfl
@[simp] theorem keep18_0 : X.keep 18 0 = some [0, 1] := by kernel_rfl
@[simp] theorem keep18_1 : X.keep 18 1 = some [4] := by kernel_rfl
@[simp] theorem keep19_0 : X.keep 19 0 = some [0, 12] := by kernel_rfl
@[simp] theorem keep19_1 : X.keep 19 1 = some [] := by kernel_rfl
@[simp] theorem keep20_0 : X.keep 20 0 = some [0] := by kernel_rfl
@[simp] theorem keep20_1 : X.keep 20 1 = some [0, 10] := by kernel_rfl
@[simp] theorem keep20_2 : X.keep 20 2 = some [2] := by kernel_rfl
@[simp] theorem keep20_3 : X.keep 20 3 = some [0, 3, 4, 5] := by kernel_rfl
@[simp] theorem keep20_4 : X.keep 20 4 = some [0, 3, 4, 5, 26] := by kernel_rfl
@[simp] theorem keep20_5 : X.keep 20 5 = some [0, 3, 4, 5] := by kernel_rfl
@[simp] theorem keep20_6 : X.keep 20 6 = some [0, 3, 4, 5, 28] := by kernel_rfl
@[simp] theorem keep20_7 : X.keep 20 7 = some [] := by kernel_rfl
@[simp] theorem keep20_8 : X.keep 20 8 = some [2] := by kernel_rfl
@[simp] theorem keep20_9 : X.keep 20 9 = some [3] := by kernel_rfl
@[simp] theorem keep20_10 : X.keep 20 10 = some [2] := by kernel_rfl
@[simp] theorem keep21_0 : X.keep 21 0 = some [0, 1] := by kernel_rfl
@[simp] theorem keep21_1 : X.keep 21 1 = some [0, 1, 11] := by kernel_rfl
@[simp] theorem keep21_2 : X.keep 21 2 = some [4] := by kernel_rfl
@[simp] theorem keep21_3 : X.keep 21 3 = some [0, 1, 5, 6] := by kernel_rfl
@[simp] theorem keep21_4 : X.keep 21 4 = some [0, 1, 5, 6, 22] := by kernel_rfl
@[simp] theorem keep21_5 : X.keep 21 5 = some [] := by kernel_rfl
@[simp] theorem keep21_6 : X.keep 21 6 = some [4] := by kernel_rfl
@[simp] theorem keep21_7 : X.keep 21 7 = some [5] := by kernel_rfl
@[simp] theorem keep21_8 : X.keep 21 8 = some [4] := by kernel_rfl
@[simp] theorem keep22_0 : X.keep 22 0 = some [0] := by kernel_rfl
@[simp] theorem keep22_1 : X.keep 22 1 = some [2] := by kernel_rfl
@[simp] theorem keep23_0 : X.keep 23 0 = some [0] := by kernel_rfl
@[simp] theorem keep23_1 : X.keep 23 1 = some [0, 10] := by kernel_rfl
@[simp] theorem keep23_2 : X.keep 23 2 = some [2] := by kernel_rfl
@[simp] theorem keep23_3 : X.keep 23 3 = some [0, 3, 4, 5] := by kernel_rfl
@[simp] theorem keep23_4 : X.keep 23 4 = some [0, 3, 4] := by kernel_rfl
@[simp] theorem keep23_5 : X.keep 23 5 = some [3] := by kernel_rfl
@[simp] theorem keep23_6 : X.keep 23 6 = some [2] := by kernel_rfl
@[simp] theorem keep24_0 : X.keep 24 0 = some [0, 11] := by kernel_rfl
@[simp] theorem keep24_1 : X.keep 24 1 = some [] := by kernel_rfl
@[simp] theorem keep25_0 : X.keep 25 0 = some [0] := by kernel_rfl
@[simp] theorem keep25_1 : X.keep 25 1 = some [0, 3] := by kernel_rfl
@[simp] theorem keep25_2 : X.keep 25 2 = some [3] := by kernel_rfl
@[simp] theorem keep25_3 : X.keep 25 3 = some [2] := by kernel_rfl
@[simp] theorem keep26_0 : X.keep 26 0 = some [0] := by kernel_rfl
@[simp] theorem keep26_1 : X.keep 26 1 = some [2] := by kernel_rfl
@[simp] theorem keep27_0 : X.keep 27 0 = some [0, 1] := by kernel_rfl
@[simp] theorem keep27_1 : X.keep 27 1 = some [5] := by kernel_rfl
@[simp] theorem keep27_2 : X.keep 27 2 = some [4] := by kernel_rfl
@[simp] theorem keep28_0 : X.keep 28 0 = some [0] := by kernel_rfl
@[simp] theorem keep28_1 : X.keep 28 1 = some [2] := by kernel_rfl
@[simp] theorem keep29_0 : X.keep 29 0 = some [0, 1, 4] := by kernel_rfl
@[simp] theorem keep29_1 : X.keep 29 1 = some [0, 1, 4, 5] := by kernel_rfl
@[simp] theorem keep29_2 : X.keep 29 2 = some [0, 1, 4, 5, 6] := by kernel_rfl
@[simp] theorem keep29_3 : X.keep 29 3 = some [0, 1, 4, 5, 6, 12] := by kernel_rfl
@[simp] theorem keep29_4 : X.keep 29 4 = some [0, 1, 4, 5, 6] := by kernel_rfl
@[simp] theorem keep29_5 : X.keep 29 5 = some [0, 1, 4, 5, 6] := by kernel_rfl
@[simp] theorem keep29_6 : X.keep 29 6 = some [] := by kernel_rfl
@[simp] theorem keep30_0 : X.keep 30 0 = some [0] := by kernel_rfl
@[simp] theorem keep30_1 : X.keep 30 1 = some [0] := by kernel_rfl
@[simp] theorem keep30_2 : X.keep 30 2 = some [2] := by kernel_rfl
@[simp] theorem keep31_0 : X.keep 31 0 = some [0] := by kernel_rfl
@[simp] theorem keep31_1 : X.keep 31 1 = some [0, 8] := by kernel_rfl
@[simp] theorem keep31_2 : X.keep 31 2 = some [2, 3, 4] := by kernel_rfl
@[simp] theorem keep31_3 : X.keep 31 3 = some [0] := by kernel_rfl
@[simp] theorem keep31_4 : X.keep 31 4 = some [0, 11] := by kernel_rfl
@[simp] theorem keep31_5 : X.keep 31 5 = some [2, 3, 4] := by kernel_rfl
@[simp] theorem keep31_6 : X.keep 31 6 = some [0, 11, 16] := by kernel_rfl
@[simp] theorem keep31_7 : X.keep 31 7 = some [0, 5] := by kernel_rfl
@[simp] theorem keep31_8 : X.keep 31 8 = some [0, 11, 18] := by kernel_rfl
@[simp] theorem keep31_9 : X.keep 31 9 = some [0, 5] := by kernel_rfl
@[simp] theorem keep31_10 : X.keep 31 10 = some [0, 11, 20] := by kernel_rfl
@[simp] theorem keep31_11 : X.keep 31 11 = some [0, 5] := by kernel_rfl
@[simp] theorem keep31_12 : X.keep 31 12 = some [0, 11, 22] := by kernel_rfl
@[simp] theorem keep31_13 : X.keep 31 13 = some [0, 22] := by kernel_rfl
@[simp] theorem keep31_14 : X.keep 31 14 = some [2, 3, 4] := by kernel_rfl
@[simp] theorem keep31_15 : X.keep 31 15 = some [2, 4, 5] := by kernel_rfl
@[simp] theorem keep31_16 : X.keep 31 16 = some [2, 4, 5, 33] := by kernel_rfl
@[simp] theorem keep31_17 : X.keep 31 17 = some [2, 3, 4] := by kernel_rfl
@[simp] theorem keep31_18 : X.keep 31 18 = some [2, 3, 4] := by kernel_rfl
@[simp] theorem keep32_0 : X.keep 32 0 = some [0] := by kernel_rfl
@[simp] theorem keep32_1 : X.keep 32 1 = some [3, 4] := by kernel_rfl
@[simp] theorem keep32_2 : X.keep 32 2 = some [4, 11] := by kernel_rfl
@[simp] theorem keep32_3 : X.keep 32 3 = some [2] := by kernel_rfl
@[simp] theorem keep32_4 : X.keep 32 4 = some [2] := by kernel_rfl
@[simp] theorem keep33_0 : X.keep 33 0 = some [0] := by kernel_rfl
@[simp] theorem keep33_1 : X.keep 33 1 = some [0, 10] := by kernel_rfl
@[simp] theorem keep33_2 : X.keep 33 2 = some [2, 3, 4] := by kernel_rfl
@[simp] theorem keep33_3 : X.keep 33 3 = some [0, 14] := by kernel_rfl
@[simp] theorem keep33_4 : X.keep 33 4 = some [2, 3, 4] := by kernel_rfl
@[simp] theorem keep33_5 : X.keep 33 5 = some [0, 28] := by kernel_rfl
@[simp] theorem keep33_6 : X.keep 33 6 = some [2, 3, 4] := by kernel_rfl
@[simp] theorem keep33_7 : X.keep 33 7 = some [0, 5] := by kernel_rfl
@[simp] theorem keep33_8 : X.keep 33 8 = some [0, 5, 37] := by kernel_rfl
@[simp] theorem keep33_9 : X.keep 33 9 = some [0, 5] := by kernel_rfl
@[simp] theorem keep33_10 : X.keep 33 10 = some [5, 6, 7] := by kernel_rfl
@[simp] theorem keep33_11 : X.keep 33 11 = some [5, 6, 7, 46] := by kernel_rfl
@[simp] theorem keep33_12 : X.keep 33 12 = some [2, 3, 4] := by kernel_rfl
@[simp] theorem keep33_13 : X.keep 33 13 = some [2, 3, 4] := by kernel_rfl
@[simp] theorem keep34_0 : X.keep 34 0 = some [0] := by kernel_rfl
@[simp] theorem keep34_1 : X.keep 34 1 = some [0, 4] := by kernel_rfl
@[simp] theorem keep34_2 : X.keep 34 2 = some [2] := by kernel_rfl
@[simp] theorem keep34_3 : X.keep 34 3 = some [0, 6] := by kernel_rfl
@[simp] theorem keep34_4 : X.keep 34 4 = some [2] := by kernel_rfl
@[simp] theorem keep34_5 : X.keep 34 5 = some [8] := by kernel_rfl
@[simp] theorem keep34_6 : X.keep 34 6 = some [2] := by kernel_rfl
@[simp] theorem keep34_7 : X.keep 34 7 = some [2] := by kernel_rfl
@[simp] theorem keep35_0 : X.keep 35 0 = some [0, 1] := by kernel_rfl
@[simp] theorem keep35_1 : X.keep 35 1 = some [0, 1, 5, 6] := by kernel_rfl
@[simp] theorem keep35_2 : X.keep 35 2 = some [1, 5, 6, 7] := by kernel_rfl
@[simp] theorem keep35_3 : X.keep 35 3 = some [1, 5, 6, 7, 16] := by kernel_rfl
@[simp] theorem keep35_4 : X.keep 35 4 = some [1, 6, 7] := by kernel_rfl
@[simp] theorem keep35_5 : X.keep 35 5 = some [7] := by kernel_rfl
@[simp] theorem keep35_6 : X.keep 35 6 = some [4] := by kernel_rfl
@[simp] theorem keep36_0 : X.keep 36 0 = some [0, 1] := by kernel_rfl
@[simp] theorem keep36_1 : X.keep 36 1 = some [4] := by kernel_rfl
@[simp] theorem keep37_0 : X.keep 37 0 = some [0, 1, 2] := by kernel_rfl
@[simp] theorem keep37_1 : X.keep 37 1 = some [7] := by kernel_rfl
@[simp] theorem keep37_2 : X.keep 37 2 = some [6] := by kernel_rfl
@[simp] theorem keep38_0 : X.keep 38 0 = some [0] := by kernel_rfl
@[simp] theorem keep38_1 : X.keep 38 1 = some [0, 3, 4, 5] := by kernel_rfl
@[simp] theorem keep38_2 : X.keep 38 2 = some [0, 3, 4, 5, 13] := by kernel_rfl
@[simp] theorem keep38_3 : X.keep 38 3 = some [2, 3, 4] := by kernel_rfl
@[simp] theorem keep38_4 : X.keep 38 4 = some [0, 3, 5, 21] := by kernel_rfl
@[simp] theorem keep38_5 : X.keep 38 5 = some [2, 3, 4] := by kernel_rfl
@[simp] theorem keep38_6 : X.keep 38 6 = some [2, 3, 4] := by kernel_rfl
@[simp] theorem keep39_0 : X.keep 39 0 = some [0, 1] := by kernel_rfl
@[simp] theorem keep39_1 : X.keep 39 1 = some [0, 1, 13] := by kernel_rfl
@[simp] theorem keep39_2 : X.keep 39 2 = some [4, 5] := by kernel_rfl
@[simp] theorem keep39_3 : X.keep 39 3 = some [0, 1, 17] := by kernel_rfl
@[simp] theorem keep39_4 : X.keep 39 4 = some [4, 5] := by kernel_rfl
@[simp] theorem keep39_5 : X.keep 39 5 = some [0, 1, 6] := by kernel_rfl
@[simp] theorem keep39_6 : X.keep 39 6 = some [0, 6, 18, 19] := by kernel_rfl
@[simp] theorem keep39_7 : X.keep 39 7 = some [0, 6, 18, 19, 20] := by kernel_rfl
@[simp] theorem keep39_8 : X.keep 39 8 = some [0, 6, 7, 18, 19] := by kernel_rfl
@[simp] theorem keep39_9 : X.keep 39 9 = some [0, 6, 18, 19] := by kernel_rfl
@[simp] theorem keep39_10 : X.keep 39 10 = some [0, 6, 18, 19] := by kernel_rfl
@[simp] theorem keep39_11 : X.keep 39 11 = some [4, 5] := by kernel_rfl
@[simp] theorem keep40_0 : X.keep 40 0 = some [0] := by kernel_rfl
@[simp] theorem keep40_1 : X.keep 40 1 = some [0] := by kernel_rfl
@[simp] theorem keep41_0 : X.keep 41 0 = some [0] := by kernel_rfl
@[simp] theorem keep41_1 : X.keep 41 1 = some [0, 5, 6, 7] := by kernel_rfl
@[simp] theorem keep41_2 : X.keep 41 2 = some [0, 5, 6, 7, 15] := by kernel_rfl
@[simp] theorem keep41_3 : X.keep 41 3 = some [2, 3, 4] := by kernel_rfl
@[simp] theorem keep41_4 : X.keep 41 4 = some [0, 5, 6, 23] := by kernel_rfl
@[simp] theorem keep41_5 : X.keep 41 5 = some [2, 3, 4] := by kernel_rfl
@[simp] theorem keep41_6 : X.keep 41 6 = some [2, 3, 4] := by kernel_rfl
@[simp] theorem keep42_0 : X.keep 42 0 = some [0, 1] := by kernel_rfl
@[simp] theorem keep42_1 : X.keep 42 1 = some [0, 1, 19] := by kernel_rfl
@[simp] theorem keep42_2 : X.keep 42 2 = some [0, 1] := by kernel_rfl
@[simp] theorem keep42_3 : X.keep 42 3 = some [0, 1, 27] := by kernel_rfl
@[simp] theorem keep42_4 : X.keep 42 4 = some [4] := by kernel_rfl
@[simp] theorem keep42_5 : X.keep 42 5 = some [0, 1, 5] := by kernel_rfl
@[simp] theorem keep42_6 : X.keep 42 6 = some [5] := by kernel_rfl
@[simp] theorem keep42_7 : X.keep 42 7 = some [4] := by kernel_rfl
@[simp] theorem keep43_0 : X.keep 43 0 = some [0, 1] := by kernel_rfl
@[simp] theorem keep43_1 : X.keep 43 1 = some [0, 1, 13] := by kernel_rfl
@[simp] theorem keep43_2 : X.keep 43 2 = some [4, 5] := by kernel_rfl
@[simp] theorem keep43_3 : X.keep 43 3 = some [0, 1, 17] := by kernel_rfl
@[simp] theorem keep43_4 : X.keep 43 4 = some [4, 5] := by kernel_rfl
@[simp] theorem keep43_5 : X.keep 43 5 = some [0, 1, 6] := by kernel_rfl
@[simp] theorem keep43_6 : X.keep 43 6 = some [0, 1, 6, 7] := by kernel_rfl
@[simp] theorem keep43_7 : X.keep 43 7 = some [0, 1, 6, 7, 20] := by kernel_rfl
@[simp] theorem keep43_8 : X.keep 43 8 = some [0, 1, 6, 7] := by kernel_rfl
@[simp] theorem keep43_9 : X.keep 43 9 = some [0, 1, 6, 7] := by kernel_rfl
@[simp] theorem keep43_10 : X.keep 43 10 = some [4, 5] := by kernel_rfl
@[simp] theorem keep44_0 : X.keep 44 0 = some [0] := by kernel_rfl
@[simp] theorem keep44_1 : X.keep 44 1 = some [0, 3] := by kernel_rfl
@[simp] theorem keep44_2 : X.keep 44 2 = some [0, 3, 9] := by kernel_rfl
@[simp] theorem keep44_3 : X.keep 44 3 = some [2] := by kernel_rfl
@[simp] theorem keep44_4 : X.keep 44 4 = some [0, 14] := by kernel_rfl
@[simp] theorem keep44_5 : X.keep 44 5 = some [0, 14, 15] := by kernel_rfl
@[simp] theorem keep44_6 : X.keep 44 6 = some [2] := by kernel_rfl
@[simp] theorem keep44_7 : X.keep 44 7 = some [0, 17] := by kernel_rfl
@[simp] theorem keep44_8 : X.keep 44 8 = some [2] := by kernel_rfl
@[simp] theorem keep44_9 : X.keep 44 9 = some [0, 3] := by kernel_rfl
@[simp] theorem keep44_10 : X.keep 44 10 = some [0, 3, 21] := by kernel_rfl
@[simp] theorem keep44_11 : X.keep 44 11 = some [2] := by kernel_rfl
@[simp] theorem keep44_12 : X.keep 44 12 = some [2] := by kernel_rfl
@[simp] theorem keep45_0 : X.keep 45 0 = some [0] := by kernel_rfl
@[simp] theorem keep45_1 : X.keep 45 1 = some [0, 4] := by kernel_rfl
@[simp] theorem keep45_2 : X.keep 45 2 = some [2, 3] := by kernel_rfl
@[simp] theorem keep45_3 : X.keep 45 3 = some [0, 7] := by kernel_rfl
@[simp] theorem keep45_4 : X.keep 45 4 = some [2, 3] := by kernel_rfl
@[simp] theorem keep45_5 : X.keep 45 5 = some [10] := by kernel_rfl
@[simp] theorem keep45_6 : X.keep 45 6 = some [2, 3] := by kernel_rfl
@[simp] theorem keep45_7 : X.keep 45 7 = some [2, 3] := by kernel_rfl
@[simp] theorem keep46_0 : X.keep 46 0 = some [0] := by kernel_rfl
@[simp] theorem keep46_1 : X.keep 46 1 = some [0, 4] := by kernel_rfl
@[simp] theorem keep46_2 : X.keep 46 2 = some [2] := by kernel_rfl
@[simp] theorem keep46_3 : X.keep 46 3 = some [2] := by kernel_rfl
@[simp] theorem keep47_0 : X.keep 47 0 = some [0, 1, 2] := by kernel_rfl
@[simp] theorem keep47_1 : X.keep 47 1 = some [0, 1, 2, 26] := by kernel_rfl
@[simp] theorem keep47_2 : X.keep 47 2 = some [6, 7] := by kernel_rfl
@[simp] theorem keep47_3 : X.keep 47 3 = some [1, 2, 8] := by kernel_rfl
@[simp] theorem keep47_4 : X.keep 47 4 = some [1, 8, 29, 30] := by kernel_rfl
@[simp] theorem keep47_5 : X.keep 47 5 = some [1, 8, 29, 30, 31] := by kernel_rfl
@[simp] theorem keep47_6 : X.keep 47 6 = some [1, 8, 9, 29, 30] := by kernel_rfl
@[simp] theorem keep47_7 : X.keep 47 7 = some [1, 8, 29, 30] := by kernel_rfl
@[simp] theorem keep47_8 : X.keep 47 8 = some [1, 8, 29, 30] := by kernel_rfl
@[simp] theorem keep47_9 : X.keep 47 9 = some [6, 7] := by kernel_rfl
@[simp] theorem dy7_19 : X.dy 7 19 = true := by kernel_rfl
@[simp] theorem dy8_19 : X.dy 8 19 = true := by kernel_rfl
@[simp] theorem dy14_10 : X.dy 14 10 = true := by kernel_rfl
@[simp] theorem dy14_11 : X.dy 14 11 = true := by kernel_rfl
@[simp] theorem dy14_12 : X.dy 14 12 = true := by kernel_rfl
@[simp] theorem size0 : sizeT X 0 = 1 := by kernel_rfl
@[simp] theorem bytes0 : bytesT X 0 = 0 := by kernel_rfl
@[simp] theorem okT0 : okT X 0 = true := by kernel_rfl
@[simp] theorem isAgg0 : isAggT X 0 = false := by kernel_rfl
@[simp] theorem isInt0 : isIntT X 0 = false := by kernel_rfl
@[simp] theorem isArr0 : isArrT X 0 = false := by kernel_rfl
@[simp] theorem isU80 : isU8 X 0 = false := by kernel_rfl
@[simp] theorem zok0 : zeroOk X 0 = true := by kernel_rfl
@[simp] theorem und3 : und X 3 = .int .i64 := by kernel_rfl
@[simp] theorem size3 : sizeT X 3 = 1 := by kernel_rfl
@[simp] theorem bytes3 : bytesT X 3 = 8 := by kernel_rfl
@[simp] theorem okT3 : okT X 3 = true := by kernel_rfl
@[simp] theorem isAgg3 : isAggT X 3 = false := by kernel_rfl
@[simp] theorem isInt3 : isIntT X 3 = true := by kernel_rfl
@[simp] theorem isArr3 : isArrT X 3 = false := by kernel_rfl
@[simp] theorem isU83 : isU8 X 3 = false := by kernel_rfl
@[simp] theorem zok3 : zeroOk X 3 = true := by kernel_rfl
@[simp] theorem zero3 : zeroAV X 3 = .int .i64 0 := by kernel_rfl
@[simp] theorem und4 : und X 4 = .bool := by kernel_rfl
@[simp] theorem size4 : sizeT X 4 = 1 := by kernel_rfl
@[simp] theorem bytes4 : bytesT X 4 = 1 := by kernel_rfl
@[simp] theorem okT4 : okT X 4 = true := by kernel_rfl
@[simp] theorem isAgg4 : isAggT X 4 = false := by kernel_rfl
@[simp] theorem isInt4 : isIntT X 4 = false := by kernel_rfl
@[simp] theorem isArr4 : isArrT X 4 = false := by kernel_rfl
@[simp] theorem isU84 : isU8 X 4 = false := by kernel_rfl
@[simp] theorem zok4 : zeroOk X 4 = true := by kernel_rfl
@[simp] theorem zero4 : zeroAV X 4 = .bool false := by kernel_rfl
@[simp] theorem und5 : und X 5 = .int .u8 := by kernel_rfl
@[simp] theorem size5 : sizeT X 5 = 1 := by kernel_rfl
@[simp] theorem bytes5 : bytesT X 5 = 1 := by kernel_rfl
@[simp] theorem okT5 : okT X 5 = true := by kernel_rfl
@[simp] theorem isAgg5 : isAggT X 5 = false := by kernel_rfl
@[simp] theorem isInt5 : isIntT X 5 = true := by kernel_rfl
@[simp] theorem isArr5 : isArrT X 5 = false := by kernel_rfl
@[simp] theorem isU85 : isU8 X 5 = true := by kernel_rfl
@[simp] theorem zok5 : zeroOk X 5 = true := by kernel_rfl
@[simp] theorem zero5 : zeroAV X 5 = .int .u8 0 := by kernel_rfl
@[simp] theorem und9 : und X 9 = .string := by kernel_rfl
@[simp] theorem size9 : sizeT X 9 = 1 := by kernel_rfl
@[simp] theorem bytes9 : bytesT X 9 = 16 := by kernel_rfl
@[simp] theorem okT9 : okT X 9 = true := by kernel_rfl
@[simp] theorem isAgg9 : isAggT X 9 = false := by kernel_rfl
@[simp] theorem isInt9 : isIntT X 9 = false := by kernel_rfl
@[simp] theorem isArr9 : isArrT X 9 = false := by kernel_rfl
@[simp] theorem isU89 : isU8 X 9 = false := by kernel_rfl
@[simp] theorem zok9 : zeroOk X 9 = true := by kernel_rfl
@[simp] theorem zero9 : zeroAV X 9 = .str [] := by kernel_rfl
@[simp] theorem und22 : und X 22 = .slice 5 := by kernel_rfl
@[simp] theorem size22 : sizeT X 22 = 1 := by kernel_rfl
@[simp] theorem bytes22 : bytesT X 22 = 24 := by kernel_rfl
@[simp] theorem okT22 : okT X 22 = true := by kernel_rfl
@[simp] theorem isAgg22 : isAggT X 22 = false := by kernel_rfl
@[simp] theorem isInt22 : isIntT X 22 = false := by kernel_rfl
@[simp] theorem isArr22 : isArrT X 22 = false := by kernel_rfl
@[simp] theorem isU822 : isU8 X 22 = false := by kernel_rfl
@[simp] theorem zok22 : zeroOk X 22 = true := by kernel_rfl
@[simp] theorem zero22 : zeroAV X 22 = .ro 0 .pn 0 := by kernel_rfl
@[simp] theorem und25 : und X 25 = .int .u16 := by kernel_rfl
@[simp] theorem size25 : sizeT X 25 = 1 := by kernel_rfl
@[simp] theorem bytes25 : bytesT X 25 = 2 := by kernel_rfl
@[simp] theorem okT25 : okT X 25 = true := by kernel_rfl
@[simp] theorem isAgg25 : isAggT X 25 = false := by kernel_rfl
@[simp] theorem isInt25 : isIntT X 25 = true := by kernel_rfl
@[simp] theorem isArr25 : isArrT X 25 = false := by kernel_rfl
@[simp] theorem isU825 : isU8 X 25 = false := by kernel_rfl
@[simp] theorem zok25 : zeroOk X 25 = true := by kernel_rfl
@[simp] theorem zero25 : zeroAV X 25 = .int .u16 0 := by kernel_rfl
@[simp] theorem und26 : und X 26 = .int .u32 := by kernel_rfl
@[simp] theorem size26 : sizeT X 26 = 1 := by kernel_rfl
@[simp] theorem bytes26 : bytesT X 26 = 4 := by kernel_rfl
@[simp] theorem okT26 : okT X 26 = true := by kernel_rfl
@[simp] theorem isAgg26 : isAggT X 26 = false := by kernel_rfl
@[simp] theorem isInt26 : isIntT X 26 = true := by kernel_rfl
@[simp] theorem isArr26 : isArrT X 26 = false := by kernel_rfl
@[simp] theorem isU826 : isU8 X 26 = false := by kernel_rfl
@[simp] theorem zok26 : zeroOk X 26 = true := by kernel_rfl
@[simp] theorem zero26 : zeroAV X 26 = .int .u32 0 := by kernel_rfl
@[simp] theorem size28 : sizeT X 28 = 10 := by kernel_rfl
@[simp] theorem bytes28 : bytesT X 28 = 96 := by kernel_rfl
@[simp] theorem okT28 : okT X 28 = true := by kernel_rfl
@[simp] theorem isAgg28 : isAggT X 28 = true := by kernel_rfl
@[simp] theorem isInt28 : isIntT X 28 = false := by kernel_rfl
@[simp] theorem isArr28 : isArrT X 28 = false := by kernel_rfl
@[simp] theorem isU828 : isU8 X 28 = false := by kernel_rfl
@[simp] theorem zok28 : zeroOk X 28 = true := by kernel_rfl
@[simp] theorem zero28 : zeroAV X 28 = .agg (.pc [.str [], .str [], .str [], .str [], .str [], .int .u16 0, .int .u32 0, .int .u8 0, .int .u16 0, .int .u8 0]) := by kernel_rfl
@[simp] theorem und29 : und X 29 = .int .i64 := by kernel_rfl
@[simp] theorem size29 : sizeT X 29 = 1 := by kernel_rfl
@[simp] theorem bytes29 : bytesT X 29 = 8 := by kernel_rfl
@[simp] theorem okT29 : okT X 29 = true := by kernel_rfl
@[simp] theorem isAgg29 : isAggT X 29 = false := by kernel_rfl
@[simp] theorem isInt29 : isIntT X 29 = true := by kernel_rfl
@[simp] theorem isArr29 : isArrT X 29 = false := by kernel_rfl
@[simp] theorem isU829 : isU8 X 29 = false := by kernel_rfl
@[simp] theorem zok29 : zeroOk X 29 = true := by kernel_rfl
@[simp] theorem zero29 : zeroAV X 29 = .int .i64 0 := by kernel_rfl
@[simp] theorem size30 : sizeT X 30 = 1 := by kernel_rfl
@[simp] theorem bytes30 : bytesT X 30 = 0 := by kernel_rfl
@[simp] theorem okT30 : okT X 30 = true := by kernel_rfl
@[simp] theorem isAgg30 : isAggT X 30 = false := by kernel_rfl
@[simp] theorem isInt30 : isIntT X 30 = false := by kernel_rfl
@[simp] theorem isArr30 : isArrT X 30 = false := by kernel_rfl
@[simp] theorem isU830 : isU8 X 30 = false := by kernel_rfl
@[simp] theorem zok30 : zeroOk X 30 = true := by kernel_rfl
@[simp] theorem size32 : sizeT X 32 = 1 := by kernel_rfl
@[simp] theorem bytes32 : bytesT X 32 = 0 := by kernel_rfl
@[simp] theorem okT32 : okT X 32 = true := by kernel_rfl
@[simp] theorem isAgg32 : isAggT X 32 = false := by kernel_rfl
@[simp] theorem isInt32 : isIntT X 32 = false := by kernel_rfl
@[simp] theorem isArr32 : isArrT X 32 = false := by kernel_rfl
@[simp] theorem isU832 : isU8 X 32 = false := by kernel_rfl
@[simp] theorem zok32 : zeroOk X 32 = true := by kernel_rfl
@[simp] theorem size37 : sizeT X 37 = 1 := by kernel_rfl
@[simp] theorem bytes37 : bytesT X 37 = 0 := by kernel_rfl
@[simp] theorem okT37 : okT X 37 = true := by kernel_rfl
@[simp] theorem isAgg37 : isAggT X 37 = false := by kernel_rfl
@[simp] theorem isInt37 : isIntT X 37 = false := by kernel_rfl
@[simp] theorem isArr37 : isArrT X 37 = false := by kernel_rfl
@[simp] theorem isU837 : isU8 X 37 = false := by kernel_rfl
@[simp] theorem zok37 : zeroOk X 37 = true := by kernel_rfl
@[simp] theorem und44 : und X 44 = .pointer 46 := by kernel_rfl
@[simp] theorem size44 : sizeT X 44 = 1 := by kernel_rfl
@[simp] theorem bytes44 : bytesT X 44 = 8 := by kernel_rfl
@[simp] theorem okT44 : okT X 44 = true := by kernel_rfl
@[simp] theorem isAgg44 : isAggT X 44 = false := by kernel_rfl
@[simp] theorem isInt44 : isIntT X 44 = false := by kernel_rfl
@[simp] theorem isArr44 : isArrT X 44 = false := by kernel_rfl
@[simp] theorem isU844 : isU8 X 44 = false := by kernel_rfl
@[simp] theorem zok44 : zeroOk X 44 = true := by kernel_rfl
@[simp] theorem zero44 : zeroAV X 44 = .nilptr := by kernel_rfl
@[simp] theorem size46 : sizeT X 46 = 2 := by kernel_rfl
@[simp] theorem bytes46 : bytesT X 46 = 32 := by kernel_rfl
@[simp] theorem okT46 : okT X 46 = true := by kernel_rfl
@[simp] theorem isAgg46 : isAggT X 46 = true := by kernel_rfl
@[simp] theorem isInt46 : isIntT X 46 = false := by kernel_rfl
@[simp] theorem isArr46 : isArrT X 46 = false := by kernel_rfl
@[simp] theorem isU846 : isU8 X 46 = false := by kernel_rfl
@[simp] theorem zok46 : zeroOk X 46 = true := by kernel_rfl
@[simp] theorem zero46 : zeroAV X 46 = .agg (.pc [.ro 0 .pn 0, .int .i64 0]) := by kernel_rfl
@[simp] theorem und49 : und X 49 = .pointer 9 := by kernel_rfl
@[simp] theorem size49 : sizeT X 49 = 1 := by kernel_rfl
@[simp] theorem bytes49 : bytesT X 49 = 8 := by kernel_rfl
@[simp] theorem okT49 : okT X 49 = true := by kernel_rfl
@[simp] theorem isAgg49 : isAggT X 49 = false := by kernel_rfl
@[simp] theorem isInt49 : isIntT X 49 = false := by kernel_rfl
@[simp] theorem isArr49 : isArrT X 49 = false := by kernel_rfl
@[simp] theorem isU849 : isU8 X 49 = false := by kernel_rfl
@[simp] theorem zok49 : zeroOk X 49 = true := by kernel_rfl
@[simp] theorem zero49 : zeroAV X 49 = .nilptr := by kernel_rfl
@[simp] theorem und50 : und X 50 = .slice 49 := by kernel_rfl
@[simp] theorem size50 : sizeT X 50 = 1 := by kernel_rfl
@[simp] theorem bytes50 : bytesT X 50 = 24 := by kernel_rfl
@[simp] theorem okT50 : okT X 50 = true := by kernel_rfl
@[simp] theorem isAgg50 : isAggT X 50 = false := by kernel_rfl
@[simp] theorem isInt50 : isIntT X 50 = false := by kernel_rfl
@[simp] theorem isArr50 : isArrT X 50 = false := by kernel_rfl
@[simp] theorem isU850 : isU8 X 50 = false := by kernel_rfl
@[simp] theorem zok50 : zeroOk X 50 = true := by kernel_rfl
@[simp] theorem zero50 : zeroAV X 50 = .ro 0 .pn 0 := by kernel_rfl
@[simp] theorem und51 : und X 51 = .int .u64 := by kernel_rfl
@[simp] theorem size51 : sizeT X 51 = 1 := by kernel_rfl
@[simp] theorem bytes51 : bytesT X 51 = 8 := by kernel_rfl
@[simp] theorem okT51 : okT X 51 = true := by kernel_rfl
@[simp] theorem isAgg51 : isAggT X 51 = false := by kernel_rfl
@[simp] theorem isInt51 : isIntT X 51 = true := by kernel_rfl
@[simp] theorem isArr51 : isArrT X 51 = false := by kernel_rfl
@[simp] theorem isU851 : isU8 X 51 = false := by kernel_rfl
@[simp] theorem zok51 : zeroOk X 51 = true := by kernel_rfl
@[simp] theorem zero51 : zeroAV X 51 = .int .u64 0 := by kernel_rfl
@[simp] theorem und54 : und X 54 = .pointer 56 := by kernel_rfl
@[simp] theorem size54 : sizeT X 54 = 1 := by kernel_rfl
@[simp] theorem bytes54 : bytesT X 54 = 8 := by kernel_rfl
@[simp] theorem okT54 : okT X 54 = true := by kernel_rfl
@[simp] theorem isAgg54 : isAggT X 54 = false := by kernel_rfl
@[simp] theorem isInt54 : isIntT X 54 = false := by kernel_rfl
@[simp] theorem isArr54 : isArrT X 54 = false := by kernel_rfl
@[simp] theorem isU854 : isU8 X 54 = false := by kernel_rfl
@[simp] theorem zok54 : zeroOk X 54 = true := by kernel_rfl
@[simp] theorem zero54 : zeroAV X 54 = .nilptr := by kernel_rfl
@[simp] theorem size56 : sizeT X 56 = 2 := by kernel_rfl
@[simp] theorem bytes56 : bytesT X 56 = 32 := by kernel_rfl
@[simp] theorem okT56 : okT X 56 = true := by kernel_rfl
@[simp] theorem isAgg56 : isAggT X 56 = true := by kernel_rfl
@[simp] theorem isInt56 : isIntT X 56 = false := by kernel_rfl
@[simp] theorem isArr56 : isArrT X 56 = false := by kernel_rfl
@[simp] theorem isU856 : isU8 X 56 = false := by kernel_rfl
@[simp] theorem zok56 : zeroOk X 56 = true := by kernel_rfl
@[simp] theorem zero56 : zeroAV X 56 = .agg (.pc [.ro 0 .pn 0, .int .i64 0]) := by kernel_rfl
@[simp] theorem size61 : sizeT X 61 = 1 := by kernel_rfl
@[simp] theorem bytes61 : bytesT X 61 = 0 := by kernel_rfl
@[simp] theorem okT61 : okT X 61 = true := by kernel_rfl
@[simp] theorem isAgg61 : isAggT X 61 = false := by kernel_rfl
@[simp] theorem isInt61 : isIntT X 61 = false := by kernel_rfl
@[simp] theorem isArr61 : isArrT X 61 = false := by kernel_rfl
@[simp] theorem isU861 : isU8 X 61 = false := by kernel_rfl
@[simp] theorem zok61 : zeroOk X 61 = true := by kernel_rfl
@[simp] theorem und66 : und X 66 = .slice 9 := by kernel_rfl
@[simp] theorem size66 : sizeT X 66 = 1 := by kernel_rfl
@[simp] theorem bytes66 : bytesT X 66 = 24 := by kernel_rfl
@[simp] theorem okT66 : okT X 66 = true := by kernel_rfl
@[simp] theorem isAgg66 : isAggT X 66 = false := by kernel_rfl
@[simp] theorem isInt66 : isIntT X 66 = false := by kernel_rfl
@[simp] theorem isArr66 : isArrT X 66 = false := by kernel_rfl
@[simp] theorem isU866 : isU8 X 66 = false := by kernel_rfl
@[simp] theorem zok66 : zeroOk X 66 = true := by kernel_rfl
@[simp] theorem zero66 : zeroAV X 66 = .ro 0 .pn 0 := by kernel_rfl
@[simp] theorem size68 : sizeT X 68 = 1 := by kernel_rfl
@[simp] theorem bytes68 : bytesT X 68 = 0 := by kernel_rfl
@[simp] theorem okT68 : okT X 68 = true := by kernel_rfl
@[simp] theorem isAgg68 : isAggT X 68 = false := by kernel_rfl
@[simp] theorem isInt68 : isIntT X 68 = false := by kernel_rfl
@[simp] theorem isArr68 : isArrT X 68 = false := by kernel_rfl
@[simp] theorem isU868 : isU8 X 68 = false := by kernel_rfl
@[simp] theorem zok68 : zeroOk X 68 = true := by kernel_rfl
@[simp] theorem size70 : sizeT X 70 = 1 := by kernel_rfl
@[simp] theorem bytes70 : bytesT X 70 = 0 := by kernel_rfl
@[simp] theorem okT70 : okT X 70 = true := by kernel_rfl
@[simp] theorem isAgg70 : isAggT X 70 = false := by kernel_rfl
@[simp] theorem isInt70 : isIntT X 70 = false := by kernel_rfl
@[simp] theorem isArr70 : isArrT X 70 = false := by kernel_rfl
@[simp] theorem isU870 : isU8 X 70 = false := by kernel_rfl
@[simp] theorem zok70 : zeroOk X 70 = true := by kernel_rfl
@[simp] theorem und72 : und X 72 = .array 256 9 := by kernel_rfl
@[simp] theorem size72 : sizeT X 72 = 256 := by kernel_rfl
@[simp] theorem bytes72 : bytesT X 72 = 4096 := by kernel_rfl
@[simp] theorem okT72 : okT X 72 = true := by kernel_rfl
@[simp] theorem isAgg72 : isAggT X 72 = true := by kernel_rfl
@[simp] theorem isInt72 : isIntT X 72 = false := by kernel_rfl
@[simp] theorem isArr72 : isArrT X 72 = true := by kernel_rfl
@[simp] theorem isU872 : isU8 X 72 = false := by kernel_rfl
@[simp] theorem zok72 : zeroOk X 72 = true := by kernel_rfl
@[simp] theorem zero72 : zeroAV X 72 = .agg (.pc [.str [], .str [], .str [], .str [], .str [], .str [], .str [], .str [], .str [], .str [], .str [], .str [], .str [], .str [], .str [], .str [], .str [], .str [], .str [], .str [], .str [], .str [], .str [], .str [], .str [], .str [], .str [], .str [], .str [], .str [], .str [], .str [], .str [], .str [], .str [], .str [], .str [], .str [], .str [], .str [], .str [], .str [], .str [], .str [], .str [], .str [], .str [], .str [], .str [], .str [], .str [], .str [], .str [], .str [], .str [], .str [], .str [], .str [], .str [], .str [], .str [], .str [], .str [], .str [], .str [], .str [], .str [], .str [], .str [], .str [], .str [], .str [], .str [], .str [], .str [], .str [], .str [], .str [], .str [], .str [], .str [], .str [], .str [], .str [], .str [], .str [], .str [], .str [], .str [], .str [], .str [], .str [], .str [], .str [], .str [], .str [], .str [], .str [], .str [], .str [], .str [], .str [], .str [], .str [], .str [], .str [], .str [], .str [], .str [], .str [], .str [], .str [], .str [], .str [], .str [], .str [], .str [], .str [], .str [], .str [], .str [], .str [], .str [], .str [], .str [], .str [], .str [], .str [], .str [], .str [], .str [], .str [], .str [], .str [], .str [], .str [], .str [], .str [], .str [], .str [], .str [], .str [], .str [], .str [], .str [], .str [], .str [], .str [], .str [], .str [], .str [], .str [], .str [], .str [], .str [], .str [], .str [], .str [], .str [], .str [], .str [], .str [], .str [], .str [], .str [], .str [], .str [], .str [], .str [], .str [], .str [], .str [], .str [], .str [], .str [], .str [], .str [], .str [], .str [], .str [], .str [], .str [], .str [], .str [], .str [], .str [], .str [], .str [], .str [], .str [], .str [], .str [], .str [], .str [], .str [], .str [], .str [], .str [], .str [], .str [], .str [], .str [], .str [], .str [], .str [], .str [], .str [], .str [], .str [], .str [], .str [], .str [], .str [], .str [], .str [], .str [], .str [], .str [], .str [], .str [], .str [], .str [], .str [], .str [], .str [], .str [], .str [], .str [], .str [], .str [], .str [], .str [], .str [], .str [], .str [], .str [], .str [], .str [], .str [], .str [], .str [], .str [], .str [], .str [], .str [], .str [], .str [], .str [], .str [], .str [], .str [], .str [], .str [], .str [], .str [], .str []]) := by kernel_rfl
@[simp] theorem size76 : sizeT X 76 = 1 := by kernel_rfl
@[simp] theorem bytes76 : bytesT X 76 = 0 := by kernel_rfl
@[simp] theorem okT76 : okT X 76 = true := by kernel_rfl
@[simp] theorem isAgg76 : isAggT X 76 = false := by kernel_rfl
@[simp] theorem isInt76 : isIntT X 76 = false := by kernel_rfl
@[simp] theorem isArr76 : isArrT X 76 = false := by kernel_rfl
@[simp] theorem isU876 : isU8 X 76 = false := by kernel_rfl
@[simp] theorem zok76 : zeroOk X 76 = true := by kernel_rfl
@[simp] theorem und79 : und X 79 = .int .u64 := by kernel_rfl
@[simp] theorem size79 : sizeT X 79 = 1 := by kernel_rfl
@[simp] theorem bytes79 : bytesT X 79 = 8 := by kernel_rfl
@[simp] theorem okT79 : okT X 79 = true := by kernel_rfl
@[simp] theorem isAgg79 : isAggT X 79 = false := by kernel_rfl
@[simp] theorem isInt79 : isIntT X 79 = true := by kernel_rfl
@[simp] theorem isArr79 : isArrT X 79 = false := by kernel_rfl
@[simp] theorem isU879 : isU8 X 79 = false := by kernel_rfl
@[simp] theorem zok79 : zeroOk X 79 = true := by kernel_rfl
@[simp] theorem zero79 : zeroAV X 79 = .int .u64 0 := by kernel_rfl
@[simp] theorem fa28_0 (H : AM.Heap) (x : AV) : fieldAddrV X H 28 x 0 = faV H x 0 := fieldAddr_of (ty := 9) (by kernel_rfl) (by kernel_rfl) H x
@[simp] theorem fv28_0 (x : AV) : fieldV X 28 x 0 = fvV X x 0 9 := field_of (by kernel_rfl) x
@[simp] theorem fa28_1 (H : AM.Heap) (x : AV) : fieldAddrV X H 28 x 1 = faV H x 1 := fieldAddr_of (ty := 9) (by kernel_rfl) (by kernel_rfl) H x
@[simp] theorem fv28_1 (x : AV) : fieldV X 28 x 1 = fvV X x 1 9 := field_of (by kernel_rfl) x
@[simp] theorem fa28_2 (H : AM.Heap) (x : AV) : fieldAddrV X H 28 x 2 = faV H x 2 := fieldAddr_of (ty := 9) (by kernel_rfl) (by kernel_rfl) H x
@[simp] theorem fv28_2 (x : AV) : fieldV X 28 x 2 = fvV X x 2 9 := field_of (by kernel_rfl) x
@[simp] theorem fa28_3 (H : AM.Heap) (x : AV) : fieldAddrV X H 28 x 3 = faV H x 3 := fieldAddr_of (ty := 9) (by kernel_rfl) (by kernel_rfl) H x
@[simp] theorem fv28_3 (x : AV) : fieldV X 28 x 3 = fvV X x 3 9 := field_of (by kernel_rfl) x
@[simp] theorem fa28_4 (H : AM.Heap) (x : AV) : fieldAddrV X H 28 x 4 = faV H x 4 := fieldAddr_of (ty := 9) (by kernel_rfl) (by kernel_rfl) H x
@[simp] theorem fv28_4 (x : AV) : fieldV X 28 x 4 = fvV X x 4 9 := field_of (by kernel_rfl) x
@[simp] theorem fa28_5 (H : AM.Heap) (x : AV) : fieldAddrV X H 28 x 5 = faV H x 5 := fieldAddr_of (ty := 25) (by kernel_rfl) (by kernel_rfl) H x
@[simp] theorem fv28_5 (x : AV) : fieldV X 28 x 5 = fvV X x 5 25 := field_of (by kernel_rfl) x
@[simp] theorem fa28_6 (H : AM.Heap) (x : AV) : fieldAddrV X H 28 x 6 = faV H x 6 := fieldAddr_of (ty := 26) (by kernel_rfl) (by kernel_rfl) H x
@[simp] theorem fv28_6 (x : AV) : fieldV X 28 x 6 = fvV X x 6 26 := field_of (by kernel_rfl) x
@[simp] theorem fa28_7 (H : AM.Heap) (x : AV) : fieldAddrV X H 28 x 7 = faV H x 7 := fieldAddr_of (ty := 5) (by kernel_rfl) (by kernel_rfl) H x
@[simp] theorem fv28_7 (x : AV) : fieldV X 28 x 7 = fvV X x 7 5 := field_of (by kernel_rfl) x
@[simp] theorem fa28_8 (H : AM.Heap) (x : AV) : fieldAddrV X H 28 x 8 = faV H x 8 := fieldAddr_of (ty := 25) (by kernel_rfl) (by kernel_rfl) H x
@[simp] theorem fv28_8 (x : AV) : fieldV X 28 x 8 = fvV X x 8 25 := field_of (by kernel_rfl) x
@[simp] theorem fa28_9 (H : AM.Heap) (x : AV) : fieldAddrV X H 28 x 9 = faV H x 9 := fieldAddr_of (ty := 5) (by kernel_rfl) (by kernel_rfl) H x
@[simp] theorem fv28_9 (x : AV) : fieldV X 28 x 9 = fvV X x 9 5 := field_of (by kernel_rfl) x
@[simp] theorem fa46_0 (H : AM.Heap) (x : AV) : fieldAddrV X H 46 x 0 = faV H x 0 := fieldAddr_of (ty := 22) (by kernel_rfl) (by kernel_rfl) H x
@[simp] theorem fv46_0 (x : AV) : fieldV X 46 x 0 = fvV X x 0 22 := field_of (by kernel_rfl) x
@[simp] theorem fa46_1 (H : AM.Heap) (x : AV) : fieldAddrV X H 46 x 1 = faV H x 1 := fieldAddr_of (ty := 29) (by kernel_rfl) (by kernel_rfl) H x
@[simp] theorem fv46_1 (x : AV) : fieldV X 46 x 1 = fvV X x 1 29 := field_of (by kernel_rfl) x
@[simp] theorem fa56_0 (H : AM.Heap) (x : AV) : fieldAddrV X H 56 x 0 = faV H x 0 := fieldAddr_of (ty := 22) (by kernel_rfl) (by kernel_rfl) H x
@[simp] theorem fv56_0 (x : AV) : fieldV X 56 x 0 = fvV X x 0 22 := field_of (by kernel_rfl) x
@[simp] theorem fa56_1 (H : AM.Heap) (x : AV) : fieldAddrV X H 56 x 1 = faV H x 1 := fieldAddr_of (ty := 29) (by kernel_rfl) (by kernel_rfl) H x
@[simp] theorem fv56_1 (x : AV) : fieldV X 56 x 1 = fvV X x 1 29 := field_of (by kernel_rfl) x

end Go.Proofs.Ytkgchoknkakcgaa
