/- The seat's tables for the abstract machine, and what walks ask of the program. No conditions. -/
import Derived.Test.YtkgchoknkakcgaaDoorRows
import Derived.Test.YtkgchoknkakcgaaDoorAm3
namespace Go.Proofs.YtkgchoknkakcgaaDoor
open Go.AM

def keepT : List (List (List Nat)) := [[], [], [[]], [[0, 2, 4], [0, 2, 4, 12], [6], [0, 2, 4, 20], [6], [0, 2, 4, 7, 8], [0, 2, 4, 7, 8, 9, 10], [0, 2, 4, 42], [6], [0, 2, 4, 7, 8], [4, 7, 8, 9, 10], [6]], [[0, 1, 6, 7], [0, 1, 6, 7, 14], [8], [0, 1, 6, 7, 22], [8], [0, 1, 6, 7, 9, 10], [0, 1, 6, 7, 9, 10, 11, 12], [8]], [[], [1], [1, 2, 3], [1, 2, 3, 5], [1, 2, 3, 5, 7], [1, 2, 3, 5, 7, 9], [1, 2, 3, 5, 7, 9, 11], [0]], [[], [1, 2], [1, 2, 3, 4], [0]], [[1], [2]], [[0, 3], [0, 3, 6], [0, 3, 6, 13], [4, 5], [3, 7], [3, 7, 27, 28, 29], [3, 7, 27, 28, 29, 30], [3, 7, 9, 27, 28, 29], [3, 7, 27, 28, 29], [3, 7, 27, 28, 29], [3, 7], [3, 7], [4, 5]], [[0], [2]], [[0, 3], [0, 3, 6], [0, 3, 6, 13], [4, 5], [0, 3, 7], [3, 7, 8], [3, 7, 8, 9], [3, 7, 8, 9, 32], [3, 7, 8, 9], [3, 7, 8, 9], [3, 8], [3, 8], [4, 5]], [[0, 1], [4]], [[0, 1], [0, 1, 11], [4, 5], [4, 5]], [[0, 1], [0, 1, 11], [4, 5], [4, 5]], [[1], [1, 15, 16, 17], [1, 15, 16, 17, 18], [1, 4, 15, 16, 17], [1, 15, 16, 17, 23], [2], [1, 15, 16, 17], [28], [2], [2]], [[1], [36], [2], [2]], [[0], [0, 3], [0, 3, 8], [2], [2]], [[0], [0, 3], [0, 3, 7], [2], [2]], [[0], [2]], [[0], [2]], [[0], [0, 4, 5, 6], [0, 4, 5, 6, 14], [2, 3], [4, 33], [2, 3], [2, 3]], [[0], [0]], [[0, 1], [4]], [[0, 1, 2], [7], [6]], [[0, 1], [4]], [[0, 1, 2], [7], [6]], [[0, 1], [0, 1, 5, 6], [1, 5, 6, 7], [1, 5, 6, 7, 16], [1, 6, 7], [7], [4]], [[0, 1], [0, 1, 5], [1, 5, 6], [1, 5, 6, 14], [4], [1, 5, 6, 7], [1, 5, 6, 7, 21], [1, 5, 6, 7], [6], [4]], [[0], [0]], [[0], [2]], [[0], [0, 3], [0, 3, 9], [2], [0, 14], [0, 14, 15], [2], [0, 17], [2], [0, 3], [0, 3, 21], [2], [2]], [[0], [0, 4], [2], [2]], [[0], [0, 8], [2, 3, 4], [0], [0, 11], [2, 3, 4], [0, 11, 16], [0, 5], [0, 11, 18], [0, 5], [0, 11, 20], [0, 5], [0, 11, 22], [0, 22], [2, 3, 4], [2, 4, 5], [2, 4, 5, 33], [2, 3, 4], [2, 3, 4]], [[0], [3, 4], [4, 11], [2], [2]], [[0, 1, 2], [0, 1, 2, 26], [6, 7], [1, 2, 8], [1, 8, 29, 30], [1, 8, 29, 30, 31], [1, 8, 9, 29, 30], [1, 8, 29, 30], [1, 8, 29, 30], [6, 7]], [[0, 1, 2], [0, 1, 2, 27], [6, 7], [1, 2, 8], [1, 2, 8, 9], [1, 2, 8, 9, 33], [1, 2, 8, 9], [1, 2, 8, 9], [6, 7]], [[0], [0, 4], [2, 3], [0, 7], [2, 3], [10], [2, 3], [2, 3]], [[0], [0, 4], [2], [2]], [[0], [0, 4], [2], [0, 6], [2], [8], [2], [2]], [[0], [2]], [[0, 1], [0, 1, 13], [4, 5], [0, 1, 17], [4, 5], [0, 1, 6], [0, 6, 18, 19], [0, 6, 18, 19, 20], [0, 6, 7, 18, 19], [0, 6, 18, 19], [0, 6, 18, 19], [4, 5]], [[0, 1], [0, 1, 11], [0, 17], [4], [0, 5], [0, 5, 6], [0, 5, 6, 23], [0, 5, 6], [0, 5, 6, 7], [0, 5, 7], [5, 7, 34], [5, 7], [4], [4], [9], [4]], [[0], [0, 4], [2], [2]], [[0], [0, 3], [2]], [[0, 1, 4], [0, 1, 4, 20], [0, 1, 4, 5], [0, 1, 4, 5], [0, 1, 4, 6, 7], [0, 1, 4, 6, 8, 9], [0, 1, 4, 8, 9, 10, 11], [0, 1, 4, 8, 10, 11], [0, 1, 4, 10, 11], [0, 1, 4, 10], [0, 1, 4], [0, 1, 4], [0, 4, 12], [0, 4, 12, 99], [0, 4, 12, 13], [0, 4, 12, 13], [0, 4, 12, 14, 15], [0, 4, 12, 14], [0, 4, 12], [0, 4, 12], [0, 4, 12, 139], [0, 4, 12, 16], [0, 4, 12, 16], [0, 4, 12], [0, 4, 12], [0, 12, 161], []], [[0, 1, 2, 3, 4, 10, 11], [0, 1, 2, 3, 4, 10, 11, 28], [0, 1, 2, 3, 4, 10, 11], [0, 1, 2, 3, 4, 10, 11, 12], [0, 1, 2, 3, 4, 10, 11, 12, 13], [0, 1, 2, 3, 4, 10, 11, 12, 13, 30], [0, 1, 2, 3, 4, 10, 11, 12, 13], [0, 1, 2, 3, 4, 10, 11, 12, 13, 34], [0, 1, 2, 3, 4, 10, 11, 12, 13, 14], [0, 1, 2, 3, 4, 10, 11, 12, 13, 14, 15], [0, 1, 3, 4, 10, 11, 12, 13, 14, 15, 16], [0, 1, 3, 4, 10, 11, 12, 13, 14, 15, 16, 46], [0, 1, 3, 4, 10, 11, 12, 13, 14, 15, 16], [0, 1, 3, 4, 10, 11, 12, 13, 14, 15, 16], [0, 1, 3, 4, 10, 11, 12, 13, 14, 15, 16], [0, 1, 3, 4, 10, 11, 12, 13], [0, 3, 4, 10, 11, 12, 13], [0, 1, 3, 4, 10, 11, 12, 13, 17], [0, 1, 3, 4, 10, 11, 12, 13, 17, 68], [0, 1, 3, 4, 10, 11, 12, 13, 17], [0, 1, 3, 4, 10, 11, 12, 13, 17, 18], [0, 3, 4, 10, 11, 12, 13, 17, 18], [0, 1, 3, 4, 10, 11, 12, 13, 17], [0, 1, 3, 4, 10, 11, 12, 13], [0, 3, 4, 10, 11, 12, 13], [0, 4, 10, 11, 12, 13, 89], [0, 4, 10, 11, 12, 13], [0, 4, 10, 11, 12, 13], [0, 10, 11, 12, 13, 94], [10, 11], [10, 11]], [[0], [2]], [[0, 2], [0, 2, 4], [0], [0, 2], [0, 2, 8], [0, 2], [0, 2], [0, 2, 14], [0, 2], [0, 2], [2]], [[0], [3], [2], [2]], [[0], [2]], [[0], [2], [2]], [[0], [0, 4], [2], [2]], [[0], [0, 4], [2], [2]], [], [], [], [], [], [], [], [], [], [], [], [], [], [], [], [], [], [], [], [], [], [[], [], []]]

def globs : List (Nat × AM.AV) := [(0, .pi .u64 [1, 10, 100, 1000, 10000, 100000, 1000000, 10000000, 100000000, 1000000000, 10000000000, 100000000000, 1000000000000, 10000000000000, 100000000000000, 1000000000000000, 10000000000000000, 100000000000000000, 1000000000000000000, 10000000000000000000]), (1, .pb [0, 1, 28, 2, 29, 14, 24, 3, 30, 22, 20, 15, 25, 17, 4, 8, 31, 27, 13, 23, 21, 19, 16, 7, 26, 12, 18, 6, 11, 5, 10, 9]), (2, .pb [0, 1, 56, 2, 57, 49, 28, 3, 61, 58, 42, 50, 38, 29, 17, 4, 62, 47, 59, 36, 45, 43, 51, 22, 53, 39, 33, 30, 24, 18, 12, 5, 63, 55, 48, 27, 60, 41, 37, 16, 46, 35, 44, 21, 52, 32, 23, 11, 54, 26, 40, 15, 34, 20, 31, 10, 25, 14, 19, 9, 13, 8, 7, 6])]
noncomputable def X : AM.Ctx := { P := Tryd.prog, G := AM.globF globs, rw := fun f i => (f == 44 && i == 0), keep := fun f i => ((keepT[f]?).getD [])[i]?, norm := fun _ _ => false, dr := fun _ _ => true, dy := fun f id => [(3, 5), (3, 11), (4, 7), (8, 10), (8, 11), (8, 12), (10, 10), (10, 11), (31, 3)].contains (f, id) }

theorem own : ownKnob Tryd.prog.godebug = .none := by kernel_rfl
theorem full : ∀ t e, t < Tryd.prog.types.size → Tryd.prog.underlying t = some (.slice e) → 0 < Tryd.prog.cellsOf e := slices_full_of Tryd.prog (by kernel_rfl)
theorem ctxOk : AM.CtxOk X := AM.ctxOk_of (by kernel_rfl) (by kernel_rfl)
@[simp] theorem X_dr (f i : Nat) : X.dr f i = true := rfl
@[simp] theorem X_norm (f i : Nat) : X.norm f i = false := rfl
@[simp] theorem X_rw (f i : Nat) : X.rw f i = ((f == 44 && i == 0)) := rfl
@[simp] theorem nt3 : ntOf X 3 = 89 := by kernel_rfl
@[simp] theorem bod3 : bodied X 3 = true := by kernel_rfl
@[simp] theorem par3 : paramsOf X 3 = [22, 26, 3] := by kernel_rfl
@[simp] theorem nt4 : ntOf X 4 = 59 := by kernel_rfl
@[simp] theorem bod4 : bodied X 4 = true := by kernel_rfl
@[simp] theorem par4 : paramsOf X 4 = [5, 5, 26, 26] := by kernel_rfl
@[simp] theorem nt5 : ntOf X 5 = 75 := by kernel_rfl
@[simp] theorem bod5 : bodied X 5 = true := by kernel_rfl
@[simp] theorem par5 : paramsOf X 5 = [] := by kernel_rfl
@[simp] theorem nt6 : ntOf X 6 = 36 := by kernel_rfl
@[simp] theorem bod6 : bodied X 6 = true := by kernel_rfl
@[simp] theorem par6 : paramsOf X 6 = [] := by kernel_rfl
@[simp] theorem nt7 : ntOf X 7 = 23 := by kernel_rfl
@[simp] theorem bod7 : bodied X 7 = true := by kernel_rfl
@[simp] theorem par7 : paramsOf X 7 = [26] := by kernel_rfl
@[simp] theorem nt8 : ntOf X 8 = 62 := by kernel_rfl
@[simp] theorem bod8 : bodied X 8 = true := by kernel_rfl
@[simp] theorem par8 : paramsOf X 8 = [22, 26] := by kernel_rfl
@[simp] theorem nt9 : ntOf X 9 = 14 := by kernel_rfl
@[simp] theorem bod9 : bodied X 9 = true := by kernel_rfl
@[simp] theorem par9 : paramsOf X 9 = [22] := by kernel_rfl
@[simp] theorem nt10 : ntOf X 10 = 66 := by kernel_rfl
@[simp] theorem bod10 : bodied X 10 = true := by kernel_rfl
@[simp] theorem par10 : paramsOf X 10 = [22, 26] := by kernel_rfl
@[simp] theorem nt11 : ntOf X 11 = 10 := by kernel_rfl
@[simp] theorem bod11 : bodied X 11 = true := by kernel_rfl
@[simp] theorem par11 : paramsOf X 11 = [22, 22] := by kernel_rfl
@[simp] theorem nt12 : ntOf X 12 = 16 := by kernel_rfl
@[simp] theorem bod12 : bodied X 12 = true := by kernel_rfl
@[simp] theorem par12 : paramsOf X 12 = [22, 3] := by kernel_rfl
@[simp] theorem nt13 : ntOf X 13 = 16 := by kernel_rfl
@[simp] theorem bod13 : bodied X 13 = true := by kernel_rfl
@[simp] theorem par13 : paramsOf X 13 = [22, 3] := by kernel_rfl
@[simp] theorem nt14 : ntOf X 14 = 29 := by kernel_rfl
@[simp] theorem bod14 : bodied X 14 = true := by kernel_rfl
@[simp] theorem par14 : paramsOf X 14 = [26] := by kernel_rfl
@[simp] theorem nt15 : ntOf X 15 = 37 := by kernel_rfl
@[simp] theorem bod15 : bodied X 15 = true := by kernel_rfl
@[simp] theorem par15 : paramsOf X 15 = [26] := by kernel_rfl
@[simp] theorem nt16 : ntOf X 16 = 14 := by kernel_rfl
@[simp] theorem bod16 : bodied X 16 = true := by kernel_rfl
@[simp] theorem par16 : paramsOf X 16 = [5] := by kernel_rfl
@[simp] theorem nt17 : ntOf X 17 = 13 := by kernel_rfl
@[simp] theorem bod17 : bodied X 17 = true := by kernel_rfl
@[simp] theorem par17 : paramsOf X 17 = [5] := by kernel_rfl
@[simp] theorem nt18 : ntOf X 18 = 7 := by kernel_rfl
@[simp] theorem bod18 : bodied X 18 = true := by kernel_rfl
@[simp] theorem par18 : paramsOf X 18 = [5] := by kernel_rfl
@[simp] theorem nt19 : ntOf X 19 = 6 := by kernel_rfl
@[simp] theorem bod19 : bodied X 19 = true := by kernel_rfl
@[simp] theorem par19 : paramsOf X 19 = [5] := by kernel_rfl
@[simp] theorem nt20 : ntOf X 20 = 36 := by kernel_rfl
@[simp] theorem bod20 : bodied X 20 = true := by kernel_rfl
@[simp] theorem par20 : paramsOf X 20 = [22] := by kernel_rfl
@[simp] theorem nt21 : ntOf X 21 = 2 := by kernel_rfl
@[simp] theorem bod21 : bodied X 21 = true := by kernel_rfl
@[simp] theorem par21 : paramsOf X 21 = [] := by kernel_rfl
@[simp] theorem nt22 : ntOf X 22 = 12 := by kernel_rfl
@[simp] theorem bod22 : bodied X 22 = true := by kernel_rfl
@[simp] theorem par22 : paramsOf X 22 = [22, 9] := by kernel_rfl
@[simp] theorem nt23 : ntOf X 23 = 17 := by kernel_rfl
@[simp] theorem bod23 : bodied X 23 = true := by kernel_rfl
@[simp] theorem par23 : paramsOf X 23 = [22, 46, 3] := by kernel_rfl
@[simp] theorem nt24 : ntOf X 24 = 12 := by kernel_rfl
@[simp] theorem bod24 : bodied X 24 = true := by kernel_rfl
@[simp] theorem par24 : paramsOf X 24 = [22, 9] := by kernel_rfl
@[simp] theorem nt25 : ntOf X 25 = 17 := by kernel_rfl
@[simp] theorem bod25 : bodied X 25 = true := by kernel_rfl
@[simp] theorem par25 : paramsOf X 25 = [22, 46, 3] := by kernel_rfl
@[simp] theorem nt26 : ntOf X 26 = 29 := by kernel_rfl
@[simp] theorem bod26 : bodied X 26 = true := by kernel_rfl
@[simp] theorem par26 : paramsOf X 26 = [22, 46] := by kernel_rfl
@[simp] theorem nt27 : ntOf X 27 = 37 := by kernel_rfl
@[simp] theorem bod27 : bodied X 27 = true := by kernel_rfl
@[simp] theorem par27 : paramsOf X 27 = [22, 46] := by kernel_rfl
@[simp] theorem nt28 : ntOf X 28 = 2 := by kernel_rfl
@[simp] theorem bod28 : bodied X 28 = true := by kernel_rfl
@[simp] theorem par28 : paramsOf X 28 = [] := by kernel_rfl
@[simp] theorem nt29 : ntOf X 29 = 5 := by kernel_rfl
@[simp] theorem bod29 : bodied X 29 = true := by kernel_rfl
@[simp] theorem par29 : paramsOf X 29 = [3] := by kernel_rfl
@[simp] theorem nt30 : ntOf X 30 = 27 := by kernel_rfl
@[simp] theorem bod30 : bodied X 30 = true := by kernel_rfl
@[simp] theorem par30 : paramsOf X 30 = [5] := by kernel_rfl
@[simp] theorem nt31 : ntOf X 31 = 20 := by kernel_rfl
@[simp] theorem bod31 : bodied X 31 = true := by kernel_rfl
@[simp] theorem par31 : paramsOf X 31 = [3] := by kernel_rfl
@[simp] theorem nt32 : ntOf X 32 = 38 := by kernel_rfl
@[simp] theorem bod32 : bodied X 32 = true := by kernel_rfl
@[simp] theorem par32 : paramsOf X 32 = [22] := by kernel_rfl
@[simp] theorem nt33 : ntOf X 33 = 15 := by kernel_rfl
@[simp] theorem bod33 : bodied X 33 = true := by kernel_rfl
@[simp] theorem par33 : paramsOf X 33 = [46] := by kernel_rfl
@[simp] theorem nt34 : ntOf X 34 = 43 := by kernel_rfl
@[simp] theorem bod34 : bodied X 34 = true := by kernel_rfl
@[simp] theorem par34 : paramsOf X 34 = [22, 46, 3] := by kernel_rfl
@[simp] theorem nt35 : ntOf X 35 = 46 := by kernel_rfl
@[simp] theorem bod35 : bodied X 35 = true := by kernel_rfl
@[simp] theorem par35 : paramsOf X 35 = [22, 46, 3] := by kernel_rfl
@[simp] theorem nt36 : ntOf X 36 = 13 := by kernel_rfl
@[simp] theorem bod36 : bodied X 36 = true := by kernel_rfl
@[simp] theorem par36 : paramsOf X 36 = [46] := by kernel_rfl
@[simp] theorem nt37 : ntOf X 37 = 8 := by kernel_rfl
@[simp] theorem bod37 : bodied X 37 = true := by kernel_rfl
@[simp] theorem par37 : paramsOf X 37 = [22] := by kernel_rfl
@[simp] theorem nt38 : ntOf X 38 = 9 := by kernel_rfl
@[simp] theorem bod38 : bodied X 38 = true := by kernel_rfl
@[simp] theorem par38 : paramsOf X 38 = [46] := by kernel_rfl
@[simp] theorem nt40 : ntOf X 40 = 34 := by kernel_rfl
@[simp] theorem bod40 : bodied X 40 = true := by kernel_rfl
@[simp] theorem par40 : paramsOf X 40 = [22, 3] := by kernel_rfl
@[simp] theorem keep3_0 : X.keep 3 0 = some [0, 2, 4] := by kernel_rfl
@[simp] theorem keep3_1 : X.keep 3 1 = some [0, 2, 4, 12] := by kernel_rfl
@[simp] theorem keep3_2 : X.keep 3 2 = some [6] := by kernel_rfl
@[simp] theorem keep3_3 : X.keep 3 3 = some [0, 2, 4, 20] := by kernel_rfl
@[simp] theorem keep3_4 : X.keep 3 4 = some [6] := by kernel_rfl
@[simp] theorem keep3_5 : X.keep 3 5 = some [0, 2, 4, 7, 8] := by kernel_rfl
@[simp] theorem keep3_6 : X.keep 3 6 = some [0, 2, 4, 7, 8, 9, 10] := by kernel_rfl
@[simp] theorem keep3_7 : X.keep 3 7 = some [0, 2, 4, 42] := by kernel_rfl
@[simp] theorem keep3_8 : X.keep 3 8 = some [6] := by kernel_rfl
@[simp] theorem keep3_9 : X.keep 3 9 = some [0, 2, 4, 7, 8] := by kernel_rfl
@[simp] theorem keep3_10 : X.keep 3 10 = some [4, 7, 8, 9, 10] := by kernel_rfl
@[simp] theorem keep3_11 : X.keep 3 11 = some [6] := by kernel_rfl
@[simp] theorem keep4_0 : X.keep 4 0 = some [0, 1, 6, 7] := by kernel_rfl
@[simp] theorem keep4_1 : X.keep 4 1 = some [0, 1, 6, 7, 14] := by kernel_rfl
@[simp] theorem keep4_2 : X.keep 4 2 = some [8] := by kernel_rfl
@[simp] theorem keep4_3 : X.keep 4 3 = some [0, 1, 6, 7, 22] := by kernel_rfl
@[simp] theorem keep4_4 : X.keep 4 4 = some [8] := by kernel_rfl
@[simp] theorem keep4_5 : X.keep 4 5 = some [0, 1, 6, 7, 9, 10] := by kernel_rfl
@[simp] theorem keep4_6 : X.keep 4 6 = some [0, 1, 6, 7, 9, 10, 11, 12] := by kernel_rfl
@[simp] theorem keep4_7 : X.keep 4 7 = some [8] := by kernel_rfl
@[simp] theorem keep5_0 : X.keep 5 0 = some [] := by kernel_rfl
@[simp] theorem keep5_1 : X.keep 5 1 = some [1] := by kernel_rfl
@[simp] theorem keep5_2 : X.keep 5 2 = some [1, 2, 3] := by kernel_rfl
@[simp] theorem keep5_3 : X.keep 5 3 = some [1, 2, 3, 5] := by kernel_rfl
@[simp] theorem keep5_4 : X.keep 5 4 = some [1, 2, 3, 5, 7] := by kernel_rfl
@[simp] theorem keep5_5 : X.keep 5 5 = some [1, 2, 3, 5, 7, 9] := by kernel_rfl
@[simp] theorem keep5_6 : X.keep 5 6 = some [1, 2, 3, 5, 7, 9, 11] := by kernel_rfl
@[simp] theorem keep5_7 : X.keep 5 7 = some [0] := by kernel_rfl
@[simp] theorem keep6_0 : X.keep 6 0 = some [] := by kernel_rfl
@[simp] theorem keep6_1 : X.keep 6 1 = some [1, 2] := by kernel_rfl
@[simp] theorem keep6_2 : X.keep 6 2 = some [1, 2, 3, 4] := by kernel_rfl
@[simp] theorem keep6_3 : X.keep 6 3 = some [0] := by kernel_rfl
@[simp] theorem keep7_0 : X.keep 7 0 = some [1] := by kernel_rfl
@[simp] theorem keep7_1 : X.keep 7 1 = some [2] := by kernel_rfl
@[simp] theorem keep8_0 : X.keep 8 0 = some [0, 3] := by kernel_rfl
@[simp] theorem keep8_1 : X.keep 8 1 = some [0, 3, 6] := by kernel_rfl
@[simp] theorem keep8_2 : X.keep 8 2 = some [0, 3, 6, 13] := by kernel_rfl
@[simp] theorem keep8_3 : X.keep 8 3 = some [4, 5] := by kernel_rfl
@[simp] theorem keep8_4 : X.keep 8 4 = some [3, 7] := by kernel_rfl
@[simp] theorem keep8_5 : X.keep 8 5 = some [3, 7, 27, 28, 29] := by kernel_rfl
@[simp] theorem keep8_6 : X.keep 8 6 = some [3, 7, 27, 28, 29, 30] := by kernel_rfl
@[simp] theorem keep8_7 : X.keep 8 7 = some [3, 7, 9, 27, 28, 29] := by kernel_rfl
@[simp] theorem keep8_8 : X.keep 8 8 = some [3, 7, 27, 28, 29] := by kernel_rfl
@[simp] theorem keep8_9 : X.keep 8 9 = some [3, 7, 27, 28, 29] := by kernel_rfl
@[simp] theorem keep8_10 : X.keep 8 10 = some [3, 7] := by kernel_rfl
@[simp] theorem keep8_11 : X.keep 8 11 = some [3, 7] := by kernel_rfl
@[simp] theorem keep8_12 : X.keep 8 12 = some [4, 5] := by kernel_rfl
@[simp] theorem keep9_0 : X.keep 9 0 = some [0] := by kernel_rfl
@[simp] theorem keep9_1 : X.keep 9 1 = some [2] := by kernel_rfl
@[simp] theorem keep10_0 : X.keep 10 0 = some [0, 3] := by kernel_rfl
@[simp] theorem keep10_1 : X.keep 10 1 = some [0, 3, 6] := by kernel_rfl
@[simp] theorem keep10_2 : X.keep 10 2 = some [0, 3, 6, 13] := by kernel_rfl
@[simp] theorem keep10_3 : X.keep 10 3 = some [4, 5] := by kernel_rfl
@[simp] theorem keep10_4 : X.keep 10 4 = some [0, 3, 7] := by kernel_rfl
@[simp] theorem keep10_5 : X.keep 10 5 = some [3, 7, 8] := by kernel_rfl
@[simp] theorem keep10_6 : X.keep 10 6 = some [3, 7, 8, 9] := by kernel_rfl
@[simp] theorem keep10_7 : X.keep 10 7 = some [3, 7, 8, 9, 32] := by kernel_rfl
@[simp] theorem keep10_8 : X.keep 10 8 = some [3, 7, 8, 9] := by kernel_rfl
@[simp] theorem keep10_9 : X.keep 10 9 = some [3, 7, 8, 9] := by kernel_rfl
@[simp] theorem keep10_10 : X.keep 10 10 = some [3, 8] := by kernel_rfl
@[simp] theorem keep10_11 : X.keep 10 11 = some [3, 8] := by kernel_rfl
@[simp] theorem keep10_12 : X.keep 10 12 = some [4, 5] := by kernel_rfl
@[simp] theorem keep11_0 : X.keep 11 0 = some [0, 1] := by kernel_rfl
@[simp] theorem keep11_1 : X.keep 11 1 = some [4] := by kernel_rfl
@[simp] theorem keep12_0 : X.keep 12 0 = some [0, 1] := by kernel_rfl
@[simp] theorem keep12_1 : X.keep 12 1 = some [0, 1, 11] := by kernel_rfl
@[simp] theorem keep12_2 : X.keep 12 2 = some [4, 5] := by kernel_rfl
@[simp] theorem keep12_3 : X.keep 12 3 = some [4, 5] := by kernel_rfl
@[simp] theorem keep13_0 : X.keep 13 0 = some [0, 1] := by kernel_rfl
@[simp] theorem keep13_1 : X.keep 13 1 = some [0, 1, 11] := by kernel_rfl
@[simp] theorem keep13_2 : X.keep 13 2 = some [4, 5] := by kernel_rfl
@[simp] theorem keep13_3 : X.keep 13 3 = some [4, 5] := by kernel_rfl
@[simp] theorem keep14_0 : X.keep 14 0 = some [1] := by kernel_rfl
@[simp] theorem keep14_1 : X.keep 14 1 = some [1, 15, 16, 17] := by kernel_rfl
@[simp] theorem keep14_2 : X.keep 14 2 = some [1, 15, 16, 17, 18] := by kernel_rfl
@[simp] theorem keep14_3 : X.keep 14 3 = some [1, 4, 15, 16, 17] := by kernel_rfl
@[simp] theorem keep14_4 : X.keep 14 4 = some [1, 15, 16, 17, 23] := by kernel_rfl
@[simp] theorem keep14_5 : X.keep 14 5 = some [2] := by kernel_rfl
@[simp] theorem keep14_6 : X.keep 14 6 = some [1, 15, 16, 17] := by kernel_rfl
@[simp] theorem keep14_7 : X.keep 14 7 = some [28] := by kernel_rfl
@[simp] theorem keep14_8 : X.keep 14 8 = some [2] := by kernel_rfl
@[simp] theorem keep14_9 : X.keep 14 9 = some [2] := by kernel_rfl
@[simp] theorem keep15_0 : X.keep 15 0 = some [1] := by kernel_rfl
@[simp] theorem keep15_1 : X.keep 15 1 = some [36] := by kernel_rfl
@[simp] theorem keep15_2 : X.keep 15 2 = some [2] := by kernel_rfl
@[simp] theorem keep15_3 : X.keep 15 3 = some [2] := by kernel_rfl
@[simp] theorem keep16_0 : X.keep 16 0 = some [0] := by kernel_rfl
@[simp] theorem keep16_1 : X.keep 16 1 = some [0, 3] := by kernel_rfl
@[simp] theorem keep16_2 : X.keep 16 2 = some [0, 3, 8] := by kernel_rfl
@[simp] theorem keep16_3 : X.keep 16 3 = some [2] := by kernel_rfl
@[simp] theorem keep16_4 : X.keep 16 4 = some [2] := by kernel_rfl
@[simp] theorem keep17_0 : X.keep 17 0 = some [0] := by kernel_rfl
@[simp] theorem keep17_1 : X.keep 17 1 = some [0, 3] := by kernel_rfl
@[simp] theorem keep17_2 : X.keep 17 2 = some [0, 3, 7] := by kernel_rfl
@[simp] theorem keep17_3 : X.keep 17 3 = some [2] := by kernel_rfl
@[simp] theorem keep17_4 : X.keep 17 4 = some [2] := by kernel_rfl
@[simp] theorem keep18_0 : X.keep 18 0 = some [0] := by kernel_rfl
@[simp] theorem keep18_1 : X.keep 18 1 = some [2] := by kernel_rfl
@[simp] theorem keep19_0 : X.keep 19 0 = some [0] := by kernel_rfl
@[simp] theorem keep19_1 : X.keep 19 1 = some [2] := by kernel_rfl
@[simp] theorem keep20_0 : X.keep 20 0 = some [0] := by kernel_rfl
@[simp] theorem keep20_1 : X.keep 20 1 = some [0, 4, 5, 6] := by kernel_rfl
@[simp] theorem keep20_2 : X.keep 20 2 = some [0, 4, 5, 6, 14] := by kernel_rfl
@[simp] theorem keep20_3 : X.keep 20 3 = some [2, 3] := by kernel_rfl
@[simp] theorem keep20_4 : X.keep 20 4 = some [4, 33] := by kernel_rfl
@[simp] theorem keep20_5 : X.keep 20 5 = some [2, 3] := by kernel_rfl
@[simp] theorem keep20_6 : X.keep 20 6 = some [2, 3] := by kernel_rfl
@[simp] theorem keep21_0 : X.keep 21 0 = some [0] := by kernel_rfl
@[simp] theorem keep21_1 : X.keep 21 1 = some [0] := by kernel_rfl
@[simp] theorem keep22_0 : X.keep 22 0 = some [0, 1] := by kernel_rfl
@[simp] theorem keep22_1 : X.keep 22 1 = some [4] := by kernel_rfl
@[simp] theorem keep23_0 : X.keep 23 0 = some [0, 1, 2] := by kernel_rfl
@[simp] theorem keep23_1 : X.keep 23 1 = some [7] := by kernel_rfl
@[simp] theorem keep23_2 : X.keep 23 2 = some [6] := by kernel_rfl
@[simp] theorem keep24_0 : X.keep 24 0 = some [0, 1] := by kernel_rfl
@[simp] theorem keep24_1 : X.keep 24 1 = some [4] := by kernel_rfl
@[simp] theorem keep25_0 : X.keep 25 0 = some [0, 1, 2] := by kernel_rfl
@[simp] theorem keep25_1 : X.keep 25 1 = some [7] := by kernel_rfl
@[simp] theorem keep25_2 : X.keep 25 2 = some [6] := by kernel_rfl
@[simp] theorem keep26_0 : X.keep 26 0 = some [0, 1] := by kernel_rfl
@[simp] theorem keep26_1 : X.keep 26 1 = some [0, 1, 5, 6] := by kernel_rfl
@[simp] theorem keep26_2 : X.keep 26 2 = some [1, 5, 6, 7] := by kernel_rfl
@[simp] theorem keep26_3 : X.keep 26 3 = some [1, 5, 6, 7, 16] := by kernel_rfl
@[simp] theorem keep26_4 : X.keep 26 4 = some [1, 6, 7] := by kernel_rfl
@[simp] theorem keep26_5 : X.keep 26 5 = some [7] := by kernel_rfl
@[simp] theorem keep26_6 : X.keep 26 6 = some [4] := by kernel_rfl
@[simp] theorem keep27_0 : X.keep 27 0 = some [0, 1] := by kernel_rfl
@[simp] theorem keep27_1 : X.keep 27 1 = some [0, 1, 5] := by kernel_rfl
@[simp] theorem keep27_2 : X.keep 27 2 = some [1, 5, 6] := by kernel_rfl
@[simp] theorem keep27_3 : X.keep 27 3 = some [1, 5, 6, 14] := by kernel_rfl
@[simp] theorem keep27_4 : X.keep 27 4 = some [4] := by kernel_rfl
@[simp] theorem keep27_5 : X.keep 27 5 = some [1, 5, 6, 7] := by kernel_rfl
@[simp] theorem keep27_6 : X.keep 27 6 = some [1, 5, 6, 7, 21] := by kernel_rfl
@[simp] theorem keep27_7 : X.keep 27 7 = some [1, 5, 6, 7] := by kernel_rfl
@[simp] theorem keep27_8 : X.keep 27 8 = some [6] := by kernel_rfl
@[simp] theorem keep27_9 : X.keep 27 9 = some [4] := by kernel_rfl
@[simp] theorem keep28_0 : X.keep 28 0 = some [0] := by kernel_rfl
@[simp] theorem keep28_1 : X.keep 28 1 = some [0] := by kernel_rfl
@[simp] theorem keep30_0 : X.keep 30 0 = some [0] := by kernel_rfl
@[simp] theorem keep30_1 : X.keep 30 1 = some [0, 3] := by kernel_rfl
@[simp] theorem keep30_2 : X.keep 30 2 = some [0, 3, 9] := by kernel_rfl
@[simp] theorem keep30_3 : X.keep 30 3 = some [2] := by kernel_rfl
@[simp] theorem keep30_4 : X.keep 30 4 = some [0, 14] := by kernel_rfl
@[simp] theorem keep30_5 : X.keep 30 5 = some [0, 14, 15] := by kernel_rfl
@[simp] theorem keep30_6 : X.keep 30 6 = some [2] := by kernel_rfl
@[simp] theorem keep30_7 : X.keep 30 7 = some [0, 17] := by kernel_rfl
@[simp] theorem keep30_8 : X.keep 30 8 = some [2] := by kernel_rfl
@[simp] theorem keep30_9 : X.keep 30 9 = some [0, 3] := by kernel_rfl
@[simp] theorem keep30_10 : X.keep 30 10 = some [0, 3, 21] := by kernel_rfl
@[simp] theorem keep30_11 : X.keep 30 11 = some [2] := by kernel_rfl
@[simp] theorem keep30_12 : X.keep 30 12 = some [2] := by kernel_rfl
@[simp] theorem keep31_0 : X.keep 31 0 = some [0] := by kernel_rfl
@[simp] theorem keep31_1 : X.keep 31 1 = some [0, 4] := by kernel_rfl
@[simp] theorem keep31_2 : X.keep 31 2 = some [2] := by kernel_rfl
@[simp] theorem keep31_3 : X.keep 31 3 = some [2] := by kernel_rfl
@[simp] theorem keep32_0 : X.keep 32 0 = some [0] := by kernel_rfl
@[simp] theorem keep32_1 : X.keep 32 1 = some [0, 8] := by kernel_rfl
@[simp] theorem keep32_2 : X.keep 32 2 = some [2, 3, 4] := by kernel_rfl
@[simp] theorem keep32_3 : X.keep 32 3 = some [0] := by kernel_rfl
@[simp] theorem keep32_4 : X.keep 32 4 = some [0, 11] := by kernel_rfl
@[simp] theorem keep32_5 : X.keep 32 5 = some [2, 3, 4] := by kernel_rfl
@[simp] theorem keep32_6 : X.keep 32 6 = some [0, 11, 16] := by kernel_rfl
@[simp] theorem keep32_7 : X.keep 32 7 = some [0, 5] := by kernel_rfl
@[simp] theorem keep32_8 : X.keep 32 8 = some [0, 11, 18] := by kernel_rfl
@[simp] theorem keep32_9 : X.keep 32 9 = some [0, 5] := by kernel_rfl
@[simp] theorem keep32_10 : X.keep 32 10 = some [0, 11, 20] := by kernel_rfl
@[simp] theorem keep32_11 : X.keep 32 11 = some [0, 5] := by kernel_rfl
@[simp] theorem keep32_12 : X.keep 32 12 = some [0, 11, 22] := by kernel_rfl
@[simp] theorem keep32_13 : X.keep 32 13 = some [0, 22] := by kernel_rfl
@[simp] theorem keep32_14 : X.keep 32 14 = some [2, 3, 4] := by kernel_rfl
@[simp] theorem keep32_15 : X.keep 32 15 = some [2, 4, 5] := by kernel_rfl
@[simp] theorem keep32_16 : X.keep 32 16 = some [2, 4, 5, 33] := by kernel_rfl
@[simp] theorem keep32_17 : X.keep 32 17 = some [2, 3, 4] := by kernel_rfl
@[simp] theorem keep32_18 : X.keep 32 18 = some [2, 3, 4] := by kernel_rfl
@[simp] theorem keep33_0 : X.keep 33 0 = some [0] := by kernel_rfl
@[simp] theorem keep33_1 : X.keep 33 1 = some [3, 4] := by kernel_rfl
@[simp] theorem keep33_2 : X.keep 33 2 = some [4, 11] := by kernel_rfl
@[simp] theorem keep33_3 : X.keep 33 3 = some [2] := by kernel_rfl
@[simp] theorem keep33_4 : X.keep 33 4 = some [2] := by kernel_rfl
@[simp] theorem keep34_0 : X.keep 34 0 = some [0, 1, 2] := by kernel_rfl
@[simp] theorem keep34_1 : X.keep 34 1 = some [0, 1, 2, 26] := by kernel_rfl
@[simp] theorem keep34_2 : X.keep 34 2 = some [6, 7] := by kernel_rfl
@[simp] theorem keep34_3 : X.keep 34 3 = some [1, 2, 8] := by kernel_rfl
@[simp] theorem keep34_4 : X.keep 34 4 = some [1, 8, 29, 30] := by kernel_rfl
@[simp] theorem keep34_5 : X.keep 34 5 = some [1, 8, 29, 30, 31] := by kernel_rfl
@[simp] theorem keep34_6 : X.keep 34 6 = some [1, 8, 9, 29, 30] := by kernel_rfl
@[simp] theorem keep34_7 : X.keep 34 7 = some [1, 8, 29, 30] := by kernel_rfl
@[simp] theorem keep34_8 : X.keep 34 8 = some [1, 8, 29, 30] := by kernel_rfl
@[simp] theorem keep34_9 : X.keep 34 9 = some [6, 7] := by kernel_rfl
@[simp] theorem keep35_0 : X.keep 35 0 = some [0, 1, 2] := by kernel_rfl
@[simp] theorem keep35_1 : X.keep 35 1 = some [0, 1, 2, 27] := by kernel_rfl
@[simp] theorem keep35_2 : X.keep 35 2 = some [6, 7] := by kernel_rfl
@[simp] theorem keep35_3 : X.keep 35 3 = some [1, 2, 8] := by kernel_rfl
@[simp] theorem keep35_4 : X.keep 35 4 = some [1, 2, 8, 9] := by kernel_rfl
@[simp] theorem keep35_5 : X.keep 35 5 = some [1, 2, 8, 9, 33] := by kernel_rfl
@[simp] theorem keep35_6 : X.keep 35 6 = some [1, 2, 8, 9] := by kernel_rfl
@[simp] theorem keep35_7 : X.keep 35 7 = some [1, 2, 8, 9] := by kernel_rfl
@[simp] theorem keep35_8 : X.keep 35 8 = some [6, 7] := by kernel_rfl
@[simp] theorem keep36_0 : X.keep 36 0 = some [0] := by kernel_rfl
@[simp] theorem keep36_1 : X.keep 36 1 = some [0, 4] := by kernel_rfl
@[simp] theorem keep36_2 : X.keep 36 2 = some [2, 3] := by kernel_rfl
@[simp] theorem keep36_3 : X.keep 36 3 = some [0, 7] := by kernel_rfl
@[simp] theorem keep36_4 : X.keep 36 4 = some [2, 3] := by kernel_rfl
@[simp] theorem keep36_5 : X.keep 36 5 = some [10] := by kernel_rfl
@[simp] theorem keep36_6 : X.keep 36 6 = some [2, 3] := by kernel_rfl
@[simp] theorem keep36_7 : X.keep 36 7 = some [2, 3] := by kernel_rfl
@[simp] theorem keep37_0 : X.keep 37 0 = some [0] := by kernel_rfl
@[simp] theorem keep37_1 : X.keep 37 1 = some [0, 4] := by kernel_rfl
@[simp] theorem keep37_2 : X.keep 37 2 = some [2] := by kernel_rfl
@[simp] theorem keep37_3 : X.keep 37 3 = some [2] := by kernel_rfl
@[simp] theorem keep38_0 : X.keep 38 0 = some [0] := by kernel_rfl
@[simp] theorem keep38_1 : X.keep 38 1 = some [0, 4] := by kernel_rfl
@[simp] theorem keep38_2 : X.keep 38 2 = some [2] := by kernel_rfl
@[simp] theorem keep38_3 : X.keep 38 3 = some [0, 6] := by kernel_rfl
@[simp] theorem keep38_4 : X.keep 38 4 = some [2] := by kernel_rfl
@[simp] theorem keep38_5 : X.keep 38 5 = some [8] := by kernel_rfl
@[simp] theorem keep38_6 : X.keep 38 6 = some [2] := by kernel_rfl
@[simp] theorem keep38_7 : X.keep 38 7 = some [2] := by kernel_rfl
@[simp] theorem keep40_0 : X.keep 40 0 = some [0, 1] := by kernel_rfl
@[simp] theorem keep40_1 : X.keep 40 1 = some [0, 1, 13] := by kernel_rfl
@[simp] theorem keep40_2 : X.keep 40 2 = some [4, 5] := by kernel_rfl
@[simp] theorem keep40_3 : X.keep 40 3 = some [0, 1, 17] := by kernel_rfl
@[simp] theorem keep40_4 : X.keep 40 4 = some [4, 5] := by kernel_rfl
@[simp] theorem keep40_5 : X.keep 40 5 = some [0, 1, 6] := by kernel_rfl
@[simp] theorem keep40_6 : X.keep 40 6 = some [0, 6, 18, 19] := by kernel_rfl
@[simp] theorem keep40_7 : X.keep 40 7 = some [0, 6, 18, 19, 20] := by kernel_rfl
@[simp] theorem keep40_8 : X.keep 40 8 = some [0, 6, 7, 18, 19] := by kernel_rfl
@[simp] theorem keep40_9 : X.keep 40 9 = some [0, 6, 18, 19] := by kernel_rfl
@[simp] theorem keep40_10 : X.keep 40 10 = some [0, 6, 18, 19] := by kernel_rfl
@[simp] theorem keep40_11 : X.keep 40 11 = some [4, 5] := by kernel_rfl
@[simp] theorem dy3_5 : X.dy 3 5 = true := by kernel_rfl
@[simp] theorem dy3_11 : X.dy 3 11 = true := by kernel_rfl
@[simp] theorem dy4_7 : X.dy 4 7 = true := by kernel_rfl
@[simp] theorem dy8_10 : X.dy 8 10 = true := by kernel_rfl
@[simp] theorem dy8_11 : X.dy 8 11 = true := by kernel_rfl
@[simp] theorem dy8_12 : X.dy 8 12 = true := by kernel_rfl
@[simp] theorem dy10_10 : X.dy 10 10 = true := by kernel_rfl
@[simp] theorem dy10_11 : X.dy 10 11 = true := by kernel_rfl
@[simp] theorem dy31_3 : X.dy 31 3 = true := by kernel_rfl
@[simp] theorem size0 : sizeT X 0 = 1 := by kernel_rfl
@[simp] theorem bytes0 : bytesT X 0 = 0 := by kernel_rfl
@[simp] theorem okT0 : okT X 0 = true := by kernel_rfl
@[simp] theorem isAgg0 : isAggT X 0 = false := by kernel_rfl
@[simp] theorem isInt0 : isIntT X 0 = false := by kernel_rfl
@[simp] theorem isArr0 : isArrT X 0 = false := by kernel_rfl
@[simp] theorem isU80 : isU8 X 0 = false := by kernel_rfl
@[simp] theorem zok0 : zeroOk X 0 = true := by kernel_rfl
@[simp] theorem und3 : und X 3 = .int .i64 := by kernel_rfl
@[simp] theorem size3 : sizeT X 3 = 1 := by kernel_rfl
@[simp] theorem bytes3 : bytesT X 3 = 8 := by kernel_rfl
@[simp] theorem okT3 : okT X 3 = true := by kernel_rfl
@[simp] theorem isAgg3 : isAggT X 3 = false := by kernel_rfl
@[simp] theorem isInt3 : isIntT X 3 = true := by kernel_rfl
@[simp] theorem isArr3 : isArrT X 3 = false := by kernel_rfl
@[simp] theorem isU83 : isU8 X 3 = false := by kernel_rfl
@[simp] theorem zok3 : zeroOk X 3 = true := by kernel_rfl
@[simp] theorem zero3 : zeroAV X 3 = .int .i64 0 := by kernel_rfl
@[simp] theorem und4 : und X 4 = .bool := by kernel_rfl
@[simp] theorem size4 : sizeT X 4 = 1 := by kernel_rfl
@[simp] theorem bytes4 : bytesT X 4 = 1 := by kernel_rfl
@[simp] theorem okT4 : okT X 4 = true := by kernel_rfl
@[simp] theorem isAgg4 : isAggT X 4 = false := by kernel_rfl
@[simp] theorem isInt4 : isIntT X 4 = false := by kernel_rfl
@[simp] theorem isArr4 : isArrT X 4 = false := by kernel_rfl
@[simp] theorem isU84 : isU8 X 4 = false := by kernel_rfl
@[simp] theorem zok4 : zeroOk X 4 = true := by kernel_rfl
@[simp] theorem zero4 : zeroAV X 4 = .bool false := by kernel_rfl
@[simp] theorem und5 : und X 5 = .int .u8 := by kernel_rfl
@[simp] theorem size5 : sizeT X 5 = 1 := by kernel_rfl
@[simp] theorem bytes5 : bytesT X 5 = 1 := by kernel_rfl
@[simp] theorem okT5 : okT X 5 = true := by kernel_rfl
@[simp] theorem isAgg5 : isAggT X 5 = false := by kernel_rfl
@[simp] theorem isInt5 : isIntT X 5 = true := by kernel_rfl
@[simp] theorem isArr5 : isArrT X 5 = false := by kernel_rfl
@[simp] theorem isU85 : isU8 X 5 = true := by kernel_rfl
@[simp] theorem zok5 : zeroOk X 5 = true := by kernel_rfl
@[simp] theorem zero5 : zeroAV X 5 = .int .u8 0 := by kernel_rfl
@[simp] theorem und9 : und X 9 = .string := by kernel_rfl
@[simp] theorem size9 : sizeT X 9 = 1 := by kernel_rfl
@[simp] theorem bytes9 : bytesT X 9 = 16 := by kernel_rfl
@[simp] theorem okT9 : okT X 9 = true := by kernel_rfl
@[simp] theorem isAgg9 : isAggT X 9 = false := by kernel_rfl
@[simp] theorem isInt9 : isIntT X 9 = false := by kernel_rfl
@[simp] theorem isArr9 : isArrT X 9 = false := by kernel_rfl
@[simp] theorem isU89 : isU8 X 9 = false := by kernel_rfl
@[simp] theorem zok9 : zeroOk X 9 = true := by kernel_rfl
@[simp] theorem zero9 : zeroAV X 9 = .str [] := by kernel_rfl
@[simp] theorem und22 : und X 22 = .slice 5 := by kernel_rfl
@[simp] theorem size22 : sizeT X 22 = 1 := by kernel_rfl
@[simp] theorem bytes22 : bytesT X 22 = 24 := by kernel_rfl
@[simp] theorem okT22 : okT X 22 = true := by kernel_rfl
@[simp] theorem isAgg22 : isAggT X 22 = false := by kernel_rfl
@[simp] theorem isInt22 : isIntT X 22 = false := by kernel_rfl
@[simp] theorem isArr22 : isArrT X 22 = false := by kernel_rfl
@[simp] theorem isU822 : isU8 X 22 = false := by kernel_rfl
@[simp] theorem zok22 : zeroOk X 22 = true := by kernel_rfl
@[simp] theorem zero22 : zeroAV X 22 = .ro 0 .pn 0 := by kernel_rfl
@[simp] theorem und23 : und X 23 = .int .u16 := by kernel_rfl
@[simp] theorem size23 : sizeT X 23 = 1 := by kernel_rfl
@[simp] theorem bytes23 : bytesT X 23 = 2 := by kernel_rfl
@[simp] theorem okT23 : okT X 23 = true := by kernel_rfl
@[simp] theorem isAgg23 : isAggT X 23 = false := by kernel_rfl
@[simp] theorem isInt23 : isIntT X 23 = true := by kernel_rfl
@[simp] theorem isArr23 : isArrT X 23 = false := by kernel_rfl
@[simp] theorem isU823 : isU8 X 23 = false := by kernel_rfl
@[simp] theorem zok23 : zeroOk X 23 = true := by kernel_rfl
@[simp] theorem zero23 : zeroAV X 23 = .int .u16 0 := by kernel_rfl
@[simp] theorem und24 : und X 24 = .int .u32 := by kernel_rfl
@[simp] theorem size24 : sizeT X 24 = 1 := by kernel_rfl
@[simp] theorem bytes24 : bytesT X 24 = 4 := by kernel_rfl
@[simp] theorem okT24 : okT X 24 = true := by kernel_rfl
@[simp] theorem isAgg24 : isAggT X 24 = false := by kernel_rfl
@[simp] theorem isInt24 : isIntT X 24 = true := by kernel_rfl
@[simp] theorem isArr24 : isArrT X 24 = false := by kernel_rfl
@[simp] theorem isU824 : isU8 X 24 = false := by kernel_rfl
@[simp] theorem zok24 : zeroOk X 24 = true := by kernel_rfl
@[simp] theorem zero24 : zeroAV X 24 = .int .u32 0 := by kernel_rfl
@[simp] theorem size26 : sizeT X 26 = 10 := by kernel_rfl
@[simp] theorem bytes26 : bytesT X 26 = 96 := by kernel_rfl
@[simp] theorem okT26 : okT X 26 = true := by kernel_rfl
@[simp] theorem isAgg26 : isAggT X 26 = true := by kernel_rfl
@[simp] theorem isInt26 : isIntT X 26 = false := by kernel_rfl
@[simp] theorem isArr26 : isArrT X 26 = false := by kernel_rfl
@[simp] theorem isU826 : isU8 X 26 = false := by kernel_rfl
@[simp] theorem zok26 : zeroOk X 26 = true := by kernel_rfl
@[simp] theorem zero26 : zeroAV X 26 = .agg (.pc [.str [], .str [], .str [], .str [], .str [], .int .u16 0, .int .u32 0, .int .u8 0, .int .u16 0, .int .u8 0]) := by kernel_rfl
@[simp] theorem und29 : und X 29 = .int .i64 := by kernel_rfl
@[simp] theorem size29 : sizeT X 29 = 1 := by kernel_rfl
@[simp] theorem bytes29 : bytesT X 29 = 8 := by kernel_rfl
@[simp] theorem okT29 : okT X 29 = true := by kernel_rfl
@[simp] theorem isAgg29 : isAggT X 29 = false := by kernel_rfl
@[simp] theorem isInt29 : isIntT X 29 = true := by kernel_rfl
@[simp] theorem isArr29 : isArrT X 29 = false := by kernel_rfl
@[simp] theorem isU829 : isU8 X 29 = false := by kernel_rfl
@[simp] theorem zok29 : zeroOk X 29 = true := by kernel_rfl
@[simp] theorem zero29 : zeroAV X 29 = .int .i64 0 := by kernel_rfl
@[simp] theorem size30 : sizeT X 30 = 1 := by kernel_rfl
@[simp] theorem bytes30 : bytesT X 30 = 0 := by kernel_rfl
@[simp] theorem okT30 : okT X 30 = true := by kernel_rfl
@[simp] theorem isAgg30 : isAggT X 30 = false := by kernel_rfl
@[simp] theorem isInt30 : isIntT X 30 = false := by kernel_rfl
@[simp] theorem isArr30 : isArrT X 30 = false := by kernel_rfl
@[simp] theorem isU830 : isU8 X 30 = false := by kernel_rfl
@[simp] theorem zok30 : zeroOk X 30 = true := by kernel_rfl
@[simp] theorem size40 : sizeT X 40 = 1 := by kernel_rfl
@[simp] theorem bytes40 : bytesT X 40 = 0 := by kernel_rfl
@[simp] theorem okT40 : okT X 40 = true := by kernel_rfl
@[simp] theorem isAgg40 : isAggT X 40 = false := by kernel_rfl
@[simp] theorem isInt40 : isIntT X 40 = false := by kernel_rfl
@[simp] theorem isArr40 : isArrT X 40 = false := by kernel_rfl
@[simp] theorem isU840 : isU8 X 40 = false := by kernel_rfl
@[simp] theorem zok40 : zeroOk X 40 = true := by kernel_rfl
@[simp] theorem und44 : und X 44 = .slice 9 := by kernel_rfl
@[simp] theorem size44 : sizeT X 44 = 1 := by kernel_rfl
@[simp] theorem bytes44 : bytesT X 44 = 24 := by kernel_rfl
@[simp] theorem okT44 : okT X 44 = true := by kernel_rfl
@[simp] theorem isAgg44 : isAggT X 44 = false := by kernel_rfl
@[simp] theorem isInt44 : isIntT X 44 = false := by kernel_rfl
@[simp] theorem isArr44 : isArrT X 44 = false := by kernel_rfl
@[simp] theorem isU844 : isU8 X 44 = false := by kernel_rfl
@[simp] theorem zok44 : zeroOk X 44 = true := by kernel_rfl
@[simp] theorem zero44 : zeroAV X 44 = .ro 0 .pn 0 := by kernel_rfl
@[simp] theorem und46 : und X 46 = .int .u64 := by kernel_rfl
@[simp] theorem size46 : sizeT X 46 = 1 := by kernel_rfl
@[simp] theorem bytes46 : bytesT X 46 = 8 := by kernel_rfl
@[simp] theorem okT46 : okT X 46 = true := by kernel_rfl
@[simp] theorem isAgg46 : isAggT X 46 = false := by kernel_rfl
@[simp] theorem isInt46 : isIntT X 46 = true := by kernel_rfl
@[simp] theorem isArr46 : isArrT X 46 = false := by kernel_rfl
@[simp] theorem isU846 : isU8 X 46 = false := by kernel_rfl
@[simp] theorem zok46 : zeroOk X 46 = true := by kernel_rfl
@[simp] theorem zero46 : zeroAV X 46 = .int .u64 0 := by kernel_rfl
@[simp] theorem und48 : und X 48 = .array 256 9 := by kernel_rfl
@[simp] theorem size48 : sizeT X 48 = 256 := by kernel_rfl
@[simp] theorem bytes48 : bytesT X 48 = 4096 := by kernel_rfl
@[simp] theorem okT48 : okT X 48 = true := by kernel_rfl
@[simp] theorem isAgg48 : isAggT X 48 = true := by kernel_rfl
@[simp] theorem isInt48 : isIntT X 48 = false := by kernel_rfl
@[simp] theorem isArr48 : isArrT X 48 = true := by kernel_rfl
@[simp] theorem isU848 : isU8 X 48 = false := by kernel_rfl
@[simp] theorem zok48 : zeroOk X 48 = true := by kernel_rfl
@[simp] theorem zero48 : zeroAV X 48 = .agg (.pc [.str [], .str [], .str [], .str [], .str [], .str [], .str [], .str [], .str [], .str [], .str [], .str [], .str [], .str [], .str [], .str [], .str [], .str [], .str [], .str [], .str [], .str [], .str [], .str [], .str [], .str [], .str [], .str [], .str [], .str [], .str [], .str [], .str [], .str [], .str [], .str [], .str [], .str [], .str [], .str [], .str [], .str [], .str [], .str [], .str [], .str [], .str [], .str [], .str [], .str [], .str [], .str [], .str [], .str [], .str [], .str [], .str [], .str [], .str [], .str [], .str [], .str [], .str [], .str [], .str [], .str [], .str [], .str [], .str [], .str [], .str [], .str [], .str [], .str [], .str [], .str [], .str [], .str [], .str [], .str [], .str [], .str [], .str [], .str [], .str [], .str [], .str [], .str [], .str [], .str [], .str [], .str [], .str [], .str [], .str [], .str [], .str [], .str [], .str [], .str [], .str [], .str [], .str [], .str [], .str [], .str [], .str [], .str [], .str [], .str [], .str [], .str [], .str [], .str [], .str [], .str [], .str [], .str [], .str [], .str [], .str [], .str [], .str [], .str [], .str [], .str [], .str [], .str [], .str [], .str [], .str [], .str [], .str [], .str [], .str [], .str [], .str [], .str [], .str [], .str [], .str [], .str [], .str [], .str [], .str [], .str [], .str [], .str [], .str [], .str [], .str [], .str [], .str [], .str [], .str [], .str [], .str [], .str [], .str [], .str [], .str [], .str [], .str [], .str [], .str [], .str [], .str [], .str [], .str [], .str [], .str [], .str [], .str [], .str [], .str [], .str [], .str [], .str [], .str [], .str [], .str [], .str [], .str [], .str [], .str [], .str [], .str [], .str [], .str [], .str [], .str [], .str [], .str [], .str [], .str [], .str [], .str [], .str [], .str [], .str [], .str [], .str [], .str [], .str [], .str [], .str [], .str [], .str [], .str [], .str [], .str [], .str [], .str [], .str [], .str [], .str [], .str [], .str [], .str [], .str [], .str [], .str [], .str [], .str [], .str [], .str [], .str [], .str [], .str [], .str [], .str [], .str [], .str [], .str [], .str [], .str [], .str [], .str [], .str [], .str [], .str [], .str [], .str [], .str [], .str [], .str [], .str [], .str [], .str [], .str [], .str [], .str [], .str [], .str [], .str [], .str []]) := by kernel_rfl
@[simp] theorem size51 : sizeT X 51 = 1 := by kernel_rfl
@[simp] theorem bytes51 : bytesT X 51 = 0 := by kernel_rfl
@[simp] theorem okT51 : okT X 51 = true := by kernel_rfl
@[simp] theorem isAgg51 : isAggT X 51 = false := by kernel_rfl
@[simp] theorem isInt51 : isIntT X 51 = false := by kernel_rfl
@[simp] theorem isArr51 : isArrT X 51 = false := by kernel_rfl
@[simp] theorem isU851 : isU8 X 51 = false := by kernel_rfl
@[simp] theorem zok51 : zeroOk X 51 = true := by kernel_rfl
@[simp] theorem size55 : sizeT X 55 = 1 := by kernel_rfl
@[simp] theorem bytes55 : bytesT X 55 = 0 := by kernel_rfl
@[simp] theorem okT55 : okT X 55 = true := by kernel_rfl
@[simp] theorem isAgg55 : isAggT X 55 = false := by kernel_rfl
@[simp] theorem isInt55 : isIntT X 55 = false := by kernel_rfl
@[simp] theorem isArr55 : isArrT X 55 = false := by kernel_rfl
@[simp] theorem isU855 : isU8 X 55 = false := by kernel_rfl
@[simp] theorem zok55 : zeroOk X 55 = true := by kernel_rfl
@[simp] theorem size57 : sizeT X 57 = 1 := by kernel_rfl
@[simp] theorem bytes57 : bytesT X 57 = 0 := by kernel_rfl
@[simp] theorem okT57 : okT X 57 = true := by kernel_rfl
@[simp] theorem isAgg57 : isAggT X 57 = false := by kernel_rfl
@[simp] theorem isInt57 : isIntT X 57 = false := by kernel_rfl
@[simp] theorem isArr57 : isArrT X 57 = false := by kernel_rfl
@[simp] theorem isU857 : isU8 X 57 = false := by kernel_rfl
@[simp] theorem zok57 : zeroOk X 57 = true := by kernel_rfl
@[simp] theorem und59 : und X 59 = .int .u64 := by kernel_rfl
@[simp] theorem size59 : sizeT X 59 = 1 := by kernel_rfl
@[simp] theorem bytes59 : bytesT X 59 = 8 := by kernel_rfl
@[simp] theorem okT59 : okT X 59 = true := by kernel_rfl
@[simp] theorem isAgg59 : isAggT X 59 = false := by kernel_rfl
@[simp] theorem isInt59 : isIntT X 59 = true := by kernel_rfl
@[simp] theorem isArr59 : isArrT X 59 = false := by kernel_rfl
@[simp] theorem isU859 : isU8 X 59 = false := by kernel_rfl
@[simp] theorem zok59 : zeroOk X 59 = true := by kernel_rfl
@[simp] theorem zero59 : zeroAV X 59 = .int .u64 0 := by kernel_rfl
@[simp] theorem fa26_0 (H : AM.Heap) (x : AV) : fieldAddrV X H 26 x 0 = faV H x 0 := fieldAddr_of (ty := 9) (by kernel_rfl) (by kernel_rfl) H x
@[simp] theorem fv26_0 (x : AV) : fieldV X 26 x 0 = fvV X x 0 9 := field_of (by kernel_rfl) x
@[simp] theorem fa26_1 (H : AM.Heap) (x : AV) : fieldAddrV X H 26 x 1 = faV H x 1 := fieldAddr_of (ty := 9) (by kernel_rfl) (by kernel_rfl) H x
@[simp] theorem fv26_1 (x : AV) : fieldV X 26 x 1 = fvV X x 1 9 := field_of (by kernel_rfl) x
@[simp] theorem fa26_2 (H : AM.Heap) (x : AV) : fieldAddrV X H 26 x 2 = faV H x 2 := fieldAddr_of (ty := 9) (by kernel_rfl) (by kernel_rfl) H x
@[simp] theorem fv26_2 (x : AV) : fieldV X 26 x 2 = fvV X x 2 9 := field_of (by kernel_rfl) x
@[simp] theorem fa26_3 (H : AM.Heap) (x : AV) : fieldAddrV X H 26 x 3 = faV H x 3 := fieldAddr_of (ty := 9) (by kernel_rfl) (by kernel_rfl) H x
@[simp] theorem fv26_3 (x : AV) : fieldV X 26 x 3 = fvV X x 3 9 := field_of (by kernel_rfl) x
@[simp] theorem fa26_4 (H : AM.Heap) (x : AV) : fieldAddrV X H 26 x 4 = faV H x 4 := fieldAddr_of (ty := 9) (by kernel_rfl) (by kernel_rfl) H x
@[simp] theorem fv26_4 (x : AV) : fieldV X 26 x 4 = fvV X x 4 9 := field_of (by kernel_rfl) x
@[simp] theorem fa26_5 (H : AM.Heap) (x : AV) : fieldAddrV X H 26 x 5 = faV H x 5 := fieldAddr_of (ty := 23) (by kernel_rfl) (by kernel_rfl) H x
@[simp] theorem fv26_5 (x : AV) : fieldV X 26 x 5 = fvV X x 5 23 := field_of (by kernel_rfl) x
@[simp] theorem fa26_6 (H : AM.Heap) (x : AV) : fieldAddrV X H 26 x 6 = faV H x 6 := fieldAddr_of (ty := 24) (by kernel_rfl) (by kernel_rfl) H x
@[simp] theorem fv26_6 (x : AV) : fieldV X 26 x 6 = fvV X x 6 24 := field_of (by kernel_rfl) x
@[simp] theorem fa26_7 (H : AM.Heap) (x : AV) : fieldAddrV X H 26 x 7 = faV H x 7 := fieldAddr_of (ty := 5) (by kernel_rfl) (by kernel_rfl) H x
@[simp] theorem fv26_7 (x : AV) : fieldV X 26 x 7 = fvV X x 7 5 := field_of (by kernel_rfl) x
@[simp] theorem fa26_8 (H : AM.Heap) (x : AV) : fieldAddrV X H 26 x 8 = faV H x 8 := fieldAddr_of (ty := 23) (by kernel_rfl) (by kernel_rfl) H x
@[simp] theorem fv26_8 (x : AV) : fieldV X 26 x 8 = fvV X x 8 23 := field_of (by kernel_rfl) x
@[simp] theorem fa26_9 (H : AM.Heap) (x : AV) : fieldAddrV X H 26 x 9 = faV H x 9 := fieldAddr_of (ty := 5) (by kernel_rfl) (by kernel_rfl) H x
@[simp] theorem fv26_9 (x : AV) : fieldV X 26 x 9 = fvV X x 9 5 := field_of (by kernel_rfl) x

end Go.Proofs.YtkgchoknkakcgaaDoor
