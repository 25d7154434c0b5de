/- The seat's tables for the abstract machine, and what walks ask of the program. No conditions. -/
import Derived.Test.YtmdciglfpedhgaaDoorRows
import Derived.Test.YtmdciglfpedhgaaDoorAm3
namespace Go.Proofs.YtmdciglfpedhgaaDoor
open Go.AM

def keepT : List (List (List Nat)) := [[], [], [[]], [[0, 3], [0, 3, 10], [4], [0, 3, 18], [4], [0, 3, 5, 6], [3, 5, 6, 7, 8], [4]], [[], [1], [1, 2], [1, 2, 3, 4], [1, 2, 3, 4, 6], [1, 2, 3, 4, 6, 8], [1, 2, 3, 4, 6, 8, 10], [1, 2, 3, 4, 6, 8, 10, 12], [1, 2, 3, 4, 6, 8, 10, 12, 13, 14], [1, 2, 15], [1, 2, 4, 15, 16], [1, 2, 4, 6, 15, 16], [1, 2, 15, 17], [0]], [[], [1, 2], [1, 2, 3, 4], [0]], [[1], [2]], [[0, 3], [0, 3, 6], [0, 3, 6, 11], [4, 5], [3, 7], [3, 7, 21], [3, 7, 21, 22], [3, 7], [3, 7, 21, 28], [3, 7], [3, 7, 21, 35], [3, 7], [3, 7, 21, 46], [3, 7], [3, 7, 21, 57], [3, 7], [3, 7, 21, 64], [3, 7], [3, 7, 71], [3, 7], [4, 5]], [[0], [2]], [[0, 3], [0, 3, 10], [4, 5], [3, 6], [3, 6, 7], [3, 6, 7, 30], [3, 6, 7], [3, 6, 36], [3, 6, 36, 37], [6], [3, 6, 36, 43], [3, 6, 36, 43], [6], [3, 6, 36, 51], [6], [3, 6, 36, 61], [6], [3, 6, 36, 71], [6], [3, 6, 78], [6], [4, 5]], [[0, 1], [4]], [[1], [1, 3], [1, 4], [62], [2], [2]], [[1], [1, 3], [1, 3, 53], [2], [91], [2], [2]], [[0], [0, 3, 4], [0, 3, 11], [2], [2]], [[0], [0, 3], [0, 3, 9], [2], [0, 14], [0, 14, 15], [2], [0, 14, 17], [2], [0, 14, 19], [2], [0, 14, 21], [2], [0, 14, 23], [2], [0, 14, 25], [2], [0, 14, 27], [2], [0, 14, 29], [2], [0, 14, 31], [2], [0, 14, 33], [2], [0, 14, 35], [2], [0, 37], [2], [2]], [[0], [3], [3, 4], [3, 4], [3, 4], [2], [3, 8], [3, 8], [3, 8], [3, 8], [3, 8], [2], [3, 14], [2], [3, 16], [2], [3, 18], [3, 18], [2], [3, 21], [2], [3, 23], [2], [25], [2], [2]], [[0], [3], [3, 4], [3, 4], [3, 4], [2], [3, 8], [3, 8], [3, 8], [3, 8], [3, 8], [2], [3, 14], [2], [3, 16], [2], [3, 18], [3, 18], [2], [3, 21], [2], [3, 23], [2], [25], [2], [2]], [[0], [3], [3, 4], [3, 4], [3, 4], [3, 4], [4], [2], [2]], [[0], [3], [2]], [[0, 2], [2, 4], [2, 4, 5], [2, 4, 5, 17], [2, 3], [2, 4, 5, 25], [2, 4, 5, 25, 26], [2, 4, 5], [2, 4, 5, 25, 32], [2, 4, 5], [2, 4, 5, 25, 38], [2, 4, 5], [2, 4, 5, 57], [2, 4, 5], [2, 4, 5, 70], [2, 4, 5], [2, 4, 5], [2, 4, 5, 25, 77], [2, 4, 5], [2, 4, 5, 25, 90], [2, 4, 5], [2, 4, 5, 25, 96], [2, 4, 5], [2, 4, 5, 25, 102], [2, 4, 5], [2, 4, 5, 112], [2, 4, 5], [2, 4, 5, 129], [2, 4, 5], [2, 4, 5, 137], [2, 3], [2, 3]], [[0, 1], [1, 6, 7], [1, 6, 7, 14], [4, 5], [1, 6, 19], [4, 5], [6], [4, 5]], [[0], [0, 4], [2], [2]], [[0], [3], [3, 4], [3, 4], [3, 4], [3, 4], [2], [3, 9], [3, 9], [3, 9], [2], [3, 13], [2], [3, 15], [2], [3, 17], [2], [3, 19], [3, 19], [2], [3, 22], [2], [24], [2], [2]], [[0, 1, 2], [7], [6]], [[0], [3], [3, 4], [3, 4], [3, 4], [3, 4], [2], [3, 9], [3, 9], [3, 9], [2], [3, 13], [2], [3, 15], [2], [3, 17], [2], [3, 19], [3, 19], [2], [3, 22], [2], [24], [2], [2]], [[0, 1, 2], [7], [6]], [[1, 2], [1, 2, 3], [1, 2, 3, 9], [1, 2, 3, 9, 10], [2, 3], [1, 2, 3, 9, 15], [2, 3], [1, 2, 3, 9, 20], [2, 3], [1, 2, 3, 9, 31], [2, 3], [1, 2, 3, 9, 42], [2, 3], [1, 2, 3, 9, 47], [2, 3], [1, 2, 3, 9, 52], [2, 3], [1, 2, 3, 60], [2, 3], [2]], [[], [0]], [[0], [2]], [[0], [0, 4], [2], [2]], [[0, 1], [0, 1, 11], [4], [0, 1, 5, 6], [0, 1, 5, 6, 22], [], [4], [5], [4]], [[0], [0, 3], [3], [2]], [[0, 1, 2], [0, 1, 2, 26], [6, 7], [1, 2, 8], [1, 8, 29, 30], [1, 8, 29, 30, 31], [1, 8, 9, 29, 30], [1, 8, 29, 30], [1, 8, 29, 30], [6, 7]], [[0, 1, 2], [0, 1, 2, 27], [6, 7], [1, 2, 8], [1, 2, 8, 9], [1, 2, 8, 9, 33], [1, 2, 8, 9], [1, 2, 8, 9], [6, 7]], [[0], [2]], [[0, 1], [0, 1, 13], [4, 5], [0, 1, 17], [4, 5], [0, 1, 6], [0, 6, 18, 19], [0, 6, 18, 19, 20], [0, 6, 7, 18, 19], [0, 6, 18, 19], [0, 6, 18, 19], [4, 5]], [[0, 1], [0, 1, 11], [0, 17], [4], [0, 5], [0, 5, 6], [0, 5, 6, 23], [0, 5, 6], [0, 5, 6, 7], [0, 5, 7], [5, 7, 34], [5, 7], [4], [4], [9], [4]], [[0], [0, 4], [2], [2]], [[0], [0, 3], [2]], [[0, 1, 4], [0, 1, 4, 20], [0, 1, 4, 5], [0, 1, 4, 5], [0, 1, 4, 6, 7], [0, 1, 4, 6, 8, 9], [0, 1, 4, 8, 9, 10, 11], [0, 1, 4, 8, 10, 11], [0, 1, 4, 10, 11], [0, 1, 4, 10], [0, 1, 4], [0, 1, 4], [0, 4, 12], [0, 4, 12, 99], [0, 4, 12, 13], [0, 4, 12, 13], [0, 4, 12, 14, 15], [0, 4, 12, 14], [0, 4, 12], [0, 4, 12], [0, 4, 12, 139], [0, 4, 12, 16], [0, 4, 12, 16], [0, 4, 12], [0, 4, 12], [0, 12, 161], []], [[0, 1, 2, 3, 4, 10, 11], [0, 1, 2, 3, 4, 10, 11, 28], [0, 1, 2, 3, 4, 10, 11], [0, 1, 2, 3, 4, 10, 11, 12], [0, 1, 2, 3, 4, 10, 11, 12, 13], [0, 1, 2, 3, 4, 10, 11, 12, 13, 30], [0, 1, 2, 3, 4, 10, 11, 12, 13], [0, 1, 2, 3, 4, 10, 11, 12, 13, 34], [0, 1, 2, 3, 4, 10, 11, 12, 13, 14], [0, 1, 2, 3, 4, 10, 11, 12, 13, 14, 15], [0, 1, 3, 4, 10, 11, 12, 13, 14, 15, 16], [0, 1, 3, 4, 10, 11, 12, 13, 14, 15, 16, 46], [0, 1, 3, 4, 10, 11, 12, 13, 14, 15, 16], [0, 1, 3, 4, 10, 11, 12, 13, 14, 15, 16], [0, 1, 3, 4, 10, 11, 12, 13, 14, 15, 16], [0, 1, 3, 4, 10, 11, 12, 13], [0, 3, 4, 10, 11, 12, 13], [0, 1, 3, 4, 10, 11, 12, 13, 17], [0, 1, 3, 4, 10, 11, 12, 13, 17, 68], [0, 1, 3, 4, 10, 11, 12, 13, 17], [0, 1, 3, 4, 10, 11, 12, 13, 17, 18], [0, 3, 4, 10, 11, 12, 13, 17, 18], [0, 1, 3, 4, 10, 11, 12, 13, 17], [0, 1, 3, 4, 10, 11, 12, 13], [0, 3, 4, 10, 11, 12, 13], [0, 4, 10, 11, 12, 13, 89], [0, 4, 10, 11, 12, 13], [0, 4, 10, 11, 12, 13], [0, 10, 11, 12, 13, 94], [10, 11], [10, 11]], [[0], [2]], [[0, 2], [0, 2, 4], [0], [0, 2], [0, 2, 8], [0, 2], [0, 2], [0, 2, 14], [0, 2], [0, 2], [2]], [[0], [3], [2], [2]], [[0], [2]], [[0], [2], [2]], [[0], [0, 4], [2], [2]], [[0], [0, 4], [2], [2]], [], [], [], [], [], [], [], [], [], [], [], [], [], [], [], [], [], [], [], [], [], [[], [], []]]

def globs : List (Nat × AM.AV) := [(0, .pi .u64 [1, 10, 100, 1000, 10000, 100000, 1000000, 10000000, 100000000, 1000000000, 10000000000, 100000000000, 1000000000000, 10000000000000, 100000000000000, 1000000000000000, 10000000000000000, 100000000000000000, 1000000000000000000, 10000000000000000000]), (1, .pb [0, 1, 28, 2, 29, 14, 24, 3, 30, 22, 20, 15, 25, 17, 4, 8, 31, 27, 13, 23, 21, 19, 16, 7, 26, 12, 18, 6, 11, 5, 10, 9]), (2, .pb [0, 1, 56, 2, 57, 49, 28, 3, 61, 58, 42, 50, 38, 29, 17, 4, 62, 47, 59, 36, 45, 43, 51, 22, 53, 39, 33, 30, 24, 18, 12, 5, 63, 55, 48, 27, 60, 41, 37, 16, 46, 35, 44, 21, 52, 32, 23, 11, 54, 26, 40, 15, 34, 20, 31, 10, 25, 14, 19, 9, 13, 8, 7, 6])]
noncomputable def X : AM.Ctx := { P := Tryd.prog, G := AM.globF globs, rw := fun f i => (f == 39 && i == 0), keep := fun f i => ((keepT[f]?).getD [])[i]?, norm := fun _ _ => false, dr := fun _ _ => true, dy := fun f id => [(3, 5), (3, 7), (7, 4), (7, 11), (7, 13), (7, 19), (9, 3), (9, 14), (9, 16), (19, 4), (19, 30), (26, 8), (26, 10), (26, 16), (29, 3)].contains (f, id) }

theorem own : ownKnob Tryd.prog.godebug = .none := by kernel_rfl
theorem full : ∀ t e, t < Tryd.prog.types.size → Tryd.prog.underlying t = some (.slice e) → 0 < Tryd.prog.cellsOf e := slices_full_of Tryd.prog (by kernel_rfl)
theorem ctxOk : AM.CtxOk X := AM.ctxOk_of (by kernel_rfl) (by kernel_rfl)
@[simp] theorem X_dr (f i : Nat) : X.dr f i = true := rfl
@[simp] theorem X_norm (f i : Nat) : X.norm f i = false := rfl
@[simp] theorem X_rw (f i : Nat) : X.rw f i = (f == 39 && i == 0) := rfl
@[simp] theorem nt3 : ntOf X 3 = 74 := by kernel_rfl
@[simp] theorem bod3 : bodied X 3 = true := by kernel_rfl
@[simp] theorem par3 : paramsOf X 3 = [22, 26] := by kernel_rfl
@[simp] theorem nt4 : ntOf X 4 = 131 := by kernel_rfl
@[simp] theorem bod4 : bodied X 4 = true := by kernel_rfl
@[simp] theorem par4 : paramsOf X 4 = [] := by kernel_rfl
@[simp] theorem nt5 : ntOf X 5 = 42 := by kernel_rfl
@[simp] theorem bod5 : bodied X 5 = true := by kernel_rfl
@[simp] theorem par5 : paramsOf X 5 = [] := by kernel_rfl
@[simp] theorem nt6 : ntOf X 6 = 13 := by kernel_rfl
@[simp] theorem bod6 : bodied X 6 = true := by kernel_rfl
@[simp] theorem par6 : paramsOf X 6 = [26] := by kernel_rfl
@[simp] theorem nt7 : ntOf X 7 = 86 := by kernel_rfl
@[simp] theorem bod7 : bodied X 7 = true := by kernel_rfl
@[simp] theorem par7 : paramsOf X 7 = [22, 26] := by kernel_rfl
@[simp] theorem nt8 : ntOf X 8 = 14 := by kernel_rfl
@[simp] theorem bod8 : bodied X 8 = true := by kernel_rfl
@[simp] theorem par8 : paramsOf X 8 = [22] := by kernel_rfl
@[simp] theorem nt9 : ntOf X 9 = 85 := by kernel_rfl
@[simp] theorem bod9 : bodied X 9 = true := by kernel_rfl
@[simp] theorem par9 : paramsOf X 9 = [22, 26] := by kernel_rfl
@[simp] theorem nt10 : ntOf X 10 = 10 := by kernel_rfl
@[simp] theorem bod10 : bodied X 10 = true := by kernel_rfl
@[simp] theorem par10 : paramsOf X 10 = [22, 22] := by kernel_rfl
@[simp] theorem nt11 : ntOf X 11 = 63 := by kernel_rfl
@[simp] theorem bod11 : bodied X 11 = true := by kernel_rfl
@[simp] theorem par11 : paramsOf X 11 = [26] := by kernel_rfl
@[simp] theorem nt12 : ntOf X 12 = 92 := by kernel_rfl
@[simp] theorem bod12 : bodied X 12 = true := by kernel_rfl
@[simp] theorem par12 : paramsOf X 12 = [26] := by kernel_rfl
@[simp] theorem nt13 : ntOf X 13 = 17 := by kernel_rfl
@[simp] theorem bod13 : bodied X 13 = true := by kernel_rfl
@[simp] theorem par13 : paramsOf X 13 = [5] := by kernel_rfl
@[simp] theorem nt14 : ntOf X 14 = 43 := by kernel_rfl
@[simp] theorem bod14 : bodied X 14 = true := by kernel_rfl
@[simp] theorem par14 : paramsOf X 14 = [5] := by kernel_rfl
@[simp] theorem nt15 : ntOf X 15 = 27 := by kernel_rfl
@[simp] theorem bod15 : bodied X 15 = true := by kernel_rfl
@[simp] theorem par15 : paramsOf X 15 = [5] := by kernel_rfl
@[simp] theorem nt16 : ntOf X 16 = 27 := by kernel_rfl
@[simp] theorem bod16 : bodied X 16 = true := by kernel_rfl
@[simp] theorem par16 : paramsOf X 16 = [5] := by kernel_rfl
@[simp] theorem nt17 : ntOf X 17 = 10 := by kernel_rfl
@[simp] theorem bod17 : bodied X 17 = true := by kernel_rfl
@[simp] theorem par17 : paramsOf X 17 = [5] := by kernel_rfl
@[simp] theorem nt18 : ntOf X 18 = 20 := by kernel_rfl
@[simp] theorem bod18 : bodied X 18 = true := by kernel_rfl
@[simp] theorem par18 : paramsOf X 18 = [5] := by kernel_rfl
@[simp] theorem nt19 : ntOf X 19 = 144 := by kernel_rfl
@[simp] theorem bod19 : bodied X 19 = true := by kernel_rfl
@[simp] theorem par19 : paramsOf X 19 = [22] := by kernel_rfl
@[simp] theorem nt20 : ntOf X 20 = 26 := by kernel_rfl
@[simp] theorem bod20 : bodied X 20 = true := by kernel_rfl
@[simp] theorem par20 : paramsOf X 20 = [22, 23] := by kernel_rfl
@[simp] theorem nt21 : ntOf X 21 = 8 := by kernel_rfl
@[simp] theorem bod21 : bodied X 21 = true := by kernel_rfl
@[simp] theorem par21 : paramsOf X 21 = [22] := by kernel_rfl
@[simp] theorem nt22 : ntOf X 22 = 26 := by kernel_rfl
@[simp] theorem bod22 : bodied X 22 = true := by kernel_rfl
@[simp] theorem par22 : paramsOf X 22 = [5] := by kernel_rfl
@[simp] theorem nt23 : ntOf X 23 = 17 := by kernel_rfl
@[simp] theorem bod23 : bodied X 23 = true := by kernel_rfl
@[simp] theorem par23 : paramsOf X 23 = [22, 43, 3] := by kernel_rfl
@[simp] theorem nt24 : ntOf X 24 = 26 := by kernel_rfl
@[simp] theorem bod24 : bodied X 24 = true := by kernel_rfl
@[simp] theorem par24 : paramsOf X 24 = [5] := by kernel_rfl
@[simp] theorem nt25 : ntOf X 25 = 17 := by kernel_rfl
@[simp] theorem bod25 : bodied X 25 = true := by kernel_rfl
@[simp] theorem par25 : paramsOf X 25 = [22, 43, 3] := by kernel_rfl
@[simp] theorem nt26 : ntOf X 26 = 66 := by kernel_rfl
@[simp] theorem bod26 : bodied X 26 = true := by kernel_rfl
@[simp] theorem par26 : paramsOf X 26 = [26] := by kernel_rfl
@[simp] theorem nt27 : ntOf X 27 = 3 := by kernel_rfl
@[simp] theorem bod27 : bodied X 27 = true := by kernel_rfl
@[simp] theorem par27 : paramsOf X 27 = [] := by kernel_rfl
@[simp] theorem nt28 : ntOf X 28 = 5 := by kernel_rfl
@[simp] theorem bod28 : bodied X 28 = true := by kernel_rfl
@[simp] theorem par28 : paramsOf X 28 = [3] := by kernel_rfl
@[simp] theorem nt29 : ntOf X 29 = 20 := by kernel_rfl
@[simp] theorem bod29 : bodied X 29 = true := by kernel_rfl
@[simp] theorem par29 : paramsOf X 29 = [3] := by kernel_rfl
@[simp] theorem nt30 : ntOf X 30 = 37 := by kernel_rfl
@[simp] theorem bod30 : bodied X 30 = true := by kernel_rfl
@[simp] theorem par30 : paramsOf X 30 = [50, 3] := by kernel_rfl
@[simp] theorem nt31 : ntOf X 31 = 13 := by kernel_rfl
@[simp] theorem bod31 : bodied X 31 = true := by kernel_rfl
@[simp] theorem par31 : paramsOf X 31 = [50] := by kernel_rfl
@[simp] theorem nt32 : ntOf X 32 = 43 := by kernel_rfl
@[simp] theorem bod32 : bodied X 32 = true := by kernel_rfl
@[simp] theorem par32 : paramsOf X 32 = [22, 43, 3] := by kernel_rfl
@[simp] theorem nt33 : ntOf X 33 = 46 := by kernel_rfl
@[simp] theorem bod33 : bodied X 33 = true := by kernel_rfl
@[simp] theorem par33 : paramsOf X 33 = [22, 43, 3] := by kernel_rfl
@[simp] theorem nt34 : ntOf X 34 = 5 := by kernel_rfl
@[simp] theorem bod34 : bodied X 34 = true := by kernel_rfl
@[simp] theorem par34 : paramsOf X 34 = [3] := by kernel_rfl
@[simp] theorem nt35 : ntOf X 35 = 34 := by kernel_rfl
@[simp] theorem bod35 : bodied X 35 = true := by kernel_rfl
@[simp] theorem par35 : paramsOf X 35 = [22, 3] := by kernel_rfl
@[simp] theorem keep3_0 : X.keep 3 0 = some [0, 3] := by kernel_rfl
@[simp] theorem keep3_1 : X.keep 3 1 = some [0, 3, 10] := by kernel_rfl
@[simp] theorem keep3_2 : X.keep 3 2 = some [4] := by kernel_rfl
@[simp] theorem keep3_3 : X.keep 3 3 = some [0, 3, 18] := by kernel_rfl
@[simp] theorem keep3_4 : X.keep 3 4 = some [4] := by kernel_rfl
@[simp] theorem keep3_5 : X.keep 3 5 = some [0, 3, 5, 6] := by kernel_rfl
@[simp] theorem keep3_6 : X.keep 3 6 = some [3, 5, 6, 7, 8] := by kernel_rfl
@[simp] theorem keep3_7 : X.keep 3 7 = some [4] := by kernel_rfl
@[simp] theorem keep4_0 : X.keep 4 0 = some [] := by kernel_rfl
@[simp] theorem keep4_1 : X.keep 4 1 = some [1] := by kernel_rfl
@[simp] theorem keep4_2 : X.keep 4 2 = some [1, 2] := by kernel_rfl
@[simp] theorem keep4_3 : X.keep 4 3 = some [1, 2, 3, 4] := by kernel_rfl
@[simp] theorem keep4_4 : X.keep 4 4 = some [1, 2, 3, 4, 6] := by kernel_rfl
@[simp] theorem keep4_5 : X.keep 4 5 = some [1, 2, 3, 4, 6, 8] := by kernel_rfl
@[simp] theorem keep4_6 : X.keep 4 6 = some [1, 2, 3, 4, 6, 8, 10] := by kernel_rfl
@[simp] theorem keep4_7 : X.keep 4 7 = some [1, 2, 3, 4, 6, 8, 10, 12] := by kernel_rfl
@[simp] theorem keep4_8 : X.keep 4 8 = some [1, 2, 3, 4, 6, 8, 10, 12, 13, 14] := by kernel_rfl
@[simp] theorem keep4_9 : X.keep 4 9 = some [1, 2, 15] := by kernel_rfl
@[simp] theorem keep4_10 : X.keep 4 10 = some [1, 2, 4, 15, 16] := by kernel_rfl
@[simp] theorem keep4_11 : X.keep 4 11 = some [1, 2, 4, 6, 15, 16] := by kernel_rfl
@[simp] theorem keep4_12 : X.keep 4 12 = some [1, 2, 15, 17] := by kernel_rfl
@[simp] theorem keep4_13 : X.keep 4 13 = some [0] := by kernel_rfl
@[simp] theorem keep5_0 : X.keep 5 0 = some [] := by kernel_rfl
@[simp] theorem keep5_1 : X.keep 5 1 = some [1, 2] := by kernel_rfl
@[simp] theorem keep5_2 : X.keep 5 2 = some [1, 2, 3, 4] := by kernel_rfl
@[simp] theorem keep5_3 : X.keep 5 3 = some [0] := by kernel_rfl
@[simp] theorem keep6_0 : X.keep 6 0 = some [1] := by kernel_rfl
@[simp] theorem keep6_1 : X.keep 6 1 = some [2] := by kernel_rfl
@[simp] theorem keep7_0 : X.keep 7 0 = some [0, 3] := by kernel_rfl
@[simp] theorem keep7_1 : X.keep 7 1 = some [0, 3, 6] := by kernel_rfl
@[simp] theorem keep7_2 : X.keep 7 2 = some [0, 3, 6, 11] := by kernel_rfl
@[simp] theorem keep7_3 : X.keep 7 3 = some [4, 5] := by kernel_rfl
@[simp] theorem keep7_4 : X.keep 7 4 = some [3, 7] := by kernel_rfl
@[simp] theorem keep7_5 : X.keep 7 5 = some [3, 7, 21] := by kernel_rfl
@[simp] theorem keep7_6 : X.keep 7 6 = some [3, 7, 21, 22] := by kernel_rfl
@[simp] theorem keep7_7 : X.keep 7 7 = some [3, 7] := by kernel_rfl
@[simp] theorem keep7_8 : X.keep 7 8 = some [3, 7, 21, 28] := by kernel_rfl
@[simp] theorem keep7_9 : X.keep 7 9 = some [3, 7] := by kernel_rfl
@[simp] theorem keep7_10 : X.keep 7 10 = some [3, 7, 21, 35] := by kernel_rfl
@[simp] theorem keep7_11 : X.keep 7 11 = some [3, 7] := by kernel_rfl
@[simp] theorem keep7_12 : X.keep 7 12 = some [3, 7, 21, 46] := by kernel_rfl
@[simp] theorem keep7_13 : X.keep 7 13 = some [3, 7] := by kernel_rfl
@[simp] theorem keep7_14 : X.keep 7 14 = some [3, 7, 21, 57] := by kernel_rfl
@[simp] theorem keep7_15 : X.keep 7 15 = some [3, 7] := by kernel_rfl
@[simp] theorem keep7_16 : X.keep 7 16 = some [3, 7, 21, 64] := by kernel_rfl
@[simp] theorem keep7_17 : X.keep 7 17 = some [3, 7] := by kernel_rfl
@[simp] theorem keep7_18 : X.keep 7 18 = some [3, 7, 71] := by kernel_rfl
@[simp] theorem keep7_19 : X.keep 7 19 = some [3, 7] := by kernel_rfl
@[simp] theorem keep7_20 : X.keep 7 20 = some [4, 5] := by kernel_rfl
@[simp] theorem keep8_0 : X.keep 8 0 = some [0] := by kernel_rfl
@[simp] theorem keep8_1 : X.keep 8 1 = some [2] := by kernel_rfl
@[simp] theorem keep9_0 : X.keep 9 0 = some [0, 3] := by kernel_rfl
@[simp] theorem keep9_1 : X.keep 9 1 = some [0, 3, 10] := by kernel_rfl
@[simp] theorem keep9_2 : X.keep 9 2 = some [4, 5] := by kernel_rfl
@[simp] theorem keep9_3 : X.keep 9 3 = some [3, 6] := by kernel_rfl
@[simp] theorem keep9_4 : X.keep 9 4 = some [3, 6, 7] := by kernel_rfl
@[simp] theorem keep9_5 : X.keep 9 5 = some [3, 6, 7, 30] := by kernel_rfl
@[simp] theorem keep9_6 : X.keep 9 6 = some [3, 6, 7] := by kernel_rfl
@[simp] theorem keep9_7 : X.keep 9 7 = some [3, 6, 36] := by kernel_rfl
@[simp] theorem keep9_8 : X.keep 9 8 = some [3, 6, 36, 37] := by kernel_rfl
@[simp] theorem keep9_9 : X.keep 9 9 = some [6] := by kernel_rfl
@[simp] theorem keep9_10 : X.keep 9 10 = some [3, 6, 36, 43] := by kernel_rfl
@[simp] theorem keep9_11 : X.keep 9 11 = some [3, 6, 36, 43] := by kernel_rfl
@[simp] theorem keep9_12 : X.keep 9 12 = some [6] := by kernel_rfl
@[simp] theorem keep9_13 : X.keep 9 13 = some [3, 6, 36, 51] := by kernel_rfl
@[simp] theorem keep9_14 : X.keep 9 14 = some [6] := by kernel_rfl
@[simp] theorem keep9_15 : X.keep 9 15 = some [3, 6, 36, 61] := by kernel_rfl
@[simp] theorem keep9_16 : X.keep 9 16 = some [6] := by kernel_rfl
@[simp] theorem keep9_17 : X.keep 9 17 = some [3, 6, 36, 71] := by kernel_rfl
@[simp] theorem keep9_18 : X.keep 9 18 = some [6] := by kernel_rfl
@[simp] theorem keep9_19 : X.keep 9 19 = some [3, 6, 78] := by kernel_rfl
@[simp] theorem keep9_20 : X.keep 9 20 = some [6] := by kernel_rfl
@[simp] theorem keep9_21 : X.keep 9 21 = some [4, 5] := by kernel_rfl
@[simp] theorem keep10_0 : X.keep 10 0 = some [0, 1] := by kernel_rfl
@[simp] theorem keep10_1 : X.keep 10 1 = some [4] := by kernel_rfl
@[simp] theorem keep11_0 : X.keep 11 0 = some [1] := by kernel_rfl
@[simp] theorem keep11_1 : X.keep 11 1 = some [1, 3] := by kernel_rfl
@[simp] theorem keep11_2 : X.keep 11 2 = some [1, 4] := by kernel_rfl
@[simp] theorem keep11_3 : X.keep 11 3 = some [62] := by kernel_rfl
@[simp] theorem keep11_4 : X.keep 11 4 = some [2] := by kernel_rfl
@[simp] theorem keep11_5 : X.keep 11 5 = some [2] := by kernel_rfl
@[simp] theorem keep12_0 : X.keep 12 0 = some [1] := by kernel_rfl
@[simp] theorem keep12_1 : X.keep 12 1 = some [1, 3] := by kernel_rfl
@[simp] theorem keep12_2 : X.keep 12 2 = some [1, 3, 53] := by kernel_rfl
@[simp] theorem keep12_3 : X.keep 12 3 = some [2] := by kernel_rfl
@[simp] theorem keep12_4 : X.keep 12 4 = some [91] := by kernel_rfl
@[simp] theorem keep12_5 : X.keep 12 5 = some [2] := by kernel_rfl
@[simp] theorem keep12_6 : X.keep 12 6 = some [2] := by kernel_rfl
@[simp] theorem keep13_0 : X.keep 13 0 = some [0] := by kernel_rfl
@[simp] theorem keep13_1 : X.keep 13 1 = some [0, 3, 4] := by kernel_rfl
@[simp] theorem keep13_2 : X.keep 13 2 = some [0, 3, 11] := by kernel_rfl
@[simp] theorem keep13_3 : X.keep 13 3 = some [2] := by kernel_rfl
@[simp] theorem keep13_4 : X.keep 13 4 = some [2] := by kernel_rfl
@[simp] theorem keep14_0 : X.keep 14 0 = some [0] := by kernel_rfl
@[simp] theorem keep14_1 : X.keep 14 1 = some [0, 3] := by kernel_rfl
@[simp] theorem keep14_2 : X.keep 14 2 = some [0, 3, 9] := by kernel_rfl
@[simp] theorem keep14_3 : X.keep 14 3 = some [2] := by kernel_rfl
@[simp] theorem keep14_4 : X.keep 14 4 = some [0, 14] := by kernel_rfl
@[simp] theorem keep14_5 : X.keep 14 5 = some [0, 14, 15] := by kernel_rfl
@[simp] theorem keep14_6 : X.keep 14 6 = some [2] := by kernel_rfl
@[simp] theorem keep14_7 : X.keep 14 7 = some [0, 14, 17] := by kernel_rfl
@[simp] theorem keep14_8 : X.keep 14 8 = some [2] := by kernel_rfl
@[simp] theorem keep14_9 : X.keep 14 9 = some [0, 14, 19] := by kernel_rfl
@[simp] theorem keep14_10 : X.keep 14 10 = some [2] := by kernel_rfl
@[simp] theorem keep14_11 : X.keep 14 11 = some [0, 14, 21] := by kernel_rfl
@[simp] theorem keep14_12 : X.keep 14 12 = some [2] := by kernel_rfl
@[simp] theorem keep14_13 : X.keep 14 13 = some [0, 14, 23] := by kernel_rfl
@[simp] theorem keep14_14 : X.keep 14 14 = some [2] := by kernel_rfl
@[simp] theorem keep14_15 : X.keep 14 15 = some [0, 14, 25] := by kernel_rfl
@[simp] theorem keep14_16 : X.keep 14 16 = some [2] := by kernel_rfl
@[simp] theorem keep14_17 : X.keep 14 17 = some [0, 14, 27] := by kernel_rfl
@[simp] theorem keep14_18 : X.keep 14 18 = some [2] := by kernel_rfl
@[simp] theorem keep14_19 : X.keep 14 19 = some [0, 14, 29] := by kernel_rfl
@[simp] theorem keep14_20 : X.keep 14 20 = some [2] := by kernel_rfl
@[simp] theorem keep14_21 : X.keep 14 21 = some [0, 14, 31] := by kernel_rfl
@[simp] theorem keep14_22 : X.keep 14 22 = some [2] := by kernel_rfl
@[simp] theorem keep14_23 : X.keep 14 23 = some [0, 14, 33] := by kernel_rfl
@[simp] theorem keep14_24 : X.keep 14 24 = some [2] := by kernel_rfl
@[simp] theorem keep14_25 : X.keep 14 25 = some [0, 14, 35] := by kernel_rfl
@[simp] theorem keep14_26 : X.keep 14 26 = some [2] := by kernel_rfl
@[simp] theorem keep14_27 : X.keep 14 27 = some [0, 37] := by kernel_rfl
@[simp] theorem keep14_28 : X.keep 14 28 = some [2] := by kernel_rfl
@[simp] theorem keep14_29 : X.keep 14 29 = some [2] := by kernel_rfl
@[simp] theorem keep15_0 : X.keep 15 0 = some [0] := by kernel_rfl
@[simp] theorem keep15_1 : X.keep 15 1 = some [3] := by kernel_rfl
@[simp] theorem keep15_2 : X.keep 15 2 = some [3, 4] := by kernel_rfl
@[simp] theorem keep15_3 : X.keep 15 3 = some [3, 4] := by kernel_rfl
@[simp] theorem keep15_4 : X.keep 15 4 = some [3, 4] := by kernel_rfl
@[simp] theorem keep15_5 : X.keep 15 5 = some [2] := by kernel_rfl
@[simp] theorem keep15_6 : X.keep 15 6 = some [3, 8] := by kernel_rfl
@[simp] theorem keep15_7 : X.keep 15 7 = some [3, 8] := by kernel_rfl
@[simp] theorem keep15_8 : X.keep 15 8 = some [3, 8] := by kernel_rfl
@[simp] theorem keep15_9 : X.keep 15 9 = some [3, 8] := by kernel_rfl
@[simp] theorem keep15_10 : X.keep 15 10 = some [3, 8] := by kernel_rfl
@[simp] theorem keep15_11 : X.keep 15 11 = some [2] := by kernel_rfl
@[simp] theorem keep15_12 : X.keep 15 12 = some [3, 14] := by kernel_rfl
@[simp] theorem keep15_13 : X.keep 15 13 = some [2] := by kernel_rfl
@[simp] theorem keep15_14 : X.keep 15 14 = some [3, 16] := by kernel_rfl
@[simp] theorem keep15_15 : X.keep 15 15 = some [2] := by kernel_rfl
@[simp] theorem keep15_16 : X.keep 15 16 = some [3, 18] := by kernel_rfl
@[simp] theorem keep15_17 : X.keep 15 17 = some [3, 18] := by kernel_rfl
@[simp] theorem keep15_18 : X.keep 15 18 = some [2] := by kernel_rfl
@[simp] theorem keep15_19 : X.keep 15 19 = some [3, 21] := by kernel_rfl
@[simp] theorem keep15_20 : X.keep 15 20 = some [2] := by kernel_rfl
@[simp] theorem keep15_21 : X.keep 15 21 = some [3, 23] := by kernel_rfl
@[simp] theorem keep15_22 : X.keep 15 22 = some [2] := by kernel_rfl
@[simp] theorem keep15_23 : X.keep 15 23 = some [25] := by kernel_rfl
@[simp] theorem keep15_24 : X.keep 15 24 = some [2] := by kernel_rfl
@[simp] theorem keep15_25 : X.keep 15 25 = some [2] := by kernel_rfl
@[simp] theorem keep16_0 : X.keep 16 0 = some [0] := by kernel_rfl
@[simp] theorem keep16_1 : X.keep 16 1 = some [3] := by kernel_rfl
@[simp] theorem keep16_2 : X.keep 16 2 = some [3, 4] := by kernel_rfl
@[simp] theorem keep16_3 : X.keep 16 3 = some [3, 4] := by kernel_rfl
@[simp] theorem keep16_4 : X.keep 16 4 = some [3, 4] := by kernel_rfl
@[simp] theorem keep16_5 : X.keep 16 5 = some [2] := by kernel_rfl
@[simp] theorem keep16_6 : X.keep 16 6 = some [3, 8] := by kernel_rfl
@[simp] theorem keep16_7 : X.keep 16 7 = some [3, 8] := by kernel_rfl
@[simp] theorem keep16_8 : X.keep 16 8 = some [3, 8] := by kernel_rfl
@[simp] theorem keep16_9 : X.keep 16 9 = some [3, 8] := by kernel_rfl
@[simp] theorem keep16_10 : X.keep 16 10 = some [3, 8] := by kernel_rfl
@[simp] theorem keep16_11 : X.keep 16 11 = some [2] := by kernel_rfl
@[simp] theorem keep16_12 : X.keep 16 12 = some [3, 14] := by kernel_rfl
@[simp] theorem keep16_13 : X.keep 16 13 = some [2] := by kernel_rfl
@[simp] theorem keep16_14 : X.keep 16 14 = some [3, 16] := by kernel_rfl
@[simp] theorem keep16_15 : X.keep 16 15 = some [2] := by kernel_rfl
@[simp] theorem keep16_16 : X.keep 16 16 = some [3, 18] := by kernel_rfl
@[simp] theorem keep16_17 : X.keep 16 17 = some [3, 18] := by kernel_rfl
@[simp] theorem keep16_18 : X.keep 16 18 = some [2] := by kernel_rfl
@[simp] theorem keep16_19 : X.keep 16 19 = some [3, 21] := by kernel_rfl
@[simp] theorem keep16_20 : X.keep 16 20 = some [2] := by kernel_rfl
@[simp] theorem keep16_21 : X.keep 16 21 = some [3, 23] := by kernel_rfl
@[simp] theorem keep16_22 : X.keep 16 22 = some [2] := by kernel_rfl
@[simp] theorem keep16_23 : X.keep 16 23 = some [25] := by kernel_rfl
@[simp] theorem keep16_24 : X.keep 16 24 = some [2] := by kernel_rfl
@[simp] theorem keep16_25 : X.keep 16 25 = some [2] := by kernel_rfl
@[simp] theorem keep17_0 : X.keep 17 0 = some [0] := by kernel_rfl
@[simp] theorem keep17_1 : X.keep 17 1 = some [3] := by kernel_rfl
@[simp] theorem keep17_2 : X.keep 17 2 = some [3, 4] := by kernel_rfl
@[simp] theorem keep17_3 : X.keep 17 3 = some [3, 4] := by kernel_rfl
@[simp] theorem keep17_4 : X.keep 17 4 = some [3, 4] := by kernel_rfl
@[simp] theorem keep17_5 : X.keep 17 5 = some [3, 4] := by kernel_rfl
@[simp] theorem keep17_6 : X.keep 17 6 = some [4] := by kernel_rfl
@[simp] theorem keep17_7 : X.keep 17 7 = some [2] := by kernel_rfl
@[simp] theorem keep17_8 : X.keep 17 8 = some [2] := by kernel_rfl
@[simp] theorem keep18_0 : X.keep 18 0 = some [0] := by kernel_rfl
@[simp] theorem keep18_1 : X.keep 18 1 = some [3] := by kernel_rfl
@[simp] theorem keep18_2 : X.keep 18 2 = some [2] := by kernel_rfl
@[simp] theorem keep19_0 : X.keep 19 0 = some [0, 2] := by kernel_rfl
@[simp] theorem keep19_1 : X.keep 19 1 = some [2, 4] := by kernel_rfl
@[simp] theorem keep19_2 : X.keep 19 2 = some [2, 4, 5] := by kernel_rfl
@[simp] theorem keep19_3 : X.keep 19 3 = some [2, 4, 5, 17] := by kernel_rfl
@[simp] theorem keep19_4 : X.keep 19 4 = some [2, 3] := by kernel_rfl
@[simp] theorem keep19_5 : X.keep 19 5 = some [2, 4, 5, 25] := by kernel_rfl
@[simp] theorem keep19_6 : X.keep 19 6 = some [2, 4, 5, 25, 26] := by kernel_rfl
@[simp] theorem keep19_7 : X.keep 19 7 = some [2, 4, 5] := by kernel_rfl
@[simp] theorem keep19_8 : X.keep 19 8 = some [2, 4, 5, 25, 32] := by kernel_rfl
@[simp] theorem keep19_9 : X.keep 19 9 = some [2, 4, 5] := by kernel_rfl
@[simp] theorem keep19_10 : X.keep 19 10 = some [2, 4, 5, 25, 38] := by kernel_rfl
@[simp] theorem keep19_11 : X.keep 19 11 = some [2, 4, 5] := by kernel_rfl
@[simp] theorem keep19_12 : X.keep 19 12 = some [2, 4, 5, 57] := by kernel_rfl
@[simp] theorem keep19_13 : X.keep 19 13 = some [2, 4, 5] := by kernel_rfl
@[simp] theorem keep19_14 : X.keep 19 14 = some [2, 4, 5, 70] := by kernel_rfl
@[simp] theorem keep19_15 : X.keep 19 15 = some [2, 4, 5] := by kernel_rfl
@[simp] theorem keep19_16 : X.keep 19 16 = some [2, 4, 5] := by kernel_rfl
@[simp] theorem keep19_17 : X.keep 19 17 = some [2, 4, 5, 25, 77] := by kernel_rfl
@[simp] theorem keep19_18 : X.keep 19 18 = some [2, 4, 5] := by kernel_rfl
@[simp] theorem keep19_19 : X.keep 19 19 = some [2, 4, 5, 25, 90] := by kernel_rfl
@[simp] theorem keep19_20 : X.keep 19 20 = some [2, 4, 5] := by kernel_rfl
@[simp] theorem keep19_21 : X.keep 19 21 = some [2, 4, 5, 25, 96] := by kernel_rfl
@[simp] theorem keep19_22 : X.keep 19 22 = some [2, 4, 5] := by kernel_rfl
@[simp] theorem keep19_23 : X.keep 19 23 = some [2, 4, 5, 25, 102] := by kernel_rfl
@[simp] theorem keep19_24 : X.keep 19 24 = some [2, 4, 5] := by kernel_rfl
@[simp] theorem keep19_25 : X.keep 19 25 = some [2, 4, 5, 112] := by kernel_rfl
@[simp] theorem keep19_26 : X.keep 19 26 = some [2, 4, 5] := by kernel_rfl
@[simp] theorem keep19_27 : X.keep 19 27 = some [2, 4, 5, 129] := by kernel_rfl
@[simp] theorem keep19_28 : X.keep 19 28 = some [2, 4, 5] := by kernel_rfl
@[simp] theorem keep19_29 : X.keep 19 29 = some [2, 4, 5, 137] := by kernel_rfl
@[simp] theorem keep19_30 : X.keep 19 30 = some [2, 3] := by kernel_rfl
@[simp] theorem keep19_31 : X.keep 19 31 = some [2, 3] := by kernel_rfl
@[simp] theorem keep20_0 : X.keep 20 0 = some [0, 1] := by kernel_rfl
@[simp] theorem keep20_1 : X.keep 20 1 = some [1, 6, 7] := by kernel_rfl
@[simp] theorem keep20_2 : X.keep 20 2 = some [1, 6, 7, 14] := by kernel_rfl
@[simp] theorem keep20_3 : X.keep 20 3 = some [4, 5] := by kernel_rfl
@[simp] theorem keep20_4 : X.keep 20 4 = some [1, 6, 19] := by kernel_rfl
@[simp] theorem keep20_5 : X.keep 20 5 = some [4, 5] := by kernel_rfl
@[simp] theorem keep20_6 : X.keep 20 6 = some [6] := by kernel_rfl
@[simp] theorem keep20_7 : X.keep 20 7 = some [4, 5] := by kernel_rfl
@[simp] theorem keep21_0 : X.keep 21 0 = some [0] := by kernel_rfl
@[simp] theorem keep21_1 : X.keep 21 1 = some [0, 4] := by kernel_rfl
@[simp] theorem keep21_2 : X.keep 21 2 = some [2] := by kernel_rfl
@[simp] theorem keep21_3 : X.keep 21 3 = some [2] := by kernel_rfl
@[simp] theorem keep22_0 : X.keep 22 0 = some [0] := by kernel_rfl
@[simp] theorem keep22_1 : X.keep 22 1 = some [3] := by kernel_rfl
@[simp] theorem keep22_2 : X.keep 22 2 = some [3, 4] := by kernel_rfl
@[simp] theorem keep22_3 : X.keep 22 3 = some [3, 4] := by kernel_rfl
@[simp] theorem keep22_4 : X.keep 22 4 = some [3, 4] := by kernel_rfl
@[simp] theorem keep22_5 : X.keep 22 5 = some [3, 4] := by kernel_rfl
@[simp] theorem keep22_6 : X.keep 22 6 = some [2] := by kernel_rfl
@[simp] theorem keep22_7 : X.keep 22 7 = some [3, 9] := by kernel_rfl
@[simp] theorem keep22_8 : X.keep 22 8 = some [3, 9] := by kernel_rfl
@[simp] theorem keep22_9 : X.keep 22 9 = some [3, 9] := by kernel_rfl
@[simp] theorem keep22_10 : X.keep 22 10 = some [2] := by kernel_rfl
@[simp] theorem keep22_11 : X.keep 22 11 = some [3, 13] := by kernel_rfl
@[simp] theorem keep22_12 : X.keep 22 12 = some [2] := by kernel_rfl
@[simp] theorem keep22_13 : X.keep 22 13 = some [3, 15] := by kernel_rfl
@[simp] theorem keep22_14 : X.keep 22 14 = some [2] := by kernel_rfl
@[simp] theorem keep22_15 : X.keep 22 15 = some [3, 17] := by kernel_rfl
@[simp] theorem keep22_16 : X.keep 22 16 = some [2] := by kernel_rfl
@[simp] theorem keep22_17 : X.keep 22 17 = some [3, 19] := by kernel_rfl
@[simp] theorem keep22_18 : X.keep 22 18 = some [3, 19] := by kernel_rfl
@[simp] theorem keep22_19 : X.keep 22 19 = some [2] := by kernel_rfl
@[simp] theorem keep22_20 : X.keep 22 20 = some [3, 22] := by kernel_rfl
@[simp] theorem keep22_21 : X.keep 22 21 = some [2] := by kernel_rfl
@[simp] theorem keep22_22 : X.keep 22 22 = some [24] := by kernel_rfl
@[simp] theorem keep22_23 : X.keep 22 23 = some [2] := by kernel_rfl
@[simp] theorem keep22_24 : X.keep 22 24 = some [2] := by kernel_rfl
@[simp] theorem keep23_0 : X.keep 23 0 = some [0, 1, 2] := by kernel_rfl
@[simp] theorem keep23_1 : X.keep 23 1 = some [7] := by kernel_rfl
@[simp] theorem keep23_2 : X.keep 23 2 = some [6] := by kernel_rfl
@[simp] theorem keep24_0 : X.keep 24 0 = some [0] := by kernel_rfl
@[simp] theorem keep24_1 : X.keep 24 1 = some [3] := by kernel_rfl
@[simp] theorem keep24_2 : X.keep 24 2 = some [3, 4] := by kernel_rfl
@[simp] theorem keep24_3 : X.keep 24 3 = some [3, 4] := by kernel_rfl
@[simp] theorem keep24_4 : X.keep 24 4 = some [3, 4] := by kernel_rfl
@[simp] theorem keep24_5 : X.keep 24 5 = some [3, 4] := by kernel_rfl
@[simp] theorem keep24_6 : X.keep 24 6 = some [2] := by kernel_rfl
@[simp] theorem keep24_7 : X.keep 24 7 = some [3, 9] := by kernel_rfl
@[simp] theorem keep24_8 : X.keep 24 8 = some [3, 9] := by kernel_rfl
@[simp] theorem keep24_9 : X.keep 24 9 = some [3, 9] := by kernel_rfl
@[simp] theorem keep24_10 : X.keep 24 10 = some [2] := by kernel_rfl
@[simp] theorem keep24_11 : X.keep 24 11 = some [3, 13] := by kernel_rfl
@[simp] theorem keep24_12 : X.keep 24 12 = some [2] := by kernel_rfl
@[simp] theorem keep24_13 : X.keep 24 13 = some [3, 15] := by kernel_rfl
@[simp] theorem keep24_14 : X.keep 24 14 = some [2] := by kernel_rfl
@[simp] theorem keep24_15 : X.keep 24 15 = some [3, 17] := by kernel_rfl
@[simp] theorem keep24_16 : X.keep 24 16 = some [2] := by kernel_rfl
@[simp] theorem keep24_17 : X.keep 24 17 = some [3, 19] := by kernel_rfl
@[simp] theorem keep24_18 : X.keep 24 18 = some [3, 19] := by kernel_rfl
@[simp] theorem keep24_19 : X.keep 24 19 = some [2] := by kernel_rfl
@[simp] theorem keep24_20 : X.keep 24 20 = some [3, 22] := by kernel_rfl
@[simp] theorem keep24_21 : X.keep 24 21 = some [2] := by kernel_rfl
@[simp] theorem keep24_22 : X.keep 24 22 = some [24] := by kernel_rfl
@[simp] theorem keep24_23 : X.keep 24 23 = some [2] := by kernel_rfl
@[simp] theorem keep24_24 : X.keep 24 24 = some [2] := by kernel_rfl
@[simp] theorem keep25_0 : X.keep 25 0 = some [0, 1, 2] := by kernel_rfl
@[simp] theorem keep25_1 : X.keep 25 1 = some [7] := by kernel_rfl
@[simp] theorem keep25_2 : X.keep 25 2 = some [6] := by kernel_rfl
@[simp] theorem keep26_0 : X.keep 26 0 = some [1, 2] := by kernel_rfl
@[simp] theorem keep26_1 : X.keep 26 1 = some [1, 2, 3] := by kernel_rfl
@[simp] theorem keep26_2 : X.keep 26 2 = some [1, 2, 3, 9] := by kernel_rfl
@[simp] theorem keep26_3 : X.keep 26 3 = some [1, 2, 3, 9, 10] := by kernel_rfl
@[simp] theorem keep26_4 : X.keep 26 4 = some [2, 3] := by kernel_rfl
@[simp] theorem keep26_5 : X.keep 26 5 = some [1, 2, 3, 9, 15] := by kernel_rfl
@[simp] theorem keep26_6 : X.keep 26 6 = some [2, 3] := by kernel_rfl
@[simp] theorem keep26_7 : X.keep 26 7 = some [1, 2, 3, 9, 20] := by kernel_rfl
@[simp] theorem keep26_8 : X.keep 26 8 = some [2, 3] := by kernel_rfl
@[simp] theorem keep26_9 : X.keep 26 9 = some [1, 2, 3, 9, 31] := by kernel_rfl
@[simp] theorem keep26_10 : X.keep 26 10 = some [2, 3] := by kernel_rfl
@[simp] theorem keep26_11 : X.keep 26 11 = some [1, 2, 3, 9, 42] := by kernel_rfl
@[simp] theorem keep26_12 : X.keep 26 12 = some [2, 3] := by kernel_rfl
@[simp] theorem keep26_13 : X.keep 26 13 = some [1, 2, 3, 9, 47] := by kernel_rfl
@[simp] theorem keep26_14 : X.keep 26 14 = some [2, 3] := by kernel_rfl
@[simp] theorem keep26_15 : X.keep 26 15 = some [1, 2, 3, 9, 52] := by kernel_rfl
@[simp] theorem keep26_16 : X.keep 26 16 = some [2, 3] := by kernel_rfl
@[simp] theorem keep26_17 : X.keep 26 17 = some [1, 2, 3, 60] := by kernel_rfl
@[simp] theorem keep26_18 : X.keep 26 18 = some [2, 3] := by kernel_rfl
@[simp] theorem keep26_19 : X.keep 26 19 = some [2] := by kernel_rfl
@[simp] theorem keep27_0 : X.keep 27 0 = some [] := by kernel_rfl
@[simp] theorem keep27_1 : X.keep 27 1 = some [0] := by kernel_rfl
@[simp] theorem keep28_0 : X.keep 28 0 = some [0] := by kernel_rfl
@[simp] theorem keep28_1 : X.keep 28 1 = some [2] := by kernel_rfl
@[simp] theorem keep29_0 : X.keep 29 0 = some [0] := by kernel_rfl
@[simp] theorem keep29_1 : X.keep 29 1 = some [0, 4] := by kernel_rfl
@[simp] theorem keep29_2 : X.keep 29 2 = some [2] := by kernel_rfl
@[simp] theorem keep29_3 : X.keep 29 3 = some [2] := by kernel_rfl
@[simp] theorem keep30_0 : X.keep 30 0 = some [0, 1] := by kernel_rfl
@[simp] theorem keep30_1 : X.keep 30 1 = some [0, 1, 11] := by kernel_rfl
@[simp] theorem keep30_2 : X.keep 30 2 = some [4] := by kernel_rfl
@[simp] theorem keep30_3 : X.keep 30 3 = some [0, 1, 5, 6] := by kernel_rfl
@[simp] theorem keep30_4 : X.keep 30 4 = some [0, 1, 5, 6, 22] := by kernel_rfl
@[simp] theorem keep30_5 : X.keep 30 5 = some [] := by kernel_rfl
@[simp] theorem keep30_6 : X.keep 30 6 = some [4] := by kernel_rfl
@[simp] theorem keep30_7 : X.keep 30 7 = some [5] := by kernel_rfl
@[simp] theorem keep30_8 : X.keep 30 8 = some [4] := by kernel_rfl
@[simp] theorem keep31_0 : X.keep 31 0 = some [0] := by kernel_rfl
@[simp] theorem keep31_1 : X.keep 31 1 = some [0, 3] := by kernel_rfl
@[simp] theorem keep31_2 : X.keep 31 2 = some [3] := by kernel_rfl
@[simp] theorem keep31_3 : X.keep 31 3 = some [2] := by kernel_rfl
@[simp] theorem keep32_0 : X.keep 32 0 = some [0, 1, 2] := by kernel_rfl
@[simp] theorem keep32_1 : X.keep 32 1 = some [0, 1, 2, 26] := by kernel_rfl
@[simp] theorem keep32_2 : X.keep 32 2 = some [6, 7] := by kernel_rfl
@[simp] theorem keep32_3 : X.keep 32 3 = some [1, 2, 8] := by kernel_rfl
@[simp] theorem keep32_4 : X.keep 32 4 = some [1, 8, 29, 30] := by kernel_rfl
@[simp] theorem keep32_5 : X.keep 32 5 = some [1, 8, 29, 30, 31] := by kernel_rfl
@[simp] theorem keep32_6 : X.keep 32 6 = some [1, 8, 9, 29, 30] := by kernel_rfl
@[simp] theorem keep32_7 : X.keep 32 7 = some [1, 8, 29, 30] := by kernel_rfl
@[simp] theorem keep32_8 : X.keep 32 8 = some [1, 8, 29, 30] := by kernel_rfl
@[simp] theorem keep32_9 : X.keep 32 9 = some [6, 7] := by kernel_rfl
@[simp] theorem keep33_0 : X.keep 33 0 = some [0, 1, 2] := by kernel_rfl
@[simp] theorem keep33_1 : X.keep 33 1 = some [0, 1, 2, 27] := by kernel_rfl
@[simp] theorem keep33_2 : X.keep 33 2 = some [6, 7] := by kernel_rfl
@[simp] theorem keep33_3 : X.keep 33 3 = some [1, 2, 8] := by kernel_rfl
@[simp] theorem keep33_4 : X.keep 33 4 = some [1, 2, 8, 9] := by kernel_rfl
@[simp] theorem keep33_5 : X.keep 33 5 = some [1, 2, 8, 9, 33] := by kernel_rfl
@[simp] theorem keep33_6 : X.keep 33 6 = some [1, 2, 8, 9] := by kernel_rfl
@[simp] theorem keep33_7 : X.keep 33 7 = some [1, 2, 8, 9] := by kernel_rfl
@[simp] theorem keep33_8 : X.keep 33 8 = some [6, 7] := by kernel_rfl
@[simp] theorem keep35_0 : X.keep 35 0 = some [0, 1] := by kernel_rfl
@[simp] theorem keep35_1 : X.keep 35 1 = some [0, 1, 13] := by kernel_rfl
@[simp] theorem keep35_2 : X.keep 35 2 = some [4, 5] := by kernel_rfl
@[simp] theorem keep35_3 : X.keep 35 3 = some [0, 1, 17] := by kernel_rfl
@[simp] theorem keep35_4 : X.keep 35 4 = some [4, 5] := by kernel_rfl
@[simp] theorem keep35_5 : X.keep 35 5 = some [0, 1, 6] := by kernel_rfl
@[simp] theorem keep35_6 : X.keep 35 6 = some [0, 6, 18, 19] := by kernel_rfl
@[simp] theorem keep35_7 : X.keep 35 7 = some [0, 6, 18, 19, 20] := by kernel_rfl
@[simp] theorem keep35_8 : X.keep 35 8 = some [0, 6, 7, 18, 19] := by kernel_rfl
@[simp] theorem keep35_9 : X.keep 35 9 = some [0, 6, 18, 19] := by kernel_rfl
@[simp] theorem keep35_10 : X.keep 35 10 = some [0, 6, 18, 19] := by kernel_rfl
@[simp] theorem keep35_11 : X.keep 35 11 = some [4, 5] := by kernel_rfl
@[simp] theorem dy3_5 : X.dy 3 5 = true := by kernel_rfl
@[simp] theorem dy3_7 : X.dy 3 7 = true := by kernel_rfl
@[simp] theorem dy7_4 : X.dy 7 4 = true := by kernel_rfl
@[simp] theorem dy7_11 : X.dy 7 11 = true := by kernel_rfl
@[simp] theorem dy7_13 : X.dy 7 13 = true := by kernel_rfl
@[simp] theorem dy7_19 : X.dy 7 19 = true := by kernel_rfl
@[simp] theorem dy9_3 : X.dy 9 3 = true := by kernel_rfl
@[simp] theorem dy9_14 : X.dy 9 14 = true := by kernel_rfl
@[simp] theorem dy9_16 : X.dy 9 16 = true := by kernel_rfl
@[simp] theorem dy19_4 : X.dy 19 4 = true := by kernel_rfl
@[simp] theorem dy19_30 : X.dy 19 30 = true := by kernel_rfl
@[simp] theorem dy26_8 : X.dy 26 8 = true := by kernel_rfl
@[simp] theorem dy26_10 : X.dy 26 10 = true := by kernel_rfl
@[simp] theorem dy26_16 : X.dy 26 16 = true := by kernel_rfl
@[simp] theorem dy29_3 : X.dy 29 3 = true := by kernel_rfl
@[simp] theorem size0 : sizeT X 0 = 1 := by kernel_rfl
@[simp] theorem bytes0 : bytesT X 0 = 0 := by kernel_rfl
@[simp] theorem okT0 : okT X 0 = true := by kernel_rfl
@[simp] theorem isAgg0 : isAggT X 0 = false := by kernel_rfl
@[simp] theorem isInt0 : isIntT X 0 = false := by kernel_rfl
@[simp] theorem isArr0 : isArrT X 0 = false := by kernel_rfl
@[simp] theorem isU80 : isU8 X 0 = false := by kernel_rfl
@[simp] theorem zok0 : zeroOk X 0 = true := by kernel_rfl
@[simp] theorem und3 : und X 3 = .int .i64 := by kernel_rfl
@[simp] theorem size3 : sizeT X 3 = 1 := by kernel_rfl
@[simp] theorem bytes3 : bytesT X 3 = 8 := by kernel_rfl
@[simp] theorem okT3 : okT X 3 = true := by kernel_rfl
@[simp] theorem isAgg3 : isAggT X 3 = false := by kernel_rfl
@[simp] theorem isInt3 : isIntT X 3 = true := by kernel_rfl
@[simp] theorem isArr3 : isArrT X 3 = false := by kernel_rfl
@[simp] theorem isU83 : isU8 X 3 = false := by kernel_rfl
@[simp] theorem zok3 : zeroOk X 3 = true := by kernel_rfl
@[simp] theorem zero3 : zeroAV X 3 = .int .i64 0 := by kernel_rfl
@[simp] theorem und4 : und X 4 = .bool := by kernel_rfl
@[simp] theorem size4 : sizeT X 4 = 1 := by kernel_rfl
@[simp] theorem bytes4 : bytesT X 4 = 1 := by kernel_rfl
@[simp] theorem okT4 : okT X 4 = true := by kernel_rfl
@[simp] theorem isAgg4 : isAggT X 4 = false := by kernel_rfl
@[simp] theorem isInt4 : isIntT X 4 = false := by kernel_rfl
@[simp] theorem isArr4 : isArrT X 4 = false := by kernel_rfl
@[simp] theorem isU84 : isU8 X 4 = false := by kernel_rfl
@[simp] theorem zok4 : zeroOk X 4 = true := by kernel_rfl
@[simp] theorem zero4 : zeroAV X 4 = .bool false := by kernel_rfl
@[simp] theorem und5 : und X 5 = .int .u8 := by kernel_rfl
@[simp] theorem size5 : sizeT X 5 = 1 := by kernel_rfl
@[simp] theorem bytes5 : bytesT X 5 = 1 := by kernel_rfl
@[simp] theorem okT5 : okT X 5 = true := by kernel_rfl
@[simp] theorem isAgg5 : isAggT X 5 = false := by kernel_rfl
@[simp] theorem isInt5 : isIntT X 5 = true := by kernel_rfl
@[simp] theorem isArr5 : isArrT X 5 = false := by kernel_rfl
@[simp] theorem isU85 : isU8 X 5 = true := by kernel_rfl
@[simp] theorem zok5 : zeroOk X 5 = true := by kernel_rfl
@[simp] theorem zero5 : zeroAV X 5 = .int .u8 0 := by kernel_rfl
@[simp] theorem und9 : und X 9 = .string := by kernel_rfl
@[simp] theorem size9 : sizeT X 9 = 1 := by kernel_rfl
@[simp] theorem bytes9 : bytesT X 9 = 16 := by kernel_rfl
@[simp] theorem okT9 : okT X 9 = true := by kernel_rfl
@[simp] theorem isAgg9 : isAggT X 9 = false := by kernel_rfl
@[simp] theorem isInt9 : isIntT X 9 = false := by kernel_rfl
@[simp] theorem isArr9 : isArrT X 9 = false := by kernel_rfl
@[simp] theorem isU89 : isU8 X 9 = false := by kernel_rfl
@[simp] theorem zok9 : zeroOk X 9 = true := by kernel_rfl
@[simp] theorem zero9 : zeroAV X 9 = .str [] := by kernel_rfl
@[simp] theorem und22 : und X 22 = .slice 5 := by kernel_rfl
@[simp] theorem size22 : sizeT X 22 = 1 := by kernel_rfl
@[simp] theorem bytes22 : bytesT X 22 = 24 := by kernel_rfl
@[simp] theorem okT22 : okT X 22 = true := by kernel_rfl
@[simp] theorem isAgg22 : isAggT X 22 = false := by kernel_rfl
@[simp] theorem isInt22 : isIntT X 22 = false := by kernel_rfl
@[simp] theorem isArr22 : isArrT X 22 = false := by kernel_rfl
@[simp] theorem isU822 : isU8 X 22 = false := by kernel_rfl
@[simp] theorem zok22 : zeroOk X 22 = true := by kernel_rfl
@[simp] theorem zero22 : zeroAV X 22 = .ro 0 .pn 0 := by kernel_rfl
@[simp] theorem und23 : und X 23 = .int .u32 := by kernel_rfl
@[simp] theorem size23 : sizeT X 23 = 1 := by kernel_rfl
@[simp] theorem bytes23 : bytesT X 23 = 4 := by kernel_rfl
@[simp] theorem okT23 : okT X 23 = true := by kernel_rfl
@[simp] theorem isAgg23 : isAggT X 23 = false := by kernel_rfl
@[simp] theorem isInt23 : isIntT X 23 = true := by kernel_rfl
@[simp] theorem isArr23 : isArrT X 23 = false := by kernel_rfl
@[simp] theorem isU823 : isU8 X 23 = false := by kernel_rfl
@[simp] theorem zok23 : zeroOk X 23 = true := by kernel_rfl
@[simp] theorem zero23 : zeroAV X 23 = .int .u32 0 := by kernel_rfl
@[simp] theorem und24 : und X 24 = .int .u16 := by kernel_rfl
@[simp] theorem size24 : sizeT X 24 = 1 := by kernel_rfl
@[simp] theorem bytes24 : bytesT X 24 = 2 := by kernel_rfl
@[simp] theorem okT24 : okT X 24 = true := by kernel_rfl
@[simp] theorem isAgg24 : isAggT X 24 = false := by kernel_rfl
@[simp] theorem isInt24 : isIntT X 24 = true := by kernel_rfl
@[simp] theorem isArr24 : isArrT X 24 = false := by kernel_rfl
@[simp] theorem isU824 : isU8 X 24 = false := by kernel_rfl
@[simp] theorem zok24 : zeroOk X 24 = true := by kernel_rfl
@[simp] theorem zero24 : zeroAV X 24 = .int .u16 0 := by kernel_rfl
@[simp] theorem size26 : sizeT X 26 = 8 := by kernel_rfl
@[simp] theorem bytes26 : bytesT X 26 = 64 := by kernel_rfl
@[simp] theorem okT26 : okT X 26 = true := by kernel_rfl
@[simp] theorem isAgg26 : isAggT X 26 = true := by kernel_rfl
@[simp] theorem isInt26 : isIntT X 26 = false := by kernel_rfl
@[simp] theorem isArr26 : isArrT X 26 = false := by kernel_rfl
@[simp] theorem isU826 : isU8 X 26 = false := by kernel_rfl
@[simp] theorem zok26 : zeroOk X 26 = true := by kernel_rfl
@[simp] theorem zero26 : zeroAV X 26 = .agg (.pc [.int .u8 0, .str [], .int .u32 0, .int .u16 0, .int .u8 0, .int .u32 0, .int .u16 0, .ro 0 .pn 0]) := by kernel_rfl
@[simp] theorem und29 : und X 29 = .int .i64 := by kernel_rfl
@[simp] theorem size29 : sizeT X 29 = 1 := by kernel_rfl
@[simp] theorem bytes29 : bytesT X 29 = 8 := by kernel_rfl
@[simp] theorem okT29 : okT X 29 = true := by kernel_rfl
@[simp] theorem isAgg29 : isAggT X 29 = false := by kernel_rfl
@[simp] theorem isInt29 : isIntT X 29 = true := by kernel_rfl
@[simp] theorem isArr29 : isArrT X 29 = false := by kernel_rfl
@[simp] theorem isU829 : isU8 X 29 = false := by kernel_rfl
@[simp] theorem zok29 : zeroOk X 29 = true := by kernel_rfl
@[simp] theorem zero29 : zeroAV X 29 = .int .i64 0 := by kernel_rfl
@[simp] theorem size30 : sizeT X 30 = 1 := by kernel_rfl
@[simp] theorem bytes30 : bytesT X 30 = 0 := by kernel_rfl
@[simp] theorem okT30 : okT X 30 = true := by kernel_rfl
@[simp] theorem isAgg30 : isAggT X 30 = false := by kernel_rfl
@[simp] theorem isInt30 : isIntT X 30 = false := by kernel_rfl
@[simp] theorem isArr30 : isArrT X 30 = false := by kernel_rfl
@[simp] theorem isU830 : isU8 X 30 = false := by kernel_rfl
@[simp] theorem zok30 : zeroOk X 30 = true := by kernel_rfl
@[simp] theorem size39 : sizeT X 39 = 1 := by kernel_rfl
@[simp] theorem bytes39 : bytesT X 39 = 0 := by kernel_rfl
@[simp] theorem okT39 : okT X 39 = true := by kernel_rfl
@[simp] theorem isAgg39 : isAggT X 39 = false := by kernel_rfl
@[simp] theorem isInt39 : isIntT X 39 = false := by kernel_rfl
@[simp] theorem isArr39 : isArrT X 39 = false := by kernel_rfl
@[simp] theorem isU839 : isU8 X 39 = false := by kernel_rfl
@[simp] theorem zok39 : zeroOk X 39 = true := by kernel_rfl
@[simp] theorem und43 : und X 43 = .int .u64 := by kernel_rfl
@[simp] theorem size43 : sizeT X 43 = 1 := by kernel_rfl
@[simp] theorem bytes43 : bytesT X 43 = 8 := by kernel_rfl
@[simp] theorem okT43 : okT X 43 = true := by kernel_rfl
@[simp] theorem isAgg43 : isAggT X 43 = false := by kernel_rfl
@[simp] theorem isInt43 : isIntT X 43 = true := by kernel_rfl
@[simp] theorem isArr43 : isArrT X 43 = false := by kernel_rfl
@[simp] theorem isU843 : isU8 X 43 = false := by kernel_rfl
@[simp] theorem zok43 : zeroOk X 43 = true := by kernel_rfl
@[simp] theorem zero43 : zeroAV X 43 = .int .u64 0 := by kernel_rfl
@[simp] theorem size45 : sizeT X 45 = 1 := by kernel_rfl
@[simp] theorem bytes45 : bytesT X 45 = 0 := by kernel_rfl
@[simp] theorem okT45 : okT X 45 = true := by kernel_rfl
@[simp] theorem isAgg45 : isAggT X 45 = false := by kernel_rfl
@[simp] theorem isInt45 : isIntT X 45 = false := by kernel_rfl
@[simp] theorem isArr45 : isArrT X 45 = false := by kernel_rfl
@[simp] theorem isU845 : isU8 X 45 = false := by kernel_rfl
@[simp] theorem zok45 : zeroOk X 45 = true := by kernel_rfl
@[simp] theorem und46 : und X 46 = .map 5 9 := by kernel_rfl
@[simp] theorem size46 : sizeT X 46 = 1 := by kernel_rfl
@[simp] theorem bytes46 : bytesT X 46 = 8 := by kernel_rfl
@[simp] theorem okT46 : okT X 46 = true := by kernel_rfl
@[simp] theorem isAgg46 : isAggT X 46 = false := by kernel_rfl
@[simp] theorem isInt46 : isIntT X 46 = false := by kernel_rfl
@[simp] theorem isArr46 : isArrT X 46 = false := by kernel_rfl
@[simp] theorem isU846 : isU8 X 46 = false := by kernel_rfl
@[simp] theorem zok46 : zeroOk X 46 = true := by kernel_rfl
@[simp] theorem zero46 : zeroAV X 46 = .nilmap := by kernel_rfl
@[simp] theorem und49 : und X 49 = .slice 9 := by kernel_rfl
@[simp] theorem size49 : sizeT X 49 = 1 := by kernel_rfl
@[simp] theorem bytes49 : bytesT X 49 = 24 := by kernel_rfl
@[simp] theorem okT49 : okT X 49 = true := by kernel_rfl
@[simp] theorem isAgg49 : isAggT X 49 = false := by kernel_rfl
@[simp] theorem isInt49 : isIntT X 49 = false := by kernel_rfl
@[simp] theorem isArr49 : isArrT X 49 = false := by kernel_rfl
@[simp] theorem isU849 : isU8 X 49 = false := by kernel_rfl
@[simp] theorem zok49 : zeroOk X 49 = true := by kernel_rfl
@[simp] theorem zero49 : zeroAV X 49 = .ro 0 .pn 0 := by kernel_rfl
@[simp] theorem und50 : und X 50 = .pointer 52 := by kernel_rfl
@[simp] theorem size50 : sizeT X 50 = 1 := by kernel_rfl
@[simp] theorem bytes50 : bytesT X 50 = 8 := by kernel_rfl
@[simp] theorem okT50 : okT X 50 = true := by kernel_rfl
@[simp] theorem isAgg50 : isAggT X 50 = false := by kernel_rfl
@[simp] theorem isInt50 : isIntT X 50 = false := by kernel_rfl
@[simp] theorem isArr50 : isArrT X 50 = false := by kernel_rfl
@[simp] theorem isU850 : isU8 X 50 = false := by kernel_rfl
@[simp] theorem zok50 : zeroOk X 50 = true := by kernel_rfl
@[simp] theorem zero50 : zeroAV X 50 = .nilptr := by kernel_rfl
@[simp] theorem size52 : sizeT X 52 = 2 := by kernel_rfl
@[simp] theorem bytes52 : bytesT X 52 = 32 := by kernel_rfl
@[simp] theorem okT52 : okT X 52 = true := by kernel_rfl
@[simp] theorem isAgg52 : isAggT X 52 = true := by kernel_rfl
@[simp] theorem isInt52 : isIntT X 52 = false := by kernel_rfl
@[simp] theorem isArr52 : isArrT X 52 = false := by kernel_rfl
@[simp] theorem isU852 : isU8 X 52 = false := by kernel_rfl
@[simp] theorem zok52 : zeroOk X 52 = true := by kernel_rfl
@[simp] theorem zero52 : zeroAV X 52 = .agg (.pc [.ro 0 .pn 0, .int .i64 0]) := by kernel_rfl
@[simp] theorem size56 : sizeT X 56 = 1 := by kernel_rfl
@[simp] theorem bytes56 : bytesT X 56 = 0 := by kernel_rfl
@[simp] theorem okT56 : okT X 56 = true := by kernel_rfl
@[simp] theorem isAgg56 : isAggT X 56 = false := by kernel_rfl
@[simp] theorem isInt56 : isIntT X 56 = false := by kernel_rfl
@[simp] theorem isArr56 : isArrT X 56 = false := by kernel_rfl
@[simp] theorem isU856 : isU8 X 56 = false := by kernel_rfl
@[simp] theorem zok56 : zeroOk X 56 = true := by kernel_rfl
@[simp] theorem und58 : und X 58 = .int .u64 := by kernel_rfl
@[simp] theorem size58 : sizeT X 58 = 1 := by kernel_rfl
@[simp] theorem bytes58 : bytesT X 58 = 8 := by kernel_rfl
@[simp] theorem okT58 : okT X 58 = true := by kernel_rfl
@[simp] theorem isAgg58 : isAggT X 58 = false := by kernel_rfl
@[simp] theorem isInt58 : isIntT X 58 = true := by kernel_rfl
@[simp] theorem isArr58 : isArrT X 58 = false := by kernel_rfl
@[simp] theorem isU858 : isU8 X 58 = false := by kernel_rfl
@[simp] theorem zok58 : zeroOk X 58 = true := by kernel_rfl
@[simp] theorem zero58 : zeroAV X 58 = .int .u64 0 := by kernel_rfl
@[simp] theorem fa26_0 (H : AM.Heap) (x : AV) : fieldAddrV X H 26 x 0 = faV H x 0 := fieldAddr_of (ty := 5) (by kernel_rfl) (by kernel_rfl) H x
@[simp] theorem fv26_0 (x : AV) : fieldV X 26 x 0 = fvV X x 0 5 := field_of (by kernel_rfl) x
@[simp] theorem fa26_1 (H : AM.Heap) (x : AV) : fieldAddrV X H 26 x 1 = faV H x 1 := fieldAddr_of (ty := 9) (by kernel_rfl) (by kernel_rfl) H x
@[simp] theorem fv26_1 (x : AV) : fieldV X 26 x 1 = fvV X x 1 9 := field_of (by kernel_rfl) x
@[simp] theorem fa26_2 (H : AM.Heap) (x : AV) : fieldAddrV X H 26 x 2 = faV H x 2 := fieldAddr_of (ty := 23) (by kernel_rfl) (by kernel_rfl) H x
@[simp] theorem fv26_2 (x : AV) : fieldV X 26 x 2 = fvV X x 2 23 := field_of (by kernel_rfl) x
@[simp] theorem fa26_3 (H : AM.Heap) (x : AV) : fieldAddrV X H 26 x 3 = faV H x 3 := fieldAddr_of (ty := 24) (by kernel_rfl) (by kernel_rfl) H x
@[simp] theorem fv26_3 (x : AV) : fieldV X 26 x 3 = fvV X x 3 24 := field_of (by kernel_rfl) x
@[simp] theorem fa26_4 (H : AM.Heap) (x : AV) : fieldAddrV X H 26 x 4 = faV H x 4 := fieldAddr_of (ty := 5) (by kernel_rfl) (by kernel_rfl) H x
@[simp] theorem fv26_4 (x : AV) : fieldV X 26 x 4 = fvV X x 4 5 := field_of (by kernel_rfl) x
@[simp] theorem fa26_5 (H : AM.Heap) (x : AV) : fieldAddrV X H 26 x 5 = faV H x 5 := fieldAddr_of (ty := 23) (by kernel_rfl) (by kernel_rfl) H x
@[simp] theorem fv26_5 (x : AV) : fieldV X 26 x 5 = fvV X x 5 23 := field_of (by kernel_rfl) x
@[simp] theorem fa26_6 (H : AM.Heap) (x : AV) : fieldAddrV X H 26 x 6 = faV H x 6 := fieldAddr_of (ty := 24) (by kernel_rfl) (by kernel_rfl) H x
@[simp] theorem fv26_6 (x : AV) : fieldV X 26 x 6 = fvV X x 6 24 := field_of (by kernel_rfl) x
@[simp] theorem fa26_7 (H : AM.Heap) (x : AV) : fieldAddrV X H 26 x 7 = faV H x 7 := fieldAddr_of (ty := 22) (by kernel_rfl) (by kernel_rfl) H x
@[simp] theorem fv26_7 (x : AV) : fieldV X 26 x 7 = fvV X x 7 22 := field_of (by kernel_rfl) x
@[simp] theorem fa52_0 (H : AM.Heap) (x : AV) : fieldAddrV X H 52 x 0 = faV H x 0 := fieldAddr_of (ty := 22) (by kernel_rfl) (by kernel_rfl) H x
@[simp] theorem fv52_0 (x : AV) : fieldV X 52 x 0 = fvV X x 0 22 := field_of (by kernel_rfl) x
@[simp] theorem fa52_1 (H : AM.Heap) (x : AV) : fieldAddrV X H 52 x 1 = faV H x 1 := fieldAddr_of (ty := 29) (by kernel_rfl) (by kernel_rfl) H x
@[simp] theorem fv52_1 (x : AV) : fieldV X 52 x 1 = fvV X x 1 29 := field_of (by kernel_rfl) x

end Go.Proofs.YtmdciglfpedhgaaDoor
