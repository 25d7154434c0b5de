/- The seat's tables for the abstract machine, and what walks ask of the program. No conditions. -/
import Derived.Test.YtfkbemllgeopfaaDoorRows
import Derived.Test.YtfkbemllgeopfaaDoorAm3
namespace Go.Proofs.YtfkbemllgeopfaaDoor
open Go.AM

def keepT : List (List (List Nat)) := [[], [], [[]], [[0, 1, 2], [0, 1, 2, 10], [6], [0, 1, 2, 7], [0, 1, 7, 8], [6]], [[0, 1], [0, 1, 8], [4], [0, 1, 5, 6], [4]], [[], [1], [1, 2], [1, 2, 4], [1, 2, 4, 6], [1, 2, 4, 6, 7], [0]], [[0, 1, 2, 3], [0, 1, 2, 3, 14], [8], [0, 1, 2, 3, 17], [8], [0, 1, 2, 3, 9, 10], [0, 1, 3, 9, 10, 11, 12], [8]], [[], [1, 2], [0]], [[0, 1], [5], [5, 11, 12, 13], [5, 11, 12, 13, 14], [5, 7, 11, 12, 13], [5, 7, 11, 12, 13, 21], [5, 11, 12, 13], [5, 11, 12, 13], [4]], [[0, 3], [0, 3, 4], [0, 3, 4, 5], [0, 3, 4, 5, 6], [0, 3, 4, 5, 6, 12], [0, 3, 4, 5, 6], [0, 3, 4, 5, 6], [3, 4, 5, 21, 22, 23], [3, 4, 5, 21, 22, 23, 24], [3, 4, 5, 7, 8, 21, 22, 23], [3, 4, 5, 7, 9, 21, 22, 23], [3, 4, 5, 7, 9, 21, 22, 23, 32], [2, 3], [3, 4, 5, 21, 22, 23], [3, 4, 5, 21, 22, 23], [2, 3]], [[0], [0, 3], [0, 3, 4], [0, 3, 4, 7], [0, 3, 4, 7, 8], [0, 3, 4, 5, 7], [0, 3, 4, 7], [0, 3, 4, 5, 7, 16], [0, 3, 4, 5, 7, 22], [0, 3, 4, 7], [0, 3, 4, 7], [2]], [[0, 1], [0, 1, 10], [4], [0, 1, 5], [0, 1, 5, 14], [0, 1, 5], [0, 1, 5, 25], [4], [4]], [[0], [0, 3], [0, 3, 4], [0, 3, 4, 10], [0, 3, 4, 10, 11], [0, 3, 4, 5, 10], [0, 3, 4, 5, 10, 17], [0, 3, 4, 5, 6, 7, 10], [0, 3, 4, 5, 6, 10, 25], [0, 3, 4, 6, 10], [0, 3, 4, 10], [0, 3, 4, 10], [2]], [[], [0]], [[0], [7], [2], [2]], [[], [0]], [[0, 3], [0, 3, 4], [0, 3, 4, 5], [0, 3, 4, 5, 11], [0, 3, 4, 5], [0, 3, 4, 5, 6], [0, 3, 4, 5, 6, 7], [0, 3, 4, 5, 6, 7, 15], [0, 3, 4, 5, 6, 7], [0, 3, 4, 5, 6, 7, 24], [0, 3, 4, 5, 6, 7], [0, 3, 4, 5, 6, 27], [2, 3], [0, 3, 4, 5], [2, 3]], [[], [0]], [[], [0]], [[0, 1], [5], [5], [5], [4]], [[0], [7], [2], [2]], [[0], [0, 3], [0, 3, 4], [0, 3, 4, 6], [0, 3, 4], [0, 3, 4, 14], [0, 3, 4], [2]], [[0], [0, 3], [0, 3, 4], [0, 3, 4, 6], [0, 3, 4], [0, 3, 4, 14], [0, 3, 4, 15], [0, 3, 4], [0, 3, 4, 15, 21], [0, 3, 4], [0, 3, 4, 15, 26], [0, 3, 4], [0, 3, 4, 15, 31], [0, 3, 4], [0, 3, 4, 15, 36], [0, 3, 4], [0, 3, 4, 15, 41], [0, 3, 4], [0, 3, 4, 15, 46], [0, 3, 4], [0, 3, 4, 51], [0, 3, 4], [2]], [[], [1], [0]], [[], [0]], [[0], [2]], [[0, 1], [0, 1, 7, 8], [0, 1, 7, 8, 9], [0, 1, 5, 7, 8], [0, 1, 5, 7, 8, 16], [4], [0, 1, 7, 8], [4]], [[0], [0, 3], [0, 3, 8], [2], [2]], [[0, 1, 2], [0, 2, 10], [6], [6]], [[0], [0, 4], [2], [2]], [[0], [0, 3], [0, 3, 4], [0, 3, 4, 5], [0, 3, 4, 5, 6], [0, 3, 4, 5, 6, 16], [0, 3, 4, 5, 6], [0, 3, 4, 5, 6, 7], [0, 3, 4, 5, 6, 7], [0, 3, 4, 5, 6, 8], [0, 3, 5, 6, 8], [0, 3, 4, 5, 6], [0, 3, 37], [2], [0, 9], [0, 9, 10], [0, 9, 10], [0, 9, 10, 12], [0, 9, 10, 12, 53], [0, 9, 10, 12], [0, 9, 10, 11, 12], [0, 9, 10, 11, 12, 60], [0, 9, 10, 11, 12, 66], [0, 9, 10, 11, 12], [0, 9, 10, 12], [0, 9, 10, 12], [0, 9, 10, 12], [0, 9, 10, 12, 91], [0, 9, 10, 12], [0, 9, 10, 11, 12], [0, 9, 10, 11, 98], [9], [2]], [[0], [2]], [[0, 1], [0, 1, 5], [0, 1, 5, 6], [0, 1, 5, 6, 14], [0, 1, 5, 6, 14, 15, 16], [0, 1, 5, 6, 7, 8, 14], [0, 1, 5, 6, 7, 14, 21], [0, 1, 5, 6, 7, 14, 23], [0, 1, 5, 6, 14], [0, 1, 5, 6, 14], [0, 1, 5, 6, 7, 14, 33], [0, 1, 5, 6, 14], [0, 5, 6, 36], [0, 5], [0, 5, 9], [0, 9, 47, 48, 49], [0, 9, 47, 48, 49, 50], [0, 9, 10, 11, 47, 48, 49], [0, 9, 47, 48, 49], [0, 9, 47, 48, 49], [4]], [[0], [0, 5], [6], [6, 7], [6, 7], [6, 7], [6, 7], [6, 7], [6, 7], [6, 7], [7], [2], [2], [2]], [[0, 1], [0, 1, 11], [0, 17], [4], [0, 5], [0, 5, 6], [0, 5, 6, 23], [0, 5, 6], [0, 5, 6, 7], [0, 5, 7], [5, 7, 34], [5, 7], [4], [4], [9], [4]], [[0, 1], [0, 1, 5], [0, 1, 5, 6], [0, 1, 5, 6, 32], [4], [1, 7], [1, 7, 54], [4], [4]], [[0], [0, 4], [2], [2]], [[0], [0, 3], [2]], [[0, 1, 4], [0, 1, 4, 20], [0, 1, 4, 5], [0, 1, 4, 5], [0, 1, 4, 6, 7], [0, 1, 4, 6, 8, 9], [0, 1, 4, 8, 9, 10, 11], [0, 1, 4, 8, 10, 11], [0, 1, 4, 10, 11], [0, 1, 4, 10], [0, 1, 4], [0, 1, 4], [0, 4, 12], [0, 4, 12, 99], [0, 4, 12, 13], [0, 4, 12, 13], [0, 4, 12, 14, 15], [0, 4, 12, 14], [0, 4, 12], [0, 4, 12], [0, 4, 12, 139], [0, 4, 12, 16], [0, 4, 12, 16], [0, 4, 12], [0, 4, 12], [0, 12, 161], []], [[0, 1, 2, 3, 4, 10, 11], [0, 1, 2, 3, 4, 10, 11, 28], [0, 1, 2, 3, 4, 10, 11], [0, 1, 2, 3, 4, 10, 11, 12], [0, 1, 2, 3, 4, 10, 11, 12, 13], [0, 1, 2, 3, 4, 10, 11, 12, 13, 30], [0, 1, 2, 3, 4, 10, 11, 12, 13], [0, 1, 2, 3, 4, 10, 11, 12, 13, 34], [0, 1, 2, 3, 4, 10, 11, 12, 13, 14], [0, 1, 2, 3, 4, 10, 11, 12, 13, 14, 15], [0, 1, 3, 4, 10, 11, 12, 13, 14, 15, 16], [0, 1, 3, 4, 10, 11, 12, 13, 14, 15, 16, 46], [0, 1, 3, 4, 10, 11, 12, 13, 14, 15, 16], [0, 1, 3, 4, 10, 11, 12, 13, 14, 15, 16], [0, 1, 3, 4, 10, 11, 12, 13, 14, 15, 16], [0, 1, 3, 4, 10, 11, 12, 13], [0, 3, 4, 10, 11, 12, 13], [0, 1, 3, 4, 10, 11, 12, 13, 17], [0, 1, 3, 4, 10, 11, 12, 13, 17, 68], [0, 1, 3, 4, 10, 11, 12, 13, 17], [0, 1, 3, 4, 10, 11, 12, 13, 17, 18], [0, 3, 4, 10, 11, 12, 13, 17, 18], [0, 1, 3, 4, 10, 11, 12, 13, 17], [0, 1, 3, 4, 10, 11, 12, 13], [0, 3, 4, 10, 11, 12, 13], [0, 4, 10, 11, 12, 13, 89], [0, 4, 10, 11, 12, 13], [0, 4, 10, 11, 12, 13], [0, 10, 11, 12, 13, 94], [10, 11], [10, 11]], [[0, 1], [0, 1, 17], [0, 1, 19, 20], [0, 1, 19, 20, 21], [0, 1, 5, 19, 20], [0, 1, 6, 19, 20], [0, 1, 6, 19, 20, 31], [4], [0, 1, 6, 19, 20, 37], [4], [0, 1, 19, 20], [4], [0, 1, 7], [0, 1, 7, 8], [0, 1, 7, 8, 62], [0, 1, 7, 8, 9], [0, 1, 7, 8, 9, 10], [0, 1, 7, 8, 9, 10, 85], [4], [0, 1, 7, 8, 9, 110], [0, 1, 7, 8], [0, 1, 7, 8], [4]], [[0, 1], [0, 1, 13], [0, 1, 15, 16], [0, 1, 15, 16, 17], [0, 1, 5, 15, 16], [0, 1, 6, 15, 16], [0, 1, 6, 15, 16, 27], [4], [0, 1, 6, 15, 16, 33], [4], [0, 1, 15, 16], [4], [0, 1, 7], [0, 1, 7, 8], [0, 1, 7, 8, 58], [0, 1, 7, 8, 9], [0, 1, 7, 8, 9, 10], [0, 1, 7, 8, 9, 10, 78], [4], [0, 1, 7, 8, 9, 95], [0, 1, 7, 8], [0, 1, 7, 8], [4]], [[0], [2]], [[0, 2], [0, 2, 4], [0], [0, 2], [0, 2, 8], [0, 2], [0, 2], [0, 2, 14], [0, 2], [0, 2], [2]], [[0], [3], [2], [2]], [[0], [2]], [[0], [2], [2]], [[0], [0, 4], [2], [2]], [[0], [0, 4], [2], [2]], [], [], [], [], [], [], [], [], [], [], [], [], [], [], [], [], [], [], [], [], [], [], [], [], [], [], [[], [], [], [], [], []]]

def globs : List (Nat × AM.AV) := [(0, .pb [0, 0, 0, 0, 0, 0, 0, 0, 0, 1, 1, 1, 1, 1, 0, 0, 0, 0, 0, 0, 0, 0, 0, 0, 0, 0, 0, 0, 0, 0, 0, 0, 1, 0, 0, 0, 0, 0, 0, 0, 0, 0, 0, 0, 0, 0, 0, 0, 0, 0, 0, 0, 0, 0, 0, 0, 0, 0, 0, 0, 0, 0, 0, 0, 0, 0, 0, 0, 0, 0, 0, 0, 0, 0, 0, 0, 0, 0, 0, 0, 0, 0, 0, 0, 0, 0, 0, 0, 0, 0, 0, 0, 0, 0, 0, 0, 0, 0, 0, 0, 0, 0, 0, 0, 0, 0, 0, 0, 0, 0, 0, 0, 0, 0, 0, 0, 0, 0, 0, 0, 0, 0, 0, 0, 0, 0, 0, 0, 0, 0, 0, 0, 0, 0, 0, 0, 0, 0, 0, 0, 0, 0, 0, 0, 0, 0, 0, 0, 0, 0, 0, 0, 0, 0, 0, 0, 0, 0, 0, 0, 0, 0, 0, 0, 0, 0, 0, 0, 0, 0, 0, 0, 0, 0, 0, 0, 0, 0, 0, 0, 0, 0, 0, 0, 0, 0, 0, 0, 0, 0, 0, 0, 0, 0, 0, 0, 0, 0, 0, 0, 0, 0, 0, 0, 0, 0, 0, 0, 0, 0, 0, 0, 0, 0, 0, 0, 0, 0, 0, 0, 0, 0, 0, 0, 0, 0, 0, 0, 0, 0, 0, 0, 0, 0, 0, 0, 0, 0, 0, 0, 0, 0, 0, 0, 0, 0, 0, 0, 0, 0, 0, 0, 0, 0, 0, 0])]
noncomputable def X : AM.Ctx := { P := Tryd.prog, G := AM.globF globs, rw := fun f i => false, keep := fun f i => ((keepT[f]?).getD [])[i]?, norm := fun _ _ => false, dr := fun _ _ => true, dy := fun f id => [(16, 9)].contains (f, id) }

theorem own : ownKnob Tryd.prog.godebug = .none := by kernel_rfl
theorem full : ∀ t e, t < Tryd.prog.types.size → Tryd.prog.underlying t = some (.slice e) → 0 < Tryd.prog.cellsOf e := slices_full_of Tryd.prog (by kernel_rfl)
theorem ctxOk : AM.CtxOk X := AM.ctxOk_of (by kernel_rfl) (by kernel_rfl)
@[simp] theorem X_dr (f i : Nat) : X.dr f i = true := rfl
@[simp] theorem X_norm (f i : Nat) : X.norm f i = false := rfl
@[simp] theorem X_rw (f i : Nat) : X.rw f i = (false) := rfl
@[simp] theorem nt3 : ntOf X 3 = 49 := by kernel_rfl
@[simp] theorem bod3 : bodied X 3 = true := by kernel_rfl
@[simp] theorem par3 : paramsOf X 3 = [23, 23, 23] := by kernel_rfl
@[simp] theorem nt4 : ntOf X 4 = 34 := by kernel_rfl
@[simp] theorem bod4 : bodied X 4 = true := by kernel_rfl
@[simp] theorem par4 : paramsOf X 4 = [23, 23] := by kernel_rfl
@[simp] theorem nt6 : ntOf X 6 = 76 := by kernel_rfl
@[simp] theorem bod6 : bodied X 6 = true := by kernel_rfl
@[simp] theorem par6 : paramsOf X 6 = [23, 23, 32, 37] := by kernel_rfl
@[simp] theorem nt7 : ntOf X 7 = 22 := by kernel_rfl
@[simp] theorem bod7 : bodied X 7 = true := by kernel_rfl
@[simp] theorem par7 : paramsOf X 7 = [] := by kernel_rfl
@[simp] theorem nt8 : ntOf X 8 = 28 := by kernel_rfl
@[simp] theorem bod8 : bodied X 8 = true := by kernel_rfl
@[simp] theorem par8 : paramsOf X 8 = [23, 23] := by kernel_rfl
@[simp] theorem nt9 : ntOf X 9 = 42 := by kernel_rfl
@[simp] theorem bod9 : bodied X 9 = true := by kernel_rfl
@[simp] theorem par9 : paramsOf X 9 = [32] := by kernel_rfl
@[simp] theorem nt10 : ntOf X 10 = 36 := by kernel_rfl
@[simp] theorem bod10 : bodied X 10 = true := by kernel_rfl
@[simp] theorem par10 : paramsOf X 10 = [23] := by kernel_rfl
@[simp] theorem nt11 : ntOf X 11 = 26 := by kernel_rfl
@[simp] theorem bod11 : bodied X 11 = true := by kernel_rfl
@[simp] theorem par11 : paramsOf X 11 = [32, 32] := by kernel_rfl
@[simp] theorem nt12 : ntOf X 12 = 35 := by kernel_rfl
@[simp] theorem bod12 : bodied X 12 = true := by kernel_rfl
@[simp] theorem par12 : paramsOf X 12 = [37] := by kernel_rfl
@[simp] theorem nt13 : ntOf X 13 = 18 := by kernel_rfl
@[simp] theorem bod13 : bodied X 13 = true := by kernel_rfl
@[simp] theorem par13 : paramsOf X 13 = [] := by kernel_rfl
@[simp] theorem nt14 : ntOf X 14 = 8 := by kernel_rfl
@[simp] theorem bod14 : bodied X 14 = true := by kernel_rfl
@[simp] theorem par14 : paramsOf X 14 = [23] := by kernel_rfl
@[simp] theorem nt15 : ntOf X 15 = 1 := by kernel_rfl
@[simp] theorem bod15 : bodied X 15 = true := by kernel_rfl
@[simp] theorem par15 : paramsOf X 15 = [] := by kernel_rfl
@[simp] theorem nt16 : ntOf X 16 = 37 := by kernel_rfl
@[simp] theorem bod16 : bodied X 16 = true := by kernel_rfl
@[simp] theorem par16 : paramsOf X 16 = [32] := by kernel_rfl
@[simp] theorem nt17 : ntOf X 17 = 1 := by kernel_rfl
@[simp] theorem bod17 : bodied X 17 = true := by kernel_rfl
@[simp] theorem par17 : paramsOf X 17 = [] := by kernel_rfl
@[simp] theorem nt18 : ntOf X 18 = 1 := by kernel_rfl
@[simp] theorem bod18 : bodied X 18 = true := by kernel_rfl
@[simp] theorem par18 : paramsOf X 18 = [] := by kernel_rfl
@[simp] theorem nt19 : ntOf X 19 = 15 := by kernel_rfl
@[simp] theorem bod19 : bodied X 19 = true := by kernel_rfl
@[simp] theorem par19 : paramsOf X 19 = [23, 23] := by kernel_rfl
@[simp] theorem nt20 : ntOf X 20 = 8 := by kernel_rfl
@[simp] theorem bod20 : bodied X 20 = true := by kernel_rfl
@[simp] theorem par20 : paramsOf X 20 = [23] := by kernel_rfl
@[simp] theorem nt21 : ntOf X 21 = 21 := by kernel_rfl
@[simp] theorem bod21 : bodied X 21 = true := by kernel_rfl
@[simp] theorem par21 : paramsOf X 21 = [23] := by kernel_rfl
@[simp] theorem nt22 : ntOf X 22 = 57 := by kernel_rfl
@[simp] theorem bod22 : bodied X 22 = true := by kernel_rfl
@[simp] theorem par22 : paramsOf X 22 = [37] := by kernel_rfl
@[simp] theorem nt23 : ntOf X 23 = 7 := by kernel_rfl
@[simp] theorem bod23 : bodied X 23 = true := by kernel_rfl
@[simp] theorem par23 : paramsOf X 23 = [] := by kernel_rfl
@[simp] theorem nt24 : ntOf X 24 = 2 := by kernel_rfl
@[simp] theorem bod24 : bodied X 24 = true := by kernel_rfl
@[simp] theorem par24 : paramsOf X 24 = [] := by kernel_rfl
@[simp] theorem nt25 : ntOf X 25 = 5 := by kernel_rfl
@[simp] theorem bod25 : bodied X 25 = true := by kernel_rfl
@[simp] theorem par25 : paramsOf X 25 = [3] := by kernel_rfl
@[simp] theorem nt26 : ntOf X 26 = 19 := by kernel_rfl
@[simp] theorem bod26 : bodied X 26 = true := by kernel_rfl
@[simp] theorem par26 : paramsOf X 26 = [32, 9] := by kernel_rfl
@[simp] theorem nt27 : ntOf X 27 = 15 := by kernel_rfl
@[simp] theorem bod27 : bodied X 27 = true := by kernel_rfl
@[simp] theorem par27 : paramsOf X 27 = [3] := by kernel_rfl
@[simp] theorem nt28 : ntOf X 28 = 15 := by kernel_rfl
@[simp] theorem bod28 : bodied X 28 = true := by kernel_rfl
@[simp] theorem par28 : paramsOf X 28 = [23, 23, 23] := by kernel_rfl
@[simp] theorem nt29 : ntOf X 29 = 22 := by kernel_rfl
@[simp] theorem bod29 : bodied X 29 = true := by kernel_rfl
@[simp] theorem par29 : paramsOf X 29 = [3] := by kernel_rfl
@[simp] theorem keep3_0 : X.keep 3 0 = some [0, 1, 2] := by kernel_rfl
@[simp] theorem keep3_1 : X.keep 3 1 = some [0, 1, 2, 10] := by kernel_rfl
@[simp] theorem keep3_2 : X.keep 3 2 = some [6] := by kernel_rfl
@[simp] theorem keep3_3 : X.keep 3 3 = some [0, 1, 2, 7] := by kernel_rfl
@[simp] theorem keep3_4 : X.keep 3 4 = some [0, 1, 7, 8] := by kernel_rfl
@[simp] theorem keep3_5 : X.keep 3 5 = some [6] := by kernel_rfl
@[simp] theorem keep4_0 : X.keep 4 0 = some [0, 1] := by kernel_rfl
@[simp] theorem keep4_1 : X.keep 4 1 = some [0, 1, 8] := by kernel_rfl
@[simp] theorem keep4_2 : X.keep 4 2 = some [4] := by kernel_rfl
@[simp] theorem keep4_3 : X.keep 4 3 = some [0, 1, 5, 6] := by kernel_rfl
@[simp] theorem keep4_4 : X.keep 4 4 = some [4] := by kernel_rfl
@[simp] theorem keep6_0 : X.keep 6 0 = some [0, 1, 2, 3] := by kernel_rfl
@[simp] theorem keep6_1 : X.keep 6 1 = some [0, 1, 2, 3, 14] := by kernel_rfl
@[simp] theorem keep6_2 : X.keep 6 2 = some [8] := by kernel_rfl
@[simp] theorem keep6_3 : X.keep 6 3 = some [0, 1, 2, 3, 17] := by kernel_rfl
@[simp] theorem keep6_4 : X.keep 6 4 = some [8] := by kernel_rfl
@[simp] theorem keep6_5 : X.keep 6 5 = some [0, 1, 2, 3, 9, 10] := by kernel_rfl
@[simp] theorem keep6_6 : X.keep 6 6 = some [0, 1, 3, 9, 10, 11, 12] := by kernel_rfl
@[simp] theorem keep6_7 : X.keep 6 7 = some [8] := by kernel_rfl
@[simp] theorem keep7_0 : X.keep 7 0 = some [] := by kernel_rfl
@[simp] theorem keep7_1 : X.keep 7 1 = some [1, 2] := by kernel_rfl
@[simp] theorem keep7_2 : X.keep 7 2 = some [0] := by kernel_rfl
@[simp] theorem keep8_0 : X.keep 8 0 = some [0, 1] := by kernel_rfl
@[simp] theorem keep8_1 : X.keep 8 1 = some [5] := by kernel_rfl
@[simp] theorem keep8_2 : X.keep 8 2 = some [5, 11, 12, 13] := by kernel_rfl
@[simp] theorem keep8_3 : X.keep 8 3 = some [5, 11, 12, 13, 14] := by kernel_rfl
@[simp] theorem keep8_4 : X.keep 8 4 = some [5, 7, 11, 12, 13] := by kernel_rfl
@[simp] theorem keep8_5 : X.keep 8 5 = some [5, 7, 11, 12, 13, 21] := by kernel_rfl
@[simp] theorem keep8_6 : X.keep 8 6 = some [5, 11, 12, 13] := by kernel_rfl
@[simp] theorem keep8_7 : X.keep 8 7 = some [5, 11, 12, 13] := by kernel_rfl
@[simp] theorem keep8_8 : X.keep 8 8 = some [4] := by kernel_rfl
@[simp] theorem keep9_0 : X.keep 9 0 = some [0, 3] := by kernel_rfl
@[simp] theorem keep9_1 : X.keep 9 1 = some [0, 3, 4] := by kernel_rfl
@[simp] theorem keep9_2 : X.keep 9 2 = some [0, 3, 4, 5] := by kernel_rfl
@[simp] theorem keep9_3 : X.keep 9 3 = some [0, 3, 4, 5, 6] := by kernel_rfl
@[simp] theorem keep9_4 : X.keep 9 4 = some [0, 3, 4, 5, 6, 12] := by kernel_rfl
@[simp] theorem keep9_5 : X.keep 9 5 = some [0, 3, 4, 5, 6] := by kernel_rfl
@[simp] theorem keep9_6 : X.keep 9 6 = some [0, 3, 4, 5, 6] := by kernel_rfl
@[simp] theorem keep9_7 : X.keep 9 7 = some [3, 4, 5, 21, 22, 23] := by kernel_rfl
@[simp] theorem keep9_8 : X.keep 9 8 = some [3, 4, 5, 21, 22, 23, 24] := by kernel_rfl
@[simp] theorem keep9_9 : X.keep 9 9 = some [3, 4, 5, 7, 8, 21, 22, 23] := by kernel_rfl
@[simp] theorem keep9_10 : X.keep 9 10 = some [3, 4, 5, 7, 9, 21, 22, 23] := by kernel_rfl
@[simp] theorem keep9_11 : X.keep 9 11 = some [3, 4, 5, 7, 9, 21, 22, 23, 32] := by kernel_rfl
@[simp] theorem keep9_12 : X.keep 9 12 = some [2, 3] := by kernel_rfl
@[simp] theorem keep9_13 : X.keep 9 13 = some [3, 4, 5, 21, 22, 23] := by kernel_rfl
@[simp] theorem keep9_14 : X.keep 9 14 = some [3, 4, 5, 21, 22, 23] := by kernel_rfl
@[simp] theorem keep9_15 : X.keep 9 15 = some [2, 3] := by kernel_rfl
@[simp] theorem keep10_0 : X.keep 10 0 = some [0] := by kernel_rfl
@[simp] theorem keep10_1 : X.keep 10 1 = some [0, 3] := by kernel_rfl
@[simp] theorem keep10_2 : X.keep 10 2 = some [0, 3, 4] := by kernel_rfl
@[simp] theorem keep10_3 : X.keep 10 3 = some [0, 3, 4, 7] := by kernel_rfl
@[simp] theorem keep10_4 : X.keep 10 4 = some [0, 3, 4, 7, 8] := by kernel_rfl
@[simp] theorem keep10_5 : X.keep 10 5 = some [0, 3, 4, 5, 7] := by kernel_rfl
@[simp] theorem keep10_6 : X.keep 10 6 = some [0, 3, 4, 7] := by kernel_rfl
@[simp] theorem keep10_7 : X.keep 10 7 = some [0, 3, 4, 5, 7, 16] := by kernel_rfl
@[simp] theorem keep10_8 : X.keep 10 8 = some [0, 3, 4, 5, 7, 22] := by kernel_rfl
@[simp] theorem keep10_9 : X.keep 10 9 = some [0, 3, 4, 7] := by kernel_rfl
@[simp] theorem keep10_10 : X.keep 10 10 = some [0, 3, 4, 7] := by kernel_rfl
@[simp] theorem keep10_11 : X.keep 10 11 = some [2] := by kernel_rfl
@[simp] theorem keep11_0 : X.keep 11 0 = some [0, 1] := by kernel_rfl
@[simp] theorem keep11_1 : X.keep 11 1 = some [0, 1, 10] := by kernel_rfl
@[simp] theorem keep11_2 : X.keep 11 2 = some [4] := by kernel_rfl
@[simp] theorem keep11_3 : X.keep 11 3 = some [0, 1, 5] := by kernel_rfl
@[simp] theorem keep11_4 : X.keep 11 4 = some [0, 1, 5, 14] := by kernel_rfl
@[simp] theorem keep11_5 : X.keep 11 5 = some [0, 1, 5] := by kernel_rfl
@[simp] theorem keep11_6 : X.keep 11 6 = some [0, 1, 5, 25] := by kernel_rfl
@[simp] theorem keep11_7 : X.keep 11 7 = some [4] := by kernel_rfl
@[simp] theorem keep11_8 : X.keep 11 8 = some [4] := by kernel_rfl
@[simp] theorem keep12_0 : X.keep 12 0 = some [0] := by kernel_rfl
@[simp] theorem keep12_1 : X.keep 12 1 = some [0, 3] := by kernel_rfl
@[simp] theorem keep12_2 : X.keep 12 2 = some [0, 3, 4] := by kernel_rfl
@[simp] theorem keep12_3 : X.keep 12 3 = some [0, 3, 4, 10] := by kernel_rfl
@[simp] theorem keep12_4 : X.keep 12 4 = some [0, 3, 4, 10, 11] := by kernel_rfl
@[simp] theorem keep12_5 : X.keep 12 5 = some [0, 3, 4, 5, 10] := by kernel_rfl
@[simp] theorem keep12_6 : X.keep 12 6 = some [0, 3, 4, 5, 10, 17] := by kernel_rfl
@[simp] theorem keep12_7 : X.keep 12 7 = some [0, 3, 4, 5, 6, 7, 10] := by kernel_rfl
@[simp] theorem keep12_8 : X.keep 12 8 = some [0, 3, 4, 5, 6, 10, 25] := by kernel_rfl
@[simp] theorem keep12_9 : X.keep 12 9 = some [0, 3, 4, 6, 10] := by kernel_rfl
@[simp] theorem keep12_10 : X.keep 12 10 = some [0, 3, 4, 10] := by kernel_rfl
@[simp] theorem keep12_11 : X.keep 12 11 = some [0, 3, 4, 10] := by kernel_rfl
@[simp] theorem keep12_12 : X.keep 12 12 = some [2] := by kernel_rfl
@[simp] theorem keep13_0 : X.keep 13 0 = some [] := by kernel_rfl
@[simp] theorem keep13_1 : X.keep 13 1 = some [0] := by kernel_rfl
@[simp] theorem keep14_0 : X.keep 14 0 = some [0] := by kernel_rfl
@[simp] theorem keep14_1 : X.keep 14 1 = some [7] := by kernel_rfl
@[simp] theorem keep14_2 : X.keep 14 2 = some [2] := by kernel_rfl
@[simp] theorem keep14_3 : X.keep 14 3 = some [2] := by kernel_rfl
@[simp] theorem keep15_0 : X.keep 15 0 = some [] := by kernel_rfl
@[simp] theorem keep15_1 : X.keep 15 1 = some [0] := by kernel_rfl
@[simp] theorem keep16_0 : X.keep 16 0 = some [0, 3] := by kernel_rfl
@[simp] theorem keep16_1 : X.keep 16 1 = some [0, 3, 4] := by kernel_rfl
@[simp] theorem keep16_2 : X.keep 16 2 = some [0, 3, 4, 5] := by kernel_rfl
@[simp] theorem keep16_3 : X.keep 16 3 = some [0, 3, 4, 5, 11] := by kernel_rfl
@[simp] theorem keep16_4 : X.keep 16 4 = some [0, 3, 4, 5] := by kernel_rfl
@[simp] theorem keep16_5 : X.keep 16 5 = some [0, 3, 4, 5, 6] := by kernel_rfl
@[simp] theorem keep16_6 : X.keep 16 6 = some [0, 3, 4, 5, 6, 7] := by kernel_rfl
@[simp] theorem keep16_7 : X.keep 16 7 = some [0, 3, 4, 5, 6, 7, 15] := by kernel_rfl
@[simp] theorem keep16_8 : X.keep 16 8 = some [0, 3, 4, 5, 6, 7] := by kernel_rfl
@[simp] theorem keep16_9 : X.keep 16 9 = some [0, 3, 4, 5, 6, 7, 24] := by kernel_rfl
@[simp] theorem keep16_10 : X.keep 16 10 = some [0, 3, 4, 5, 6, 7] := by kernel_rfl
@[simp] theorem keep16_11 : X.keep 16 11 = some [0, 3, 4, 5, 6, 27] := by kernel_rfl
@[simp] theorem keep16_12 : X.keep 16 12 = some [2, 3] := by kernel_rfl
@[simp] theorem keep16_13 : X.keep 16 13 = some [0, 3, 4, 5] := by kernel_rfl
@[simp] theorem keep16_14 : X.keep 16 14 = some [2, 3] := by kernel_rfl
@[simp] theorem keep17_0 : X.keep 17 0 = some [] := by kernel_rfl
@[simp] theorem keep17_1 : X.keep 17 1 = some [0] := by kernel_rfl
@[simp] theorem keep18_0 : X.keep 18 0 = some [] := by kernel_rfl
@[simp] theorem keep18_1 : X.keep 18 1 = some [0] := by kernel_rfl
@[simp] theorem keep19_0 : X.keep 19 0 = some [0, 1] := by kernel_rfl
@[simp] theorem keep19_1 : X.keep 19 1 = some [5] := by kernel_rfl
@[simp] theorem keep19_2 : X.keep 19 2 = some [5] := by kernel_rfl
@[simp] theorem keep19_3 : X.keep 19 3 = some [5] := by kernel_rfl
@[simp] theorem keep19_4 : X.keep 19 4 = some [4] := by kernel_rfl
@[simp] theorem keep20_0 : X.keep 20 0 = some [0] := by kernel_rfl
@[simp] theorem keep20_1 : X.keep 20 1 = some [7] := by kernel_rfl
@[simp] theorem keep20_2 : X.keep 20 2 = some [2] := by kernel_rfl
@[simp] theorem keep20_3 : X.keep 20 3 = some [2] := by kernel_rfl
@[simp] theorem keep21_0 : X.keep 21 0 = some [0] := by kernel_rfl
@[simp] theorem keep21_1 : X.keep 21 1 = some [0, 3] := by kernel_rfl
@[simp] theorem keep21_2 : X.keep 21 2 = some [0, 3, 4] := by kernel_rfl
@[simp] theorem keep21_3 : X.keep 21 3 = some [0, 3, 4, 6] := by kernel_rfl
@[simp] theorem keep21_4 : X.keep 21 4 = some [0, 3, 4] := by kernel_rfl
@[simp] theorem keep21_5 : X.keep 21 5 = some [0, 3, 4, 14] := by kernel_rfl
@[simp] theorem keep21_6 : X.keep 21 6 = some [0, 3, 4] := by kernel_rfl
@[simp] theorem keep21_7 : X.keep 21 7 = some [2] := by kernel_rfl
@[simp] theorem keep22_0 : X.keep 22 0 = some [0] := by kernel_rfl
@[simp] theorem keep22_1 : X.keep 22 1 = some [0, 3] := by kernel_rfl
@[simp] theorem keep22_2 : X.keep 22 2 = some [0, 3, 4] := by kernel_rfl
@[simp] theorem keep22_3 : X.keep 22 3 = some [0, 3, 4, 6] := by kernel_rfl
@[simp] theorem keep22_4 : X.keep 22 4 = some [0, 3, 4] := by kernel_rfl
@[simp] theorem keep22_5 : X.keep 22 5 = some [0, 3, 4, 14] := by kernel_rfl
@[simp] theorem keep22_6 : X.keep 22 6 = some [0, 3, 4, 15] := by kernel_rfl
@[simp] theorem keep22_7 : X.keep 22 7 = some [0, 3, 4] := by kernel_rfl
@[simp] theorem keep22_8 : X.keep 22 8 = some [0, 3, 4, 15, 21] := by kernel_rfl
@[simp] theorem keep22_9 : X.keep 22 9 = some [0, 3, 4] := by kernel_rfl
@[simp] theorem keep22_10 : X.keep 22 10 = some [0, 3, 4, 15, 26] := by kernel_rfl
@[simp] theorem keep22_11 : X.keep 22 11 = some [0, 3, 4] := by kernel_rfl
@[simp] theorem keep22_12 : X.keep 22 12 = some [0, 3, 4, 15, 31] := by kernel_rfl
@[simp] theorem keep22_13 : X.keep 22 13 = some [0, 3, 4] := by kernel_rfl
@[simp] theorem keep22_14 : X.keep 22 14 = some [0, 3, 4, 15, 36] := by kernel_rfl
@[simp] theorem keep22_15 : X.keep 22 15 = some [0, 3, 4] := by kernel_rfl
@[simp] theorem keep22_16 : X.keep 22 16 = some [0, 3, 4, 15, 41] := by kernel_rfl
@[simp] theorem keep22_17 : X.keep 22 17 = some [0, 3, 4] := by kernel_rfl
@[simp] theorem keep22_18 : X.keep 22 18 = some [0, 3, 4, 15, 46] := by kernel_rfl
@[simp] theorem keep22_19 : X.keep 22 19 = some [0, 3, 4] := by kernel_rfl
@[simp] theorem keep22_20 : X.keep 22 20 = some [0, 3, 4, 51] := by kernel_rfl
@[simp] theorem keep22_21 : X.keep 22 21 = some [0, 3, 4] := by kernel_rfl
@[simp] theorem keep22_22 : X.keep 22 22 = some [2] := by kernel_rfl
@[simp] theorem keep23_0 : X.keep 23 0 = some [] := by kernel_rfl
@[simp] theorem keep23_1 : X.keep 23 1 = some [1] := by kernel_rfl
@[simp] theorem keep23_2 : X.keep 23 2 = some [0] := by kernel_rfl
@[simp] theorem keep26_0 : X.keep 26 0 = some [0, 1] := by kernel_rfl
@[simp] theorem keep26_1 : X.keep 26 1 = some [0, 1, 7, 8] := by kernel_rfl
@[simp] theorem keep26_2 : X.keep 26 2 = some [0, 1, 7, 8, 9] := by kernel_rfl
@[simp] theorem keep26_3 : X.keep 26 3 = some [0, 1, 5, 7, 8] := by kernel_rfl
@[simp] theorem keep26_4 : X.keep 26 4 = some [0, 1, 5, 7, 8, 16] := by kernel_rfl
@[simp] theorem keep26_5 : X.keep 26 5 = some [4] := by kernel_rfl
@[simp] theorem keep26_6 : X.keep 26 6 = some [0, 1, 7, 8] := by kernel_rfl
@[simp] theorem keep26_7 : X.keep 26 7 = some [4] := by kernel_rfl
@[simp] theorem keep27_0 : X.keep 27 0 = some [0] := by kernel_rfl
@[simp] theorem keep27_1 : X.keep 27 1 = some [0, 3] := by kernel_rfl
@[simp] theorem keep27_2 : X.keep 27 2 = some [0, 3, 8] := by kernel_rfl
@[simp] theorem keep27_3 : X.keep 27 3 = some [2] := by kernel_rfl
@[simp] theorem keep27_4 : X.keep 27 4 = some [2] := by kernel_rfl
@[simp] theorem keep28_0 : X.keep 28 0 = some [0, 1, 2] := by kernel_rfl
@[simp] theorem keep28_1 : X.keep 28 1 = some [0, 2, 10] := by kernel_rfl
@[simp] theorem keep28_2 : X.keep 28 2 = some [6] := by kernel_rfl
@[simp] theorem keep28_3 : X.keep 28 3 = some [6] := by kernel_rfl
@[simp] theorem keep29_0 : X.keep 29 0 = some [0] := by kernel_rfl
@[simp] theorem keep29_1 : X.keep 29 1 = some [0, 4] := by kernel_rfl
@[simp] theorem keep29_2 : X.keep 29 2 = some [2] := by kernel_rfl
@[simp] theorem keep29_3 : X.keep 29 3 = some [2] := by kernel_rfl
@[simp] theorem dy11_6 : X.dy 11 6 = false := by kernel_rfl
@[simp] theorem dy16_9 : X.dy 16 9 = true := by kernel_rfl
@[simp] theorem size0 : sizeT X 0 = 1 := by kernel_rfl
@[simp] theorem bytes0 : bytesT X 0 = 0 := by kernel_rfl
@[simp] theorem okT0 : okT X 0 = true := by kernel_rfl
@[simp] theorem isAgg0 : isAggT X 0 = false := by kernel_rfl
@[simp] theorem isInt0 : isIntT X 0 = false := by kernel_rfl
@[simp] theorem isArr0 : isArrT X 0 = false := by kernel_rfl
@[simp] theorem isU80 : isU8 X 0 = false := by kernel_rfl
@[simp] theorem zok0 : zeroOk X 0 = true := by kernel_rfl
@[simp] theorem und3 : und X 3 = .int .i64 := by kernel_rfl
@[simp] theorem size3 : sizeT X 3 = 1 := by kernel_rfl
@[simp] theorem bytes3 : bytesT X 3 = 8 := by kernel_rfl
@[simp] theorem okT3 : okT X 3 = true := by kernel_rfl
@[simp] theorem isAgg3 : isAggT X 3 = false := by kernel_rfl
@[simp] theorem isInt3 : isIntT X 3 = true := by kernel_rfl
@[simp] theorem isArr3 : isArrT X 3 = false := by kernel_rfl
@[simp] theorem isU83 : isU8 X 3 = false := by kernel_rfl
@[simp] theorem zok3 : zeroOk X 3 = true := by kernel_rfl
@[simp] theorem zero3 : zeroAV X 3 = .int .i64 0 := by kernel_rfl
@[simp] theorem und4 : und X 4 = .bool := by kernel_rfl
@[simp] theorem size4 : sizeT X 4 = 1 := by kernel_rfl
@[simp] theorem bytes4 : bytesT X 4 = 1 := by kernel_rfl
@[simp] theorem okT4 : okT X 4 = true := by kernel_rfl
@[simp] theorem isAgg4 : isAggT X 4 = false := by kernel_rfl
@[simp] theorem isInt4 : isIntT X 4 = false := by kernel_rfl
@[simp] theorem isArr4 : isArrT X 4 = false := by kernel_rfl
@[simp] theorem isU84 : isU8 X 4 = false := by kernel_rfl
@[simp] theorem zok4 : zeroOk X 4 = true := by kernel_rfl
@[simp] theorem zero4 : zeroAV X 4 = .bool false := by kernel_rfl
@[simp] theorem und5 : und X 5 = .int .u8 := by kernel_rfl
@[simp] theorem size5 : sizeT X 5 = 1 := by kernel_rfl
@[simp] theorem bytes5 : bytesT X 5 = 1 := by kernel_rfl
@[simp] theorem okT5 : okT X 5 = true := by kernel_rfl
@[simp] theorem isAgg5 : isAggT X 5 = false := by kernel_rfl
@[simp] theorem isInt5 : isIntT X 5 = true := by kernel_rfl
@[simp] theorem isArr5 : isArrT X 5 = false := by kernel_rfl
@[simp] theorem isU85 : isU8 X 5 = true := by kernel_rfl
@[simp] theorem zok5 : zeroOk X 5 = true := by kernel_rfl
@[simp] theorem zero5 : zeroAV X 5 = .int .u8 0 := by kernel_rfl
@[simp] theorem und9 : und X 9 = .string := by kernel_rfl
@[simp] theorem size9 : sizeT X 9 = 1 := by kernel_rfl
@[simp] theorem bytes9 : bytesT X 9 = 16 := by kernel_rfl
@[simp] theorem okT9 : okT X 9 = true := by kernel_rfl
@[simp] theorem isAgg9 : isAggT X 9 = false := by kernel_rfl
@[simp] theorem isInt9 : isIntT X 9 = false := by kernel_rfl
@[simp] theorem isArr9 : isArrT X 9 = false := by kernel_rfl
@[simp] theorem isU89 : isU8 X 9 = false := by kernel_rfl
@[simp] theorem zok9 : zeroOk X 9 = true := by kernel_rfl
@[simp] theorem zero9 : zeroAV X 9 = .str [] := by kernel_rfl
@[simp] theorem und23 : und X 23 = .int .u32 := by kernel_rfl
@[simp] theorem size23 : sizeT X 23 = 1 := by kernel_rfl
@[simp] theorem bytes23 : bytesT X 23 = 4 := by kernel_rfl
@[simp] theorem okT23 : okT X 23 = true := by kernel_rfl
@[simp] theorem isAgg23 : isAggT X 23 = false := by kernel_rfl
@[simp] theorem isInt23 : isIntT X 23 = true := by kernel_rfl
@[simp] theorem isArr23 : isArrT X 23 = false := by kernel_rfl
@[simp] theorem isU823 : isU8 X 23 = false := by kernel_rfl
@[simp] theorem zok23 : zeroOk X 23 = true := by kernel_rfl
@[simp] theorem zero23 : zeroAV X 23 = .int .u32 0 := by kernel_rfl
@[simp] theorem und27 : und X 27 = .int .i64 := by kernel_rfl
@[simp] theorem size27 : sizeT X 27 = 1 := by kernel_rfl
@[simp] theorem bytes27 : bytesT X 27 = 8 := by kernel_rfl
@[simp] theorem okT27 : okT X 27 = true := by kernel_rfl
@[simp] theorem isAgg27 : isAggT X 27 = false := by kernel_rfl
@[simp] theorem isInt27 : isIntT X 27 = true := by kernel_rfl
@[simp] theorem isArr27 : isArrT X 27 = false := by kernel_rfl
@[simp] theorem isU827 : isU8 X 27 = false := by kernel_rfl
@[simp] theorem zok27 : zeroOk X 27 = true := by kernel_rfl
@[simp] theorem zero27 : zeroAV X 27 = .int .i64 0 := by kernel_rfl
@[simp] theorem size29 : sizeT X 29 = 2 := by kernel_rfl
@[simp] theorem bytes29 : bytesT X 29 = 16 := by kernel_rfl
@[simp] theorem okT29 : okT X 29 = true := by kernel_rfl
@[simp] theorem isAgg29 : isAggT X 29 = true := by kernel_rfl
@[simp] theorem isInt29 : isIntT X 29 = false := by kernel_rfl
@[simp] theorem isArr29 : isArrT X 29 = false := by kernel_rfl
@[simp] theorem isU829 : isU8 X 29 = false := by kernel_rfl
@[simp] theorem zok29 : zeroOk X 29 = true := by kernel_rfl
@[simp] theorem zero29 : zeroAV X 29 = .agg (.pc [.int .i64 0, .int .i64 0]) := by kernel_rfl
@[simp] theorem size30 : sizeT X 30 = 1 := by kernel_rfl
@[simp] theorem bytes30 : bytesT X 30 = 0 := by kernel_rfl
@[simp] theorem okT30 : okT X 30 = true := by kernel_rfl
@[simp] theorem isAgg30 : isAggT X 30 = false := by kernel_rfl
@[simp] theorem isInt30 : isIntT X 30 = false := by kernel_rfl
@[simp] theorem isArr30 : isArrT X 30 = false := by kernel_rfl
@[simp] theorem isU830 : isU8 X 30 = false := by kernel_rfl
@[simp] theorem zok30 : zeroOk X 30 = true := by kernel_rfl
@[simp] theorem und32 : und X 32 = .slice 9 := by kernel_rfl
@[simp] theorem size32 : sizeT X 32 = 1 := by kernel_rfl
@[simp] theorem bytes32 : bytesT X 32 = 24 := by kernel_rfl
@[simp] theorem okT32 : okT X 32 = true := by kernel_rfl
@[simp] theorem isAgg32 : isAggT X 32 = false := by kernel_rfl
@[simp] theorem isInt32 : isIntT X 32 = false := by kernel_rfl
@[simp] theorem isArr32 : isArrT X 32 = false := by kernel_rfl
@[simp] theorem isU832 : isU8 X 32 = false := by kernel_rfl
@[simp] theorem zok32 : zeroOk X 32 = true := by kernel_rfl
@[simp] theorem zero32 : zeroAV X 32 = .ro 0 .pn 0 := by kernel_rfl
@[simp] theorem und37 : und X 37 = .int .u16 := by kernel_rfl
@[simp] theorem size37 : sizeT X 37 = 1 := by kernel_rfl
@[simp] theorem bytes37 : bytesT X 37 = 2 := by kernel_rfl
@[simp] theorem okT37 : okT X 37 = true := by kernel_rfl
@[simp] theorem isAgg37 : isAggT X 37 = false := by kernel_rfl
@[simp] theorem isInt37 : isIntT X 37 = true := by kernel_rfl
@[simp] theorem isArr37 : isArrT X 37 = false := by kernel_rfl
@[simp] theorem isU837 : isU8 X 37 = false := by kernel_rfl
@[simp] theorem zok37 : zeroOk X 37 = true := by kernel_rfl
@[simp] theorem zero37 : zeroAV X 37 = .int .u16 0 := by kernel_rfl
@[simp] theorem und41 : und X 41 = .slice 43 := by kernel_rfl
@[simp] theorem size41 : sizeT X 41 = 1 := by kernel_rfl
@[simp] theorem bytes41 : bytesT X 41 = 24 := by kernel_rfl
@[simp] theorem okT41 : okT X 41 = true := by kernel_rfl
@[simp] theorem isAgg41 : isAggT X 41 = false := by kernel_rfl
@[simp] theorem isInt41 : isIntT X 41 = false := by kernel_rfl
@[simp] theorem isArr41 : isArrT X 41 = false := by kernel_rfl
@[simp] theorem isU841 : isU8 X 41 = false := by kernel_rfl
@[simp] theorem zok41 : zeroOk X 41 = true := by kernel_rfl
@[simp] theorem zero41 : zeroAV X 41 = .ro 0 .pn 0 := by kernel_rfl
@[simp] theorem und43 : und X 43 = .array 2 23 := by kernel_rfl
@[simp] theorem size43 : sizeT X 43 = 2 := by kernel_rfl
@[simp] theorem bytes43 : bytesT X 43 = 8 := by kernel_rfl
@[simp] theorem okT43 : okT X 43 = true := by kernel_rfl
@[simp] theorem isAgg43 : isAggT X 43 = true := by kernel_rfl
@[simp] theorem isInt43 : isIntT X 43 = false := by kernel_rfl
@[simp] theorem isArr43 : isArrT X 43 = true := by kernel_rfl
@[simp] theorem isU843 : isU8 X 43 = false := by kernel_rfl
@[simp] theorem zok43 : zeroOk X 43 = true := by kernel_rfl
@[simp] theorem zero43 : zeroAV X 43 = .agg (.pi .u32 [0, 0]) := by kernel_rfl
@[simp] theorem und47 : und X 47 = .map 3 9 := by kernel_rfl
@[simp] theorem size47 : sizeT X 47 = 1 := by kernel_rfl
@[simp] theorem bytes47 : bytesT X 47 = 8 := by kernel_rfl
@[simp] theorem okT47 : okT X 47 = true := by kernel_rfl
@[simp] theorem isAgg47 : isAggT X 47 = false := by kernel_rfl
@[simp] theorem isInt47 : isIntT X 47 = false := by kernel_rfl
@[simp] theorem isArr47 : isArrT X 47 = false := by kernel_rfl
@[simp] theorem isU847 : isU8 X 47 = false := by kernel_rfl
@[simp] theorem zok47 : zeroOk X 47 = true := by kernel_rfl
@[simp] theorem zero47 : zeroAV X 47 = .nilmap := by kernel_rfl
@[simp] theorem size48 : sizeT X 48 = 1 := by kernel_rfl
@[simp] theorem bytes48 : bytesT X 48 = 0 := by kernel_rfl
@[simp] theorem okT48 : okT X 48 = true := by kernel_rfl
@[simp] theorem isAgg48 : isAggT X 48 = false := by kernel_rfl
@[simp] theorem isInt48 : isIntT X 48 = false := by kernel_rfl
@[simp] theorem isArr48 : isArrT X 48 = false := by kernel_rfl
@[simp] theorem isU848 : isU8 X 48 = false := by kernel_rfl
@[simp] theorem zok48 : zeroOk X 48 = true := by kernel_rfl
@[simp] theorem und49 : und X 49 = .int .u64 := by kernel_rfl
@[simp] theorem size49 : sizeT X 49 = 1 := by kernel_rfl
@[simp] theorem bytes49 : bytesT X 49 = 8 := by kernel_rfl
@[simp] theorem okT49 : okT X 49 = true := by kernel_rfl
@[simp] theorem isAgg49 : isAggT X 49 = false := by kernel_rfl
@[simp] theorem isInt49 : isIntT X 49 = true := by kernel_rfl
@[simp] theorem isArr49 : isArrT X 49 = false := by kernel_rfl
@[simp] theorem isU849 : isU8 X 49 = false := by kernel_rfl
@[simp] theorem zok49 : zeroOk X 49 = true := by kernel_rfl
@[simp] theorem zero49 : zeroAV X 49 = .int .u64 0 := by kernel_rfl
@[simp] theorem und52 : und X 52 = .slice 5 := by kernel_rfl
@[simp] theorem size52 : sizeT X 52 = 1 := by kernel_rfl
@[simp] theorem bytes52 : bytesT X 52 = 24 := by kernel_rfl
@[simp] theorem okT52 : okT X 52 = true := by kernel_rfl
@[simp] theorem isAgg52 : isAggT X 52 = false := by kernel_rfl
@[simp] theorem isInt52 : isIntT X 52 = false := by kernel_rfl
@[simp] theorem isArr52 : isArrT X 52 = false := by kernel_rfl
@[simp] theorem isU852 : isU8 X 52 = false := by kernel_rfl
@[simp] theorem zok52 : zeroOk X 52 = true := by kernel_rfl
@[simp] theorem zero52 : zeroAV X 52 = .ro 0 .pn 0 := by kernel_rfl

end Go.Proofs.YtfkbemllgeopfaaDoor
