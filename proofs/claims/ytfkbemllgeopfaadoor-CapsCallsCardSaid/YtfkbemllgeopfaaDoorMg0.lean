/- X to C7: texts of this claim, one behind the other; what each shows stands at its head. -/
import Derived.Test.YtfkbemllgeopfaaDoorRows
import Derived.Test.YtfkbemllgeopfaaDoorAm3
/- The seat's tables for the abstract machine, and what walks ask of the program. No conditions. -/
namespace Go.Proofs.YtfkbemllgeopfaaDoor
open Go.AM

def keepT : List (List (List Nat)) := [[], [], [[]], [[0, 1, 2], [0, 1, 2, 10], [6], [0, 1, 2, 7], [0, 1, 7, 8], [6]], [[0, 1], [0, 1, 8], [4], [0, 1, 5, 6], [4]], [[], [1], [1, 2], [1, 2, 4], [1, 2, 4, 6], [1, 2, 4, 6, 7], [0]], [[0, 1, 2, 3], [0, 1, 2, 3, 14], [8], [0, 1, 2, 3, 17], [8], [0, 1, 2, 3, 9, 10], [0, 1, 3, 9, 10, 11, 12], [8]], [[], [1, 2], [0]], [[0, 1], [5], [5, 11, 12, 13], [5, 11, 12, 13, 14], [5, 7, 11, 12, 13], [5, 7, 11, 12, 13, 21], [5, 11, 12, 13], [5, 11, 12, 13], [4]], [[0, 3], [0, 3, 4], [0, 3, 4, 5], [0, 3, 4, 5, 6], [0, 3, 4, 5, 6, 12], [0, 3, 4, 5, 6], [0, 3, 4, 5, 6], [3, 4, 5, 21, 22, 23], [3, 4, 5, 21, 22, 23, 24], [3, 4, 5, 7, 8, 21, 22, 23], [3, 4, 5, 7, 9, 21, 22, 23], [3, 4, 5, 7, 9, 21, 22, 23, 32], [2, 3], [3, 4, 5, 21, 22, 23], [3, 4, 5, 21, 22, 23], [2, 3]], [[0], [0, 3], [0, 3, 4], [0, 3, 4, 7], [0, 3, 4, 7, 8], [0, 3, 4, 5, 7], [0, 3, 4, 7], [0, 3, 4, 5, 7, 16], [0, 3, 4, 5, 7, 22], [0, 3, 4, 7], [0, 3, 4, 7], [2]], [[0, 1], [0, 1, 10], [4], [0, 1, 5], [0, 1, 5, 14], [0, 1, 5], [0, 1, 5, 25], [4], [4]], [[0], [0, 3], [0, 3, 4], [0, 3, 4, 10], [0, 3, 4, 10, 11], [0, 3, 4, 5, 10], [0, 3, 4, 5, 10, 17], [0, 3, 4, 5, 6, 7, 10], [0, 3, 4, 5, 6, 10, 25], [0, 3, 4, 6, 10], [0, 3, 4, 10], [0, 3, 4, 10], [2]], [[], [0]], [[0], [7], [2], [2]], [[], [0]], [[0, 3], [0, 3, 4], [0, 3, 4, 5], [0, 3, 4, 5, 11], [0, 3, 4, 5], [0, 3, 4, 5, 6], [0, 3, 4, 5, 6, 7], [0, 3, 4, 5, 6, 7, 15], [0, 3, 4, 5, 6, 7], [0, 3, 4, 5, 6, 7, 24], [0, 3, 4, 5, 6, 7], [0, 3, 4, 5, 6, 27], [2, 3], [0, 3, 4, 5], [2, 3]], [[], [0]], [[], [0]], [[0, 1], [5], [5], [5], [4]], [[0], [7], [2], [2]], [[0], [0, 3], [0, 3, 4], [0, 3, 4, 6], [0, 3, 4], [0, 3, 4, 14], [0, 3, 4], [2]], [[0], [0, 3], [0, 3, 4], [0, 3, 4, 6], [0, 3, 4], [0, 3, 4, 14], [0, 3, 4, 15], [0, 3, 4], [0, 3, 4, 15, 21], [0, 3, 4], [0, 3, 4, 15, 26], [0, 3, 4], [0, 3, 4, 15, 31], [0, 3, 4], [0, 3, 4, 15, 36], [0, 3, 4], [0, 3, 4, 15, 41], [0, 3, 4], [0, 3, 4, 15, 46], [0, 3, 4], [0, 3, 4, 51], [0, 3, 4], [2]], [[], [1], [0]], [[], [0]], [[0], [2]], [[0, 1], [0, 1, 7, 8], [0, 1, 7, 8, 9], [0, 1, 5, 7, 8], [0, 1, 5, 7, 8, 16], [4], [0, 1, 7, 8], [4]], [[0], [0, 3], [0, 3, 8], [2], [2]], [[0, 1, 2], [0, 2, 10], [6], [6]], [[0], [0, 4], [2], [2]], [[0], [0, 3], [0, 3, 4], [0, 3, 4, 5], [0, 3, 4, 5, 6], [0, 3, 4, 5, 6, 16], [0, 3, 4, 5, 6], [0, 3, 4, 5, 6, 7], [0, 3, 4, 5, 6, 7], [0, 3, 4, 5, 6, 8], [0, 3, 5, 6, 8], [0, 3, 4, 5, 6], [0, 3, 37], [2], [0, 9], [0, 9, 10], [0, 9, 10], [0, 9, 10, 12], [0, 9, 10, 12, 53], [0, 9, 10, 12], [0, 9, 10, 11, 12], [0, 9, 10, 11, 12, 60], [0, 9, 10, 11, 12, 66], [0, 9, 10, 11, 12], [0, 9, 10, 12], [0, 9, 10, 12], [0, 9, 10, 12], [0, 9, 10, 12, 91], [0, 9, 10, 12], [0, 9, 10, 11, 12], [0, 9, 10, 11, 98], [9], [2]], [[0], [2]], [[0, 1], [0, 1, 5], [0, 1, 5, 6], [0, 1, 5, 6, 14], [0, 1, 5, 6, 14, 15, 16], [0, 1, 5, 6, 7, 8, 14], [0, 1, 5, 6, 7, 14, 21], [0, 1, 5, 6, 7, 14, 23], [0, 1, 5, 6, 14], [0, 1, 5, 6, 14], [0, 1, 5, 6, 7, 14, 33], [0, 1, 5, 6, 14], [0, 5, 6, 36], [0, 5], [0, 5, 9], [0, 9, 47, 48, 49], [0, 9, 47, 48, 49, 50], [0, 9, 10, 11, 47, 48, 49], [0, 9, 47, 48, 49], [0, 9, 47, 48, 49], [4]], [[0], [0, 5], [6], [6, 7], [6, 7], [6, 7], [6, 7], [6, 7], [6, 7], [6, 7], [7], [2], [2], [2]], [[0, 1], [0, 1, 11], [0, 17], [4], [0, 5], [0, 5, 6], [0, 5, 6, 23], [0, 5, 6], [0, 5, 6, 7], [0, 5, 7], [5, 7, 34], [5, 7], [4], [4], [9], [4]], [[0, 1], [0, 1, 5], [0, 1, 5, 6], [0, 1, 5, 6, 32], [4], [1, 7], [1, 7, 54], [4], [4]], [[0], [0, 4], [2], [2]], [[0], [0, 3], [2]], [[0, 1, 4], [0, 1, 4, 20], [0, 1, 4, 5], [0, 1, 4, 5], [0, 1, 4, 6, 7], [0, 1, 4, 6, 8, 9], [0, 1, 4, 8, 9, 10, 11], [0, 1, 4, 8, 10, 11], [0, 1, 4, 10, 11], [0, 1, 4, 10], [0, 1, 4], [0, 1, 4], [0, 4, 12], [0, 4, 12, 99], [0, 4, 12, 13], [0, 4, 12, 13], [0, 4, 12, 14, 15], [0, 4, 12, 14], [0, 4, 12], [0, 4, 12], [0, 4, 12, 139], [0, 4, 12, 16], [0, 4, 12, 16], [0, 4, 12], [0, 4, 12], [0, 12, 161], []], [[0, 1, 2, 3, 4, 10, 11], [0, 1, 2, 3, 4, 10, 11, 28], [0, 1, 2, 3, 4, 10, 11], [0, 1, 2, 3, 4, 10, 11, 12], [0, 1, 2, 3, 4, 10, 11, 12, 13], [0, 1, 2, 3, 4, 10, 11, 12, 13, 30], [0, 1, 2, 3, 4, 10, 11, 12, 13], [0, 1, 2, 3, 4, 10, 11, 12, 13, 34], [0, 1, 2, 3, 4, 10, 11, 12, 13, 14], [0, 1, 2, 3, 4, 10, 11, 12, 13, 14, 15], [0, 1, 3, 4, 10, 11, 12, 13, 14, 15, 16], [0, 1, 3, 4, 10, 11, 12, 13, 14, 15, 16, 46], [0, 1, 3, 4, 10, 11, 12, 13, 14, 15, 16], [0, 1, 3, 4, 10, 11, 12, 13, 14, 15, 16], [0, 1, 3, 4, 10, 11, 12, 13, 14, 15, 16], [0, 1, 3, 4, 10, 11, 12, 13], [0, 3, 4, 10, 11, 12, 13], [0, 1, 3, 4, 10, 11, 12, 13, 17], [0, 1, 3, 4, 10, 11, 12, 13, 17, 68], [0, 1, 3, 4, 10, 11, 12, 13, 17], [0, 1, 3, 4, 10, 11, 12, 13, 17, 18], [0, 3, 4, 10, 11, 12, 13, 17, 18], [0, 1, 3, 4, 10, 11, 12, 13, 17], [0, 1, 3, 4, 10, 11, 12, 13], [0, 3, 4, 10, 11, 12, 13], [0, 4, 10, 11, 12, 13, 89], [0, 4, 10, 11, 12, 13], [0, 4, 10, 11, 12, 13], [0, 10, 11, 12, 13, 94], [10, 11], [10, 11]], [[0, 1], [0, 1, 17], [0, 1, 19, 20], [0, 1, 19, 20, 21], [0, 1, 5, 19, 20], [0, 1, 6, 19, 20], [0, 1, 6, 19, 20, 31], [4], [0, 1, 6, 19, 20, 37], [4], [0, 1, 19, 20], [4], [0, 1, 7], [0, 1, 7, 8], [0, 1, 7, 8, 62], [0, 1, 7, 8, 9], [0, 1, 7, 8, 9, 10], [0, 1, 7, 8, 9, 10, 85], [4], [0, 1, 7, 8, 9, 110], [0, 1, 7, 8], [0, 1, 7, 8], [4]], [[0, 1], [0, 1, 13], [0, 1, 15, 16], [0, 1, 15, 16, 17], [0, 1, 5, 15, 16], [0, 1, 6, 15, 16], [0, 1, 6, 15, 16, 27], [4], [0, 1, 6, 15, 16, 33], [4], [0, 1, 15, 16], [4], [0, 1, 7], [0, 1, 7, 8], [0, 1, 7, 8, 58], [0, 1, 7, 8, 9], [0, 1, 7, 8, 9, 10], [0, 1, 7, 8, 9, 10, 78], [4], [0, 1, 7, 8, 9, 95], [0, 1, 7, 8], [0, 1, 7, 8], [4]], [[0], [2]], [[0, 2], [0, 2, 4], [0], [0, 2], [0, 2, 8], [0, 2], [0, 2], [0, 2, 14], [0, 2], [0, 2], [2]], [[0], [3], [2], [2]], [[0], [2]], [[0], [2], [2]], [[0], [0, 4], [2], [2]], [[0], [0, 4], [2], [2]], [], [], [], [], [], [], [], [], [], [], [], [], [], [], [], [], [], [], [], [], [], [], [], [], [], [], [[], [], [], [], [], []]]

def globs : List (Nat × AM.AV) := [(2, .pi .u64 [1, 10, 100, 1000, 10000, 100000, 1000000, 10000000, 100000000, 1000000000, 10000000000, 100000000000, 1000000000000, 10000000000000, 100000000000000, 1000000000000000, 10000000000000000, 100000000000000000, 1000000000000000000, 10000000000000000000]), (3, .pb [0, 1, 28, 2, 29, 14, 24, 3, 30, 22, 20, 15, 25, 17, 4, 8, 31, 27, 13, 23, 21, 19, 16, 7, 26, 12, 18, 6, 11, 5, 10, 9]), (4, .pb [0, 1, 56, 2, 57, 49, 28, 3, 61, 58, 42, 50, 38, 29, 17, 4, 62, 47, 59, 36, 45, 43, 51, 22, 53, 39, 33, 30, 24, 18, 12, 5, 63, 55, 48, 27, 60, 41, 37, 16, 46, 35, 44, 21, 52, 32, 23, 11, 54, 26, 40, 15, 34, 20, 31, 10, 25, 14, 19, 9, 13, 8, 7, 6]), (0, .pb [0, 0, 0, 0, 0, 0, 0, 0, 0, 1, 1, 1, 1, 1, 0, 0, 0, 0, 0, 0, 0, 0, 0, 0, 0, 0, 0, 0, 0, 0, 0, 0, 1, 0, 0, 0, 0, 0, 0, 0, 0, 0, 0, 0, 0, 0, 0, 0, 0, 0, 0, 0, 0, 0, 0, 0, 0, 0, 0, 0, 0, 0, 0, 0, 0, 0, 0, 0, 0, 0, 0, 0, 0, 0, 0, 0, 0, 0, 0, 0, 0, 0, 0, 0, 0, 0, 0, 0, 0, 0, 0, 0, 0, 0, 0, 0, 0, 0, 0, 0, 0, 0, 0, 0, 0, 0, 0, 0, 0, 0, 0, 0, 0, 0, 0, 0, 0, 0, 0, 0, 0, 0, 0, 0, 0, 0, 0, 0, 0, 0, 0, 0, 0, 0, 0, 0, 0, 0, 0, 0, 0, 0, 0, 0, 0, 0, 0, 0, 0, 0, 0, 0, 0, 0, 0, 0, 0, 0, 0, 0, 0, 0, 0, 0, 0, 0, 0, 0, 0, 0, 0, 0, 0, 0, 0, 0, 0, 0, 0, 0, 0, 0, 0, 0, 0, 0, 0, 0, 0, 0, 0, 0, 0, 0, 0, 0, 0, 0, 0, 0, 0, 0, 0, 0, 0, 0, 0, 0, 0, 0, 0, 0, 0, 0, 0, 0, 0, 0, 0, 0, 0, 0, 0, 0, 0, 0, 0, 0, 0, 0, 0, 0, 0, 0, 0, 0, 0, 0, 0, 0, 0, 0, 0, 0, 0, 0, 0, 0, 0, 0, 0, 0, 0, 0, 0, 0])]
noncomputable def X : AM.Ctx := { P := Tryd.prog, G := AM.globF globs, rw := fun _ _ => false, keep := fun f i => ((keepT[f]?).getD [])[i]?, norm := fun _ _ => false, dr := fun _ _ => true, dy := fun f id => [(16, 9)].contains (f, id) }

theorem own : ownKnob Tryd.prog.godebug = .none := by kernel_rfl
theorem full : ∀ t e, t < Tryd.prog.types.size → Tryd.prog.underlying t = some (.slice e) → 0 < Tryd.prog.cellsOf e := slices_full_of Tryd.prog (by kernel_rfl)
theorem ctxOk : AM.CtxOk X := AM.ctxOk_of (by kernel_rfl) (by kernel_rfl)
@[simp] theorem X_dr (f i : Nat) : X.dr f i = true := rfl
@[simp] theorem X_norm (f i : Nat) : X.norm f i = false := rfl
@[simp] theorem X_rw (f i : Nat) : X.rw f i = (false) := rfl
@[simp] theorem nt3 : ntOf X 3 = 49 := by kernel_rfl
@[simp] theorem bod3 : bodied X 3 = true := by kernel_rfl
@[simp] theorem par3 : paramsOf X 3 = [23, 23, 23] := by kernel_rfl
@[simp] theorem nt4 : ntOf X 4 = 34 := by kernel_rfl
@[simp] theorem bod4 : bodied X 4 = true := by kernel_rfl
@[simp] theorem par4 : paramsOf X 4 = [23, 23] := by kernel_rfl
@[simp] theorem nt5 : ntOf X 5 = 67 := by kernel_rfl
@[simp] theorem bod5 : bodied X 5 = true := by kernel_rfl
@[simp] theorem par5 : paramsOf X 5 = [] := by kernel_rfl
@[simp] theorem nt6 : ntOf X 6 = 76 := by kernel_rfl
@[simp] theorem bod6 : bodied X 6 = true := by kernel_rfl
@[simp] theorem par6 : paramsOf X 6 = [23, 23, 32, 37] := by kernel_rfl
@[simp] theorem nt7 : ntOf X 7 = 22 := by kernel_rfl
@[simp] theorem bod7 : bodied X 7 = true := by kernel_rfl
@[simp] theorem par7 : paramsOf X 7 = [] := by kernel_rfl
@[simp] theorem nt8 : ntOf X 8 = 28 := by kernel_rfl
@[simp] theorem bod8 : bodied X 8 = true := by kernel_rfl
@[simp] theorem par8 : paramsOf X 8 = [23, 23] := by kernel_rfl
@[simp] theorem nt9 : ntOf X 9 = 42 := by kernel_rfl
@[simp] theorem bod9 : bodied X 9 = true := by kernel_rfl
@[simp] theorem par9 : paramsOf X 9 = [32] := by kernel_rfl
@[simp] theorem nt10 : ntOf X 10 = 36 := by kernel_rfl
@[simp] theorem bod10 : bodied X 10 = true := by kernel_rfl
@[simp] theorem par10 : paramsOf X 10 = [23] := by kernel_rfl
@[simp] theorem nt11 : ntOf X 11 = 26 := by kernel_rfl
@[simp] theorem bod11 : bodied X 11 = true := by kernel_rfl
@[simp] theorem par11 : paramsOf X 11 = [32, 32] := by kernel_rfl
@[simp] theorem nt12 : ntOf X 12 = 35 := by kernel_rfl
@[simp] theorem bod12 : bodied X 12 = true := by kernel_rfl
@[simp] theorem par12 : paramsOf X 12 = [37] := by kernel_rfl
@[simp] theorem nt13 : ntOf X 13 = 18 := by kernel_rfl
@[simp] theorem bod13 : bodied X 13 = true := by kernel_rfl
@[simp] theorem par13 : paramsOf X 13 = [] := by kernel_rfl
@[simp] theorem nt14 : ntOf X 14 = 8 := by kernel_rfl
@[simp] theorem bod14 : bodied X 14 = true := by kernel_rfl
@[simp] theorem par14 : paramsOf X 14 = [23] := by kernel_rfl
@[simp] theorem nt15 : ntOf X 15 = 1 := by kernel_rfl
@[simp] theorem bod15 : bodied X 15 = true := by kernel_rfl
@[simp] theorem par15 : paramsOf X 15 = [] := by kernel_rfl
@[simp] theorem nt16 : ntOf X 16 = 37 := by kernel_rfl
@[simp] theorem bod16 : bodied X 16 = true := by kernel_rfl
@[simp] theorem par16 : paramsOf X 16 = [32] := by kernel_rfl
@[simp] theorem nt17 : ntOf X 17 = 1 := by kernel_rfl
@[simp] theorem bod17 : bodied X 17 = true := by kernel_rfl
@[simp] theorem par17 : paramsOf X 17 = [] := by kernel_rfl
@[simp] theorem nt18 : ntOf X 18 = 1 := by kernel_rfl
@[simp] theorem bod18 : bodied X 18 = true := by kernel_rfl
@[simp] theorem par18 : paramsOf X 18 = [] := by kernel_rfl
@[simp] theorem nt19 : ntOf X 19 = 15 := by kernel_rfl
@[simp] theorem bod19 : bodied X 19 = true := by kernel_rfl
@[simp] theorem par19 : paramsOf X 19 = [23, 23] := by kernel_rfl
@[simp] theorem nt20 : ntOf X 20 = 8 := by kernel_rfl
@[simp] theorem bod20 : bodied X 20 = true := by kernel_rfl
@[simp] theorem par20 : paramsOf X 20 = [23] := by kernel_rfl
@[simp] theorem nt21 : ntOf X 21 = 21 := by kernel_rfl
@[simp] theorem bod21 : bodied X 21 = true := by kernel_rfl
@[simp] theorem par21 : paramsOf X 21 = [23] := by kernel_rfl
@[simp] theorem nt22 : ntOf X 22 = 57 := by kernel_rfl
@[simp] theorem bod22 : bodied X 22 = true := by kernel_rfl
@[simp] theorem par22 : paramsOf X 22 = [37] := by kernel_rfl
@[simp] theorem nt23 : ntOf X 23 = 7 := by kernel_rfl
@[simp] theorem bod23 : bodied X 23 = true := by kernel_rfl
@[simp] theorem par23 : paramsOf X 23 = [] := by kernel_rfl
@[simp] theorem nt24 : ntOf X 24 = 2 := by kernel_rfl
@[simp] theorem bod24 : bodied X 24 = true := by kernel_rfl
@[simp] theorem par24 : paramsOf X 24 = [] := by kernel_rfl
@[simp] theorem nt25 : ntOf X 25 = 5 := by kernel_rfl
@[simp] theorem bod25 : bodied X 25 = true := by kernel_rfl
@[simp] theorem par25 : paramsOf X 25 = [3] := by kernel_rfl
@[simp] theorem nt26 : ntOf X 26 = 19 := by kernel_rfl
@[simp] theorem bod26 : bodied X 26 = true := by kernel_rfl
@[simp] theorem par26 : paramsOf X 26 = [32, 9] := by kernel_rfl
@[simp] theorem nt27 : ntOf X 27 = 15 := by kernel_rfl
@[simp] theorem bod27 : bodied X 27 = true := by kernel_rfl
@[simp] theorem par27 : paramsOf X 27 = [3] := by kernel_rfl
@[simp] theorem nt28 : ntOf X 28 = 15 := by kernel_rfl
@[simp] theorem bod28 : bodied X 28 = true := by kernel_rfl
@[simp] theorem par28 : paramsOf X 28 = [23, 23, 23] := by kernel_rfl
@[simp] theorem nt29 : ntOf X 29 = 22 := by kernel_rfl
@[simp] theorem bod29 : bodied X 29 = true := by kernel_rfl
@[simp] theorem par29 : paramsOf X 29 = [3] := by kernel_rfl
@[simp] theorem nt30 : ntOf X 30 = 106 := by kernel_rfl
@[simp] theorem bod30 : bodied X 30 = true := by kernel_rfl
@[simp] theorem par30 : paramsOf X 30 = [9] := by kernel_rfl
@[simp] theorem nt32 : ntOf X 32 = 65 := by kernel_rfl
@[simp] theorem bod32 : bodied X 32 = true := by kernel_rfl
@[simp] theorem par32 : paramsOf X 32 = [9, 55] := by kernel_rfl
@[simp] theorem keep3_0 : X.keep 3 0 = some [0, 1, 2] := by kernel_rfl
@[simp] theorem keep3_1 : X.keep 3 1 = some [0, 1, 2, 10] := by kernel_rfl
@[simp] theorem keep3_2 : X.keep 3 2 = some [6] := by kernel_rfl
@[simp] theorem keep3_3 : X.keep 3 3 = some [0, 1, 2, 7] := by kernel_rfl
@[simp] theorem keep3_4 : X.keep 3 4 = some [0, 1, 7, 8] := by kernel_rfl
@[simp] theorem keep3_5 : X.keep 3 5 = some [6] := by kernel_rfl
@[simp] theorem keep4_0 : X.keep 4 0 = some [0, 1] := by kernel_rfl
@[simp] theorem keep4_1 : X.keep 4 1 = some [0, 1, 8] := by kernel_rfl
@[simp] theorem keep4_2 : X.keep 4 2 = some [4] := by kernel_rfl
@[simp] theorem keep4_3 : X.keep 4 3 = some [0, 1, 5, 6] := by kernel_rfl
@[simp] theorem keep4_4 : X.keep 4 4 = some [4] := by kernel_rfl
@[simp] theorem keep5_0 : X.keep 5 0 = some [] := by kernel_rfl
@[simp] theorem keep5_1 : X.keep 5 1 = some [1] := by kernel_rfl
@[simp] theorem keep5_2 : X.keep 5 2 = some [1, 2] := by kernel_rfl
@[simp] theorem keep5_3 : X.keep 5 3 = some [1, 2, 4] := by kernel_rfl
@[simp] theorem keep5_4 : X.keep 5 4 = some [1, 2, 4, 6] := by kernel_rfl
@[simp] theorem keep5_5 : X.keep 5 5 = some [1, 2, 4, 6, 7] := by kernel_rfl
@[simp] theorem keep5_6 : X.keep 5 6 = some [0] := by kernel_rfl
@[simp] theorem keep6_0 : X.keep 6 0 = some [0, 1, 2, 3] := by kernel_rfl
@[simp] theorem keep6_1 : X.keep 6 1 = some [0, 1, 2, 3, 14] := by kernel_rfl
@[simp] theorem keep6_2 : X.keep 6 2 = some [8] := by kernel_rfl
@[simp] theorem keep6_3 : X.keep 6 3 = some [0, 1, 2, 3, 17] := by kernel_rfl
@[simp] theorem keep6_4 : X.keep 6 4 = some [8] := by kernel_rfl
@[simp] theorem keep6_5 : X.keep 6 5 = some [0, 1, 2, 3, 9, 10] := by kernel_rfl
@[simp] theorem keep6_6 : X.keep 6 6 = some [0, 1, 3, 9, 10, 11, 12] := by kernel_rfl
@[simp] theorem keep6_7 : X.keep 6 7 = some [8] := by kernel_rfl
@[simp] theorem keep7_0 : X.keep 7 0 = some [] := by kernel_rfl
@[simp] theorem keep7_1 : X.keep 7 1 = some [1, 2] := by kernel_rfl
@[simp] theorem keep7_2 : X.keep 7 2 = some [0] := by kernel_rfl
@[simp] theorem keep8_0 : X.keep 8 0 = some [0, 1] := by kernel_rfl
@[simp] theorem keep8_1 : X.keep 8 1 = some [5] := by kernel_rfl
@[simp] theorem keep8_2 : X.keep 8 2 = some [5, 11, 12, 13] := by kernel_rfl
@[simp] theorem keep8_3 : X.keep 8 3 = some [5, 11, 12, 13, 14] := by kernel_rfl
@[simp] theorem keep8_4 : X.keep 8 4 = some [5, 7, 11, 12, 13] := by kernel_rfl
@[simp] theorem keep8_5 : X.keep 8 5 = some [5, 7, 11, 12, 13, 21] := by kernel_rfl
@[simp] theorem keep8_6 : X.keep 8 6 = some [5, 11, 12, 13] := by kernel_rfl
@[simp] theorem keep8_7 : X.keep 8 7 = some [5, 11, 12, 13] := by kernel_rfl
@[simp] theorem keep8_8 : X.keep 8 8 = some [4] := by kernel_rfl
@[simp] theorem keep9_0 : X.keep 9 0 = some [0, 3] := by kernel_rfl
@[simp] theorem keep9_1 : X.keep 9 1 = some [0, 3, 4] := by kernel_rfl
@[simp] theorem keep9_2 : X.keep 9 2 = some [0, 3, 4, 5] := by kernel_rfl
@[simp] theorem keep9_3 : X.keep 9 3 = some [0, 3, 4, 5, 6] := by kernel_rfl
@[simp] theorem keep9_4 : X.keep 9 4 = some [0, 3, 4, 5, 6, 12] := by kernel_rfl
@[simp] theorem keep9_5 : X.keep 9 5 = some [0, 3, 4, 5, 6] := by kernel_rfl
@[simp] theorem keep9_6 : X.keep 9 6 = some [0, 3, 4, 5, 6] := by kernel_rfl
@[simp] theorem keep9_7 : X.keep 9 7 = some [3, 4, 5, 21, 22, 23] := by kernel_rfl
@[simp] theorem keep9_8 : X.keep 9 8 = some [3, 4, 5, 21, 22, 23, 24] := by kernel_rfl
@[simp] theorem keep9_9 : X.keep 9 9 = some [3, 4, 5, 7, 8, 21, 22, 23] := by kernel_rfl
@[simp] theorem keep9_10 : X.keep 9 10 = some [3, 4, 5, 7, 9, 21, 22, 23] := by kernel_rfl
@[simp] theorem keep9_11 : X.keep 9 11 = some [3, 4, 5, 7, 9, 21, 22, 23, 32] := by kernel_rfl
@[simp] theorem keep9_12 : X.keep 9 12 = some [2, 3] := by kernel_rfl
@[simp] theorem keep9_13 : X.keep 9 13 = some [3, 4, 5, 21, 22, 23] := by kernel_rfl
@[simp] theorem keep9_14 : X.keep 9 14 = some [3, 4, 5, 21, 22, 23] := by kernel_rfl
@[simp] theorem keep9_15 : X.keep 9 15 = some [2, 3] := by kernel_rfl
@[simp] theorem keep10_0 : X.keep 10 0 = some [0] := by kernel_rfl
@[simp] theorem keep10_1 : X.keep 10 1 = some [0, 3] := by kernel_rfl
@[simp] theorem keep10_2 : X.keep 10 2 = some [0, 3, 4] := by kernel_rfl
@[simp] theorem keep10_3 : X.keep 10 3 = some [0, 3, 4, 7] := by kernel_rfl
@[simp] theorem keep10_4 : X.keep 10 4 = some [0, 3, 4, 7, 8] := by kernel_rfl
@[simp] theorem keep10_5 : X.keep 10 5 = some [0, 3, 4, 5, 7] := by kernel_rfl
@[simp] theorem keep10_6 : X.keep 10 6 = some [0, 3, 4, 7] := by kernel_rfl
@[simp] theorem keep10_7 : X.keep 10 7 = some [0, 3, 4, 5, 7, 16] := by kernel_rfl
@[simp] theorem keep10_8 : X.keep 10 8 = some [0, 3, 4, 5, 7, 22] := by kernel_rfl
@[simp] theorem keep10_9 : X.keep 10 9 = some [0, 3, 4, 7] := by kernel_rfl
@[simp] theorem keep10_10 : X.keep 10 10 = some [0, 3, 4, 7] := by kernel_rfl
@[simp] theorem keep10_11 : X.keep 10 11 = some [2] := by kernel_rfl
@[simp] theorem keep11_0 : X.keep 11 0 = some [0, 1] := by kernel_rfl
@[simp] theorem keep11_1 : X.keep 11 1 = some [0, 1, 10] := by kernel_rfl
@[simp] theorem keep11_2 : X.keep 11 2 = some [4] := by kernel_rfl
@[simp] theorem keep11_3 : X.keep 11 3 = some [0, 1, 5] := by kernel_rfl
@[simp] theorem keep11_4 : X.keep 11 4 = some [0, 1, 5, 14] := by kernel_rfl
@[simp] theorem keep11_5 : X.keep 11 5 = some [0, 1, 5] := by kernel_rfl
@[simp] theorem keep11_6 : X.keep 11 6 = some [0, 1, 5, 25] := by kernel_rfl
@[simp] theorem keep11_7 : X.keep 11 7 = some [4] := by kernel_rfl
@[simp] theorem keep11_8 : X.keep 11 8 = some [4] := by kernel_rfl
@[simp] theorem keep12_0 : X.keep 12 0 = some [0] := by kernel_rfl
@[simp] theorem keep12_1 : X.keep 12 1 = some [0, 3] := by kernel_rfl
@[simp] theorem keep12_2 : X.keep 12 2 = some [0, 3, 4] := by kernel_rfl
@[simp] theorem keep12_3 : X.keep 12 3 = some [0, 3, 4, 10] := by kernel_rfl
@[simp] theorem keep12_4 : X.keep 12 4 = some [0, 3, 4, 10, 11] := by kernel_rfl
@[simp] theorem keep12_5 : X.keep 12 5 = some [0, 3, 4, 5, 10] := by kernel_rfl
@[simp] theorem keep12_6 : X.keep 12 6 = some [0, 3, 4, 5, 10, 17] := by kernel_rfl
@[simp] theorem keep12_7 : X.keep 12 7 = some [0, 3, 4, 5, 6, 7, 10] := by kernel_rfl
@[simp] theorem keep12_8 : X.keep 12 8 = some [0, 3, 4, 5, 6, 10, 25] := by kernel_rfl
@[simp] theorem keep12_9 : X.keep 12 9 = some [0, 3, 4, 6, 10] := by kernel_rfl
@[simp] theorem keep12_10 : X.keep 12 10 = some [0, 3, 4, 10] := by kernel_rfl
@[simp] theorem keep12_11 : X.keep 12 11 = some [0, 3, 4, 10] := by kernel_rfl
@[simp] theorem keep12_12 : X.keep 12 12 = some [2] := by kernel_rfl
@[simp] theorem keep13_0 : X.keep 13 0 = some [] := by kernel_rfl
@[simp] theorem keep13_1 : X.keep 13 1 = some [0] := by kernel_rfl
@[simp] theorem keep14_0 : X.keep 14 0 = some [0] := by kernel_rfl
@[simp] theorem keep14_1 : X.keep 14 1 = some [7] := by kernel_rfl
@[simp] theorem keep14_2 : X.keep 14 2 = some [2] := by kernel_rfl
@[simp] theorem keep14_3 : X.keep 14 3 = some [2] := by kernel_rfl
@[simp] theorem keep15_0 : X.keep 15 0 = some [] := by kernel_rfl
@[simp] theorem keep15_1 : X.keep 15 1 = some [0] := by kernel_rfl
@[simp] theorem keep16_0 : X.keep 16 0 = some [0, 3] := by kernel_rfl
@[simp] theorem keep16_1 : X.keep 16 1 = some [0, 3, 4] := by kernel_rfl
@[simp] theorem keep16_2 : X.keep 16 2 = some [0, 3, 4, 5] := by kernel_rfl
@[simp] theorem keep16_3 : X.keep 16 3 = some [0, 3, 4, 5, 11] := by kernel_rfl
@[simp] theorem keep16_4 : X.keep 16 4 = some [0, 3, 4, 5] := by kernel_rfl
@[simp] theorem keep16_5 : X.keep 16 5 = some [0, 3, 4, 5, 6] := by kernel_rfl
@[simp] theorem keep16_6 : X.keep 16 6 = some [0, 3, 4, 5, 6, 7] := by kernel_rfl
@[simp] theorem keep16_7 : X.keep 16 7 = some [0, 3, 4, 5, 6, 7, 15] := by kernel_rfl
@[simp] theorem keep16_8 : X.keep 16 8 = some [0, 3, 4, 5, 6, 7] := by kernel_rfl
@[simp] theorem keep16_9 : X.keep 16 9 = some [0, 3, 4, 5, 6, 7, 24] := by kernel_rfl
@[simp] theorem keep16_10 : X.keep 16 10 = some [0, 3, 4, 5, 6, 7] := by kernel_rfl
@[simp] theorem keep16_11 : X.keep 16 11 = some [0, 3, 4, 5, 6, 27] := by kernel_rfl
@[simp] theorem keep16_12 : X.keep 16 12 = some [2, 3] := by kernel_rfl
@[simp] theorem keep16_13 : X.keep 16 13 = some [0, 3, 4, 5] := by kernel_rfl
@[simp] theorem keep16_14 : X.keep 16 14 = some [2, 3] := by kernel_rfl
@[simp] theorem keep17_0 : X.keep 17 0 = some [] := by kernel_rfl
@[simp] theorem keep17_1 : X.keep 17 1 = some [0] := by kernel_rfl
@[simp] theorem keep18_0 : X.keep 18 0 = some [] := by kernel_rfl
@[simp] theorem keep18_1 : X.keep 18 1 = some [0] := by kernel_rfl
@[simp] theorem keep19_0 : X.keep 19 0 = some [0, 1] := by kernel_rfl
@[simp] theorem keep19_1 : X.keep 19 1 = some [5] := by kernel_rfl
@[simp] theorem keep19_2 : X.keep 19 2 = some [5] := by kernel_rfl
@[simp] theorem keep19_3 : X.keep 19 3 = some [5] := by kernel_rfl
@[simp] theorem keep19_4 : X.keep 19 4 = some [4] := by kernel_rfl
@[simp] theorem keep20_0 : X.keep 20 0 = some [0] := by kernel_rfl
@[simp] theorem keep20_1 : X.keep 20 1 = some [7] := by kernel_rfl
@[simp] theorem keep20_2 : X.keep 20 2 = some [2] := by kernel_rfl
@[simp] theorem keep20_3 : X.keep 20 3 = some [2] := by kernel_rfl
@[simp] theorem keep21_0 : X.keep 21 0 = some [0] := by kernel_rfl
@[simp] theorem keep21_1 : X.keep 21 1 = some [0, 3] := by kernel_rfl
@[simp] theorem keep21_2 : X.keep 21 2 = some [0, 3, 4] := by kernel_rfl
@[simp] theorem keep21_3 : X.keep 21 3 = some [0, 3, 4, 6] := by kernel_rfl
@[simp] theorem keep21_4 : X.keep 21 4 = some [0, 3, 4] := by kernel_rfl
@[simp] theorem keep21_5 : X.keep 21 5 = some [0, 3, 4, 14] := by kernel_rfl
@[simp] theorem keep21_6 : X.keep 21 6 = some [0, 3, 4] := by kernel_rfl
@[simp] theorem keep21_7 : X.keep 21 7 = some [2] := by kernel_rfl
@[simp] theorem keep22_0 : X.keep 22 0 = some [0] := by kernel_rfl
@[simp] theorem keep22_1 : X.keep 22 1 = some [0, 3] := by kernel_rfl
@[simp] theorem keep22_2 : X.keep 22 2 = some [0, 3, 4] := by kernel_rfl
@[simp] theorem keep22_3 : X.keep 22 3 = some [0, 3, 4, 6] := by kernel_rfl
@[simp] theorem keep22_4 : X.keep 22 4 = some [0, 3, 4] := by kernel_rfl
@[simp] theorem keep22_5 : X.keep 22 5 = some [0, 3, 4, 14] := by kernel_rfl
@[simp] theorem keep22_6 : X.keep 22 6 = some [0, 3, 4, 15] := by kernel_rfl
@[simp] theorem keep22_7 : X.keep 22 7 = some [0, 3, 4] := by kernel_rfl
@[simp] theorem keep22_8 : X.keep 22 8 = some [0, 3, 4, 15, 21] := by kernel_rfl
@[simp] theorem keep22_9 : X.keep 22 9 = some [0, 3, 4] := by kernel_rfl
@[simp] theorem keep22_10 : X.keep 22 10 = some [0, 3, 4, 15, 26] := by kernel_rfl
@[simp] theorem keep22_11 : X.keep 22 11 = some [0, 3, 4] := by kernel_rfl
@[simp] theorem keep22_12 : X.keep 22 12 = some [0, 3, 4, 15, 31] := by kernel_rfl
@[simp] theorem keep22_13 : X.keep 22 13 = some [0, 3, 4] := by kernel_rfl
@[simp] theorem keep22_14 : X.keep 22 14 = some [0, 3, 4, 15, 36] := by kernel_rfl
@[simp] theorem keep22_15 : X.keep 22 15 = some [0, 3, 4] := by kernel_rfl
@[simp] theorem keep22_16 : X.keep 22 16 = some [0, 3, 4, 15, 41] := by kernel_rfl
@[simp] theorem keep22_17 : X.keep 22 17 = some [0, 3, 4] := by kernel_rfl
@[simp] theorem keep22_18 : X.keep 22 18 = some [0, 3, 4, 15, 46] := by kernel_rfl
@[simp] theorem keep22_19 : X.keep 22 19 = some [0, 3, 4] := by kernel_rfl
@[simp] theorem keep22_20 : X.keep 22 20 = some [0, 3, 4, 51] := by kernel_rfl
@[simp] theorem keep22_21 : X.keep 22 21 = some [0, 3, 4] := by kernel_rfl
@[simp] theorem keep22_22 : X.keep 22 22 = some [2] := by kernel_rfl
@[simp] theorem keep23_0 : X.keep 23 0 = some [] := by kernel_rfl
@[simp] theorem keep23_1 : X.keep 23 1 = some [1] := by kernel_rfl
@[simp] theorem keep23_2 : X.keep 23 2 = some [0] := by kernel_rfl
@[simp] theorem keep24_0 : X.keep 24 0 = some [] := by kernel_rfl
@[simp] theorem keep24_1 : X.keep 24 1 = some [0] := by kernel_rfl
@[simp] theorem keep26_0 : X.keep 26 0 = some [0, 1] := by kernel_rfl
@[simp] theorem keep26_1 : X.keep 26 1 = some [0, 1, 7, 8] := by kernel_rfl
@[simp] theorem keep26_2 : X.keep 26 2 = some [0, 1, 7, 8, 9] := by kernel_rfl
@[simp] theorem keep26_3 : X.keep 26 3 = some [0, 1, 5, 7, 8] := by kernel_rfl
@[simp] theorem keep26_4 : X.keep 26 4 = some [0, 1, 5, 7, 8, 16] := by kernel_rfl
@[simp] theorem keep26_5 : X.keep 26 5 = some [4] := by kernel_rfl
@[simp] theorem keep26_6 : X.keep 26 6 = some [0, 1, 7, 8] := by kernel_rfl
@[simp] theorem keep26_7 : X.keep 26 7 = some [4] := by kernel_rfl
@[simp] theorem keep27_0 : X.keep 27 0 = some [0] := by kernel_rfl
@[simp] theorem keep27_1 : X.keep 27 1 = some [0, 3] := by kernel_rfl
@[simp] theorem keep27_2 : X.keep 27 2 = some [0, 3, 8] := by kernel_rfl
@[simp] theorem keep27_3 : X.keep 27 3 = some [2] := by kernel_rfl
@[simp] theorem keep27_4 : X.keep 27 4 = some [2] := by kernel_rfl
@[simp] theorem keep28_0 : X.keep 28 0 = some [0, 1, 2] := by kernel_rfl
@[simp] theorem keep28_1 : X.keep 28 1 = some [0, 2, 10] := by kernel_rfl
@[simp] theorem keep28_2 : X.keep 28 2 = some [6] := by kernel_rfl
@[simp] theorem keep28_3 : X.keep 28 3 = some [6] := by kernel_rfl
@[simp] theorem keep29_0 : X.keep 29 0 = some [0] := by kernel_rfl
@[simp] theorem keep29_1 : X.keep 29 1 = some [0, 4] := by kernel_rfl
@[simp] theorem keep29_2 : X.keep 29 2 = some [2] := by kernel_rfl
@[simp] theorem keep29_3 : X.keep 29 3 = some [2] := by kernel_rfl
@[simp] theorem keep30_0 : X.keep 30 0 = some [0] := by kernel_rfl
@[simp] theorem keep30_1 : X.keep 30 1 = some [0, 3] := by kernel_rfl
@[simp] theorem keep30_2 : X.keep 30 2 = some [0, 3, 4] := by kernel_rfl
@[simp] theorem keep30_3 : X.keep 30 3 = some [0, 3, 4, 5] := by kernel_rfl
@[simp] theorem keep30_4 : X.keep 30 4 = some [0, 3, 4, 5, 6] := by kernel_rfl
@[simp] theorem keep30_5 : X.keep 30 5 = some [0, 3, 4, 5, 6, 16] := by kernel_rfl
@[simp] theorem keep30_6 : X.keep 30 6 = some [0, 3, 4, 5, 6] := by kernel_rfl
@[simp] theorem keep30_7 : X.keep 30 7 = some [0, 3, 4, 5, 6, 7] := by kernel_rfl
@[simp] theorem keep30_8 : X.keep 30 8 = some [0, 3, 4, 5, 6, 7] := by kernel_rfl
@[simp] theorem keep30_9 : X.keep 30 9 = some [0, 3, 4, 5, 6, 8] := by kernel_rfl
@[simp] theorem keep30_10 : X.keep 30 10 = some [0, 3, 5, 6, 8] := by kernel_rfl
@[simp] theorem keep30_11 : X.keep 30 11 = some [0, 3, 4, 5, 6] := by kernel_rfl
@[simp] theorem keep30_12 : X.keep 30 12 = some [0, 3, 37] := by kernel_rfl
@[simp] theorem keep30_13 : X.keep 30 13 = some [2] := by kernel_rfl
@[simp] theorem keep30_14 : X.keep 30 14 = some [0, 9] := by kernel_rfl
@[simp] theorem keep30_15 : X.keep 30 15 = some [0, 9, 10] := by kernel_rfl
@[simp] theorem keep30_16 : X.keep 30 16 = some [0, 9, 10] := by kernel_rfl
@[simp] theorem keep30_17 : X.keep 30 17 = some [0, 9, 10, 12] := by kernel_rfl
@[simp] theorem keep30_18 : X.keep 30 18 = some [0, 9, 10, 12, 53] := by kernel_rfl
@[simp] theorem keep30_19 : X.keep 30 19 = some [0, 9, 10, 12] := by kernel_rfl
@[simp] theorem keep30_20 : X.keep 30 20 = some [0, 9, 10, 11, 12] := by kernel_rfl
@[simp] theorem keep30_21 : X.keep 30 21 = some [0, 9, 10, 11, 12, 60] := by kernel_rfl
@[simp] theorem keep30_22 : X.keep 30 22 = some [0, 9, 10, 11, 12, 66] := by kernel_rfl
@[simp] theorem keep30_23 : X.keep 30 23 = some [0, 9, 10, 11, 12] := by kernel_rfl
@[simp] theorem keep30_24 : X.keep 30 24 = some [0, 9, 10, 12] := by kernel_rfl
@[simp] theorem keep30_25 : X.keep 30 25 = some [0, 9, 10, 12] := by kernel_rfl
@[simp] theorem keep30_26 : X.keep 30 26 = some [0, 9, 10, 12] := by kernel_rfl
@[simp] theorem keep30_27 : X.keep 30 27 = some [0, 9, 10, 12, 91] := by kernel_rfl
@[simp] theorem keep30_28 : X.keep 30 28 = some [0, 9, 10, 12] := by kernel_rfl
@[simp] theorem keep30_29 : X.keep 30 29 = some [0, 9, 10, 11, 12] := by kernel_rfl
@[simp] theorem keep30_30 : X.keep 30 30 = some [0, 9, 10, 11, 98] := by kernel_rfl
@[simp] theorem keep30_31 : X.keep 30 31 = some [9] := by kernel_rfl
@[simp] theorem keep30_32 : X.keep 30 32 = some [2] := by kernel_rfl
@[simp] theorem keep32_0 : X.keep 32 0 = some [0, 1] := by kernel_rfl
@[simp] theorem keep32_1 : X.keep 32 1 = some [0, 1, 5] := by kernel_rfl
@[simp] theorem keep32_2 : X.keep 32 2 = some [0, 1, 5, 6] := by kernel_rfl
@[simp] theorem keep32_3 : X.keep 32 3 = some [0, 1, 5, 6, 14] := by kernel_rfl
@[simp] theorem keep32_4 : X.keep 32 4 = some [0, 1, 5, 6, 14, 15, 16] := by kernel_rfl
@[simp] theorem keep32_5 : X.keep 32 5 = some [0, 1, 5, 6, 7, 8, 14] := by kernel_rfl
@[simp] theorem keep32_6 : X.keep 32 6 = some [0, 1, 5, 6, 7, 14, 21] := by kernel_rfl
@[simp] theorem keep32_7 : X.keep 32 7 = some [0, 1, 5, 6, 7, 14, 23] := by kernel_rfl
@[simp] theorem keep32_8 : X.keep 32 8 = some [0, 1, 5, 6, 14] := by kernel_rfl
@[simp] theorem keep32_9 : X.keep 32 9 = some [0, 1, 5, 6, 14] := by kernel_rfl
@[simp] theorem keep32_10 : X.keep 32 10 = some [0, 1, 5, 6, 7, 14, 33] := by kernel_rfl
@[simp] theorem keep32_11 : X.keep 32 11 = some [0, 1, 5, 6, 14] := by kernel_rfl
@[simp] theorem keep32_12 : X.keep 32 12 = some [0, 5, 6, 36] := by kernel_rfl
@[simp] theorem keep32_13 : X.keep 32 13 = some [0, 5] := by kernel_rfl
@[simp] theorem keep32_14 : X.keep 32 14 = some [0, 5, 9] := by kernel_rfl
@[simp] theorem keep32_15 : X.keep 32 15 = some [0, 9, 47, 48, 49] := by kernel_rfl
@[simp] theorem keep32_16 : X.keep 32 16 = some [0, 9, 47, 48, 49, 50] := by kernel_rfl
@[simp] theorem keep32_17 : X.keep 32 17 = some [0, 9, 10, 11, 47, 48, 49] := by kernel_rfl
@[simp] theorem keep32_18 : X.keep 32 18 = some [0, 9, 47, 48, 49] := by kernel_rfl
@[simp] theorem keep32_19 : X.keep 32 19 = some [0, 9, 47, 48, 49] := by kernel_rfl
@[simp] theorem keep32_20 : X.keep 32 20 = some [4] := by kernel_rfl
@[simp] theorem dy11_6 : X.dy 11 6 = false := by kernel_rfl
@[simp] theorem dy16_9 : X.dy 16 9 = true := by kernel_rfl
@[simp] theorem size0 : sizeT X 0 = 1 := by kernel_rfl
@[simp] theorem bytes0 : bytesT X 0 = 0 := by kernel_rfl
@[simp] theorem okT0 : okT X 0 = true := by kernel_rfl
@[simp] theorem isAgg0 : isAggT X 0 = false := by kernel_rfl
@[simp] theorem isInt0 : isIntT X 0 = false := by kernel_rfl
@[simp] theorem isArr0 : isArrT X 0 = false := by kernel_rfl
@[simp] theorem isU80 : isU8 X 0 = false := by kernel_rfl
@[simp] theorem zok0 : zeroOk X 0 = true := by kernel_rfl
@[simp] theorem und3 : und X 3 = .int .i64 := by kernel_rfl
@[simp] theorem size3 : sizeT X 3 = 1 := by kernel_rfl
@[simp] theorem bytes3 : bytesT X 3 = 8 := by kernel_rfl
@[simp] theorem okT3 : okT X 3 = true := by kernel_rfl
@[simp] theorem isAgg3 : isAggT X 3 = false := by kernel_rfl
@[simp] theorem isInt3 : isIntT X 3 = true := by kernel_rfl
@[simp] theorem isArr3 : isArrT X 3 = false := by kernel_rfl
@[simp] theorem isU83 : isU8 X 3 = false := by kernel_rfl
@[simp] theorem zok3 : zeroOk X 3 = true := by kernel_rfl
@[simp] theorem zero3 : zeroAV X 3 = .int .i64 0 := by kernel_rfl
@[simp] theorem und4 : und X 4 = .bool := by kernel_rfl
@[simp] theorem size4 : sizeT X 4 = 1 := by kernel_rfl
@[simp] theorem bytes4 : bytesT X 4 = 1 := by kernel_rfl
@[simp] theorem okT4 : okT X 4 = true := by kernel_rfl
@[simp] theorem isAgg4 : isAggT X 4 = false := by kernel_rfl
@[simp] theorem isInt4 : isIntT X 4 = false := by kernel_rfl
@[simp] theorem isArr4 : isArrT X 4 = false := by kernel_rfl
@[simp] theorem isU84 : isU8 X 4 = false := by kernel_rfl
@[simp] theorem zok4 : zeroOk X 4 = true := by kernel_rfl
@[simp] theorem zero4 : zeroAV X 4 = .bool false := by kernel_rfl
@[simp] theorem und5 : und X 5 = .int .u8 := by kernel_rfl
@[simp] theorem size5 : sizeT X 5 = 1 := by kernel_rfl
@[simp] theorem bytes5 : bytesT X 5 = 1 := by kernel_rfl
@[simp] theorem okT5 : okT X 5 = true := by kernel_rfl
@[simp] theorem isAgg5 : isAggT X 5 = false := by kernel_rfl
@[simp] theorem isInt5 : isIntT X 5 = true := by kernel_rfl
@[simp] theorem isArr5 : isArrT X 5 = false := by kernel_rfl
@[simp] theorem isU85 : isU8 X 5 = true := by kernel_rfl
@[simp] theorem zok5 : zeroOk X 5 = true := by kernel_rfl
@[simp] theorem zero5 : zeroAV X 5 = .int .u8 0 := by kernel_rfl
@[simp] theorem und9 : und X 9 = .string := by kernel_rfl
@[simp] theorem size9 : sizeT X 9 = 1 := by kernel_rfl
@[simp] theorem bytes9 : bytesT X 9 = 16 := by kernel_rfl
@[simp] theorem okT9 : okT X 9 = true := by kernel_rfl
@[simp] theorem isAgg9 : isAggT X 9 = false := by kernel_rfl
@[simp] theorem isInt9 : isIntT X 9 = false := by kernel_rfl
@[simp] theorem isArr9 : isArrT X 9 = false := by kernel_rfl
@[simp] theorem isU89 : isU8 X 9 = false := by kernel_rfl
@[simp] theorem zok9 : zeroOk X 9 = true := by kernel_rfl
@[simp] theorem zero9 : zeroAV X 9 = .str [] := by kernel_rfl
@[simp] theorem und21 : und X 21 = .int .i32 := by kernel_rfl
@[simp] theorem size21 : sizeT X 21 = 1 := by kernel_rfl
@[simp] theorem bytes21 : bytesT X 21 = 4 := by kernel_rfl
@[simp] theorem okT21 : okT X 21 = true := by kernel_rfl
@[simp] theorem isAgg21 : isAggT X 21 = false := by kernel_rfl
@[simp] theorem isInt21 : isIntT X 21 = true := by kernel_rfl
@[simp] theorem isArr21 : isArrT X 21 = false := by kernel_rfl
@[simp] theorem isU821 : isU8 X 21 = false := by kernel_rfl
@[simp] theorem zok21 : zeroOk X 21 = true := by kernel_rfl
@[simp] theorem zero21 : zeroAV X 21 = .int .i32 0 := by kernel_rfl
@[simp] theorem und23 : und X 23 = .int .u32 := by kernel_rfl
@[simp] theorem size23 : sizeT X 23 = 1 := by kernel_rfl
@[simp] theorem bytes23 : bytesT X 23 = 4 := by kernel_rfl
@[simp] theorem okT23 : okT X 23 = true := by kernel_rfl
@[simp] theorem isAgg23 : isAggT X 23 = false := by kernel_rfl
@[simp] theorem isInt23 : isIntT X 23 = true := by kernel_rfl
@[simp] theorem isArr23 : isArrT X 23 = false := by kernel_rfl
@[simp] theorem isU823 : isU8 X 23 = false := by kernel_rfl
@[simp] theorem zok23 : zeroOk X 23 = true := by kernel_rfl
@[simp] theorem zero23 : zeroAV X 23 = .int .u32 0 := by kernel_rfl
@[simp] theorem und27 : und X 27 = .int .i64 := by kernel_rfl
@[simp] theorem size27 : sizeT X 27 = 1 := by kernel_rfl
@[simp] theorem bytes27 : bytesT X 27 = 8 := by kernel_rfl
@[simp] theorem okT27 : okT X 27 = true := by kernel_rfl
@[simp] theorem isAgg27 : isAggT X 27 = false := by kernel_rfl
@[simp] theorem isInt27 : isIntT X 27 = true := by kernel_rfl
@[simp] theorem isArr27 : isArrT X 27 = false := by kernel_rfl
@[simp] theorem isU827 : isU8 X 27 = false := by kernel_rfl
@[simp] theorem zok27 : zeroOk X 27 = true := by kernel_rfl
@[simp] theorem zero27 : zeroAV X 27 = .int .i64 0 := by kernel_rfl
@[simp] theorem size29 : sizeT X 29 = 2 := by kernel_rfl
@[simp] theorem bytes29 : bytesT X 29 = 16 := by kernel_rfl
@[simp] theorem okT29 : okT X 29 = true := by kernel_rfl
@[simp] theorem isAgg29 : isAggT X 29 = true := by kernel_rfl
@[simp] theorem isInt29 : isIntT X 29 = false := by kernel_rfl
@[simp] theorem isArr29 : isArrT X 29 = false := by kernel_rfl
@[simp] theorem isU829 : isU8 X 29 = false := by kernel_rfl
@[simp] theorem zok29 : zeroOk X 29 = true := by kernel_rfl
@[simp] theorem zero29 : zeroAV X 29 = .agg (.pc [.int .i64 0, .int .i64 0]) := by kernel_rfl
@[simp] theorem size30 : sizeT X 30 = 1 := by kernel_rfl
@[simp] theorem bytes30 : bytesT X 30 = 0 := by kernel_rfl
@[simp] theorem okT30 : okT X 30 = true := by kernel_rfl
@[simp] theorem isAgg30 : isAggT X 30 = false := by kernel_rfl
@[simp] theorem isInt30 : isIntT X 30 = false := by kernel_rfl
@[simp] theorem isArr30 : isArrT X 30 = false := by kernel_rfl
@[simp] theorem isU830 : isU8 X 30 = false := by kernel_rfl
@[simp] theorem zok30 : zeroOk X 30 = true := by kernel_rfl
@[simp] theorem und32 : und X 32 = .slice 9 := by kernel_rfl
@[simp] theorem size32 : sizeT X 32 = 1 := by kernel_rfl
@[simp] theorem bytes32 : bytesT X 32 = 24 := by kernel_rfl
@[simp] theorem okT32 : okT X 32 = true := by kernel_rfl
@[simp] theorem isAgg32 : isAggT X 32 = false := by kernel_rfl
@[simp] theorem isInt32 : isIntT X 32 = false := by kernel_rfl
@[simp] theorem isArr32 : isArrT X 32 = false := by kernel_rfl
@[simp] theorem isU832 : isU8 X 32 = false := by kernel_rfl
@[simp] theorem zok32 : zeroOk X 32 = true := by kernel_rfl
@[simp] theorem zero32 : zeroAV X 32 = .ro 0 .pn 0 := by kernel_rfl
@[simp] theorem und37 : und X 37 = .int .u16 := by kernel_rfl
@[simp] theorem size37 : sizeT X 37 = 1 := by kernel_rfl
@[simp] theorem bytes37 : bytesT X 37 = 2 := by kernel_rfl
@[simp] theorem okT37 : okT X 37 = true := by kernel_rfl
@[simp] theorem isAgg37 : isAggT X 37 = false := by kernel_rfl
@[simp] theorem isInt37 : isIntT X 37 = true := by kernel_rfl
@[simp] theorem isArr37 : isArrT X 37 = false := by kernel_rfl
@[simp] theorem isU837 : isU8 X 37 = false := by kernel_rfl
@[simp] theorem zok37 : zeroOk X 37 = true := by kernel_rfl
@[simp] theorem zero37 : zeroAV X 37 = .int .u16 0 := by kernel_rfl
@[simp] theorem und41 : und X 41 = .slice 43 := by kernel_rfl
@[simp] theorem size41 : sizeT X 41 = 1 := by kernel_rfl
@[simp] theorem bytes41 : bytesT X 41 = 24 := by kernel_rfl
@[simp] theorem okT41 : okT X 41 = true := by kernel_rfl
@[simp] theorem isAgg41 : isAggT X 41 = false := by kernel_rfl
@[simp] theorem isInt41 : isIntT X 41 = false := by kernel_rfl
@[simp] theorem isArr41 : isArrT X 41 = false := by kernel_rfl
@[simp] theorem isU841 : isU8 X 41 = false := by kernel_rfl
@[simp] theorem zok41 : zeroOk X 41 = true := by kernel_rfl
@[simp] theorem zero41 : zeroAV X 41 = .ro 0 .pn 0 := by kernel_rfl
@[simp] theorem und43 : und X 43 = .array 2 23 := by kernel_rfl
@[simp] theorem size43 : sizeT X 43 = 2 := by kernel_rfl
@[simp] theorem bytes43 : bytesT X 43 = 8 := by kernel_rfl
@[simp] theorem okT43 : okT X 43 = true := by kernel_rfl
@[simp] theorem isAgg43 : isAggT X 43 = true := by kernel_rfl
@[simp] theorem isInt43 : isIntT X 43 = false := by kernel_rfl
@[simp] theorem isArr43 : isArrT X 43 = true := by kernel_rfl
@[simp] theorem isU843 : isU8 X 43 = false := by kernel_rfl
@[simp] theorem zok43 : zeroOk X 43 = true := by kernel_rfl
@[simp] theorem zero43 : zeroAV X 43 = .agg (.pi .u32 [0, 0]) := by kernel_rfl
@[simp] theorem und47 : und X 47 = .map 3 9 := by kernel_rfl
@[simp] theorem size47 : sizeT X 47 = 1 := by kernel_rfl
@[simp] theorem bytes47 : bytesT X 47 = 8 := by kernel_rfl
@[simp] theorem okT47 : okT X 47 = true := by kernel_rfl
@[simp] theorem isAgg47 : isAggT X 47 = false := by kernel_rfl
@[simp] theorem isInt47 : isIntT X 47 = false := by kernel_rfl
@[simp] theorem isArr47 : isArrT X 47 = false := by kernel_rfl
@[simp] theorem isU847 : isU8 X 47 = false := by kernel_rfl
@[simp] theorem zok47 : zeroOk X 47 = true := by kernel_rfl
@[simp] theorem zero47 : zeroAV X 47 = .nilmap := by kernel_rfl
@[simp] theorem size48 : sizeT X 48 = 1 := by kernel_rfl
@[simp] theorem bytes48 : bytesT X 48 = 0 := by kernel_rfl
@[simp] theorem okT48 : okT X 48 = true := by kernel_rfl
@[simp] theorem isAgg48 : isAggT X 48 = false := by kernel_rfl
@[simp] theorem isInt48 : isIntT X 48 = false := by kernel_rfl
@[simp] theorem isArr48 : isArrT X 48 = false := by kernel_rfl
@[simp] theorem isU848 : isU8 X 48 = false := by kernel_rfl
@[simp] theorem zok48 : zeroOk X 48 = true := by kernel_rfl
@[simp] theorem und49 : und X 49 = .int .u64 := by kernel_rfl
@[simp] theorem size49 : sizeT X 49 = 1 := by kernel_rfl
@[simp] theorem bytes49 : bytesT X 49 = 8 := by kernel_rfl
@[simp] theorem okT49 : okT X 49 = true := by kernel_rfl
@[simp] theorem isAgg49 : isAggT X 49 = false := by kernel_rfl
@[simp] theorem isInt49 : isIntT X 49 = true := by kernel_rfl
@[simp] theorem isArr49 : isArrT X 49 = false := by kernel_rfl
@[simp] theorem isU849 : isU8 X 49 = false := by kernel_rfl
@[simp] theorem zok49 : zeroOk X 49 = true := by kernel_rfl
@[simp] theorem zero49 : zeroAV X 49 = .int .u64 0 := by kernel_rfl
@[simp] theorem und52 : und X 52 = .slice 5 := by kernel_rfl
@[simp] theorem size52 : sizeT X 52 = 1 := by kernel_rfl
@[simp] theorem bytes52 : bytesT X 52 = 24 := by kernel_rfl
@[simp] theorem okT52 : okT X 52 = true := by kernel_rfl
@[simp] theorem isAgg52 : isAggT X 52 = false := by kernel_rfl
@[simp] theorem isInt52 : isIntT X 52 = false := by kernel_rfl
@[simp] theorem isArr52 : isArrT X 52 = false := by kernel_rfl
@[simp] theorem isU852 : isU8 X 52 = false := by kernel_rfl
@[simp] theorem zok52 : zeroOk X 52 = true := by kernel_rfl
@[simp] theorem zero52 : zeroAV X 52 = .ro 0 .pn 0 := by kernel_rfl
@[simp] theorem und53 : und X 53 = .array 256 5 := by kernel_rfl
@[simp] theorem size53 : sizeT X 53 = 256 := by kernel_rfl
@[simp] theorem bytes53 : bytesT X 53 = 256 := by kernel_rfl
@[simp] theorem okT53 : okT X 53 = true := by kernel_rfl
@[simp] theorem isAgg53 : isAggT X 53 = true := by kernel_rfl
@[simp] theorem isInt53 : isIntT X 53 = false := by kernel_rfl
@[simp] theorem isArr53 : isArrT X 53 = true := by kernel_rfl
@[simp] theorem isU853 : isU8 X 53 = false := by kernel_rfl
@[simp] theorem zok53 : zeroOk X 53 = true := by kernel_rfl
@[simp] theorem zero53 : zeroAV X 53 = .agg (.pb [0, 0, 0, 0, 0, 0, 0, 0, 0, 0, 0, 0, 0, 0, 0, 0, 0, 0, 0, 0, 0, 0, 0, 0, 0, 0, 0, 0, 0, 0, 0, 0, 0, 0, 0, 0, 0, 0, 0, 0, 0, 0, 0, 0, 0, 0, 0, 0, 0, 0, 0, 0, 0, 0, 0, 0, 0, 0, 0, 0, 0, 0, 0, 0, 0, 0, 0, 0, 0, 0, 0, 0, 0, 0, 0, 0, 0, 0, 0, 0, 0, 0, 0, 0, 0, 0, 0, 0, 0, 0, 0, 0, 0, 0, 0, 0, 0, 0, 0, 0, 0, 0, 0, 0, 0, 0, 0, 0, 0, 0, 0, 0, 0, 0, 0, 0, 0, 0, 0, 0, 0, 0, 0, 0, 0, 0, 0, 0, 0, 0, 0, 0, 0, 0, 0, 0, 0, 0, 0, 0, 0, 0, 0, 0, 0, 0, 0, 0, 0, 0, 0, 0, 0, 0, 0, 0, 0, 0, 0, 0, 0, 0, 0, 0, 0, 0, 0, 0, 0, 0, 0, 0, 0, 0, 0, 0, 0, 0, 0, 0, 0, 0, 0, 0, 0, 0, 0, 0, 0, 0, 0, 0, 0, 0, 0, 0, 0, 0, 0, 0, 0, 0, 0, 0, 0, 0, 0, 0, 0, 0, 0, 0, 0, 0, 0, 0, 0, 0, 0, 0, 0, 0, 0, 0, 0, 0, 0, 0, 0, 0, 0, 0, 0, 0, 0, 0, 0, 0, 0, 0, 0, 0, 0, 0, 0, 0, 0, 0, 0, 0, 0, 0, 0, 0, 0, 0]) := by kernel_rfl
@[simp] theorem size55 : sizeT X 55 = 1 := by kernel_rfl
@[simp] theorem bytes55 : bytesT X 55 = 8 := by kernel_rfl
@[simp] theorem okT55 : okT X 55 = true := by kernel_rfl
@[simp] theorem isAgg55 : isAggT X 55 = false := by kernel_rfl
@[simp] theorem isInt55 : isIntT X 55 = false := by kernel_rfl
@[simp] theorem isArr55 : isArrT X 55 = false := by kernel_rfl
@[simp] theorem isU855 : isU8 X 55 = false := by kernel_rfl
@[simp] theorem zok55 : zeroOk X 55 = true := by kernel_rfl
@[simp] theorem zero55 : zeroAV X 55 = .nilfn := by kernel_rfl
@[simp] theorem und57 : und X 57 = .slice 59 := by kernel_rfl
@[simp] theorem size57 : sizeT X 57 = 1 := by kernel_rfl
@[simp] theorem bytes57 : bytesT X 57 = 24 := by kernel_rfl
@[simp] theorem okT57 : okT X 57 = true := by kernel_rfl
@[simp] theorem isAgg57 : isAggT X 57 = false := by kernel_rfl
@[simp] theorem isInt57 : isIntT X 57 = false := by kernel_rfl
@[simp] theorem isArr57 : isArrT X 57 = false := by kernel_rfl
@[simp] theorem isU857 : isU8 X 57 = false := by kernel_rfl
@[simp] theorem zok57 : zeroOk X 57 = true := by kernel_rfl
@[simp] theorem zero57 : zeroAV X 57 = .ro 0 .pn 0 := by kernel_rfl
@[simp] theorem size59 : sizeT X 59 = 2 := by kernel_rfl
@[simp] theorem bytes59 : bytesT X 59 = 16 := by kernel_rfl
@[simp] theorem okT59 : okT X 59 = true := by kernel_rfl
@[simp] theorem isAgg59 : isAggT X 59 = true := by kernel_rfl
@[simp] theorem isInt59 : isIntT X 59 = false := by kernel_rfl
@[simp] theorem isArr59 : isArrT X 59 = false := by kernel_rfl
@[simp] theorem isU859 : isU8 X 59 = false := by kernel_rfl
@[simp] theorem zok59 : zeroOk X 59 = true := by kernel_rfl
@[simp] theorem zero59 : zeroAV X 59 = .agg (.pc [.int .i64 0, .int .i64 0]) := by kernel_rfl
@[simp] theorem fa59_0 (H : AM.Heap) (x : AV) : fieldAddrV X H 59 x 0 = faV H x 0 := fieldAddr_of (ty := 3) (by kernel_rfl) (by kernel_rfl) H x
@[simp] theorem fv59_0 (x : AV) : fieldV X 59 x 0 = fvV X x 0 3 := field_of (by kernel_rfl) x
@[simp] theorem fa59_1 (H : AM.Heap) (x : AV) : fieldAddrV X H 59 x 1 = faV H x 1 := fieldAddr_of (ty := 3) (by kernel_rfl) (by kernel_rfl) H x
@[simp] theorem fv59_1 (x : AV) : fieldV X 59 x 1 = fvV X x 1 3 := field_of (by kernel_rfl) x

end Go.Proofs.YtfkbemllgeopfaaDoor

/- Plain: what two sides do together, as words of bits. -/
namespace Go.Proofs.YtfkbemllgeopfaaDoor
open Go.AM
set_option linter.unusedSimpArgs false
set_option linter.unusedVariables false

/-- without what hangs on something that is not there -/
def wo (c on what : BitVec 32) : BitVec 32 := if c &&& on = 0#32 then c &&& ~~~what else c
def dropB (c : BitVec 32) : BitVec 32 := wo (wo (wo c 512#32 29294760#32) 524288#32 3145728#32) 131072#32 65536#32
def bothB (a b : BitVec 32) : BitVec 32 := dropB (a &&& b)

theorem andZ {x y z : BitVec 32} (h : x &&& z = 0#32) : (x &&& y) &&& z = 0#32 := by
  rw [show (x &&& y) &&& z = (x &&& z) &&& y by ac_rfl, h]; simp

theorem wo_sub (c on what : BitVec 32) : wo c on what &&& c = wo c on what := by
  unfold wo
  split
  · rw [show (c &&& ~~~what) &&& c = (c &&& c) &&& ~~~what by ac_rfl, BitVec.and_self]
  · exact BitVec.and_self

theorem sub_trans {x y z : BitVec 32} (h : x &&& y = x) (h2 : y &&& z = y) : x &&& z = x := by
  rw [← h, show (x &&& y) &&& z = x &&& (y &&& z) by ac_rfl, h2]

theorem wo_mono {c d : BitVec 32} (h : d &&& c = d) (on what : BitVec 32) : wo d on what &&& wo c on what = wo d on what := by
  by_cases hc : c &&& on = 0#32
  · have hd : d &&& on = 0#32 := by rw [← h, show (d &&& c) &&& on = (c &&& d) &&& on by ac_rfl]; exact andZ hc
    unfold wo
    rw [if_pos hc, if_pos hd, show (d &&& ~~~what) &&& (c &&& ~~~what) = (d &&& c) &&& (~~~what &&& ~~~what) by ac_rfl, h, BitVec.and_self]
  · refine sub_trans (wo_sub d on what) ?_
    unfold wo
    rw [if_neg hc]
    exact h

def okB (r on what : BitVec 32) : Prop := r &&& on = 0#32 → r &&& what = 0#32

theorem wo_ok (c on what : BitVec 32) (h : what &&& on = 0#32) : okB (wo c on what) on what := by
  unfold okB wo
  split
  · intro _
    rw [show (c &&& ~~~what) &&& what = c &&& (what &&& ~~~what) by ac_rfl, BitVec.and_not_self]
    exact BitVec.and_zero
  · intro h2; contradiction

theorem wo_keeps {c on what : BitVec 32} (on2 what2 : BitVec 32) (h : okB c on what) (h2 : on &&& ~~~what2 = on) : okB (wo c on2 what2) on what := by
  unfold okB wo at *
  split
  · intro h3
    refine andZ (h ?_)
    rw [← h3, show (c &&& ~~~what2) &&& on = c &&& (on &&& ~~~what2) by ac_rfl, h2]
  · exact h

theorem wo_fix {c on what : BitVec 32} (h : okB c on what) : wo c on what = c := by
  unfold okB wo at *
  split
  · rename_i h1
    have h2 := h h1
    have : c &&& ~~~what = (c &&& ~~~what) ||| (c &&& what) := by rw [h2]; simp
    rw [this, ← BitVec.and_or_distrib_left, BitVec.or_comm]
    have : what ||| ~~~what = BitVec.allOnes 32 := by
      apply BitVec.eq_of_getLsbD_eq
      intro i hi
      simp only [BitVec.getLsbD_or, BitVec.getLsbD_not, BitVec.getLsbD_allOnes, hi, decide_true, Bool.true_and]
      cases what.getLsbD i <;> rfl
    rw [this, BitVec.and_allOnes]
  · rfl

theorem dropB_sub (c : BitVec 32) : dropB c &&& c = dropB c := sub_trans (wo_sub _ _ _) (sub_trans (wo_sub _ _ _) (wo_sub _ _ _))
theorem dropB_mono {c d : BitVec 32} (h : d &&& c = d) : dropB d &&& dropB c = dropB d := wo_mono (wo_mono (wo_mono h _ _) _ _) _ _

theorem dropB_fix (c : BitVec 32) : dropB (dropB c) = dropB c := by
  have h1 : okB (dropB c) 512#32 29294760#32 := wo_keeps _ _ (wo_keeps _ _ (wo_ok _ _ _ (by decide)) (by decide)) (by decide)
  have h2 : okB (dropB c) 524288#32 3145728#32 := wo_keeps _ _ (wo_ok _ _ _ (by decide)) (by decide)
  have h3 : okB (dropB c) 131072#32 65536#32 := wo_ok _ _ _ (by decide)
  generalize dropB c = r at *
  unfold dropB
  rw [wo_fix h1, wo_fix h2, wo_fix h3]

theorem sub_andNot {x y : BitVec 32} (h : x &&& y = x) : x &&& ~~~y = 0#32 := by
  rw [← h, show (x &&& y) &&& ~~~y = x &&& (y &&& ~~~y) by ac_rfl, BitVec.and_not_self]
  exact BitVec.and_zero

theorem both_a (a b : BitVec 32) : bothB a b &&& ~~~a = 0#32 :=
  sub_andNot (sub_trans (dropB_sub _) (by rw [show (a &&& b) &&& a = (a &&& a) &&& b by ac_rfl, BitVec.and_self]))
theorem both_b (a b : BitVec 32) : bothB a b &&& ~~~b = 0#32 :=
  sub_andNot (sub_trans (dropB_sub _) (by rw [show (a &&& b) &&& b = a &&& (b &&& b) by ac_rfl, BitVec.and_self]))
theorem both_comm (a b : BitVec 32) : bothB b a = bothB a b := by unfold bothB; rw [BitVec.and_comm]
theorem both_self (a b : BitVec 32) : bothB (bothB a b) (bothB a b) = bothB a b := by
  unfold bothB; rw [BitVec.and_self]; exact dropB_fix _
theorem both_less (a b l : BitVec 32) : bothB (a &&& l) b &&& ~~~bothB a b = 0#32 :=
  sub_andNot (dropB_mono (by rw [show ((a &&& l) &&& b) &&& (a &&& b) = (a &&& a) &&& l &&& (b &&& b) by ac_rfl, BitVec.and_self, BitVec.and_self]))

-- words of bits as numbers

def uB (x : BitVec 32) : AV := .int .u32 (x.toNat : Nat)

theorem bits_uB (x : BitVec 32) : AM.bits .u32 (x.toNat : Int) = x := by
  show BitVec.ofInt 32 (x.toNat : Int) = x
  simp

theorem wrap_uB (x : BitVec 32) : IntKind.u32.wrap (x.toNat : Int) = x.toNat := wrap_u32 (by omega) (by have := x.isLt; omega)

theorem eq_uB (x y : BitVec 32) : ((x.toNat : Int) = y.toNat) ↔ x = y := by
  constructor
  · intro h; exact BitVec.eq_of_toNat_eq (by omega)
  · rintro rfl; rfl

theorem zero_uB (x : BitVec 32) : ((x.toNat : Int) = 0) ↔ x = 0#32 := by
  rw [show (0 : Int) = ((0#32 : BitVec 32).toNat : Int) from rfl]; exact eq_uB x _

@[simp] theorem wrap_and (x y : BitVec 32) : IntKind.u32.wrap ((AM.bits .u32 (x.toNat : Int) &&& AM.bits .u32 (y.toNat : Int)).toNat : Nat) = ((x &&& y).toNat : Nat) := by
  rw [bits_uB, bits_uB]
  exact wrap_uB (x &&& y)

@[simp] theorem wrap_andNot (x y : BitVec 32) : IntKind.u32.wrap ((AM.bits .u32 (x.toNat : Int) &&& ~~~AM.bits .u32 (y.toNat : Int)).toNat : Nat) = ((x &&& ~~~y).toNat : Nat) := by
  rw [bits_uB, bits_uB]
  exact wrap_uB (x &&& ~~~y)

end Go.Proofs.YtfkbemllgeopfaaDoor

/- Walks: Both, the law CapsBoth. -/
namespace Go.Proofs.YtfkbemllgeopfaaDoor
open Go.AM
set_option linter.unusedSimpArgs false
set_option linter.unusedVariables false

def hangsL : List AV := [.pc [.int .u32 29294760, .int .u32 512], .pc [.int .u32 3145728, .int .u32 524288], .pc [.int .u32 65536, .int .u32 131072]]

theorem hangs_ev (H : AM.Heap) : Ev1 X 23 [] H (.ro 1 (.pr 2 hangsL) 0, H) := by
  have := Ev1.tried (C := X) (T := fun _ _ _ => none) Below.none (n := 20) (f := 23) (args := []) (v := .ro 1 (.pr 2 hangsL) 0) (N := []) (by kernel_rfl) H
  simpa [shiftV, shiftH, ren, renL, hangsL] using this

def boFr (c : BitVec 32) (i : Nat) : AM.Frame := [(5, uB c), (11, .ro 1 (.pr 2 hangsL) 0), (12, .int .i64 3), (13, .int .i64 (i : Nat))]

def onB (i : Nat) : BitVec 32 := if i = 0 then 512#32 else if i = 1 then 524288#32 else 131072#32
def whatB (i : Nat) : BitVec 32 := if i = 0 then 29294760#32 else if i = 1 then 3145728#32 else 65536#32
def frmB (i : Nat) (c : BitVec 32) : BitVec 32 :=
  if i = 0 then dropB c else if i = 1 then wo (wo c 524288#32 3145728#32) 131072#32 65536#32 else if i = 2 then wo c 131072#32 65536#32 else c

theorem frmB_step {i : Nat} (hi : i < 3) (c : BitVec 32) : frmB (i + 1) (wo c (onB i) (whatB i)) = frmB i c := by
  match i, hi with
  | 0, _ => rfl
  | 1, _ => rfl
  | 2, _ => rfl

theorem hangs_at {i : Nat} (hi : i < 3) : hangsL[i]? = some (.pc [uB (whatB i), uB (onB i)]) := by
  match i, hi with
  | 0, _ => rfl
  | 1, _ => rfl
  | 2, _ => rfl

theorem mk43 (x y : Int) : mkAgg X 43 [.int .u32 x, .int .u32 y] = some (.pi .u32 [x, y]) := by simp [mkAgg, asInts]

set_option maxRecDepth 100000 in
theorem both_code (a b : BitVec 32) : ∃ code, Tryd.f8.body = some code ∧
    Tells (Rets fun fr _ => fr = [(4, uB (bothB a b))]) X (evT X) 8 0 code [(0, uB a), (1, uB b)] [] := by
  refine ⟨_, rfl, ?_⟩
  have hH := evT_eq (hangs_ev [])
  have hlen : hangsL.length = 3 := rfl
  have wab := wrap_and a b
  simp only [go_sem] at wab
  apply Tells.seq
  · (refine ⟨0, ?_⟩; conv => lhs; simp (maxSteps := 2000000) -implicitDefEqProofs [-getElem?_pos, List.getElem?_cons_zero, List.getElem?_cons_succ, go_sem, eqV, plen, loadV, storeV])
  apply Tells.seq
  · (refine ⟨0, ?_⟩; conv => lhs; simp (maxSteps := 2000000) -implicitDefEqProofs [-getElem?_pos, List.getElem?_cons_zero, List.getElem?_cons_succ, go_sem, eqV, plen, loadV, storeV, uB, wab, -BitVec.toNat_and])
  apply Tells.andThen (P := fun fr H => fr = boFr (bothB a b) 3 ++ [(14, .bool false)])
  · apply Tells.seq (fr' := boFr (a &&& b) 0) (H' := [])
    · (refine ⟨0, ?_⟩; simp (maxSteps := 2000000) -implicitDefEqProofs [-getElem?_pos, List.getElem?_cons_zero, List.getElem?_cons_succ, go_sem, eqV, plen, loadV, storeV, uB, wab, hH, hlen, boFr, -BitVec.toNat_and])
    apply Tells.block
    refine Tells.loop (σ := Nat × BitVec 32 × AM.Heap) (fun s => s.1 ≤ 3 ∧ frmB s.1 s.2.1 = bothB a b) (fun s => boFr s.2.1 s.1) (fun s => s.2.2) (fun s => 3 - s.1) ?_ (0, a &&& b, []) ⟨by omega, rfl⟩
    rintro ⟨i, c, H⟩ ⟨hi, hc⟩
    simp only at hi hc ⊢
    by_cases h3 : i = 3
    · right
      subst h3
      refine ⟨⟨.exit 0, boFr (bothB a b) 3 ++ [(14, .bool false)], H⟩, ⟨rfl, rfl⟩, by simp, ?_⟩
      have hc' : c = bothB a b := hc
      subst hc'
      (refine ⟨0, ?_⟩; simp (maxSteps := 2000000) -implicitDefEqProofs [-getElem?_pos, List.getElem?_cons_zero, List.getElem?_cons_succ, go_sem, eqV, plen, loadV, storeV, boFr])
    · left
      have hi3 : i < 3 := by omega
      have hiI : (i : Int) < 3 := by omega
      have hat := hangs_at hi3
      have w1 : IntKind.i64.wrap ((i : Int) + 1) = ((i + 1 : Nat) : Int) := by rw [wrap_i64 (by omega) (by omega)]; omega
      refine ⟨(i + 1, wo c (onB i) (whatB i), H ++ [some ⟨.pi .u32 [((whatB i).toNat : Nat), ((onB i).toNat : Nat)], 0, some 2, 1, false, false, 0⟩]), ⟨by simp only; omega, (frmB_step hi3 c).trans hc⟩, ?_, by simp only; omega⟩
      have wa := wrap_and c (onB i)
      have wn := wrap_andNot c (whatB i)
      simp only [go_sem] at wa wn
      by_cases hz : c &&& onB i = 0#32
      · rw [show wo c (onB i) (whatB i) = c &&& ~~~whatB i from if_pos hz]
        (refine ⟨0, ?_⟩; simp (maxSteps := 2000000) -implicitDefEqProofs [-getElem?_pos, List.getElem?_cons_zero, List.getElem?_cons_succ, go_sem, eqV, plen, loadV, storeV, uB, -BitVec.toNat_and, boFr, hiI, hat, w1, hlen, mk43, wa, wn, cat_at, cat_set, zero_uB, hz])
      · rw [show wo c (onB i) (whatB i) = c from if_neg hz]
        have hz' : ¬ (c &&& onB i).toNat = 0 := fun h => hz (BitVec.eq_of_toNat_eq h)
        (refine ⟨0, ?_⟩; simp (maxSteps := 2000000) -implicitDefEqProofs [-getElem?_pos, List.getElem?_cons_zero, List.getElem?_cons_succ, go_sem, eqV, plen, loadV, storeV, uB, -BitVec.toNat_and, boFr, hiI, hat, w1, hlen, mk43, wa, wn, cat_at, cat_set, hz'])
  · rintro fr H rfl
    refine Tells.of (o := ⟨.ret, [(4, uB (bothB a b))], H⟩) ?_ ⟨rfl, rfl⟩
    refine ⟨0, ?_⟩
    simp (maxSteps := 2000000) -implicitDefEqProofs [-getElem?_pos, List.getElem?_cons_zero, List.getElem?_cons_succ, go_sem, eqV, plen, loadV, storeV, boFr]

theorem Ev1.uB1 {f : Nat} {a b v : BitVec 32} {fn : Func} {c : Code} (hF : X.P.funcs[f]? = some fn) (hb : fn.body = some c) (hp : paramsOf X f = [23, 23]) (hr : fn.results.toList = [.tmp 4])
    (h : Tells (Rets fun fr _ => fr = [(4, uB v)]) X (evT X) f 0 c [(0, uB a), (1, uB b)] []) (H : AM.Heap) : Ev1 X f [uB a, uB b] H (uB v, H) := by
  obtain ⟨⟨ex, fr, H1⟩, ⟨he, hfr⟩, hrun⟩ := h
  simp only at he hfr
  subst he; subst hfr
  refine Ev1.plain (args := [uB a, uB b]) (l := [uB v]) (out := ⟨.ret, [(4, uB v)], H1⟩) (evT_below X) hF hb rfl rfl (by simp [gtag]) ?_ (.inr rfl) ?_ rfl rfl
  · rw [hp]
    exact hrun
  · rw [hr]; rfl

theorem both_ev (a b : BitVec 32) (H : AM.Heap) : Ev1 X 8 [uB a, uB b] H (uB (bothB a b), H) := by
  obtain ⟨code, hb, h⟩ := both_code a b
  exact Ev1.uB1 Tryd.func8 hb (by simp) rfl h H

end Go.Proofs.YtfkbemllgeopfaaDoor

/- Walks: lists of texts compared, and looked through. -/
namespace Go.Proofs.YtfkbemllgeopfaaDoor
open Go.AM
set_option linter.unusedSimpArgs false
set_option linter.unusedVariables false

/-- texts as a payload -/
def tx (l : List (List UInt8)) : AV := .pc (l.map .str)

theorem tx_at {l : List (List UInt8)} {i : Nat} {s : List UInt8} (h : l[i]? = some s) : (l.map AV.str)[i]? = some (.str s) := by rw [List.getElem?_map, h]; rfl
theorem tx_len (l : List (List UInt8)) : (l.map AV.str).length = l.length := by simp

section
variable (c c2 : Nat) (a b : List (List UInt8))

def saFr (i : Nat) : AM.Frame := [(0, .ro c (tx a) 1), (1, .ro c2 (tx b) 2), (5, .int .i64 (i : Nat))]

set_option maxRecDepth 100000 in
theorem same_code (ha : a.length < 9223372036854775808) : ∃ code, Tryd.f11.body = some code ∧
    Tells (Rets fun fr H => fr = [(4, .bool (a == b))] ∧ H = []) X (evT X) 11 0 code [(0, .ro c (tx a) 1), (1, .ro c2 (tx b) 2)] [] := by
  refine ⟨_, rfl, ?_⟩
  by_cases hl : a.length = b.length
  · apply Tells.seq
    · (refine ⟨0, ?_⟩; conv => lhs; simp (maxSteps := 2000000) -implicitDefEqProofs [-getElem?_pos, List.getElem?_cons_zero, List.getElem?_cons_succ, go_sem, eqV, plen, loadV, storeV])
    apply Tells.seq
    · (refine ⟨0, ?_⟩; conv => lhs; simp (maxSteps := 2000000) -implicitDefEqProofs [-getElem?_pos, List.getElem?_cons_zero, List.getElem?_cons_succ, go_sem, eqV, plen, loadV, storeV, tx, hl])
    apply Tells.assoc
    apply Tells.seq (fr' := saFr c c2 a b 0) (H' := [])
    · (refine ⟨0, ?_⟩; simp (maxSteps := 2000000) -implicitDefEqProofs [-getElem?_pos, List.getElem?_cons_zero, List.getElem?_cons_succ, go_sem, eqV, plen, loadV, storeV, saFr, tx])
    apply Tells.blockThen (P := fun fr H => a = b ∧ fr = saFr c c2 a b a.length ++ [(14, .bool false)] ∧ H = [])
    · refine Tells.loop (σ := Nat) (fun i => i ≤ a.length ∧ a.take i = b.take i) (fun i => saFr c c2 a b i) (fun _ => []) (fun i => a.length - i) ?_ 0 ⟨by omega, rfl⟩
      rintro i ⟨hi, ht⟩
      by_cases he : i = a.length
      · right
        subst he
        have hab : a = b := by
          rw [List.take_length] at ht
          rw [ht, hl, List.take_length]
        refine ⟨⟨.exit 0, saFr c c2 a b a.length ++ [(14, .bool false)], []⟩, .inl ⟨rfl, hab, rfl, rfl⟩, by simp, ?_⟩
        (refine ⟨0, ?_⟩; simp (maxSteps := 2000000) -implicitDefEqProofs [-getElem?_pos, List.getElem?_cons_zero, List.getElem?_cons_succ, go_sem, eqV, plen, loadV, storeV, saFr, tx])
      · have hlt : i < a.length := by omega
        have hltI : (i : Int) < (a.length : Int) := by omega
        have hltb : (i : Int) < (b.length : Int) := by omega
        obtain ⟨s, hs⟩ : ∃ s, a[i]? = some s := ⟨a[i], List.getElem?_eq_getElem hlt⟩
        obtain ⟨t, hb⟩ : ∃ t, b[i]? = some t := ⟨b[i], List.getElem?_eq_getElem (by omega)⟩
        have hsa := tx_at hs
        have hta := tx_at hb
        have w1 : IntKind.i64.wrap ((i : Int) + 1) = ((i + 1 : Nat) : Int) := by rw [wrap_i64 (by omega) (by omega)]; omega
        by_cases hst : s = t
        · left
          refine ⟨i + 1, ⟨by omega, by rw [List.take_add_one, List.take_add_one, hs, hb, ht, hst]⟩, ?_, by omega⟩
          subst hst
          (refine ⟨0, ?_⟩; simp (maxSteps := 2000000) -implicitDefEqProofs [-getElem?_pos, List.getElem?_cons_zero, List.getElem?_cons_succ, go_sem, eqV, plen, loadV, storeV, saFr, tx, hltI, hltb, hsa, hta, w1, strOp])
        · right
          have hne : ¬ a = b := fun e => by rw [e, hb] at hs; exact hst (Option.some.inj hs).symm
          have hbq : (a == b) = false := by simpa using hne
          refine ⟨⟨.ret, [(4, .bool false)], []⟩, .inr ⟨rfl, rfl, by rw [hbq], rfl⟩, by simp, ?_⟩
          (refine ⟨0, ?_⟩; simp (maxSteps := 2000000) -implicitDefEqProofs [-getElem?_pos, List.getElem?_cons_zero, List.getElem?_cons_succ, go_sem, eqV, plen, loadV, storeV, saFr, tx, hltI, hltb, hsa, hta, w1, strOp, hst])
    · rintro fr H ⟨hab, rfl, rfl⟩
      have hbq : (a == b) = true := by simpa using hab
      refine Tells.of (o := ⟨.ret, [(4, .bool (a == b))], []⟩) ?_ ⟨rfl, rfl, rfl⟩
      refine ⟨0, ?_⟩
      simp (maxSteps := 2000000) -implicitDefEqProofs [-getElem?_pos, List.getElem?_cons_zero, List.getElem?_cons_succ, go_sem, eqV, plen, loadV, storeV, saFr, hbq]
  · have hne : ¬ a = b := fun e => hl (by rw [e])
    have hbq : (a == b) = false := by simpa using hne
    have hlI : ((a.length : Int) != (b.length : Int)) = true := by simp; omega
    refine Tells.of (o := ⟨.ret, [(4, .bool (a == b))], []⟩) ?_ ⟨rfl, rfl, rfl⟩
    refine ⟨0, ?_⟩
    rw [hbq]
    simp (maxSteps := 2000000) -implicitDefEqProofs [-getElem?_pos, List.getElem?_cons_zero, List.getElem?_cons_succ, go_sem, eqV, plen, loadV, storeV, tx, hl, hlI]

end

end Go.Proofs.YtfkbemllgeopfaaDoor

/- The list of names, by evaluation; lives. -/
namespace Go.Proofs.YtfkbemllgeopfaaDoor
open Go.AM
set_option linter.unusedSimpArgs false
set_option linter.unusedVariables false

/-- the names of the bits that have one -/
def nmL : List (List UInt8) := [[108, 111, 110, 103, 45, 112, 97, 115, 115, 119, 111, 114, 100], [102, 111, 117, 110, 100, 45, 114, 111, 119, 115], [108, 111, 110, 103, 45, 102, 108, 97, 103], [99, 111, 110, 110, 101, 99, 116, 45, 119, 105, 116, 104, 45, 100, 98], [110, 111, 45, 115, 99, 104, 101, 109, 97], [99, 111, 109, 112, 114, 101, 115, 115], [111, 100, 98, 99], [108, 111, 99, 97, 108, 45, 102, 105, 108, 101, 115], [105, 103, 110, 111, 114, 101, 45, 115, 112, 97, 99, 101], [112, 114, 111, 116, 111, 99, 111, 108, 45, 52, 49], [105, 110, 116, 101, 114, 97, 99, 116, 105, 118, 101], [115, 115, 108], [105, 103, 110, 111, 114, 101, 45, 115, 105, 103, 112, 105, 112, 101], [116, 114, 97, 110, 115, 97, 99, 116, 105, 111, 110, 115], [114, 101, 115, 101, 114, 118, 101, 100], [115, 101, 99, 117, 114, 101], [109, 117, 108, 116, 105, 45, 115, 116, 97, 116, 101, 109, 101, 110, 116], [109, 117, 108, 116, 105, 45, 114, 101, 115, 117, 108, 116, 115], [112, 115, 45, 109, 117, 108, 116, 105, 45, 114, 101, 115, 117, 108, 116, 115], [112, 108, 117, 103, 105, 110, 45, 97, 117, 116, 104], [99, 111, 110, 110, 101, 99, 116, 45, 97, 116, 116, 114, 115], [108, 101, 110, 101, 110, 99, 45, 97, 117, 116, 104], [101, 120, 112, 105, 114, 101, 100], [115, 101, 115, 115, 105, 111, 110, 45, 116, 114, 97, 99, 107], [100, 101, 112, 114, 101, 99, 97, 116, 101, 45, 101, 111, 102]]

def nmOb : AM.Obj := ⟨tx nmL, 0, some 25, 1, true, false, 0⟩
def row0 : Row1 := ⟨24, [], .sl 0 0 25 0, [some nmOb]⟩
def rows0 : List Row1 := row0 :: []
set_option maxRecDepth 100000 in
theorem rows0_ok : RowsOk X rows0 := RowsOk.cons (rowT_below RowsOk.nil) RowsOk.nil (n := 400) (by kernel_rfl)

theorem lives_ev (H : AM.Heap) : Ev1 X 7 [] H (.bool true, H) :=
  Ev1.triedP (rowT_below rows0_ok) (n := 400) (f := 7) (args := []) (v := .bool true) (by kernel_rfl) rfl H

theorem names_ev (H : AM.Heap) : Ev1 X 24 [] H (.sl H.length 0 25 0, H ++ [some nmOb]) := by
  have := Ev1.frame (rows0_ok row0 (List.mem_singleton.2 rfl)).1 rfl H
  simpa [row0, shiftV, shiftH, ren, renObj, shiftN, nmOb, tx, nmL, renL] using this

end Go.Proofs.YtfkbemllgeopfaaDoor

/- Plain: bits' names; closed calls. -/
namespace Go.Proofs.YtfkbemllgeopfaaDoor
open Go.AM
set_option linter.unusedSimpArgs false
set_option linter.unusedVariables false

/-- a number below 100, written -/
def dig (k : Nat) : List UInt8 := if k < 10 then [UInt8.ofNat (48 + k)] else [UInt8.ofNat (48 + k / 10), UInt8.ofNat (48 + k % 10)]
/-- a bit without a name -/
def bitN (k : Nat) : List UInt8 := [98, 105, 116, 45] ++ dig k
/-- a bit's name -/
def nm (k : Nat) : List UInt8 := if h : k < nmL.length then nmL[k] else bitN k

theorem itoa_ev {k : Nat} (hk : k < 32) (H : AM.Heap) : Ev1 X 25 [.int .i64 (k : Nat)] H (.str (dig k), H) :=
  Ev1.each (T := fun _ _ _ => none) Below.none (n := 100) (f := 25) (N := 32) (a := fun k => .int .i64 (k : Nat)) (v := fun k => .str (dig k)) (by kernel_rfl) (fun _ => rfl) hk H

theorem bit_ev {k : Nat} (hk : k < 32) (H : AM.Heap) : Ev1 X 29 [.int .i64 (k : Nat)] H (.str (bitN k), H) :=
  Ev1.each (T := fun _ _ _ => none) Below.none (n := 100) (f := 29) (N := 32) (a := fun k => .int .i64 (k : Nat)) (v := fun k => .str (bitN k)) (by kernel_rfl) (fun _ => rfl) hk H

theorem name_ev {k : Nat} (hk : k < 32) (H : AM.Heap) : Ev1 X 27 [.int .i64 (k : Nat)] H (.str (nm k), H) :=
  Ev1.each (T := fun _ _ _ => none) Below.none (n := 100) (f := 27) (N := 32) (a := fun k => .int .i64 (k : Nat)) (v := fun k => .str (nm k)) (by kernel_rfl) (fun _ => rfl) hk H

/-- the names of the bits below i -/
def nmsB (c : BitVec 32) : Nat → List (List UInt8)
  | 0 => []
  | i + 1 => if c.getLsbD i then nmsB c i ++ [nm i] else nmsB c i

theorem nm_inj : ∀ i j, i < 32 → j < 32 → nm i = nm j → i = j := by
  have : (List.range 32).all (fun i => (List.range 32).all fun j => !(nm i == nm j) || i == j) = true := by kernel_rfl
  intro i j hi hj h
  have h1 := List.all_eq_true.1 (List.all_eq_true.1 this i (List.mem_range.2 hi)) j (List.mem_range.2 hj)
  simpa [h] using h1

end Go.Proofs.YtfkbemllgeopfaaDoor

/- Walks: a text looked for; the names of a word's bits. -/
namespace Go.Proofs.YtfkbemllgeopfaaDoor
open Go.AM
set_option linter.unusedSimpArgs false
set_option linter.unusedVariables false

def ixR : List (List UInt8) → List UInt8 → Nat → Int
  | [], _, _ => -1
  | x :: r, s, i => if s = x then (i : Nat) else ixR r s (i + 1)

section
variable (cc : Nat) (l : List (List UInt8)) (s : List UInt8)

def ixFr (i : Nat) : AM.Frame := [(0, .ro cc (tx l) 1), (1, .str s), (7, .int .i64 (l.length : Nat)), (8, .int .i64 (i : Nat))]

set_option maxRecDepth 100000 in
theorem index_code (ha : l.length < 9223372036854775808) : ∃ code, Tryd.f26.body = some code ∧
    Tells (Rets fun fr H => fr = [(4, .int .i64 (ixR l s 0))] ∧ H = []) X (evT X) 26 0 code [(0, .ro cc (tx l) 1), (1, .str s)] [] := by
  refine ⟨_, rfl, ?_⟩
  apply Tells.seq
  · (refine ⟨0, ?_⟩; conv => lhs; simp (maxSteps := 2000000) -implicitDefEqProofs [-getElem?_pos, List.getElem?_cons_zero, List.getElem?_cons_succ, go_sem, eqV, plen, loadV, storeV])
  apply Tells.assoc
  apply Tells.seq (fr' := ixFr cc l s 0) (H' := [])
  · (refine ⟨0, ?_⟩; simp (maxSteps := 2000000) -implicitDefEqProofs [-getElem?_pos, List.getElem?_cons_zero, List.getElem?_cons_succ, go_sem, eqV, plen, loadV, storeV, ixFr, tx])
  apply Tells.blockThen (P := fun fr H => ixR l s 0 = -1 ∧ fr = ixFr cc l s l.length ++ [(9, .bool false)] ∧ H = [])
  · refine Tells.loop (σ := Nat) (fun i => i ≤ l.length ∧ ixR (l.drop i) s i = ixR l s 0) (fun i => ixFr cc l s i) (fun _ => []) (fun i => l.length - i) ?_ 0 ⟨by omega, rfl⟩
    rintro i ⟨hi, ht⟩
    by_cases he : i = l.length
    · right
      subst he
      refine ⟨⟨.exit 0, ixFr cc l s l.length ++ [(9, .bool false)], []⟩, .inl ⟨rfl, ?_, rfl, rfl⟩, by simp, ?_⟩
      · rw [← ht, List.drop_length]; rfl
      (refine ⟨0, ?_⟩; simp (maxSteps := 2000000) -implicitDefEqProofs [-getElem?_pos, List.getElem?_cons_zero, List.getElem?_cons_succ, go_sem, eqV, plen, loadV, storeV, ixFr, tx])
    · have hlt : i < l.length := by omega
      have hltI : (i : Int) < (l.length : Int) := by omega
      obtain ⟨x, hx⟩ : ∃ x, l[i]? = some x := ⟨l[i], List.getElem?_eq_getElem hlt⟩
      have hxa := tx_at hx
      have hd : l.drop i = x :: l.drop (i + 1) := by
        rw [List.drop_eq_getElem_cons hlt]
        rw [List.getElem?_eq_getElem hlt] at hx
        rw [Option.some.inj hx]
      rw [hd] at ht
      rw [show ixR (x :: l.drop (i + 1)) s i = if s = x then (i : Int) else ixR (l.drop (i + 1)) s (i + 1) from rfl] at ht
      have w1 : IntKind.i64.wrap ((i : Int) + 1) = ((i + 1 : Nat) : Int) := by rw [wrap_i64 (by omega) (by omega)]; omega
      by_cases hst : s = x
      · right
        rw [if_pos hst] at ht
        refine ⟨⟨.ret, [(4, .int .i64 (i : Nat))], []⟩, .inr ⟨rfl, rfl, by rw [← ht], rfl⟩, by simp, ?_⟩
        (refine ⟨0, ?_⟩; simp (maxSteps := 2000000) -implicitDefEqProofs [-getElem?_pos, List.getElem?_cons_zero, List.getElem?_cons_succ, go_sem, eqV, plen, loadV, storeV, ixFr, tx, hltI, hxa, strOp, hst])
      · left
        rw [if_neg hst] at ht
        refine ⟨i + 1, ⟨by omega, ht⟩, ?_, by omega⟩
        (refine ⟨0, ?_⟩; simp (maxSteps := 2000000) -implicitDefEqProofs [-getElem?_pos, List.getElem?_cons_zero, List.getElem?_cons_succ, go_sem, eqV, plen, loadV, storeV, ixFr, tx, hltI, hxa, strOp, hst, w1])
  · rintro fr H ⟨hab, rfl, rfl⟩
    rw [hab]
    refine Tells.of (o := ⟨.ret, [(4, .int .i64 (-1))], []⟩) ?_ ⟨rfl, rfl, rfl⟩
    refine ⟨0, ?_⟩
    simp (maxSteps := 2000000) -implicitDefEqProofs [-getElem?_pos, List.getElem?_cons_zero, List.getElem?_cons_succ, go_sem, eqV, plen, loadV, storeV, ixFr]

end

/-- an object of texts, as appending leaves it -/
def txO (l : List (List UInt8)) : Option AM.Obj := some { p := tx l, g := l.length, cap := .none, z := if l.length ≤ 1 then 0 else 1, row := true, ids := false, tg := 0 }

theorem bs_tx (H : AM.Heap) (s : List UInt8) : buildSliceV X H 32 1 [(0, .str s)] = some (.ro 1 (.pc [.str s]) 0, H) := by kernel_rfl

theorem app_tx {H : AM.Heap} {o : Nat} (l : List (List UInt8)) (x : List UInt8) (ho : H[o]? = some (txO l)) (h : l.length ≤ 100000) : appendV X H 32 (.sl o 0 l.length l.length) (.ro 1 (.pc [.str x]) 0) = some (.sl o 0 (l ++ [x]).length (l ++ [x]).length, upd H o (txO (l ++ [x]))) := by
  have hroom : roomOk X 9 (l.length + 1) = true := by
    simp [roomOk]
    omega
  have ho' : H[o]? = some (some ⟨.pc (l.map .str), l.length, .none, (if l.length ≤ 1 then 0 else 1), true, false, 0⟩) := ho
  simp only [appendV, und32, size9, zok9]
  simp [srcV, payB, plen, live, ho', txO, tx, psub, papp, pesz, ptag, joinTag, hroom]
  cases l with
  | nil => simp
  | cons y r =>
    have ht : List.take r.length (List.map AV.str r) = List.map AV.str r := by rw [List.take_of_length_le (by simp)]
    simp [ht]

def naFr (c : BitVec 32) (l : List (List UInt8)) (i : Nat) : AM.Frame := [(0, uB c), (3, .sl 1 0 l.length l.length), (4, .sl 2 0 25 0), (7, .int .i64 (i : Nat))]
def naH (l : List (List UInt8)) : AM.Heap := [txO [], txO l, some nmOb]

theorem nmOb_p : nmOb.p = .pc (nmL.map .str) := rfl
theorem nmOb_g : nmOb.g = 0 := rfl
theorem nmOb_ids : nmOb.ids = false := rfl
theorem nmOb_tg : nmOb.tg = 0 := rfl

theorem txO_nil : txO [] = some (rowOf (emptyRow X 9) .none 0) := by simp [txO, rowOf, emptyRow, tx]
theorem nm_at {i : Nat} (hi : i < 25) : (nmL.map AV.str)[i]? = some (.str (nm i)) := by
  have hl : i < nmL.length := hi
  rw [List.getElem?_map, List.getElem?_eq_getElem hl]
  unfold nm
  rw [dif_pos hl]; rfl
theorem nm_bit {i : Nat} (hi : 25 ≤ i) : nm i = 98 :: 105 :: 116 :: 45 :: dig i := by
  unfold nm
  rw [dif_neg (by show ¬ i < 25; omega)]; rfl

theorem nmsB_len (c : BitVec 32) : ∀ i, (nmsB c i).length ≤ i
  | 0 => by simp [nmsB]
  | i + 1 => by
    have := nmsB_len c i
    unfold nmsB
    split
    · simp; omega
    · omega

theorem shr_bit (c : BitVec 32) {i : Nat} (hi : i < 32) : Int.fdiv (c.toNat : Int) (2 ^ (min i 32)) = ((c >>> i).toNat : Nat) := by
  rw [Nat.min_eq_left (by omega), BitVec.toNat_ushiftRight, Nat.shiftRight_eq_div_pow]
  rw [show ((2 : Int) ^ i) = ((2 ^ i : Nat) : Int) by simp]
  rw [Int.fdiv_eq_ediv_of_nonneg _ (Int.natCast_nonneg _)]
  exact (Int.natCast_ediv _ _).symm

theorem wrap_and1 (x : BitVec 32) : IntKind.u32.wrap ((AM.bits .u32 (x.toNat : Int) &&& AM.bits .u32 1).toNat : Nat) = ((x &&& 1#32).toNat : Nat) := wrap_and x 1#32

theorem bit_and1 (c : BitVec 32) (i : Nat) : ((c >>> i) &&& 1#32).toNat = if c.getLsbD i then 1 else 0 := by
  rw [BitVec.toNat_and, BitVec.toNat_ushiftRight]
  show (c.toNat >>> i) &&& 1 = _
  rw [Nat.and_one_is_mod]
  unfold BitVec.getLsbD Nat.testBit
  rw [Nat.and_comm, Nat.and_one_is_mod]
  have : (c.toNat >>> i) % 2 < 2 := Nat.mod_lt _ (by omega)
  rcases (show (c.toNat >>> i) % 2 = 0 ∨ (c.toNat >>> i) % 2 = 1 by omega) with h | h <;> simp [h]

set_option maxRecDepth 100000 in
set_option maxHeartbeats 4000000 in
theorem names_code (c : BitVec 32) : ∃ code, Tryd.f10.body = some code ∧
    Run X (evT X) 10 0 code [(0, uB c)] [] ⟨.ret, [(2, .sl 1 0 (nmsB c 32).length (nmsB c 32).length)], naH (nmsB c 32)⟩ := by
  refine ⟨_, rfl, ?_⟩
  have hN := evT_eq (names_ev [some (rowOf (emptyRow X 9) .none 0), some (rowOf (emptyRow X 9) .none 0)])
  have hnl : nmL.length = 25 := rfl
  apply Run.seq
  · (refine ⟨0, ?_⟩; conv => lhs; simp (maxSteps := 2000000) -implicitDefEqProofs [-getElem?_pos, List.getElem?_cons_zero, List.getElem?_cons_succ, go_sem, eqV, plen, loadV, storeV, uB])
  apply Run.seq
  · (refine ⟨0, ?_⟩; conv => lhs; simp (maxSteps := 2000000) -implicitDefEqProofs [-getElem?_pos, List.getElem?_cons_zero, List.getElem?_cons_succ, go_sem, eqV, plen, loadV, storeV, assignV])
  apply Run.seq (fr' := [(0, uB c), (3, .sl 1 0 0 0), (4, .sl 2 0 25 0)]) (H' := naH [])
  · (refine ⟨0, ?_⟩; simp (maxSteps := 2000000) -implicitDefEqProofs [-getElem?_pos, List.getElem?_cons_zero, List.getElem?_cons_succ, go_sem, eqV, plen, loadV, storeV, uB, hN, naH, txO_nil, assignV])
  apply Run.seq (fr' := naFr c (nmsB c 32) 32 ++ [(8, .bool false)]) (H' := naH (nmsB c 32))
  · apply Run.seq (fr' := naFr c [] 0) (H' := naH [])
    · (refine ⟨0, ?_⟩; simp (maxSteps := 2000000) -implicitDefEqProofs [-getElem?_pos, List.getElem?_cons_zero, List.getElem?_cons_succ, go_sem, eqV, plen, loadV, storeV, naFr, naH])
    apply Run.block_exit
    refine Run.loop_rule (σ := Nat) (fun i => i ≤ 32) (fun i => naFr c (nmsB c i) i) (fun i => naH (nmsB c i)) (fun _ => ⟨.exit 0, naFr c (nmsB c 32) 32 ++ [(8, .bool false)], naH (nmsB c 32)⟩) (fun i => 32 - i) ?_ 0 (by omega)
    intro i hi
    by_cases h32 : i = 32
    · right
      refine ⟨?_, by simp⟩
      subst h32
      (refine ⟨0, ?_⟩; simp (maxSteps := 2000000) -implicitDefEqProofs [-getElem?_pos, List.getElem?_cons_zero, List.getElem?_cons_succ, go_sem, eqV, plen, loadV, storeV, naFr])
    · left
      have hlt : i < 32 := by omega
      have hltI : (i : Int) < 32 := by omega
      have hsh : (c.toNat : Int) >>> i = ((c >>> i).toNat : Nat) := by rw [BitVec.toNat_ushiftRight]; rfl
      have hi0 : ¬ (i : Int) < 0 := by omega
      have hsd := shr_bit c hlt
      have hmb : IntKind.u32.bits = 32 := rfl
      have hb1 := bit_and1 c i
      have w1 : IntKind.i64.wrap ((i : Int) + 1) = ((i + 1 : Nat) : Int) := by rw [wrap_i64 (by omega) (by omega)]; omega
      refine ⟨i + 1, by omega, ?_, rfl, by omega⟩
      have hlen := nmsB_len c i
      by_cases hb : c.getLsbD i = true
      · have hA := app_tx (H := naH (nmsB c i)) (o := 1) (nmsB c i) (nm i) rfl (by omega)
        rw [show nmsB c (i + 1) = nmsB c i ++ [nm i] by rw [nmsB, if_pos hb]]
        rw [if_pos hb] at hb1
        generalize nmsB c i = l at *
        have hz : IntKind.u32.wrap ((AM.bits .u32 ((c >>> i).toNat : Int) &&& AM.bits .u32 1).toNat : Nat) = 1 := by rw [wrap_and1, hb1]; rfl
        simp only [go_sem] at hz
        by_cases h25 : i < 25
        · have hat := nm_at h25
          have h25I : (i : Int) < 25 := by omega
          unfold naH at *
          (refine ⟨0, ?_⟩; simp (maxSteps := 2000000) -implicitDefEqProofs [-getElem?_pos, List.getElem?_cons_zero, List.getElem?_cons_succ, go_sem, eqV, plen, loadV, storeV, uB, naFr, hltI, hsh, hsd, hi0, -BitVec.toNat_ushiftRight, -BitVec.toNat_and, hmb, hz, w1, h25I, hA, bs_tx, hat, hnl, nmOb_p, nmOb_g, nmOb_ids, nmOb_tg, upd])
        · have hI := evT_eq (itoa_ev hlt (naH l))
          have h25I : ¬ (i : Int) < 25 := by omega
          have hdl : 4 + (dig i).length ≤ 9223372036854775807 := by unfold dig; split <;> simp
          rw [nm_bit (by omega)] at hA ⊢
          unfold naH at *
          (refine ⟨0, ?_⟩; simp (maxSteps := 2000000) -implicitDefEqProofs [-getElem?_pos, List.getElem?_cons_zero, List.getElem?_cons_succ, go_sem, eqV, plen, loadV, storeV, uB, naFr, hltI, hsh, hsd, hi0, -BitVec.toNat_ushiftRight, -BitVec.toNat_and, hmb, hz, w1, h25I, hA, bs_tx, hI, hnl, nmOb_p, nmOb_g, nmOb_ids, nmOb_tg, upd, strOp, hdl])
      · rw [show nmsB c (i + 1) = nmsB c i by rw [nmsB, if_neg hb]]
        rw [if_neg hb] at hb1
        have hz : IntKind.u32.wrap ((AM.bits .u32 ((c >>> i).toNat : Int) &&& AM.bits .u32 1).toNat : Nat) = 0 := by rw [wrap_and1, hb1]; rfl
        simp only [go_sem] at hz
        (refine ⟨0, ?_⟩; simp (maxSteps := 2000000) -implicitDefEqProofs [-getElem?_pos, List.getElem?_cons_zero, List.getElem?_cons_succ, go_sem, eqV, plen, loadV, storeV, uB, naFr, hltI, hsh, hsd, hi0, -BitVec.toNat_ushiftRight, -BitVec.toNat_and, hmb, hz, w1])
  refine ⟨0, ?_⟩
  simp (maxSteps := 2000000) -implicitDefEqProofs [-getElem?_pos, List.getElem?_cons_zero, List.getElem?_cons_succ, go_sem, eqV, plen, loadV, storeV, naFr]

/-- the object that comes back -/
def txF (l : List (List UInt8)) : Option AM.Obj := some { p := tx l, g := 0, cap := .none, z := if l.length ≤ 1 then 0 else 1, row := true, ids := false, tg := 0 }

theorem ids_strs : ∀ l : List (List UInt8), idsL (l.map AV.str) = []
  | [] => rfl
  | a :: r => by simp only [List.map_cons, idsL, ids, ids_strs r]; rfl
theorem tags_strs : ∀ l : List (List UInt8), tagsL (l.map AV.str) = []
  | [] => rfl
  | a :: r => by simp only [List.map_cons, tagsL, tags, tags_strs r]; rfl
theorem ids_tx (l : List (List UInt8)) : ids (tx l) = [] := ids_strs l
theorem tags_tx (l : List (List UInt8)) : tags (tx l) = [] := tags_strs l

theorem nms_ev (c : BitVec 32) (H : AM.Heap) : Ev1 X 10 [uB c] H (.sl H.length 0 (nmsB c 32).length 0, H ++ [txF (nmsB c 32)]) := by
  obtain ⟨code, hb, hr⟩ := names_code c
  have := Ev1.freshQ (H := H) (args := [uB c]) (l := [.sl 1 0 (nmsB c 32).length (nmsB c 32).length]) (o := 1) (g := (nmsB c 32).length) (ob := ⟨tx (nmsB c 32), (nmsB c 32).length, .none, (if (nmsB c 32).length ≤ 1 then 0 else 1), true, false, 0⟩)
    (evT_below X) Tryd.func10 hb rfl rfl (by simp [gtag]) hr (.inr rfl) rfl rfl rfl (by simp [live, naH, txO]) rfl (ids_tx _) (tags_tx _) rfl rfl
  simpa [resultV, ren, AM.fresh, txF] using this

theorem ixT_ev {H : AM.Heap} {a : AV} {l : List (List UInt8)} {s : List UInt8} (h : payOf H a = some (tx l)) (hl : l.length < 9223372036854775808) : Ev1 X 26 [a, .str s] H (.int .i64 (ixR l s 0), H) := by
  obtain ⟨cc, x, hx⟩ := args_pay (C := X) (f := 26) (i := 0) rfl h (args_flat (i := 1) (a := .str s) rfl rfl (args_nil 2))
  obtain ⟨code, hb, ⟨ex, fr, H1⟩, ⟨he, hfr, hH⟩, hr⟩ := index_code cc l s hl
  simp only at he hfr hH
  subst he; subst hfr; subst hH
  exact Ev1.plain (l := [.int .i64 (ixR l s 0)]) (evT_below X) Tryd.func26 hb hx (by simp [idsL, ids, ids_tx]) (by simp [gtag]) hr (.inr rfl) rfl rfl rfl

theorem same_ev {H : AM.Heap} {a b : AV} {l m : List (List UInt8)} (h : payOf H a = some (tx l)) (h2 : payOf H b = some (tx m)) (hl : l.length < 9223372036854775808) : Ev1 X 11 [a, b] H (.bool (l == m), H) := by
  obtain ⟨c2, x2, hx2⟩ := args_pay (C := X) (f := 11) (i := 1) rfl h2 (args_nil 2)
  obtain ⟨cc, x, hx⟩ := args_pay (C := X) (f := 11) (i := 0) rfl h hx2
  obtain ⟨code, hb, ⟨ex, fr, H1⟩, ⟨he, hfr, hH⟩, hr⟩ := same_code cc c2 l m hl
  simp only at he hfr hH
  subst he; subst hfr; subst hH
  exact Ev1.plain (l := [.bool (l == m)]) (evT_below X) Tryd.func11 hb hx (by simp [idsL, ids, ids_tx]) (by simp [gtag]) hr (.inr rfl) rfl rfl rfl

end Go.Proofs.YtfkbemllgeopfaaDoor
