/- ParamNames: the closed statement returns true; proved by running the abstract machine on it. No conditions. -/
import Derived.Test.YtbmddnokokoofaaRows
import Derived.Test.YtbmddnokokoofaaAm3
namespace Go.Proofs.Ytbmddnokokoofaa
open Go.ChangeShapes Go.WideShapes Go.ChangeAt Go.RowKit

noncomputable def X : AM.Ctx := { P := Try.prog, G := fun _ => .none, rw := fun _ _ => false, keep := fun _ _ => .none, norm := fun _ _ => false, dr := fun _ _ => true, dy := fun f id => [(9, 43), (9, 50), (15, 19), (15, 26), (21, 7), (21, 11), (35, 3), (40, 10), (40, 19), (43, 24), (50, 6), (50, 9), (52, 22), (52, 23)].contains (f, id) }

theorem own : ownKnob Try.prog.godebug = .none := by kernel_rfl
theorem full : ∀ t e, t < Try.prog.types.size → Try.prog.underlying t = some (.slice e) → 0 < Try.prog.cellsOf e := slices_full_of Try.prog (by kernel_rfl)
theorem ctxOk : AM.CtxOk X := AM.ctxOk_of (by kernel_rfl) (by kernel_rfl)

set_option maxRecDepth 100000 in
theorem paramNames_run : AM.isTrue (AM.callF X 400 3 [] []) = true := by kernel_rfl

set_option maxRecDepth 100000 in
theorem paramNames_lifted (os : Os) (started : os.Started) (H : Type) (enc : TypeId × Value → H) :
    ReturnsInHanded {} Try.checked os 3 .any (Rows.paramNamesSpec.pre6 enc Try.prog Try.f3 Rows.paramNamesRow.domain false) (Rows.paramNamesSpec.post enc Try.prog Try.f3 false true false false) := by
  refine AM.law_lifted (D := Try.checked) (X := X) rfl ctxOk (fun _ => rfl) own started (by kernel_rfl) Try.func3
    (ChangeSpec.witness6 (enc := enc) (C := Try.checked) false ⟨#[], #[], []⟩ 8 (by kernel_rfl) (by kernel_rfl) (by kernel_rfl) (by kernel_rfl)) (by kernel_rfl) (by kernel_rfl) full (by intro t ht; cases ht) rfl rfl (by kernel_rfl) ?_ ?_
  · intro ds hd
    cases ds with
    | nil => rfl
    | cons => cases hd
  · intro W base args ds ps _ hA
    obtain ⟨H', h⟩ := AM.isTrue_some paramNames_run
    have hA' : DataW.TrodAll enc Try.prog W 0 (fun _ => true) true [] args.toList ds ps := hA
    obtain ⟨rfl, _, _⟩ := trodAll_none hA'
    exact ⟨400, [], H', h, trivial⟩

theorem paramNames_holds : Rows.ParamNamesSaid :=
  OpenClaim.holds_of_wide 3 Try.f3 rfl rfl rfl rfl rfl rfl rfl ⟨rfl, rfl, rfl, rfl, rfl⟩ rfl rfl rfl rfl rfl (by kernel_rfl) Try.func3 (by kernel_rfl)
    (of_decide_eq_true (by kernel_rfl)) (by unfold Func.isWrapper; first | (rw [if_pos (by decide +kernel)]; kernel_rfl) | (rw [if_neg (by decide +kernel)]; exact ⟨rfl, rfl⟩))
    (fun os started H enc _ => paramNames_lifted os started H enc)

end Go.Proofs.Ytbmddnokokoofaa
