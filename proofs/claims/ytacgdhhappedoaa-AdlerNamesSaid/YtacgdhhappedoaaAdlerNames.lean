/- AdlerNames: the closed statement returns true; proved by running the abstract machine on it, its loops by their states. No conditions. -/
import Derived.Test.YtacgdhhappedoaaW4
namespace Go.Proofs.Ytacgdhhappedoaa
open Go.ChangeShapes Go.WideShapes Go.ChangeAt Go.RowKit

theorem adlerNames_run : ∃ n H', AM.callF X n 5 [] [] = some (.bool true, H') := by
  obtain ⟨n, h⟩ := names_ev
  exact ⟨n, [], h n (Nat.le_refl _)⟩

set_option maxRecDepth 100000 in
theorem adlerNames_lifted (os : Os) (started : os.Started) (H : Type) (enc : TypeId × Value → H) :
    ReturnsInHanded {} Try.checked os 5 .any (Rows.adlerNamesSpec.pre6 enc Try.prog Try.f5 Rows.adlerNamesRow.domain false) (Rows.adlerNamesSpec.post enc Try.prog Try.f5 false true false false) := by
  refine AM.law_lifted (D := Try.checked) (X := X) rfl ctxOk (fun _ => rfl) own started (by kernel_rfl) Try.func5
    (ChangeSpec.witness6 (enc := enc) (C := Try.checked) false ⟨#[], #[], []⟩ 8 (by kernel_rfl) (by kernel_rfl) (by kernel_rfl) (by kernel_rfl)) (by kernel_rfl) (by kernel_rfl) full (by intro t ht; cases ht) rfl rfl (by kernel_rfl) ?_ ?_
  · intro ds hd
    cases ds with
    | nil => rfl
    | cons => cases hd
  · intro W base args ds ps _ hA
    obtain ⟨n, H', h⟩ := adlerNames_run
    have hA' : DataW.TrodAll enc Try.prog W 0 (fun _ => true) true [] args.toList ds ps := hA
    obtain ⟨rfl, _, _⟩ := trodAll_none hA'
    exact ⟨n, [], H', h, trivial⟩

theorem adlerNames_holds : Rows.AdlerNamesSaid :=
  OpenClaim.holds_of_wide 5 Try.f5 rfl rfl rfl rfl rfl rfl rfl ⟨rfl, rfl, rfl, rfl, rfl⟩ rfl rfl rfl rfl rfl (by kernel_rfl) Try.func5 (by kernel_rfl)
    (of_decide_eq_true (by kernel_rfl)) (by unfold Func.isWrapper; first | (rw [if_pos (by decide +kernel)]; kernel_rfl) | (rw [if_neg (by decide +kernel)]; exact ⟨rfl, rfl⟩))
    (fun os started H enc _ => adlerNames_lifted os started H enc)

end Go.Proofs.Ytacgdhhappedoaa
