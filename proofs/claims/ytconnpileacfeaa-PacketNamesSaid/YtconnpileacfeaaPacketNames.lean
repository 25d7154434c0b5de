/- PacketNames: the closed statement returns true; proved by running the abstract machine on it. No conditions. -/
import Derived.Test.YtconnpileacfeaaRows
import Derived.Test.YtconnpileacfeaaAm3
namespace Go.Proofs.Ytconnpileacfeaa
open Go.ChangeShapes Go.WideShapes Go.ChangeAt Go.RowKit

noncomputable def X : AM.Ctx := { P := Try.prog, G := fun _ => .none, rw := fun _ _ => false, keep := fun _ _ => .none, norm := fun _ _ => false, dr := fun _ _ => true, dy := fun f id => [(10, 8), (27, 9)].contains (f, id) }

theorem own : ownKnob Try.prog.godebug = .none := by kernel_rfl
theorem full : ∀ t e, t < Try.prog.types.size → Try.prog.underlying t = some (.slice e) → 0 < Try.prog.cellsOf e := slices_full_of Try.prog (by kernel_rfl)
theorem ctxOk : AM.CtxOk X := AM.ctxOk_of (by kernel_rfl) (by kernel_rfl)

set_option maxRecDepth 100000 in
theorem packetNames_run : AM.isTrue (AM.callF X 3000 4 [] []) = true := by kernel_rfl

set_option maxRecDepth 100000 in
theorem packetNames_lifted (os : Os) (started : os.Started) (H : Type) (enc : TypeId × Value → H) :
    ReturnsInHanded {} Try.checked os 4 .any (Rows.packetNamesSpec.pre6 enc Try.prog Try.f4 Rows.packetNamesRow.domain false) (Rows.packetNamesSpec.post enc Try.prog Try.f4 false true false false) := by
  refine AM.law_lifted (D := Try.checked) (X := X) rfl ctxOk (fun _ => rfl) own started (by kernel_rfl) Try.func4
    (ChangeSpec.witness6 (enc := enc) (C := Try.checked) false ⟨#[], #[], []⟩ 8 (by kernel_rfl) (by kernel_rfl) (by kernel_rfl) (by kernel_rfl)) (by kernel_rfl) (by kernel_rfl) full (by intro t ht; cases ht) rfl rfl (by kernel_rfl) ?_ ?_
  · intro ds hd
    cases ds with
    | nil => rfl
    | cons => cases hd
  · intro W base args ds ps _ hA
    obtain ⟨H', h⟩ := AM.isTrue_some packetNames_run
    have hA' : DataW.TrodAll enc Try.prog W 0 (fun _ => true) true [] args.toList ds ps := hA
    obtain ⟨rfl, _, _⟩ := trodAll_none hA'
    exact ⟨3000, [], H', h, trivial⟩

theorem packetNames_holds : Rows.PacketNamesSaid :=
  OpenClaim.holds_of_wide 4 Try.f4 rfl rfl rfl rfl rfl rfl rfl ⟨rfl, rfl, rfl, rfl, rfl⟩ rfl rfl rfl rfl rfl (by kernel_rfl) Try.func4 (by kernel_rfl)
    (of_decide_eq_true (by kernel_rfl)) (by unfold Func.isWrapper; first | (rw [if_pos (by decide +kernel)]; kernel_rfl) | (rw [if_neg (by decide +kernel)]; exact ⟨rfl, rfl⟩))
    (fun os started H enc _ => packetNames_lifted os started H enc)

end Go.Proofs.Ytconnpileacfeaa
