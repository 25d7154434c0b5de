/- ColumnNames: the closed statement returns true, as its tied card says; proved by running the abstract machine on it. No conditions. -/
import Derived.Test.YtkgchoknkakcgaaDoorRows
import Derived.Test.YtkgchoknkakcgaaDoorCards
import Derived.Test.YtkgchoknkakcgaaDoorTie
import Derived.Test.YtkgchoknkakcgaaDoorAm3
namespace Go.Proofs.YtkgchoknkakcgaaDoor
open Go.ChangeShapes Go.WideShapes Go.ChangeAt Go.RowKit

noncomputable def X : AM.Ctx := { P := Tryd.prog, G := fun _ => .none, rw := fun _ _ => false, keep := fun _ _ => .none, norm := fun _ _ => false, dr := fun _ _ => true, dy := fun f id => [(3, 5), (3, 11), (4, 7), (8, 10), (8, 11), (8, 12), (10, 10), (10, 11), (31, 3)].contains (f, id) }

theorem own : ownKnob Tryd.prog.godebug = .none := by kernel_rfl
theorem full : ∀ t e, t < Tryd.prog.types.size → Tryd.prog.underlying t = some (.slice e) → 0 < Tryd.prog.cellsOf e := slices_full_of Tryd.prog (by kernel_rfl)
theorem ctxOk : AM.CtxOk X := AM.ctxOk_of (by kernel_rfl) (by kernel_rfl)

set_option maxRecDepth 100000 in
theorem columnNames_run : AM.isTrue (AM.callF X 3000 5 [] []) = true := by kernel_rfl

theorem columnNames_met (os : Os) (args : Array Value) : laidMetH Tryd.prog Rows.columnNamesRow.laid ((AM.laidWorld Tryd.prog os Rows.columnNamesRow.laid).forCall (fun _ _ => 0) ⟨#[], args, []⟩).memory := by
  rw [Go.MakeChecks.laidMetH_plain _ _ _ (by kernel_rfl)]
  exact laidMet_of_run' 8 (by kernel_rfl) (by kernel_rfl)

set_option maxRecDepth 100000 in
theorem columnNames_lifted (os : Os) (started : os.Started) (H : Type) (enc : TypeId × Value → H) :
    ReturnsInHanded {} Tryd.checked os 5 .any (fun w args => (Rows.columnNamesSpec.pre enc Tryd.prog Tryd.f5 [] false w args ∧ laidMetH Tryd.prog Rows.columnNamesRow.laid w) ∧ sizedMet enc Tryd.prog Tryd.f5 (OpenSpec.ofChange Rows.columnNamesSpec) false w args)
      (Rows.columnNamesSpec.post enc Tryd.prog Tryd.f5 false true false false) := by
  refine AM.law_lifted_laid (D := Tryd.checked) (X := X) rfl ctxOk (fun W _ => AM.GOk.none (fun _ => rfl) W) own started (by kernel_rfl) Tryd.func5
    (ChangeSpec.witness_at (enc := enc) (C := Tryd.checked) (os := os) (X := fun w _ => laidMetH Tryd.prog Rows.columnNamesRow.laid w) false (AM.laidWorld Tryd.prog os Rows.columnNamesRow.laid) #[] 8 rfl (by kernel_rfl) (by kernel_rfl) (by kernel_rfl) (by kernel_rfl) (by kernel_rfl) (columnNames_met os _))
    (by kernel_rfl) (by kernel_rfl) full (by intro t ht; cases ht) rfl rfl (by kernel_rfl) ?_ ?_
  · intro ds hd
    cases ds with
    | nil => rfl
    | cons => cases hd
  · intro W base args ds ps _ hA
    obtain ⟨H', h⟩ := AM.isTrue_some columnNames_run
    have hA' : DataW.TrodAll enc Tryd.prog W 0 (fun _ => true) true [] args.toList ds ps := hA
    obtain ⟨rfl, _, _⟩ := trodAll_none hA'
    exact ⟨3000, [], H', h, trivial⟩

theorem columnNames_row : Rows.ColumnNamesSaid :=
  OpenClaim.holds_of_wide 5 Tryd.f5 rfl rfl rfl rfl rfl rfl rfl ⟨rfl, rfl, rfl, rfl, rfl⟩ rfl rfl rfl rfl rfl (by kernel_rfl) Tryd.func5 (by kernel_rfl)
    (of_decide_eq_true (by kernel_rfl)) (by unfold Func.isWrapper; first | (rw [if_pos (by decide +kernel)]; kernel_rfl) | (rw [if_neg (by decide +kernel)]; exact ⟨rfl, rfl⟩))
    (fun os started H enc _ => columnNames_lifted os started H enc)

theorem columnNames_holds : Rows.ColumnNamesCardSaid :=
  Claim7.holds_tied_plain_at .later [] [.data, .data, .data] true (true, "2cc09712232579b9ef0770f54b9d0160c17a2474230ab2ef2ac42d85f5510f1e") false
    columnNames_row (fun _ h => by cases h) (by kernel_rfl) (fun _ h => by cases h) columnNames_row_tie rfl ⟨rfl, rfl⟩ (by kernel_rfl) rfl
    (fun f fn hf hfn => by
      obtain rfl : f = 5 := Option.some.inj ((show Tryd.prog.funcNamed Rows.columnNamesRow.func = some 5 by kernel_rfl).symm.trans hf) |>.symm
      obtain rfl : fn = Tryd.f5 := (Option.some.inj (Tryd.func5.symm.trans hfn)).symm
      exact ⟨by kernel_rfl, fun j t ht => by
        have hp : Tryd.f5.params = #[] := rfl
        rw [hp] at ht
        simp at ht⟩)
    (by kernel_rfl)

end Go.Proofs.YtkgchoknkakcgaaDoor
