/- CommandNames: the closed statement returns true, as its tied card says; proved by running the abstract machine on it. No conditions. -/
import Derived.Test.YtmdciglfpedhgaaDoorRows
import Derived.Test.YtmdciglfpedhgaaDoorCards
import Derived.Test.YtmdciglfpedhgaaDoorTie
import Derived.Test.YtmdciglfpedhgaaDoorAm3
namespace Go.Proofs.YtmdciglfpedhgaaDoor
open Go.ChangeShapes Go.WideShapes Go.ChangeAt Go.RowKit


def globs : List (Nat × AM.AV) := [(0, .pi .u64 [1, 10, 100, 1000, 10000, 100000, 1000000, 10000000, 100000000, 1000000000, 10000000000, 100000000000, 1000000000000, 10000000000000, 100000000000000, 1000000000000000, 10000000000000000, 100000000000000000, 1000000000000000000, 10000000000000000000])]

noncomputable def X : AM.Ctx := { P := Tryd.prog, G := AM.globF globs, rw := fun f i => [(39, 0)].contains (f, i), keep := fun _ _ => .none, norm := fun _ _ => false, dr := fun _ _ => true, dy := fun f id => [(3, 5), (3, 7), (7, 4), (7, 11), (7, 13), (7, 19), (9, 3), (9, 14), (9, 16), (19, 4), (19, 30), (26, 8), (26, 10), (26, 16), (29, 3)].contains (f, id) }

theorem own : ownKnob Tryd.prog.godebug = .none := by kernel_rfl
theorem full : ∀ t e, t < Tryd.prog.types.size → Tryd.prog.underlying t = some (.slice e) → 0 < Tryd.prog.cellsOf e := slices_full_of Tryd.prog (by kernel_rfl)
theorem ctxOk : AM.CtxOk X := AM.ctxOk_of (by kernel_rfl) (by kernel_rfl)

set_option maxRecDepth 100000 in
theorem gOk (W : World) (h : laidMetH Tryd.prog Rows.commandNamesRow.laid W) : AM.GOk X W := by
  rw [Go.MakeChecks.laidMetH_plain _ _ _ (by kernel_rfl)] at h
  refine AM.gok_list (L := globs) rfl fun x hx => ?_
  simp only [globs, List.mem_cons, List.not_mem_nil, or_false] at hx
  rcases hx with hx
  · subst hx
    exact AM.gone_int (P := Tryd.prog) (AM.tab_cells (g := 0) (k := .u64) (zs := [1, 10, 100, 1000, 10000, 100000, 1000000, 10000000, 100000000, 1000000000, 10000000000, 100000000000, 1000000000000, 10000000000000, 100000000000000, 1000000000000000, 10000000000000000, 100000000000000000, 1000000000000000000, 10000000000000000000]) (t := 67) (e := 43) (n := 20) (show _ ∈ Rows.commandNamesRow.laid from .tail _ (.tail _ (.head _))) (by kernel_rfl) (by kernel_rfl) (by kernel_rfl) (by kernel_rfl) (by kernel_rfl) (by kernel_rfl) h) (by kernel_rfl) (by kernel_rfl)

set_option maxRecDepth 100000 in
theorem commandNames_run : AM.isTrue (AM.callF X 300 4 [] []) = true := by kernel_rfl

theorem commandNames_met (os : Os) (args : Array Value) : laidMetH Tryd.prog Rows.commandNamesRow.laid ((AM.laidWorld Tryd.prog os Rows.commandNamesRow.laid).forCall (fun _ _ => 0) ⟨#[], args, []⟩).memory := by
  rw [Go.MakeChecks.laidMetH_plain _ _ _ (by kernel_rfl)]
  exact laidMet_of_run' 8 (by kernel_rfl) (by kernel_rfl)

set_option maxRecDepth 100000 in
theorem commandNames_lifted (os : Os) (started : os.Started) (H : Type) (enc : TypeId × Value → H) :
    ReturnsInHanded {} Tryd.checked os 4 .any (fun w args => (Rows.commandNamesSpec.pre enc Tryd.prog Tryd.f4 [] false w args ∧ laidMetH Tryd.prog Rows.commandNamesRow.laid w) ∧ sizedMet enc Tryd.prog Tryd.f4 (OpenSpec.ofChange Rows.commandNamesSpec) false w args)
      (Rows.commandNamesSpec.post enc Tryd.prog Tryd.f4 false true false false) := by
  refine AM.law_lifted_laid (D := Tryd.checked) (X := X) rfl ctxOk (fun W h => gOk W h) own started (by kernel_rfl) Tryd.func4
    (ChangeSpec.witness_at (enc := enc) (C := Tryd.checked) (os := os) (X := fun w _ => laidMetH Tryd.prog Rows.commandNamesRow.laid w) false (AM.laidWorld Tryd.prog os Rows.commandNamesRow.laid) #[] 8 rfl (by kernel_rfl) (by kernel_rfl) (by kernel_rfl) (by kernel_rfl) (by kernel_rfl) (commandNames_met os _))
    (by kernel_rfl) (by kernel_rfl) full (by intro t ht; cases ht) rfl rfl (by kernel_rfl) ?_ ?_
  · intro ds hd
    cases ds with
    | nil => rfl
    | cons => cases hd
  · intro W base args ds ps _ hA
    obtain ⟨H', h⟩ := AM.isTrue_some commandNames_run
    have hA' : DataW.TrodAll enc Tryd.prog W 0 (fun _ => true) true [] args.toList ds ps := hA
    obtain ⟨rfl, _, _⟩ := trodAll_none hA'
    exact ⟨300, [], H', h, trivial⟩

theorem commandNames_row : Rows.CommandNamesSaid :=
  OpenClaim.holds_of_wide 4 Tryd.f4 rfl rfl rfl rfl rfl rfl rfl ⟨rfl, rfl, rfl, rfl, rfl⟩ rfl rfl rfl rfl rfl (by kernel_rfl) Tryd.func4 (by kernel_rfl)
    (of_decide_eq_true (by kernel_rfl)) (by unfold Func.isWrapper; first | (rw [if_pos (by decide +kernel)]; kernel_rfl) | (rw [if_neg (by decide +kernel)]; exact ⟨rfl, rfl⟩))
    (fun os started H enc _ => commandNames_lifted os started H enc)

theorem commandNames_holds : Rows.CommandNamesCardSaid :=
  Claim7.holds_tied_plain_at .later [] [.data, .data, .data] true (true, "2c87bd31a9075da9b2bb12990e4c2ce2c7def6697c0210ad1591521818982292") false
    commandNames_row (fun _ h => by cases h) (by kernel_rfl) (fun _ h => by cases h) commandNames_row_tie rfl ⟨rfl, rfl⟩ (by kernel_rfl) rfl
    (fun f fn hf hfn => by
      obtain rfl : f = 4 := Option.some.inj ((show Tryd.prog.funcNamed Rows.commandNamesRow.func = some 4 by kernel_rfl).symm.trans hf) |>.symm
      obtain rfl : fn = Tryd.f4 := (Option.some.inj (Tryd.func4.symm.trans hfn)).symm
      exact ⟨by kernel_rfl, fun j t ht => by
        have hp : Tryd.f4.params = #[] := rfl
        rw [hp] at ht
        simp at ht⟩)
    (by kernel_rfl)

end Go.Proofs.YtmdciglfpedhgaaDoor
