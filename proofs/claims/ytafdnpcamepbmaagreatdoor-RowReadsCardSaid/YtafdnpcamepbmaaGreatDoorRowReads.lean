/- RowReads: whatever the bytes, the number, the types, the law returns true and leaves its arguments, as its tied card says; proved over the abstract machine: walks of ReadText, ReadBinary and Turned, of the document's, and that they tell the same. No conditions. -/
import Derived.Test.YtafdnpcamepbmaaGreatDoorRows
import Derived.Test.YtafdnpcamepbmaaGreatDoorCards
import Derived.Test.YtafdnpcamepbmaaGreatDoorTie
import Derived.Lay
import Derived.Test.YtafdnpcamepbmaaGreatDoorMg11
import Derived.Test.YtafdnpcamepbmaaGreatDoorAm3
namespace Go.Proofs.YtafdnpcamepbmaaGreatDoor
open Go.ChangeShapes Go.WideShapes Go.ChangeAt Go.RowKit

set_option maxRecDepth 100000 in
theorem gOk (W : World) (h : laidMetH Tryz.prog Rows.rowReadsRow.laid W) : AM.GOk X W := by
  rw [Go.MakeChecks.laidMetH_plain _ _ _ (by kernel_rfl)] at h
  refine AM.gok_list (L := globs) rfl fun x hx => ?_
  simp only [globs, List.mem_cons, List.not_mem_nil, or_false] at hx
  rcases hx with hx | hx | hx
  · subst hx
    exact AM.gone_int (P := Tryz.prog) (AM.tab_cells (g := 0) (k := .u64) (zs := [1, 10, 100, 1000, 10000, 100000, 1000000, 10000000, 100000000, 1000000000, 10000000000, 100000000000, 1000000000000, 10000000000000, 100000000000000, 1000000000000000, 10000000000000000, 100000000000000000, 1000000000000000000, 10000000000000000000]) (t := 110) (e := 37) (n := 20) (show _ ∈ Rows.rowReadsRow.laid from .tail _ (.tail _ (.head _))) (by kernel_rfl) (by kernel_rfl) (by kernel_rfl) (by kernel_rfl) (by kernel_rfl) (by kernel_rfl) h) (by kernel_rfl) (by kernel_rfl)
  · subst hx
    exact AM.gone_bytes (P := Tryz.prog) (l := [0, 1, 28, 2, 29, 14, 24, 3, 30, 22, 20, 15, 25, 17, 4, 8, 31, 27, 13, 23, 21, 19, 16, 7, 26, 12, 18, 6, 11, 5, 10, 9]) (AM.tab_cells (g := 1) (k := .u8) (zs := ([0, 1, 28, 2, 29, 14, 24, 3, 30, 22, 20, 15, 25, 17, 4, 8, 31, 27, 13, 23, 21, 19, 16, 7, 26, 12, 18, 6, 11, 5, 10, 9] : List UInt8).map fun b => (b.toNat : Int)) (t := 131) (e := 5) (n := 32) (show _ ∈ Rows.rowReadsRow.laid from .head _) (by kernel_rfl) (by kernel_rfl) (by kernel_rfl) (by kernel_rfl) (by kernel_rfl) (by kernel_rfl) h) (by kernel_rfl) (by kernel_rfl)
  · subst hx
    exact AM.gone_bytes (P := Tryz.prog) (l := [0, 1, 56, 2, 57, 49, 28, 3, 61, 58, 42, 50, 38, 29, 17, 4, 62, 47, 59, 36, 45, 43, 51, 22, 53, 39, 33, 30, 24, 18, 12, 5, 63, 55, 48, 27, 60, 41, 37, 16, 46, 35, 44, 21, 52, 32, 23, 11, 54, 26, 40, 15, 34, 20, 31, 10, 25, 14, 19, 9, 13, 8, 7, 6]) (AM.tab_cells (g := 2) (k := .u8) (zs := ([0, 1, 56, 2, 57, 49, 28, 3, 61, 58, 42, 50, 38, 29, 17, 4, 62, 47, 59, 36, 45, 43, 51, 22, 53, 39, 33, 30, 24, 18, 12, 5, 63, 55, 48, 27, 60, 41, 37, 16, 46, 35, 44, 21, 52, 32, 23, 11, 54, 26, 40, 15, 34, 20, 31, 10, 25, 14, 19, 9, 13, 8, 7, 6] : List UInt8).map fun b => (b.toNat : Int)) (t := 132) (e := 5) (n := 64) (show _ ∈ Rows.rowReadsRow.laid from .tail _ (.head _)) (by kernel_rfl) (by kernel_rfl) (by kernel_rfl) (by kernel_rfl) (by kernel_rfl) (by kernel_rfl) h) (by kernel_rfl) (by kernel_rfl)


theorem tC5 : Tryz.prog.cellsOf 5 = 1 := by kernel_rfl
theorem tU22 : Tryz.prog.underlying 22 = some (.slice 5) := by kernel_rfl
theorem tU3 : Tryz.prog.underlying 3 = some (.int .i64) := by kernel_rfl
theorem tU5 : Tryz.prog.underlying 5 = some (.int .u8) := by kernel_rfl

theorem witness_laid {H : Type} {enc : TypeId × Value → H} {C : Checked} {os : Os} {f : FuncId} {fn : Func} {s : ChangeSpec} {conds : List PathCond} {apart : Bool} {Y : World → Array Value → Prop} (w0 : World) (args : Array Value) (fuel : Nat) (hos : w0.os = os)
    (hsh : (w0.forCall (fun _ _ => 0) ⟨#[], args, []⟩).Shaped C.prog) (hok : Input.okWideB C.prog (w0.forCall (fun _ _ => 0) ⟨#[], args, []⟩) f ⟨#[], args, []⟩ = true)
    (hpre : s.preB enc C.prog fn conds apart (w0.forCall (fun _ _ => 0) ⟨#[], args, []⟩).memory args fuel = true) (hsz : s.sizedB enc C.prog fn apart (w0.forCall (fun _ _ => 0) ⟨#[], args, []⟩).memory args fuel = true)
    (hx : Y (w0.forCall (fun _ _ => 0) ⟨#[], args, []⟩).memory args) :
    ∃ (w : World) (tape : Tape) (i : Input), w.os = os ∧ (w.forCall tape i).Shaped C.prog ∧ i.vars = [] ∧ Input.okWide C.prog (w.forCall tape i) .any w.heap.size f i ∧
      ((s.pre enc C.prog fn conds apart (w.forCall tape i).memory i.args ∧ Y (w.forCall tape i).memory i.args) ∧ sizedMet enc C.prog fn (OpenSpec.ofChange s) apart (w.forCall tape i).memory i.args) ∧
      ({} : Assume).holds C.prog (lone (Frame.enter C.prog f i.args .normal) [] (w.forCall tape i)) := by
  refine ⟨w0, fun _ _ => 0, ⟨#[], args, []⟩, hos, hsh, (Input.okWide_of_okWideB (base := 0) hok).1, (Input.okWide_of_okWideB hok).2, ⟨⟨ChangeSpec.pre_of_preB hpre, hx⟩, sizedMet_of_sizedB hsz⟩, ?_⟩
  simp only [Assume.holds]
  exact ⟨by simp, by simp, fun _ => Modest.zero, by simp, by simp⟩

theorem rowReads_met (os : Os) (args : Array Value) : laidMetH Tryz.prog Rows.rowReadsRow.laid ((World.laidAll Tryz.prog os Rows.rowReadsRow.laid).forCall (fun _ _ => 0) ⟨#[], args, []⟩).memory := by
  rw [Go.MakeChecks.laidMetH_plain _ _ _ (by kernel_rfl)]
  exact laidMet_laidAll _ (by kernel_rfl) (by kernel_rfl)

set_option maxRecDepth 100000 in
theorem rowReads_lifted (os : Os) (started : os.Started) (H : Type) (enc : TypeId × Value → H) :
    ReturnsInHanded {} Tryz.checked os 3 .any (fun w args => (Rows.rowReadsSpec.pre enc Tryz.prog Tryz.f3 [] false w args ∧ laidMetH Tryz.prog Rows.rowReadsRow.laid w) ∧ sizedMet enc Tryz.prog Tryz.f3 (OpenSpec.ofChange Rows.rowReadsSpec) false w args)
      (Rows.rowReadsSpec.post enc Tryz.prog Tryz.f3 false true false false) := by
  refine AM.law_lifted_laid (D := Tryz.checked) (X := X) rfl ctxOk (fun W h => gOk W h) own started (by kernel_rfl) Tryz.func3
    (witness_laid (enc := enc) (C := Tryz.checked) (os := os) (Y := fun w _ => laidMetH Tryz.prog Rows.rowReadsRow.laid w) (World.laidAll Tryz.prog os Rows.rowReadsRow.laid) #[.slice .none 0 0, .int .i64 0, .slice .none 0 0] 8 (World.laidAll_os _ _ _) (World.shaped_of_ZipB (by kernel_rfl) (by kernel_rfl)) (by kernel_rfl) (by kernel_rfl) (by kernel_rfl) (rowReads_met os _))
    (by kernel_rfl) (by kernel_rfl) full ?_ rfl rfl (by kernel_rfl) ?_ ?_
  · have : ∀ t ∈ [22, 3, 23], t < Tryz.prog.types.size := by
      rw [show Tryz.prog.types.size = 200 - (200 - Tryz.prog.types.size) from by kernel_rfl]
      decide +kernel
    exact this
  · intro ds hd
    match ds, hd with
    | [a, b, c], _ => rfl
  · intro W base args ds ps hval hA
    have hA' : DataW.TrodAll enc Tryz.prog W 0 (fun _ => true) true [22, 3, 23] args.toList ds ps := hA
    obtain ⟨v0, v1, v2, d0, d1, d2, p0, p1, p2, rfl, rfl, rfl, h0, h1, h2⟩ := trodAll_three hA'
    obtain ⟨c0, l0, hc0, _, r0⟩ := AM.arg_bytes0 tU22 tU5 tC5 (hval 0 22 v0 rfl rfl) h0
    obtain ⟨x1, hx1, r1⟩ := AM.arg_int tU3 (hval 1 3 v1 rfl rfl) h1
    obtain ⟨c2, l2, hq2, hc2, hm2, r2⟩ := arg_tys (hval 2 23 v2 rfl rfl) h2
    obtain ⟨code, hcode, ⟨o, ⟨he, h4⟩, hrun⟩⟩ := reads_code c0 l0 x1 c2 l2 hc0 hc2 hq2
    obtain ⟨n, hn⟩ := AM.Ev1.toldP (H := []) (args := [.ro c0 (.pb l0) 1, .int .i64 x1, .ro c2 (.pr 2 (l2.map Ty.pay)) 1]) (l := [.bool true]) (AM.evT_below X) Tryz.func3 hcode rfl rfl (by simp [AM.gtag]) rfl rfl rfl ⟨o, ⟨he, by show some [AM.getF o.fr 6] = _; rw [h4]⟩, hrun⟩
    exact ⟨n, _, [], hn n (Nat.le_refl _), r0, r1, r2, trivial⟩

theorem rowReads_row : Rows.RowReadsSaid :=
  OpenClaim.holds_of_wide 3 Tryz.f3 rfl rfl rfl rfl rfl rfl rfl ⟨rfl, rfl, rfl, rfl, rfl⟩ rfl rfl rfl rfl rfl (by kernel_rfl) Tryz.func3 (by kernel_rfl)
    (of_decide_eq_true (by kernel_rfl)) (by unfold Func.isWrapper; first | (rw [if_pos (by decide +kernel)]; kernel_rfl) | (rw [if_neg (by decide +kernel)]; exact ⟨rfl, rfl⟩))
    (fun os started H enc _ => rowReads_lifted os started H enc)

theorem rowReads_holds : Rows.RowReadsCardSaid :=
  Claim7.holds_tied_plain_at .later [] [.data, .data, .data] true (true, "20b0087917f482ae8014e1d24dafda7a69fae7f27c5723d3917c3956921f6644") false
    rowReads_row (fun _ h => by cases h) (by kernel_rfl) (fun _ h => by cases h) rowReads_row_tie rfl ⟨rfl, rfl⟩ (by kernel_rfl) rfl
    (fun f fn hf hfn => by
      obtain rfl : f = 3 := Option.some.inj ((show Tryz.prog.funcNamed Rows.rowReadsRow.func = some 3 by kernel_rfl).symm.trans hf) |>.symm
      obtain rfl : fn = Tryz.f3 := (Option.some.inj (Tryz.func3.symm.trans hfn)).symm
      exact ⟨by kernel_rfl, fun j t ht => by
        have hp : Tryz.f3.params = #[22, 3, 23] := rfl
        rw [hp] at ht
        match j with
        | 0 =>
          simp at ht
          subst ht
          exact (show Tryz.prog.wantsStandIn 22 = false by kernel_rfl)
        | 1 =>
          simp at ht
          subst ht
          exact (show Tryz.prog.wantsStandIn 3 = false by kernel_rfl)
        | 2 =>
          simp at ht
          subst ht
          exact (show Tryz.prog.wantsStandIn 23 = false by kernel_rfl)
        | j + 3 => simp at ht⟩)
    (by kernel_rfl)

end Go.Proofs.YtafdnpcamepbmaaGreatDoor
