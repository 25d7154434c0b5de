/- CapsCalls: whatever the two words, the names, the flags, the law returns true and leaves its arguments, as its tied card says; proved over the abstract machine: walks of Both, Of, Names, Status and Check, of the document's, and that they tell the same. No conditions. -/
import Derived.Test.YtfkbemllgeopfaaDoorRows
import Derived.Test.YtfkbemllgeopfaaDoorCards
import Derived.Test.YtfkbemllgeopfaaDoorTie
import Derived.Lay
import Derived.Test.YtfkbemllgeopfaaDoorMg1
import Derived.Test.YtfkbemllgeopfaaDoorAm3
namespace Go.Proofs.YtfkbemllgeopfaaDoor
open Go.ChangeShapes Go.WideShapes Go.ChangeAt Go.RowKit

set_option maxRecDepth 100000 in
theorem gOk (W : World) (h : laidMetH Tryd.prog Rows.capsCallsRow.laid W) : AM.GOk X W := by
  rw [Go.MakeChecks.laidMetH_plain _ _ _ (by kernel_rfl)] at h
  refine AM.gok_list (L := globs) rfl fun x hx => ?_
  simp only [globs, List.mem_cons, List.not_mem_nil, or_false] at hx
  rcases hx with hx | hx | hx | hx
  · subst hx
    exact AM.gone_int (P := Tryd.prog) (AM.tab_cells (g := 2) (k := .u64) (zs := [1, 10, 100, 1000, 10000, 100000, 1000000, 10000000, 100000000, 1000000000, 10000000000, 100000000000, 1000000000000, 10000000000000, 100000000000000, 1000000000000000, 10000000000000000, 100000000000000000, 1000000000000000000, 10000000000000000000]) (t := 80) (e := 63) (n := 20) (show _ ∈ Rows.capsCallsRow.laid from .tail _ (.tail _ (.head _))) (by kernel_rfl) (by kernel_rfl) (by kernel_rfl) (by kernel_rfl) (by kernel_rfl) (by kernel_rfl) h) (by kernel_rfl) (by kernel_rfl)
  · subst hx
    exact AM.gone_bytes (P := Tryd.prog) (l := [0, 1, 28, 2, 29, 14, 24, 3, 30, 22, 20, 15, 25, 17, 4, 8, 31, 27, 13, 23, 21, 19, 16, 7, 26, 12, 18, 6, 11, 5, 10, 9]) (AM.tab_cells (g := 3) (k := .u8) (zs := ([0, 1, 28, 2, 29, 14, 24, 3, 30, 22, 20, 15, 25, 17, 4, 8, 31, 27, 13, 23, 21, 19, 16, 7, 26, 12, 18, 6, 11, 5, 10, 9] : List UInt8).map fun b => (b.toNat : Int)) (t := 87) (e := 5) (n := 32) (show _ ∈ Rows.capsCallsRow.laid from .head _) (by kernel_rfl) (by kernel_rfl) (by kernel_rfl) (by kernel_rfl) (by kernel_rfl) (by kernel_rfl) h) (by kernel_rfl) (by kernel_rfl)
  · subst hx
    exact AM.gone_bytes (P := Tryd.prog) (l := [0, 1, 56, 2, 57, 49, 28, 3, 61, 58, 42, 50, 38, 29, 17, 4, 62, 47, 59, 36, 45, 43, 51, 22, 53, 39, 33, 30, 24, 18, 12, 5, 63, 55, 48, 27, 60, 41, 37, 16, 46, 35, 44, 21, 52, 32, 23, 11, 54, 26, 40, 15, 34, 20, 31, 10, 25, 14, 19, 9, 13, 8, 7, 6]) (AM.tab_cells (g := 4) (k := .u8) (zs := ([0, 1, 56, 2, 57, 49, 28, 3, 61, 58, 42, 50, 38, 29, 17, 4, 62, 47, 59, 36, 45, 43, 51, 22, 53, 39, 33, 30, 24, 18, 12, 5, 63, 55, 48, 27, 60, 41, 37, 16, 46, 35, 44, 21, 52, 32, 23, 11, 54, 26, 40, 15, 34, 20, 31, 10, 25, 14, 19, 9, 13, 8, 7, 6] : List UInt8).map fun b => (b.toNat : Int)) (t := 88) (e := 5) (n := 64) (show _ ∈ Rows.capsCallsRow.laid from .tail _ (.head _)) (by kernel_rfl) (by kernel_rfl) (by kernel_rfl) (by kernel_rfl) (by kernel_rfl) (by kernel_rfl) h) (by kernel_rfl) (by kernel_rfl)
  · subst hx
    exact AM.gone_bytes (P := Tryd.prog) (l := [0, 0, 0, 0, 0, 0, 0, 0, 0, 1, 1, 1, 1, 1, 0, 0, 0, 0, 0, 0, 0, 0, 0, 0, 0, 0, 0, 0, 0, 0, 0, 0, 1, 0, 0, 0, 0, 0, 0, 0, 0, 0, 0, 0, 0, 0, 0, 0, 0, 0, 0, 0, 0, 0, 0, 0, 0, 0, 0, 0, 0, 0, 0, 0, 0, 0, 0, 0, 0, 0, 0, 0, 0, 0, 0, 0, 0, 0, 0, 0, 0, 0, 0, 0, 0, 0, 0, 0, 0, 0, 0, 0, 0, 0, 0, 0, 0, 0, 0, 0, 0, 0, 0, 0, 0, 0, 0, 0, 0, 0, 0, 0, 0, 0, 0, 0, 0, 0, 0, 0, 0, 0, 0, 0, 0, 0, 0, 0, 0, 0, 0, 0, 0, 0, 0, 0, 0, 0, 0, 0, 0, 0, 0, 0, 0, 0, 0, 0, 0, 0, 0, 0, 0, 0, 0, 0, 0, 0, 0, 0, 0, 0, 0, 0, 0, 0, 0, 0, 0, 0, 0, 0, 0, 0, 0, 0, 0, 0, 0, 0, 0, 0, 0, 0, 0, 0, 0, 0, 0, 0, 0, 0, 0, 0, 0, 0, 0, 0, 0, 0, 0, 0, 0, 0, 0, 0, 0, 0, 0, 0, 0, 0, 0, 0, 0, 0, 0, 0, 0, 0, 0, 0, 0, 0, 0, 0, 0, 0, 0, 0, 0, 0, 0, 0, 0, 0, 0, 0, 0, 0, 0, 0, 0, 0, 0, 0, 0, 0, 0, 0, 0, 0, 0, 0, 0, 0]) (AM.tab_cells (g := 0) (k := .u8) (zs := ([0, 0, 0, 0, 0, 0, 0, 0, 0, 1, 1, 1, 1, 1, 0, 0, 0, 0, 0, 0, 0, 0, 0, 0, 0, 0, 0, 0, 0, 0, 0, 0, 1, 0, 0, 0, 0, 0, 0, 0, 0, 0, 0, 0, 0, 0, 0, 0, 0, 0, 0, 0, 0, 0, 0, 0, 0, 0, 0, 0, 0, 0, 0, 0, 0, 0, 0, 0, 0, 0, 0, 0, 0, 0, 0, 0, 0, 0, 0, 0, 0, 0, 0, 0, 0, 0, 0, 0, 0, 0, 0, 0, 0, 0, 0, 0, 0, 0, 0, 0, 0, 0, 0, 0, 0, 0, 0, 0, 0, 0, 0, 0, 0, 0, 0, 0, 0, 0, 0, 0, 0, 0, 0, 0, 0, 0, 0, 0, 0, 0, 0, 0, 0, 0, 0, 0, 0, 0, 0, 0, 0, 0, 0, 0, 0, 0, 0, 0, 0, 0, 0, 0, 0, 0, 0, 0, 0, 0, 0, 0, 0, 0, 0, 0, 0, 0, 0, 0, 0, 0, 0, 0, 0, 0, 0, 0, 0, 0, 0, 0, 0, 0, 0, 0, 0, 0, 0, 0, 0, 0, 0, 0, 0, 0, 0, 0, 0, 0, 0, 0, 0, 0, 0, 0, 0, 0, 0, 0, 0, 0, 0, 0, 0, 0, 0, 0, 0, 0, 0, 0, 0, 0, 0, 0, 0, 0, 0, 0, 0, 0, 0, 0, 0, 0, 0, 0, 0, 0, 0, 0, 0, 0, 0, 0, 0, 0, 0, 0, 0, 0, 0, 0, 0, 0, 0, 0] : List UInt8).map fun b => (b.toNat : Int)) (t := 53) (e := 5) (n := 256) (show _ ∈ Rows.capsCallsRow.laid from .tail _ (.tail _ (.tail _ (.tail _ (.head _))))) (by kernel_rfl) (by kernel_rfl) (by kernel_rfl) (by kernel_rfl) (by kernel_rfl) (by kernel_rfl) h) (by kernel_rfl) (by kernel_rfl)



theorem tU23 : Tryd.prog.underlying 23 = some (.int .u32) := by kernel_rfl
theorem tU37 : Tryd.prog.underlying 37 = some (.int .u16) := by kernel_rfl
theorem lU32 : Tryd.prog.underlying 32 = some (.slice 9) := by kernel_rfl
theorem lL9 : AM.leaves Tryd.prog 1 9 = some [.s] := by kernel_rfl
theorem lC9 : Tryd.prog.cellsOf 9 = 1 := by kernel_rfl
theorem leaf_str {l : List AM.AV} (h : ∀ a ∈ l, ∃ u, AM.LeafRel .s a u) : ∀ a ∈ l, ∃ s : List UInt8, a = .str s := fun a ha => by
  obtain ⟨u, s, h1, _⟩ := h a ha
  exact ⟨s, h1⟩

theorem witness_laid {H : Type} {enc : TypeId × Value → H} {C : Checked} {os : Os} {f : FuncId} {fn : Func} {s : ChangeSpec} {conds : List PathCond} {apart : Bool} {Y : World → Array Value → Prop} (w0 : World) (args : Array Value) (fuel : Nat) (hos : w0.os = os)
    (hsh : (w0.forCall (fun _ _ => 0) ⟨#[], args, []⟩).Shaped C.prog) (hok : Input.okWideB C.prog (w0.forCall (fun _ _ => 0) ⟨#[], args, []⟩) f ⟨#[], args, []⟩ = true)
    (hpre : s.preB enc C.prog fn conds apart (w0.forCall (fun _ _ => 0) ⟨#[], args, []⟩).memory args fuel = true) (hsz : s.sizedB enc C.prog fn apart (w0.forCall (fun _ _ => 0) ⟨#[], args, []⟩).memory args fuel = true)
    (hx : Y (w0.forCall (fun _ _ => 0) ⟨#[], args, []⟩).memory args) :
    ∃ (w : World) (tape : Tape) (i : Input), w.os = os ∧ (w.forCall tape i).Shaped C.prog ∧ i.vars = [] ∧ Input.okWide C.prog (w.forCall tape i) .any w.heap.size f i ∧
      ((s.pre enc C.prog fn conds apart (w.forCall tape i).memory i.args ∧ Y (w.forCall tape i).memory i.args) ∧ sizedMet enc C.prog fn (OpenSpec.ofChange s) apart (w.forCall tape i).memory i.args) ∧
      ({} : Assume).holds C.prog (lone (Frame.enter C.prog f i.args .normal) [] (w.forCall tape i)) := by
  refine ⟨w0, fun _ _ => 0, ⟨#[], args, []⟩, hos, hsh, (Input.okWide_of_okWideB (base := 0) hok).1, (Input.okWide_of_okWideB hok).2, ⟨⟨ChangeSpec.pre_of_preB hpre, hx⟩, sizedMet_of_sizedB hsz⟩, ?_⟩
  simp only [Assume.holds]
  exact ⟨by simp, by simp, fun _ => Modest.zero, by simp, by simp⟩

theorem capsCalls_met (os : Os) (args : Array Value) : laidMetH Tryd.prog Rows.capsCallsRow.laid ((World.laidAll Tryd.prog os Rows.capsCallsRow.laid).forCall (fun _ _ => 0) ⟨#[], args, []⟩).memory := by
  rw [Go.MakeChecks.laidMetH_plain _ _ _ (by kernel_rfl)]
  exact laidMet_laidAll _ (by kernel_rfl) (by kernel_rfl)

set_option maxRecDepth 100000 in
theorem capsCalls_lifted (os : Os) (started : os.Started) (H : Type) (enc : TypeId × Value → H) :
    ReturnsInHanded {} Tryd.checked os 6 .any (fun w args => (Rows.capsCallsSpec.pre enc Tryd.prog Tryd.f6 [] false w args ∧ laidMetH Tryd.prog Rows.capsCallsRow.laid w) ∧ sizedMet enc Tryd.prog Tryd.f6 (OpenSpec.ofChange Rows.capsCallsSpec) false w args)
      (Rows.capsCallsSpec.post enc Tryd.prog Tryd.f6 false true false false) := by
  refine AM.law_lifted_laid (D := Tryd.checked) (X := X) rfl ctxOk (fun W h => gOk W h) own started (by kernel_rfl) Tryd.func6
    (witness_laid (enc := enc) (C := Tryd.checked) (os := os) (Y := fun w _ => laidMetH Tryd.prog Rows.capsCallsRow.laid w) (World.laidAll Tryd.prog os Rows.capsCallsRow.laid) #[.int .u32 0, .int .u32 0, .slice .none 0 0, .int .u16 0] 8 (World.laidAll_os _ _ _) (World.shaped_of_ZipB (by kernel_rfl) (by kernel_rfl)) (by kernel_rfl) (by kernel_rfl) (by kernel_rfl) (capsCalls_met os _))
    (by kernel_rfl) (by kernel_rfl) full ?_ rfl rfl (by kernel_rfl) ?_ ?_
  · have : ∀ t ∈ [23, 23, 32, 37], t < Tryd.prog.types.size := by
      rw [show Tryd.prog.types.size = 200 - (200 - Tryd.prog.types.size) from by kernel_rfl]
      decide +kernel
    exact this
  · intro ds hd
    match ds, hd with
    | [a, b, c, d], _ => rfl
  · intro W base args ds ps hval hA
    have hA' : DataW.TrodAll enc Tryd.prog W 0 (fun _ => true) true [23, 23, 32, 37] args.toList ds ps := hA
    obtain ⟨v0, v1, v2, v3, d0, d1, d2, d3, p0, p1, p2, p3, rfl, rfl, rfl, h0, h1, h2, h3⟩ := trodAll_four hA'
    obtain ⟨x0, hx0, r0⟩ := AM.arg_int tU23 (hval 0 23 v0 rfl rfl) h0
    obtain ⟨k0, rfl, b0⟩ := AM.nat_wf rfl hx0
    obtain ⟨x1, hx1, r1⟩ := AM.arg_int tU23 (hval 1 23 v1 rfl rfl) h1
    obtain ⟨k1, rfl, b1⟩ := AM.nat_wf rfl hx1
    obtain ⟨c2, xs2, hq2, hc2, hm2, hs2, r2⟩ := AM.arg_leafs lU32 lL9 lC9 (hval 2 32 v2 rfl rfl) h2
    obtain ⟨x3, hx3, r3⟩ := AM.arg_int tU37 (hval 3 37 v3 rfl rfl) h3
    obtain ⟨k3, rfl, b3⟩ := AM.nat_wf rfl hx3
    obtain ⟨code, hcode, ⟨o, ⟨he, h4⟩, hrun⟩⟩ := calls_law k0 k1 c2 xs2 k3 b0 b1 b3 (leaf_str hq2)
    obtain ⟨n, hn⟩ := AM.Ev1.toldP (H := []) (args := [.int .u32 (k0 : Nat), .int .u32 (k1 : Nat), .ro c2 (.pc xs2) 1, .int .u16 (k3 : Nat)]) (l := [.bool true]) (AM.evT_below X) Tryd.func6 hcode rfl rfl (by simp [AM.gtag]) rfl rfl rfl ⟨o, ⟨he, by show some [AM.getF o.fr 8] = _; rw [h4]⟩, hrun⟩
    exact ⟨n, _, [], hn n (Nat.le_refl _), r0, r1, r2, r3, trivial⟩

theorem capsCalls_row : Rows.CapsCallsSaid :=
  OpenClaim.holds_of_wide 6 Tryd.f6 rfl rfl rfl rfl rfl rfl rfl ⟨rfl, rfl, rfl, rfl, rfl⟩ rfl rfl rfl rfl rfl (by kernel_rfl) Tryd.func6 (by kernel_rfl)
    (of_decide_eq_true (by kernel_rfl)) (by unfold Func.isWrapper; first | (rw [if_pos (by decide +kernel)]; kernel_rfl) | (rw [if_neg (by decide +kernel)]; exact ⟨rfl, rfl⟩))
    (fun os started H enc _ => capsCalls_lifted os started H enc)

theorem capsCalls_holds : Rows.CapsCallsCardSaid :=
  Claim7.holds_tied_plain_at .later [] [.data, .data, .data, .listed, .data] true (true, "e1a89c20f2859e1ede10f478735cb4ef32a0616888032d0052aea556b14c07ca") false
    capsCalls_row (fun _ h => by cases h) (by kernel_rfl) (fun _ h => by cases h) capsCalls_row_tie rfl ⟨rfl, rfl⟩ (by kernel_rfl) rfl
    (fun f fn hf hfn => by
      obtain rfl : f = 6 := Option.some.inj ((show Tryd.prog.funcNamed Rows.capsCallsRow.func = some 6 by kernel_rfl).symm.trans hf) |>.symm
      obtain rfl : fn = Tryd.f6 := (Option.some.inj (Tryd.func6.symm.trans hfn)).symm
      exact ⟨by kernel_rfl, fun j t ht => by
        have hp : Tryd.f6.params = #[23, 23, 32, 37] := rfl
        rw [hp] at ht
        match j with
        | 0 =>
          simp at ht
          subst ht
          exact (show Tryd.prog.wantsStandIn 23 = false by kernel_rfl)
        | 1 =>
          simp at ht
          subst ht
          exact (show Tryd.prog.wantsStandIn 23 = false by kernel_rfl)
        | 2 =>
          simp at ht
          subst ht
          exact (show Tryd.prog.wantsStandIn 32 = false by kernel_rfl)
        | 3 =>
          simp at ht
          subst ht
          exact (show Tryd.prog.wantsStandIn 37 = false by kernel_rfl)
        | j + 4 => simp at ht⟩)
    (by kernel_rfl)

end Go.Proofs.YtfkbemllgeopfaaDoor
