/- ColumnApart: whatever the types and the columns, the law returns true and leaves its arguments, as its tied card says; proved over the abstract machine: the walk of Append, and that a column's bytes give it back. No conditions. -/
import Derived.Test.YtkgchoknkakcgaaDoorRows
import Derived.Test.YtkgchoknkakcgaaDoorCards
import Derived.Test.YtkgchoknkakcgaaDoorTie
import Derived.Lay
import Derived.Test.YtkgchoknkakcgaaDoorP6
import Derived.Test.YtkgchoknkakcgaaDoorAm3
namespace Go.Proofs.YtkgchoknkakcgaaDoor
open Go.ChangeShapes Go.WideShapes Go.ChangeAt Go.RowKit

set_option maxRecDepth 100000 in
theorem gOk (W : World) (h : laidMetH Tryd.prog Rows.columnApartRow.laid W) : AM.GOk X W := by
  rw [Go.MakeChecks.laidMetH_plain _ _ _ (by kernel_rfl)] at h
  refine AM.gok_list (L := globs) rfl fun x hx => ?_
  simp only [globs, List.mem_cons, List.not_mem_nil, or_false] at hx
  rcases hx with hx | hx | hx
  · subst hx
    exact AM.gone_int (P := Tryd.prog) (AM.tab_cells (g := 0) (k := .u64) (zs := [1, 10, 100, 1000, 10000, 100000, 1000000, 10000000, 100000000, 1000000000, 10000000000, 100000000000, 1000000000000, 10000000000000, 100000000000000, 1000000000000000, 10000000000000000, 100000000000000000, 1000000000000000000, 10000000000000000000]) (t := 67) (e := 46) (n := 20) (show _ ∈ Rows.columnApartRow.laid from .tail _ (.tail _ (.head _))) (by kernel_rfl) (by kernel_rfl) (by kernel_rfl) (by kernel_rfl) (by kernel_rfl) (by kernel_rfl) h) (by kernel_rfl) (by kernel_rfl)
  · subst hx
    exact AM.gone_bytes (P := Tryd.prog) (l := [0, 1, 28, 2, 29, 14, 24, 3, 30, 22, 20, 15, 25, 17, 4, 8, 31, 27, 13, 23, 21, 19, 16, 7, 26, 12, 18, 6, 11, 5, 10, 9]) (AM.tab_cells (g := 1) (k := .u8) (zs := ([0, 1, 28, 2, 29, 14, 24, 3, 30, 22, 20, 15, 25, 17, 4, 8, 31, 27, 13, 23, 21, 19, 16, 7, 26, 12, 18, 6, 11, 5, 10, 9] : List UInt8).map fun b => (b.toNat : Int)) (t := 72) (e := 5) (n := 32) (show _ ∈ Rows.columnApartRow.laid from .head _) (by kernel_rfl) (by kernel_rfl) (by kernel_rfl) (by kernel_rfl) (by kernel_rfl) (by kernel_rfl) h) (by kernel_rfl) (by kernel_rfl)
  · subst hx
    exact AM.gone_bytes (P := Tryd.prog) (l := [0, 1, 56, 2, 57, 49, 28, 3, 61, 58, 42, 50, 38, 29, 17, 4, 62, 47, 59, 36, 45, 43, 51, 22, 53, 39, 33, 30, 24, 18, 12, 5, 63, 55, 48, 27, 60, 41, 37, 16, 46, 35, 44, 21, 52, 32, 23, 11, 54, 26, 40, 15, 34, 20, 31, 10, 25, 14, 19, 9, 13, 8, 7, 6]) (AM.tab_cells (g := 2) (k := .u8) (zs := ([0, 1, 56, 2, 57, 49, 28, 3, 61, 58, 42, 50, 38, 29, 17, 4, 62, 47, 59, 36, 45, 43, 51, 22, 53, 39, 33, 30, 24, 18, 12, 5, 63, 55, 48, 27, 60, 41, 37, 16, 46, 35, 44, 21, 52, 32, 23, 11, 54, 26, 40, 15, 34, 20, 31, 10, 25, 14, 19, 9, 13, 8, 7, 6] : List UInt8).map fun b => (b.toNat : Int)) (t := 73) (e := 5) (n := 64) (show _ ∈ Rows.columnApartRow.laid from .tail _ (.head _)) (by kernel_rfl) (by kernel_rfl) (by kernel_rfl) (by kernel_rfl) (by kernel_rfl) (by kernel_rfl) h) (by kernel_rfl) (by kernel_rfl)


theorem tU5 : Tryd.prog.underlying 5 = some (.int .u8) := by kernel_rfl
theorem uB : Tryd.prog.underlying 5 = some (.int .u8) := by kernel_rfl
theorem uH : Tryd.prog.underlying 23 = some (.int .u16) := by kernel_rfl
theorem uW : Tryd.prog.underlying 24 = some (.int .u32) := by kernel_rfl
theorem uS : Tryd.prog.underlying 9 = some .string := by kernel_rfl
theorem cB1 : Tryd.prog.cellsOf 5 = 1 := by kernel_rfl
theorem cH1 : Tryd.prog.cellsOf 23 = 1 := by kernel_rfl
theorem cW1 : Tryd.prog.cellsOf 24 = 1 := by kernel_rfl
theorem cS1 : Tryd.prog.cellsOf 9 = 1 := by kernel_rfl
theorem tF : (Tryd.prog.underlying 26).map AM.fldsOf = some [(9, 0), (9, 1), (9, 2), (9, 3), (9, 4), (23, 5), (24, 6), (5, 7), (23, 8), (5, 9)] := by kernel_rfl
theorem tCF : Tryd.prog.cellsOf 26 = 10 := by kernel_rfl

/-- a column that is an argument -/
theorem arg_co {H : Type} {enc : TypeId × Value → H} {W : World} {base : Nat} {v : Value} {d : DataW H} {ps : List MemPlace} (hval : Value.okWide Tryd.prog W .any base 26 v) (hd : DataW.Trod enc Tryd.prog W 0 (fun _ => true) true 26 v d ps) :
    ∃ (x : Co), CoOk x ∧ AM.VRel (AM.start W) (AM.T0 W.heap.size) (.agg x.pay) v := by
  obtain ⟨cs, rfl, hs, hc⟩ := AM.struct_cells2 tF (by simp) hval hd
  rw [tCF] at hs hc
  obtain ⟨n0, u0, x0, g0, h0⟩ := hc 0 _ rfl cS1 (by decide)
  obtain ⟨n1, u1, x1, g1, h1⟩ := hc 1 _ rfl cS1 (by decide)
  obtain ⟨n2, u2, x2, g2, h2⟩ := hc 2 _ rfl cS1 (by decide)
  obtain ⟨n3, u3, x3, g3, h3⟩ := hc 3 _ rfl cS1 (by decide)
  obtain ⟨n4, u4, x4, g4, h4⟩ := hc 4 _ rfl cS1 (by decide)
  obtain ⟨n5, u5, x5, g5, h5⟩ := hc 5 _ rfl cH1 (by decide)
  obtain ⟨n6, u6, x6, g6, h6⟩ := hc 6 _ rfl cW1 (by decide)
  obtain ⟨n7, u7, x7, g7, h7⟩ := hc 7 _ rfl cB1 (by decide)
  obtain ⟨n8, u8, x8, g8, h8⟩ := hc 8 _ rfl cH1 (by decide)
  obtain ⟨n9, u9, x9, g9, h9⟩ := hc 9 _ rfl cB1 (by decide)
  obtain ⟨s0, rfl, _⟩ := AM.cell_str uS h0
  obtain ⟨s1, rfl, _⟩ := AM.cell_str uS h1
  obtain ⟨s2, rfl, _⟩ := AM.cell_str uS h2
  obtain ⟨s3, rfl, _⟩ := AM.cell_str uS h3
  obtain ⟨s4, rfl, _⟩ := AM.cell_str uS h4
  obtain ⟨z5, rfl, w5⟩ := AM.cell_int uH h5
  obtain ⟨z6, rfl, w6⟩ := AM.cell_int uW h6
  obtain ⟨z7, rfl, w7⟩ := AM.cell_int uB h7
  obtain ⟨z8, rfl, w8⟩ := AM.cell_int uH h8
  obtain ⟨z9, rfl, w9⟩ := AM.cell_int uB h9
  obtain ⟨k5, rfl, b5⟩ := AM.nat_wf rfl w5
  obtain ⟨k6, rfl, b6⟩ := AM.nat_wf rfl w6
  obtain ⟨k7, rfl, b7⟩ := AM.nat_wf rfl w7
  obtain ⟨k8, rfl, b8⟩ := AM.nat_wf rfl w8
  obtain ⟨k9, rfl, b9⟩ := AM.nat_wf rfl w9
  refine ⟨⟨s0, s1, s2, s3, s4, k5, k6, k7, k8, k9⟩, ⟨b5, b6, b7, b8, b9⟩, AM.agg_rel hs rfl fun j a ha => ?_⟩
  match j, ha with
  | 0, ha => obtain rfl := Option.some.inj ha; exact ⟨_, g0, rfl, rfl⟩
  | 1, ha => obtain rfl := Option.some.inj ha; exact ⟨_, g1, rfl, rfl⟩
  | 2, ha => obtain rfl := Option.some.inj ha; exact ⟨_, g2, rfl, rfl⟩
  | 3, ha => obtain rfl := Option.some.inj ha; exact ⟨_, g3, rfl, rfl⟩
  | 4, ha => obtain rfl := Option.some.inj ha; exact ⟨_, g4, rfl, rfl⟩
  | 5, ha => obtain rfl := Option.some.inj ha; exact ⟨_, g5, rfl, rfl⟩
  | 6, ha => obtain rfl := Option.some.inj ha; exact ⟨_, g6, rfl, rfl⟩
  | 7, ha => obtain rfl := Option.some.inj ha; exact ⟨_, g7, rfl, rfl⟩
  | 8, ha => obtain rfl := Option.some.inj ha; exact ⟨_, g8, rfl, rfl⟩
  | 9, ha => obtain rfl := Option.some.inj ha; exact ⟨_, g9, rfl, rfl⟩


theorem witness_laid {H : Type} {enc : TypeId × Value → H} {C : Checked} {os : Os} {f : FuncId} {fn : Func} {s : ChangeSpec} {conds : List PathCond} {apart : Bool} {Y : World → Array Value → Prop} (w0 : World) (args : Array Value) (fuel : Nat) (hos : w0.os = os)
    (hsh : (w0.forCall (fun _ _ => 0) ⟨#[], args, []⟩).Shaped C.prog) (hok : Input.okWideB C.prog (w0.forCall (fun _ _ => 0) ⟨#[], args, []⟩) f ⟨#[], args, []⟩ = true)
    (hpre : s.preB enc C.prog fn conds apart (w0.forCall (fun _ _ => 0) ⟨#[], args, []⟩).memory args fuel = true) (hsz : s.sizedB enc C.prog fn apart (w0.forCall (fun _ _ => 0) ⟨#[], args, []⟩).memory args fuel = true)
    (hx : Y (w0.forCall (fun _ _ => 0) ⟨#[], args, []⟩).memory args) :
    ∃ (w : World) (tape : Tape) (i : Input), w.os = os ∧ (w.forCall tape i).Shaped C.prog ∧ i.vars = [] ∧ Input.okWide C.prog (w.forCall tape i) .any w.heap.size f i ∧
      ((s.pre enc C.prog fn conds apart (w.forCall tape i).memory i.args ∧ Y (w.forCall tape i).memory i.args) ∧ sizedMet enc C.prog fn (OpenSpec.ofChange s) apart (w.forCall tape i).memory i.args) ∧
      ({} : Assume).holds C.prog (lone (Frame.enter C.prog f i.args .normal) [] (w.forCall tape i)) := by
  refine ⟨w0, fun _ _ => 0, ⟨#[], args, []⟩, hos, hsh, (Input.okWide_of_okWideB (base := 0) hok).1, (Input.okWide_of_okWideB hok).2, ⟨⟨ChangeSpec.pre_of_preB hpre, hx⟩, sizedMet_of_sizedB hsz⟩, ?_⟩
  simp only [Assume.holds]
  exact ⟨by simp, by simp, fun _ => Modest.zero, by simp, by simp⟩

theorem columnApart_met (os : Os) (args : Array Value) : laidMetH Tryd.prog Rows.columnApartRow.laid ((World.laidAll Tryd.prog os Rows.columnApartRow.laid).forCall (fun _ _ => 0) ⟨#[], args, []⟩).memory := by
  rw [Go.MakeChecks.laidMetH_plain _ _ _ (by kernel_rfl)]
  exact laidMet_laidAll _ (by kernel_rfl) (by kernel_rfl)

set_option maxRecDepth 100000 in
theorem columnApart_lifted (os : Os) (started : os.Started) (H : Type) (enc : TypeId × Value → H) :
    ReturnsInHanded {} Tryd.checked os 4 .any (fun w args => (Rows.columnApartSpec.pre enc Tryd.prog Tryd.f4 [] false w args ∧ laidMetH Tryd.prog Rows.columnApartRow.laid w) ∧ sizedMet enc Tryd.prog Tryd.f4 (OpenSpec.ofChange Rows.columnApartSpec) false w args)
      (Rows.columnApartSpec.post enc Tryd.prog Tryd.f4 false true false false) := by
  refine AM.law_lifted_laid (D := Tryd.checked) (X := X) rfl ctxOk (fun W h => gOk W h) own started (by kernel_rfl) Tryd.func4
    (witness_laid (enc := enc) (C := Tryd.checked) (os := os) (Y := fun w _ => laidMetH Tryd.prog Rows.columnApartRow.laid w) (World.laidAll Tryd.prog os Rows.columnApartRow.laid) #[.int .u8 0, .int .u8 0, .agg #[.string ⟨⟨[]⟩⟩, .string ⟨⟨[]⟩⟩, .string ⟨⟨[]⟩⟩, .string ⟨⟨[]⟩⟩, .string ⟨⟨[]⟩⟩, .int .u16 0, .int .u32 0, .int .u8 0, .int .u16 0, .int .u8 0], .agg #[.string ⟨⟨[]⟩⟩, .string ⟨⟨[]⟩⟩, .string ⟨⟨[]⟩⟩, .string ⟨⟨[]⟩⟩, .string ⟨⟨[]⟩⟩, .int .u16 0, .int .u32 0, .int .u8 0, .int .u16 0, .int .u8 0]] 8 (World.laidAll_os _ _ _) (World.shaped_of_ZipB (by kernel_rfl) (by kernel_rfl)) (by kernel_rfl) (by kernel_rfl) (by kernel_rfl) (columnApart_met os _))
    (by kernel_rfl) (by kernel_rfl) full ?_ rfl rfl (by kernel_rfl) ?_ ?_
  · have : ∀ t ∈ [5, 5, 26, 26], t < Tryd.prog.types.size := by
      rw [show Tryd.prog.types.size = 200 - (200 - Tryd.prog.types.size) from by kernel_rfl]
      decide +kernel
    exact this
  · intro ds hd
    match ds, hd with
    | [a, b, c, d], _ => rfl
  · intro W base args ds ps hval hA
    have hA' : DataW.TrodAll enc Tryd.prog W 0 (fun _ => true) true [5, 5, 26, 26] args.toList ds ps := hA
    obtain ⟨v0, v1, v2, v3, d0, d1, d2, d3, p0, p1, p2, p3, rfl, rfl, rfl, h0, h1, h2, h3⟩ := trodAll_four hA'
    obtain ⟨x0, hx0, r0⟩ := AM.arg_int tU5 (hval 0 5 v0 rfl rfl) h0
    obtain ⟨k0, rfl, b0⟩ := AM.nat_wf rfl hx0
    obtain ⟨x1, hx1, r1⟩ := AM.arg_int tU5 (hval 1 5 v1 rfl rfl) h1
    obtain ⟨k1, rfl, b1⟩ := AM.nat_wf rfl hx1
    obtain ⟨x2, hx2, r2⟩ := arg_co (hval 2 26 v2 rfl rfl) h2
    obtain ⟨x3, hx3, r3⟩ := arg_co (hval 3 26 v3 rfl rfl) h3
    obtain ⟨code, hcode, ⟨o, ⟨he, h4⟩, hrun⟩⟩ := apart_code k0 k1 x2 x3 b0 b1 hx2 hx3
    obtain ⟨n, hn⟩ := AM.Ev1.toldP (H := []) (args := [.int .u8 (k0 : Nat), .int .u8 (k1 : Nat), .agg x2.pay, .agg x3.pay]) (l := [.bool true]) (AM.evT_below X) Tryd.func4 hcode rfl rfl (by simp [AM.gtag]) rfl rfl rfl ⟨o, ⟨he, by show some [AM.getF o.fr 8] = _; rw [h4]⟩, hrun⟩
    exact ⟨n, _, [], hn n (Nat.le_refl _), r0, r1, r2, r3, trivial⟩

theorem columnApart_row : Rows.ColumnApartSaid :=
  OpenClaim.holds_of_wide 4 Tryd.f4 rfl rfl rfl rfl rfl rfl rfl ⟨rfl, rfl, rfl, rfl, rfl⟩ rfl rfl rfl rfl rfl (by kernel_rfl) Tryd.func4 (by kernel_rfl)
    (of_decide_eq_true (by kernel_rfl)) (by unfold Func.isWrapper; first | (rw [if_pos (by decide +kernel)]; kernel_rfl) | (rw [if_neg (by decide +kernel)]; exact ⟨rfl, rfl⟩))
    (fun os started H enc _ => columnApart_lifted os started H enc)

theorem columnApart_holds : Rows.ColumnApartCardSaid :=
  Claim7.holds_tied_plain_at .later [] [.data, .data, .data] true (true, "2cc09712232579b9ef0770f54b9d0160c17a2474230ab2ef2ac42d85f5510f1e") false
    columnApart_row (fun _ h => by cases h) (by kernel_rfl) (fun _ h => by cases h) columnApart_row_tie rfl ⟨rfl, rfl⟩ (by kernel_rfl) rfl
    (fun f fn hf hfn => by
      obtain rfl : f = 4 := Option.some.inj ((show Tryd.prog.funcNamed Rows.columnApartRow.func = some 4 by kernel_rfl).symm.trans hf) |>.symm
      obtain rfl : fn = Tryd.f4 := (Option.some.inj (Tryd.func4.symm.trans hfn)).symm
      exact ⟨by kernel_rfl, fun j t ht => by
        have hp : Tryd.f4.params = #[5, 5, 26, 26] := rfl
        rw [hp] at ht
        match j with
        | 0 =>
          simp at ht
          subst ht
          exact (show Tryd.prog.wantsStandIn 5 = false by kernel_rfl)
        | 1 =>
          simp at ht
          subst ht
          exact (show Tryd.prog.wantsStandIn 5 = false by kernel_rfl)
        | 2 =>
          simp at ht
          subst ht
          exact (show Tryd.prog.wantsStandIn 26 = false by kernel_rfl)
        | 3 =>
          simp at ht
          subst ht
          exact (show Tryd.prog.wantsStandIn 26 = false by kernel_rfl)
        | j + 4 => simp at ht⟩)
    (by kernel_rfl)

end Go.Proofs.YtkgchoknkakcgaaDoor
