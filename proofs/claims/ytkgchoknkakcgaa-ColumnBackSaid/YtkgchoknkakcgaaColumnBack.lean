/- ColumnBack: whatever the column, the count, the cut and the byte, the law returns true and leaves its arguments; proved over the abstract machine: walks of Append and Read, and that what is written is read back, a byte less is too short, a byte more is wrong. No conditions. -/
import Derived.Test.YtkgchoknkakcgaaRows
import Derived.Test.YtkgchoknkakcgaaPD
import Derived.Test.YtkgchoknkakcgaaAm3
namespace Go.Proofs.Ytkgchoknkakcgaa
open Go.ChangeShapes Go.WideShapes Go.ChangeAt Go.RowKit

theorem tU3 : Try.prog.underlying 3 = some (.int .i64) := by kernel_rfl
theorem tU5 : Try.prog.underlying 5 = some (.int .u8) := by kernel_rfl
theorem uB : Try.prog.underlying 5 = some (.int .u8) := by kernel_rfl
theorem uH : Try.prog.underlying 25 = some (.int .u16) := by kernel_rfl
theorem uW : Try.prog.underlying 26 = some (.int .u32) := by kernel_rfl
theorem uS : Try.prog.underlying 9 = some .string := by kernel_rfl
theorem cB1 : Try.prog.cellsOf 5 = 1 := by kernel_rfl
theorem cH1 : Try.prog.cellsOf 25 = 1 := by kernel_rfl
theorem cW1 : Try.prog.cellsOf 26 = 1 := by kernel_rfl
theorem cS1 : Try.prog.cellsOf 9 = 1 := by kernel_rfl
theorem tF : (Try.prog.underlying 28).map AM.fldsOf = some [(9, 0), (9, 1), (9, 2), (9, 3), (9, 4), (25, 5), (26, 6), (5, 7), (25, 8), (5, 9)] := by kernel_rfl
theorem tCF : Try.prog.cellsOf 28 = 10 := by kernel_rfl

/-- a column that is an argument -/
theorem arg_co {H : Type} {enc : TypeId × Value → H} {W : World} {base : Nat} {v : Value} {d : DataW H} {ps : List MemPlace} (hval : Value.okWide Try.prog W .any base 28 v) (hd : DataW.Trod enc Try.prog W 0 (fun _ => true) true 28 v d ps) :
    ∃ (x : Co), CoOk x ∧ AM.VRel (AM.start W) (AM.T0 W.heap.size) (.agg x.pay) v := by
  obtain ⟨cs, rfl, hs, hc⟩ := AM.struct_cells2 tF (by simp) hval hd
  rw [tCF] at hs hc
  obtain ⟨n0, u0, x0, g0, h0⟩ := hc 0 _ rfl cS1 (by decide)
  obtain ⟨n1, u1, x1, g1, h1⟩ := hc 1 _ rfl cS1 (by decide)
  obtain ⟨n2, u2, x2, g2, h2⟩ := hc 2 _ rfl cS1 (by decide)
  obtain ⟨n3, u3, x3, g3, h3⟩ := hc 3 _ rfl cS1 (by decide)
  obtain ⟨n4, u4, x4, g4, h4⟩ := hc 4 _ rfl cS1 (by decide)
  obtain ⟨n5, u5, x5, g5, h5⟩ := hc 5 _ rfl cH1 (by decide)
  obtain ⟨n6, u6, x6, g6, h6⟩ := hc 6 _ rfl cW1 (by decide)
  obtain ⟨n7, u7, x7, g7, h7⟩ := hc 7 _ rfl cB1 (by decide)
  obtain ⟨n8, u8, x8, g8, h8⟩ := hc 8 _ rfl cH1 (by decide)
  obtain ⟨n9, u9, x9, g9, h9⟩ := hc 9 _ rfl cB1 (by decide)
  obtain ⟨s0, rfl, _⟩ := AM.cell_str uS h0
  obtain ⟨s1, rfl, _⟩ := AM.cell_str uS h1
  obtain ⟨s2, rfl, _⟩ := AM.cell_str uS h2
  obtain ⟨s3, rfl, _⟩ := AM.cell_str uS h3
  obtain ⟨s4, rfl, _⟩ := AM.cell_str uS h4
  obtain ⟨z5, rfl, w5⟩ := AM.cell_int uH h5
  obtain ⟨z6, rfl, w6⟩ := AM.cell_int uW h6
  obtain ⟨z7, rfl, w7⟩ := AM.cell_int uB h7
  obtain ⟨z8, rfl, w8⟩ := AM.cell_int uH h8
  obtain ⟨z9, rfl, w9⟩ := AM.cell_int uB h9
  obtain ⟨k5, rfl, b5⟩ := AM.nat_wf rfl w5
  obtain ⟨k6, rfl, b6⟩ := AM.nat_wf rfl w6
  obtain ⟨k7, rfl, b7⟩ := AM.nat_wf rfl w7
  obtain ⟨k8, rfl, b8⟩ := AM.nat_wf rfl w8
  obtain ⟨k9, rfl, b9⟩ := AM.nat_wf rfl w9
  refine ⟨⟨s0, s1, s2, s3, s4, k5, k6, k7, k8, k9⟩, ⟨b5, b6, b7, b8, b9⟩, AM.agg_rel hs rfl fun j a ha => ?_⟩
  match j, ha with
  | 0, ha => obtain rfl := Option.some.inj ha; exact ⟨_, g0, rfl, rfl⟩
  | 1, ha => obtain rfl := Option.some.inj ha; exact ⟨_, g1, rfl, rfl⟩
  | 2, ha => obtain rfl := Option.some.inj ha; exact ⟨_, g2, rfl, rfl⟩
  | 3, ha => obtain rfl := Option.some.inj ha; exact ⟨_, g3, rfl, rfl⟩
  | 4, ha => obtain rfl := Option.some.inj ha; exact ⟨_, g4, rfl, rfl⟩
  | 5, ha => obtain rfl := Option.some.inj ha; exact ⟨_, g5, rfl, rfl⟩
  | 6, ha => obtain rfl := Option.some.inj ha; exact ⟨_, g6, rfl, rfl⟩
  | 7, ha => obtain rfl := Option.some.inj ha; exact ⟨_, g7, rfl, rfl⟩
  | 8, ha => obtain rfl := Option.some.inj ha; exact ⟨_, g8, rfl, rfl⟩
  | 9, ha => obtain rfl := Option.some.inj ha; exact ⟨_, g9, rfl, rfl⟩


set_option maxRecDepth 100000 in
theorem columnBack_lifted (os : Os) (started : os.Started) (H : Type) (enc : TypeId × Value → H) :
    ReturnsInHanded {} Try.checked os 4 .any (Rows.columnBackSpec.pre6 enc Try.prog Try.f4 Rows.columnBackRow.domain false) (Rows.columnBackSpec.post enc Try.prog Try.f4 false true false false) := by
  refine AM.law_lifted (D := Try.checked) (X := X) rfl ctxOk (fun _ => rfl) own started (by kernel_rfl) Try.func4
    (ChangeSpec.witness6 (enc := enc) (C := Try.checked) false ⟨#[], #[.agg #[.string ⟨⟨[]⟩⟩, .string ⟨⟨[]⟩⟩, .string ⟨⟨[]⟩⟩, .string ⟨⟨[]⟩⟩, .string ⟨⟨[]⟩⟩, .int .u16 0, .int .u32 0, .int .u8 0, .int .u16 0, .int .u8 0], .int .i64 0, .int .i64 0, .int .u8 0], []⟩ 8 (by kernel_rfl) (by kernel_rfl) (by kernel_rfl) (by kernel_rfl)) (by kernel_rfl) (by kernel_rfl) full ?_ rfl rfl (by kernel_rfl) ?_ ?_
  · have : ∀ t ∈ [28, 3, 3, 5], t < Try.prog.types.size := by
      rw [show Try.prog.types.size = 200 - (200 - Try.prog.types.size) from by kernel_rfl]
      decide +kernel
    exact this
  · intro ds hd
    match ds, hd with
    | [a, b, c, d], _ => rfl
  · intro W base args ds ps hval hA
    have hA' : DataW.TrodAll enc Try.prog W 0 (fun _ => true) true [28, 3, 3, 5] args.toList ds ps := hA
    obtain ⟨v0, v1, v2, v3, d0, d1, d2, d3, p0, p1, p2, p3, rfl, rfl, rfl, h0, h1, h2, h3⟩ := trodAll_four hA'
    obtain ⟨x0, hx0, r0⟩ := arg_co (hval 0 28 v0 rfl rfl) h0
    obtain ⟨x1, hx1, r1⟩ := AM.arg_int tU3 (hval 1 3 v1 rfl rfl) h1
    obtain ⟨x2, hx2, r2⟩ := AM.arg_int tU3 (hval 2 3 v2 rfl rfl) h2
    obtain ⟨x3, hx3, r3⟩ := AM.arg_int tU5 (hval 3 5 v3 rfl rfl) h3
    obtain ⟨k3, rfl, b3⟩ := AM.nat_wf rfl hx3
    obtain ⟨code, hcode, ⟨o, ⟨he, h4⟩, hrun⟩⟩ := back_code x0 x1 x2 k3 hx0 b3
    obtain ⟨n, hn⟩ := AM.Ev1.toldP (H := []) (args := [.agg x0.pay, .int .i64 x1, .int .i64 x2, .int .u8 (k3 : Nat)]) (l := [.bool true]) (AM.evT_below X) Try.func4 hcode rfl rfl (by simp [AM.gtag]) rfl rfl rfl ⟨o, ⟨he, by show some [AM.getF o.fr 8] = _; rw [h4]⟩, hrun⟩
    exact ⟨n, _, [], hn n (Nat.le_refl _), r0, r1, r2, r3, trivial⟩

theorem columnBack_holds : Rows.ColumnBackSaid :=
  OpenClaim.holds_of_wide 4 Try.f4 rfl rfl rfl rfl rfl rfl rfl ⟨rfl, rfl, rfl, rfl, rfl⟩ rfl rfl rfl rfl rfl (by kernel_rfl) Try.func4 (by kernel_rfl)
    (of_decide_eq_true (by kernel_rfl)) (by unfold Func.isWrapper; first | (rw [if_pos (by decide +kernel)]; kernel_rfl) | (rw [if_neg (by decide +kernel)]; exact ⟨rfl, rfl⟩))
    (fun os started H enc _ => columnBack_lifted os started H enc)

end Go.Proofs.Ytkgchoknkakcgaa
