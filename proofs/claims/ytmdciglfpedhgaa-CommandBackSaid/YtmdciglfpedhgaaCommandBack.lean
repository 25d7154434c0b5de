/- CommandBack: whatever the command and the bytes, the law returns true and leaves its arguments; proved over the abstract machine: walks of Append, Check and Read, that what is written is read back, and that what is read is written as it was. No conditions. -/
import Derived.Test.YtmdciglfpedhgaaKH
import Derived.Test.YtmdciglfpedhgaaAm3
namespace Go.Proofs.Ytmdciglfpedhgaa
open Go.ChangeShapes Go.WideShapes Go.ChangeAt Go.RowKit

theorem tU24 : Try.prog.underlying 24 = some (.slice 5) := by kernel_rfl
theorem tU5 : Try.prog.underlying 5 = some (.int .u8) := by kernel_rfl
theorem tC5 : Try.prog.cellsOf 5 = 1 := by kernel_rfl
theorem tU22 : Try.prog.underlying 22 = some (.int .u32) := by kernel_rfl
theorem tU23 : Try.prog.underlying 23 = some (.int .u16) := by kernel_rfl
theorem tU9 : Try.prog.underlying 9 = some .string := by kernel_rfl
theorem tF26 : (Try.prog.underlying 26).map AM.fldsOf = some [(5, 0), (9, 1), (22, 2), (23, 3), (5, 4), (22, 5), (23, 6), (24, 7)] := by kernel_rfl
theorem tC26 : Try.prog.cellsOf 26 = 8 := by kernel_rfl
theorem tC22 : Try.prog.cellsOf 22 = 1 := by kernel_rfl
theorem tC23 : Try.prog.cellsOf 23 = 1 := by kernel_rfl
theorem tC9 : Try.prog.cellsOf 9 = 1 := by kernel_rfl
theorem tC24 : Try.prog.cellsOf 24 = 1 := by kernel_rfl

/-- a command that is an argument -/
theorem arg_cm {H : Type} {enc : TypeId × Value → H} {W : World} {base : Nat} {v : Value} {d : DataW H} {ps : List MemPlace} (hval : Value.okWide Try.prog W .any base 26 v) (hd : DataW.Trod enc Try.prog W 0 (fun _ => true) true 26 v d ps) :
    ∃ (c : Nat) (x : Cm), CmOk x ∧ (c = 0 → x.dat = []) ∧ AM.VRel (AM.start W) (AM.T0 W.heap.size) (.agg (x.pay (.ro c (.pb x.dat) 1))) v := by
  obtain ⟨cs, rfl, hs, hc⟩ := AM.struct_cells2 tF26 (by simp) hval hd
  rw [tC26] at hs hc
  obtain ⟨n0, u0, x0, g0, h0⟩ := hc 0 _ rfl tC5 (by decide)
  obtain ⟨n1, u1, x1, g1, h1⟩ := hc 1 _ rfl tC9 (by decide)
  obtain ⟨n2, u2, x2, g2, h2⟩ := hc 2 _ rfl tC22 (by decide)
  obtain ⟨n3, u3, x3, g3, h3⟩ := hc 3 _ rfl tC23 (by decide)
  obtain ⟨n4, u4, x4, g4, h4⟩ := hc 4 _ rfl tC5 (by decide)
  obtain ⟨n5, u5, x5, g5, h5⟩ := hc 5 _ rfl tC22 (by decide)
  obtain ⟨n6, u6, x6, g6, h6⟩ := hc 6 _ rfl tC23 (by decide)
  obtain ⟨n7, u7, x7, g7, h7⟩ := hc 7 _ rfl tC24 (by decide)
  obtain ⟨z0, rfl, w0⟩ := AM.cell_int tU5 h0
  obtain ⟨s1, rfl, _⟩ := AM.cell_str tU9 h1
  obtain ⟨z2, rfl, w2⟩ := AM.cell_int tU22 h2
  obtain ⟨z3, rfl, w3⟩ := AM.cell_int tU23 h3
  obtain ⟨z4, rfl, w4⟩ := AM.cell_int tU5 h4
  obtain ⟨z5, rfl, w5⟩ := AM.cell_int tU22 h5
  obtain ⟨z6, rfl, w6⟩ := AM.cell_int tU23 h6
  obtain ⟨c, l, hcl, _, hone, hrel⟩ := AM.cell_bytes tU24 tU5 tC5 h7
  obtain ⟨k0, rfl, b0⟩ := AM.nat_wf rfl w0
  obtain ⟨k2, rfl, b2⟩ := AM.nat_wf rfl w2
  obtain ⟨k3, rfl, b3⟩ := AM.nat_wf rfl w3
  obtain ⟨k4, rfl, b4⟩ := AM.nat_wf rfl w4
  obtain ⟨k5, rfl, b5⟩ := AM.nat_wf rfl w5
  obtain ⟨k6, rfl, b6⟩ := AM.nat_wf rfl w6
  refine ⟨c, ⟨k0, s1, k2, k3, k4, k5, k6, l⟩, ⟨b0, b2, b3, b4, b5, b6⟩, hcl, AM.agg_rel hs rfl fun j a ha => ?_⟩
  match j, ha with
  | 0, ha => obtain rfl := Option.some.inj ha; exact ⟨_, g0, rfl, rfl⟩
  | 1, ha => obtain rfl := Option.some.inj ha; exact ⟨_, g1, rfl, rfl⟩
  | 2, ha => obtain rfl := Option.some.inj ha; exact ⟨_, g2, rfl, rfl⟩
  | 3, ha => obtain rfl := Option.some.inj ha; exact ⟨_, g3, rfl, rfl⟩
  | 4, ha => obtain rfl := Option.some.inj ha; exact ⟨_, g4, rfl, rfl⟩
  | 5, ha => obtain rfl := Option.some.inj ha; exact ⟨_, g5, rfl, rfl⟩
  | 6, ha => obtain rfl := Option.some.inj ha; exact ⟨_, g6, rfl, rfl⟩
  | 7, ha => obtain rfl := Option.some.inj ha; exact ⟨_, g7, hone, hrel⟩

theorem commandBack_ev (c cc : Nat) (b : List UInt8) (x : Cm) (hc : c = 0 → b = []) (hcc : cc = 0 → x.dat = []) (hx : CmOk x) : AM.Ev1 X 3 [.agg (x.pay (.ro cc (.pb x.dat) 1)), .ro c (.pb b) 1] [] (.bool true, []) := by
  obtain ⟨code, hcode, ⟨o, ⟨he, h4⟩, hrun⟩⟩ := back_code c cc b x hc hcc hx
  exact AM.Ev1.toldP (H := []) (args := [.agg (x.pay (.ro cc (.pb x.dat) 1)), .ro c (.pb b) 1]) (l := [.bool true]) (AM.evT_below X) Try.func3 hcode rfl rfl (by simp [AM.gtag]) rfl rfl rfl
    ⟨o, ⟨he, by show some [AM.getF o.fr 4] = _; rw [h4]⟩, hrun⟩

set_option maxRecDepth 100000 in
theorem commandBack_lifted (os : Os) (started : os.Started) (H : Type) (enc : TypeId × Value → H) :
    ReturnsInHanded {} Try.checked os 3 .any (Rows.commandBackSpec.pre6 enc Try.prog Try.f3 Rows.commandBackRow.domain false) (Rows.commandBackSpec.post enc Try.prog Try.f3 false true false false) := by
  refine AM.law_lifted (D := Try.checked) (X := X) rfl ctxOk (fun _ => rfl) own started (by kernel_rfl) Try.func3
    (ChangeSpec.witness6 (enc := enc) (C := Try.checked) false ⟨#[], #[.agg #[.int .u8 0, .string ⟨⟨[]⟩⟩, .int .u32 0, .int .u16 0, .int .u8 0, .int .u32 0, .int .u16 0, .slice .none 0 0], .slice .none 0 0], []⟩ 8 (by kernel_rfl) (by kernel_rfl) (by kernel_rfl) (by kernel_rfl)) (by kernel_rfl) (by kernel_rfl) full ?_ rfl rfl (by kernel_rfl) ?_ ?_
  · have : ∀ t ∈ [26, 24], t < Try.prog.types.size := by
      rw [show Try.prog.types.size = 200 - (200 - Try.prog.types.size) from by kernel_rfl]
      decide +kernel
    exact this
  · intro ds hd
    match ds, hd with
    | [a, b], _ => rfl
  · intro W base args ds ps hval hA
    have hA' : DataW.TrodAll enc Try.prog W 0 (fun _ => true) true [26, 24] args.toList ds ps := hA
    obtain ⟨v0, v1, d0, d1, p0, p1, rfl, rfl, rfl, h0, h1⟩ := trodAll_two hA'
    obtain ⟨cc, x, hx, hcc, r0⟩ := arg_cm (hval 0 26 v0 rfl rfl) h0
    obtain ⟨c, l, hc, _, r1⟩ := AM.arg_bytes0 tU24 tU5 tC5 (hval 1 24 v1 rfl rfl) h1
    obtain ⟨n, hn⟩ := commandBack_ev c cc l x hc hcc hx
    exact ⟨n, _, [], hn n (Nat.le_refl _), r0, r1, trivial⟩

theorem commandBack_holds : Rows.CommandBackSaid :=
  OpenClaim.holds_of_wide 3 Try.f3 rfl rfl rfl rfl rfl rfl rfl ⟨rfl, rfl, rfl, rfl, rfl⟩ rfl rfl rfl rfl rfl (by kernel_rfl) Try.func3 (by kernel_rfl)
    (of_decide_eq_true (by kernel_rfl)) (by unfold Func.isWrapper; first | (rw [if_pos (by decide +kernel)]; kernel_rfl) | (rw [if_neg (by decide +kernel)]; exact ⟨rfl, rfl⟩))
    (fun os started H enc _ => commandBack_lifted os started H enc)

end Go.Proofs.Ytmdciglfpedhgaa
