/- CommandReads: whatever the bytes and the id, the law returns true and leaves its arguments; proved over the abstract machine: walks of Read and WithStmt, and of the document's. No conditions. -/
import Derived.Test.YtmdciglfpedhgaaKP
import Derived.Test.YtmdciglfpedhgaaAm3
namespace Go.Proofs.Ytmdciglfpedhgaa
open Go.ChangeShapes Go.WideShapes Go.ChangeAt Go.RowKit

theorem tU24 : Try.prog.underlying 24 = some (.slice 5) := by kernel_rfl
theorem tU5 : Try.prog.underlying 5 = some (.int .u8) := by kernel_rfl
theorem tC5 : Try.prog.cellsOf 5 = 1 := by kernel_rfl
theorem tU22 : Try.prog.underlying 22 = some (.int .u32) := by kernel_rfl

theorem commandReads_ev (c : Nat) (l : List UInt8) (id : Nat) (hc : c = 0 → l = []) (hid : id < 4294967296) : AM.Ev1 X 4 [.ro c (.pb l) 1, .int .u32 (id : Nat)] [] (.bool true, []) := by
  obtain ⟨code, hcode, ⟨o, ⟨he, h4⟩, hrun⟩⟩ := reads_code c l id hc hid
  exact AM.Ev1.toldP (H := []) (args := [.ro c (.pb l) 1, .int .u32 (id : Nat)]) (l := [.bool true]) (AM.evT_below X) Try.func4 hcode rfl rfl (by simp [AM.gtag]) rfl rfl rfl
    ⟨o, ⟨he, by show some [AM.getF o.fr 4] = _; rw [h4]⟩, hrun⟩

set_option maxRecDepth 100000 in
theorem commandReads_lifted (os : Os) (started : os.Started) (H : Type) (enc : TypeId × Value → H) :
    ReturnsInHanded {} Try.checked os 4 .any (Rows.commandReadsSpec.pre6 enc Try.prog Try.f4 Rows.commandReadsRow.domain false) (Rows.commandReadsSpec.post enc Try.prog Try.f4 false true false false) := by
  refine AM.law_lifted (D := Try.checked) (X := X) rfl ctxOk (fun _ => rfl) own started (by kernel_rfl) Try.func4
    (ChangeSpec.witness6 (enc := enc) (C := Try.checked) false ⟨#[], #[.slice .none 0 0, .int .u32 0], []⟩ 8 (by kernel_rfl) (by kernel_rfl) (by kernel_rfl) (by kernel_rfl)) (by kernel_rfl) (by kernel_rfl) full ?_ rfl rfl (by kernel_rfl) ?_ ?_
  · have : ∀ t ∈ [24, 22], t < Try.prog.types.size := by
      rw [show Try.prog.types.size = 200 - (200 - Try.prog.types.size) from by kernel_rfl]
      decide +kernel
    exact this
  · intro ds hd
    match ds, hd with
    | [a, b], _ => rfl
  · intro W base args ds ps hval hA
    have hA' : DataW.TrodAll enc Try.prog W 0 (fun _ => true) true [24, 22] args.toList ds ps := hA
    obtain ⟨v0, v1, d0, d1, p0, p1, rfl, rfl, rfl, h0, h1⟩ := trodAll_two hA'
    obtain ⟨c, l, hc, _, r0⟩ := AM.arg_bytes0 tU24 tU5 tC5 (hval 0 24 v0 rfl rfl) h0
    obtain ⟨x, hx, r1⟩ := AM.arg_int tU22 (hval 1 22 v1 rfl rfl) h1
    obtain ⟨id, rfl, hid⟩ := AM.nat_wf rfl hx
    obtain ⟨n, hn⟩ := commandReads_ev c l id hc hid
    exact ⟨n, _, [], hn n (Nat.le_refl _), r0, r1, trivial⟩

theorem commandReads_holds : Rows.CommandReadsSaid :=
  OpenClaim.holds_of_wide 4 Try.f4 rfl rfl rfl rfl rfl rfl rfl ⟨rfl, rfl, rfl, rfl, rfl⟩ rfl rfl rfl rfl rfl (by kernel_rfl) Try.func4 (by kernel_rfl)
    (of_decide_eq_true (by kernel_rfl)) (by unfold Func.isWrapper; first | (rw [if_pos (by decide +kernel)]; kernel_rfl) | (rw [if_neg (by decide +kernel)]; exact ⟨rfl, rfl⟩))
    (fun os started H enc _ => commandReads_lifted os started H enc)

end Go.Proofs.Ytmdciglfpedhgaa
