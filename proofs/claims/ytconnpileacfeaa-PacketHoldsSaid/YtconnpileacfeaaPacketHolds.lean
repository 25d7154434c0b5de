/- PacketHolds: whatever the frame's size, the limit, the bytes in whatever chunks, the law returns true and leaves its arguments; proved over the abstract machine: walks of New, Feed, Held and Stopped on a reader that is held, and that it holds no more than its limit and four bytes. -/
import Derived.Test.YtconnpileacfeaaRows
import Derived.Test.YtconnpileacfeaaMg3
import Derived.Test.YtconnpileacfeaaAm4
namespace Go.Proofs.Ytconnpileacfeaa
open Go.ChangeShapes Go.WideShapes Go.ChangeAt Go.RowKit

theorem tU3 : Try.prog.underlying 3 = some (.int .i64) := by kernel_rfl
theorem rU43 : Try.prog.underlying 43 = some (.slice 22) := by kernel_rfl
theorem rU22 : Try.prog.underlying 22 = some (.slice 5) := by kernel_rfl
theorem rU5 : Try.prog.underlying 5 = some (.int .u8) := by kernel_rfl
theorem rC5 : Try.prog.cellsOf 5 = 1 := by kernel_rfl
theorem rC22 : Try.prog.cellsOf 22 = 1 := by kernel_rfl

set_option maxRecDepth 100000 in
theorem packetHolds_lifted (os : Os) (started : os.Started) (H : Type) (enc : TypeId × Value → H) :
    ReturnsInHanded {} Try.checked os 6 .any (Rows.packetHoldsSpec.pre6 enc Try.prog Try.f6 Rows.packetHoldsRow.domain false) (Rows.packetHoldsSpec.post enc Try.prog Try.f6 false true false false) := by
  refine AM.law_lifted (D := Try.checked) (X := X) rfl ctxOk (fun _ => rfl) own started (by kernel_rfl) Try.func6
    (ChangeSpec.witness6 (enc := enc) (C := Try.checked) false ⟨#[], #[.int .i64 0, .int .i64 0, .slice .none 0 0], []⟩ 8 (by kernel_rfl) (by kernel_rfl) (by kernel_rfl) (by kernel_rfl)) (by kernel_rfl) (by kernel_rfl) full ?_ rfl rfl (by kernel_rfl) ?_ ?_
  · have : ∀ t ∈ [3, 3, 43], t < Try.prog.types.size := by
      rw [show Try.prog.types.size = 200 - (200 - Try.prog.types.size) from by kernel_rfl]
      decide +kernel
    exact this
  · intro ds hd
    match ds, hd with
    | [a, b, c], _ => rfl
  · intro W base args ds ps hval hA
    have hA' : DataW.TrodAll enc Try.prog W 0 (fun _ => true) true [3, 3, 43] args.toList ds ps := hA
    obtain ⟨v0, v1, v2, d0, d1, d2, p0, p1, p2, rfl, rfl, rfl, h0, h1, h2⟩ := trodAll_three hA'
    obtain ⟨x0, hx0, r0⟩ := AM.arg_int tU3 (hval 0 3 v0 rfl rfl) h0
    obtain ⟨x1, hx1, r1⟩ := AM.arg_int tU3 (hval 1 3 v1 rfl rfl) h1
    obtain ⟨c2, rows2, hq2, hc2, hm2, r2⟩ := AM.arg_bytess rU43 rU22 rU5 rC5 rC22 (hval 2 43 v2 rfl rfl) h2
    obtain ⟨code, hcode, ⟨o, ⟨he, h4⟩, hrun⟩⟩ := holds_code c2 rows2 x0 x1 (fun r hr => (hq2 r hr).1)
    obtain ⟨n, hn⟩ := AM.Ev1.toldP (H := []) (args := [.int .i64 x0, .int .i64 x1, .ro c2 (.pc (rows2.map AM.bRow)) 1]) (l := [.bool true]) (AM.evT_below X) Try.func6 hcode rfl rfl (by simp [AM.gtag]) rfl rfl rfl ⟨o, ⟨he, by show some [AM.getF o.fr 6] = _; rw [h4]⟩, hrun⟩
    exact ⟨n, _, [], hn n (Nat.le_refl _), r0, r1, r2, trivial⟩

theorem packetHolds_holds : Rows.PacketHoldsSaid :=
  OpenClaim.holds_of_wide 6 Try.f6 rfl rfl rfl rfl rfl rfl rfl ⟨rfl, rfl, rfl, rfl, rfl⟩ rfl rfl rfl rfl rfl (by kernel_rfl) Try.func6 (by kernel_rfl)
    (of_decide_eq_true (by kernel_rfl)) (by unfold Func.isWrapper; first | (rw [if_pos (by decide +kernel)]; kernel_rfl) | (rw [if_neg (by decide +kernel)]; exact ⟨rfl, rfl⟩))
    (fun os started H enc _ => packetHolds_lifted os started H enc)

end Go.Proofs.Ytconnpileacfeaa
