/- ZlibTurned: whatever the bytes and the word, the law returns true and leaves its argument; proved over the abstract machine: walks of the sum, of Pack, Head, Unpack and all below them, and that what is written bit by bit is read back. -/
import Derived.Test.YtcllinmgllmpmaaRows
import Derived.Test.YtcllinmgllmpmaaMg11
import Derived.Test.YtcllinmgllmpmaaAm3
namespace Go.Proofs.Ytcllinmgllmpmaa
open Go.ChangeShapes Go.WideShapes Go.ChangeAt Go.RowKit

theorem tC5 : Try.prog.cellsOf 5 = 1 := by kernel_rfl
theorem akU : Try.prog.underlying 22 = some (.slice 5) := by kernel_rfl
theorem akV : Try.prog.underlying 31 = some (.int .u32) := by kernel_rfl
theorem tU5 : Try.prog.underlying 5 = some (.int .u8) := by kernel_rfl

set_option maxRecDepth 100000 in
theorem AZ (os : Os) (started : os.Started) (H : Type) (enc : TypeId × Value → H) :
    ReturnsInHanded {} Try.checked os 6 .any (Rows.zlibTurnedSpec.pre6 enc Try.prog Try.f6 Rows.zlibTurnedRow.domain false) (Rows.zlibTurnedSpec.post enc Try.prog Try.f6 false true false false) := by
  refine AM.law_lifted (D := Try.checked) (X := X) rfl acT (fun _ => rfl) own started (by kernel_rfl) Try.func6
    (ChangeSpec.witness6 (enc := enc) (C := Try.checked) false ⟨#[], #[.slice .none 0 0, .int .u32 0], []⟩ 8 (by kernel_rfl) (by kernel_rfl) (by kernel_rfl) (by kernel_rfl)) (by kernel_rfl) (by kernel_rfl) full ?_ rfl rfl (by kernel_rfl) ?_ ?_
  · have : ∀ t ∈ [22, 31], t < Try.prog.types.size := by
      rw [show Try.prog.types.size = 200 - (200 - Try.prog.types.size) from by kernel_rfl]
      decide +kernel
    exact this
  · intro ds hd
    match ds, hd with
    | [a, b], _ => rfl
  · intro W base args ds ps hval hA
    have hA' : DataW.TrodAll enc Try.prog W 0 (fun _ => true) true [22, 31] args.toList ds ps := hA
    obtain ⟨v0, v1, d0, d1, p0, p1, rfl, rfl, rfl, h0, h1⟩ := trodAll_two hA'
    obtain ⟨c0, l0, hc0, _, r0⟩ := AM.Ph akU tU5 tC5 (hval 0 22 v0 rfl rfl) h0
    obtain ⟨x1, hx1, r1⟩ := AM.XZ akV (hval 1 31 v1 rfl rfl) h1
    obtain ⟨k1, rfl, b1⟩ := AM.nat_wf rfl hx1
    obtain ⟨code, hcode, ⟨o, ⟨he, h4⟩, hrun⟩⟩ := LZ (c := c0) (b := l0) b1
    obtain ⟨n, hn⟩ := AM.Ev1.wG (H := []) (args := [.ro c0 (.pb l0) 1, .int .u32 (k1 : Nat)]) (l := [.bool true]) (AM.bU X) Try.func6 hcode rfl rfl (by simp [AM.dG]) rfl rfl rfl ⟨o, ⟨he, by show some [AM.au o.fr 4] = _; rw [h4]⟩, hrun⟩
    exact ⟨n, _, [], hn n (Nat.le_refl _), r0, r1, trivial⟩

theorem zlibTurned_holds : Rows.ZlibTurnedSaid :=
  OpenClaim.holds_of_wide 6 Try.f6 rfl rfl rfl rfl rfl rfl rfl ⟨rfl, rfl, rfl, rfl, rfl⟩ rfl rfl rfl rfl rfl (by kernel_rfl) Try.func6 (by kernel_rfl)
    (of_decide_eq_true (by kernel_rfl)) (by unfold Func.isWrapper; first | (rw [if_pos (by decide +kernel)]; kernel_rfl) | (rw [if_neg (by decide +kernel)]; exact ⟨rfl, rfl⟩))
    (fun os started H enc _ => AZ os started H enc)

end Go.Proofs.Ytcllinmgllmpmaa
