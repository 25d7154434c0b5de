/- DeflateCalls: whatever the bytes, the law returns true and leaves its argument; proved over the abstract machine: walks of aei, Stored, Fixed and aac and of the document's own, which tell the same. -/
import Derived.Test.YteblpjhkgdpchaaRows
import Derived.Test.YteblpjhkgdpchaaMg7
import Derived.Test.YteblpjhkgdpchaaAm4
namespace Go.Proofs.Yteblpjhkgdpchaa
open Go.ChangeShapes Go.WideShapes Go.ChangeAt Go.RowKit

theorem tC5 : Try.prog.cellsOf 5 = 1 := by kernel_rfl
theorem aej : Try.prog.underlying 28 = some (.slice 5) := by kernel_rfl
theorem tU5 : Try.prog.underlying 5 = some (.int .u8) := by kernel_rfl

set_option maxRecDepth 100000 in
theorem wH (os : Os) (started : os.Started) (H : Type) (enc : TypeId × Value → H) :
    ReturnsInHanded {} Try.checked os 4 .any (Rows.deflateCallsSpec.pre6 enc Try.prog Try.f4 Rows.deflateCallsRow.domain false) (Rows.deflateCallsSpec.post enc Try.prog Try.f4 false true false false) := by
  refine AM.law_lifted (D := Try.checked) (X := X) rfl WC (fun _ => rfl) own started (by kernel_rfl) Try.func4
    (ChangeSpec.witness6 (enc := enc) (C := Try.checked) false ⟨#[], #[.slice .none 0 0], []⟩ 8 (by kernel_rfl) (by kernel_rfl) (by kernel_rfl) (by kernel_rfl)) (by kernel_rfl) (by kernel_rfl) full ?_ rfl rfl (by kernel_rfl) ?_ ?_
  · have : ∀ t ∈ [28], t < Try.prog.types.size := by
      rw [show Try.prog.types.size = 200 - (200 - Try.prog.types.size) from by kernel_rfl]
      decide +kernel
    exact this
  · intro ds hd
    match ds, hd with
    | [a], _ => rfl
  · intro W base args ds ps hval hA
    have hA' : DataW.TrodAll enc Try.prog W 0 (fun _ => true) true [28] args.toList ds ps := hA
    obtain ⟨v0, d0, rfl, rfl, h0⟩ := trodAll_one hA'
    obtain ⟨c0, l0, hc0, _, r0⟩ := AM.Lj aej tU5 tC5 (hval 0 28 v0 rfl rfl) h0
    obtain ⟨code, hcode, ⟨o, ⟨he, h4⟩, hrun⟩⟩ := LD c0 l0 hc0
    obtain ⟨n, hn⟩ := AM.Ev1.pR (H := []) (args := [.ro c0 (.pb l0) 1]) (l := [.bool true]) (AM.bJ X) Try.func4 hcode rfl rfl (by simp [AM.dJ]) rfl rfl rfl ⟨o, ⟨he, by show some [AM.aI o.fr 2] = _; rw [h4]⟩, hrun⟩
    exact ⟨n, _, [], hn n (Nat.le_refl _), r0, trivial⟩

theorem deflateCalls_holds : Rows.DeflateCallsSaid :=
  OpenClaim.holds_of_wide 4 Try.f4 rfl rfl rfl rfl rfl rfl rfl ⟨rfl, rfl, rfl, rfl, rfl⟩ rfl rfl rfl rfl rfl (by kernel_rfl) Try.func4 (by kernel_rfl)
    (of_decide_eq_true (by kernel_rfl)) (by unfold Func.isWrapper; first | (rw [if_pos (by decide +kernel)]; kernel_rfl) | (rw [if_neg (by decide +kernel)]; exact ⟨rfl, rfl⟩))
    (fun os started H enc _ => wH os started H enc)

end Go.Proofs.Yteblpjhkgdpchaa
