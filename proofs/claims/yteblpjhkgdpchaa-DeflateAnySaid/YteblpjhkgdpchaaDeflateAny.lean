/- DeflateAny: whatever the pieces, the law returns true and leaves its argument; proved over the abstract machine: walks of Expand, Fixed and aem, and that the codes that are written bit by bit are read back. -/
import Derived.Test.YteblpjhkgdpchaaRows
import Derived.Test.YteblpjhkgdpchaaMg11
import Derived.Test.YteblpjhkgdpchaaAm4
namespace Go.Proofs.Yteblpjhkgdpchaa
open Go.ChangeShapes Go.WideShapes Go.ChangeAt Go.RowKit


set_option maxRecDepth 100000 in
theorem Aq (os : Os) (started : os.Started) (H : Type) (enc : TypeId × Value → H) :
    ReturnsInHanded {} Try.checked os 7 .any (Rows.deflateAnySpec.pre6 enc Try.prog Try.f7 Rows.deflateAnyRow.domain false) (Rows.deflateAnySpec.post enc Try.prog Try.f7 false true false false) := by
  refine AM.law_lifted (D := Try.checked) (X := X) rfl aaW (fun _ => rfl) own started (by kernel_rfl) Try.func7
    (ChangeSpec.witness6 (enc := enc) (C := Try.checked) false ⟨#[], #[.slice .none 0 0], []⟩ 8 (by kernel_rfl) (by kernel_rfl) (by kernel_rfl) (by kernel_rfl)) (by kernel_rfl) (by kernel_rfl) full ?_ rfl rfl (by kernel_rfl) ?_ ?_
  · have : ∀ t ∈ [22], t < Try.prog.types.size := by
      rw [show Try.prog.types.size = 200 - (200 - Try.prog.types.size) from by kernel_rfl]
      decide +kernel
    exact this
  · intro ds hd
    match ds, hd with
    | [a], _ => rfl
  · intro W base args ds ps hval hA
    have hA' : DataW.TrodAll enc Try.prog W 0 (fun _ => true) true [22] args.toList ds ps := hA
    obtain ⟨v0, d0, rfl, rfl, h0⟩ := trodAll_one hA'
    obtain ⟨c0, l0, hc0, r0⟩ := WB (hval 0 22 v0 rfl rfl) h0
    obtain ⟨code, hcode, ⟨o, ⟨he, h4⟩, hrun⟩⟩ := WC c0 l0
    obtain ⟨n, hn⟩ := AM.Ev1.DL (H := []) (args := [.ro c0 (.pr 3 (l0.map pxR)) 1]) (l := [.bool true]) (AM.dL X) Try.func7 hcode rfl rfl (by simp [AM.dM]) rfl rfl rfl ⟨o, ⟨he, by show some [AM.ay o.fr 2] = _; rw [h4]⟩, hrun⟩
    exact ⟨n, _, [], hn n (Nat.le_refl _), r0, trivial⟩

theorem deflateAny_holds : Rows.DeflateAnySaid :=
  OpenClaim.holds_of_wide 7 Try.f7 rfl rfl rfl rfl rfl rfl rfl ⟨rfl, rfl, rfl, rfl, rfl⟩ rfl rfl rfl rfl rfl (by kernel_rfl) Try.func7 (by kernel_rfl)
    (of_decide_eq_true (by kernel_rfl)) (by unfold Func.isWrapper; first | (rw [if_pos (by decide +kernel)]; kernel_rfl) | (rw [if_neg (by decide +kernel)]; exact ⟨rfl, rfl⟩))
    (fun os started H enc _ => Aq os started H enc)

end Go.Proofs.Yteblpjhkgdpchaa
