/- SqueezeCalls: whatever the bytes, the number, the length of a part and the threshold, the law returns true and leaves its argument; proved over the abstract machine: walks of Squeeze and of the document's, which tell the same. -/
import Derived.Test.YtbodincpjijdiaaRows
import Derived.Test.YtbodincpjijdiaaMg10
import Derived.Test.YtbodincpjijdiaaAm4
namespace Go.Proofs.Ytbodincpjijdiaa
open Go.ChangeShapes Go.WideShapes Go.ChangeAt Go.RowKit

theorem tC5 : Try.prog.cellsOf 5 = 1 := by kernel_rfl
theorem ake : Try.prog.underlying 22 = some (.slice 5) := by kernel_rfl
theorem tU3 : Try.prog.underlying 3 = some (.int .i64) := by kernel_rfl
theorem tU5 : Try.prog.underlying 5 = some (.int .u8) := by kernel_rfl

set_option maxRecDepth 100000 in
theorem wK (os : Os) (started : os.Started) (H : Type) (enc : TypeId × Value → H) :
    ReturnsInHanded {} Try.checked os 3 .any (Rows.squeezeCallsSpec.pre6 enc Try.prog Try.f3 Rows.squeezeCallsRow.domain false) (Rows.squeezeCallsSpec.post enc Try.prog Try.f3 false true false false) := by
  refine AM.law_lifted (D := Try.checked) (X := X) rfl YR (fun _ => rfl) own started (by kernel_rfl) Try.func3
    (ChangeSpec.witness6 (enc := enc) (C := Try.checked) false ⟨#[], #[.slice .none 0 0, .int .u8 0, .int .i64 0, .int .i64 0], []⟩ 8 (by kernel_rfl) (by kernel_rfl) (by kernel_rfl) (by kernel_rfl)) (by kernel_rfl) (by kernel_rfl) full ?_ rfl rfl (by kernel_rfl) ?_ ?_
  · have : ∀ t ∈ [22, 5, 3, 3], t < Try.prog.types.size := by
      rw [show Try.prog.types.size = 200 - (200 - Try.prog.types.size) from by kernel_rfl]
      decide +kernel
    exact this
  · intro ds hd
    match ds, hd with
    | [a, b, c, d], _ => rfl
  · intro W base args ds ps hval hA
    have hA' : DataW.TrodAll enc Try.prog W 0 (fun _ => true) true [22, 5, 3, 3] args.toList ds ps := hA
    obtain ⟨v0, v1, v2, v3, d0, d1, d2, d3, p0, p1, p2, p3, rfl, rfl, rfl, h0, h1, h2, h3⟩ := trodAll_four hA'
    obtain ⟨c0, l0, hc0, _, r0⟩ := AM.Lh ake tU5 tC5 (hval 0 22 v0 rfl rfl) h0
    obtain ⟨x1, hx1, r1⟩ := AM.Gy tU5 (hval 1 5 v1 rfl rfl) h1
    obtain ⟨k1, rfl, b1⟩ := AM.nat_wf rfl hx1
    obtain ⟨x2, hx2, r2⟩ := AM.Gy tU3 (hval 2 3 v2 rfl rfl) h2
    obtain ⟨x3, hx3, r3⟩ := AM.Gy tU3 (hval 3 3 v3 rfl rfl) h3
    obtain ⟨code, hcode, ⟨o, ⟨he, h4⟩, hrun⟩⟩ := LU c0 l0 k1 x2 x3 hc0 b1
    obtain ⟨n, hn⟩ := AM.Ev1.nV (H := []) (args := [.ro c0 (.pb l0) 1, .int .u8 (k1 : Nat), .int .i64 x2, .int .i64 x3]) (l := [.bool true]) (AM.bn X) Try.func3 hcode rfl rfl (by simp [AM.bW]) rfl rfl rfl ⟨o, ⟨he, by show some [AM.au o.fr 8] = _; rw [h4]⟩, hrun⟩
    exact ⟨n, _, [], hn n (Nat.le_refl _), r0, r1, r2, r3, trivial⟩

theorem squeezeCalls_holds : Rows.SqueezeCallsSaid :=
  OpenClaim.holds_of_wide 3 Try.f3 rfl rfl rfl rfl rfl rfl rfl ⟨rfl, rfl, rfl, rfl, rfl⟩ rfl rfl rfl rfl rfl (by kernel_rfl) Try.func3 (by kernel_rfl)
    (of_decide_eq_true (by kernel_rfl)) (by unfold Func.isWrapper; first | (rw [if_pos (by decide +kernel)]; kernel_rfl) | (rw [if_neg (by decide +kernel)]; exact ⟨rfl, rfl⟩))
    (fun os started H enc _ => wK os started H enc)

end Go.Proofs.Ytbodincpjijdiaa
