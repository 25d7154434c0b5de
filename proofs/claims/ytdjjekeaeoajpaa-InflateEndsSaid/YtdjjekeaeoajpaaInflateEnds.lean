/- InflateEnds: whatever the bytes, and whatever bytes behind them, the law returns true and leaves its arguments; proved over the abstract machine: walks of the reader of bits and of Inflate, and that one plain reading of the stream looks at no bit behind its end. -/
import Derived.Test.YtdjjekeaeoajpaaRows
import Derived.Test.YtdjjekeaeoajpaaMg7
import Derived.Test.YtdjjekeaeoajpaaAm3
namespace Go.Proofs.Ytdjjekeaeoajpaa
open Go.ChangeShapes Go.WideShapes Go.ChangeAt Go.RowKit

theorem tC5 : Try.prog.cellsOf 5 = 1 := by kernel_rfl
theorem tU22 : Try.prog.underlying 22 = some (.slice 5) := by kernel_rfl
theorem tU5 : Try.prog.underlying 5 = some (.int .u8) := by kernel_rfl

set_option maxRecDepth 100000 in
theorem inflateEnds_lifted (os : Os) (started : os.Started) (H : Type) (enc : TypeId × Value → H) :
    ReturnsInHanded {} Try.checked os 4 .any (Rows.inflateEndsSpec.pre6 enc Try.prog Try.f4 Rows.inflateEndsRow.domain false) (Rows.inflateEndsSpec.post enc Try.prog Try.f4 false true false false) := by
  refine AM.law_lifted (D := Try.checked) (X := X) rfl ctxOk (fun _ => rfl) own started (by kernel_rfl) Try.func4
    (ChangeSpec.witness6 (enc := enc) (C := Try.checked) false ⟨#[], #[.slice .none 0 0, .slice .none 0 0], []⟩ 8 (by kernel_rfl) (by kernel_rfl) (by kernel_rfl) (by kernel_rfl)) (by kernel_rfl) (by kernel_rfl) full ?_ rfl rfl (by kernel_rfl) ?_ ?_
  · have : ∀ t ∈ [22, 22], t < Try.prog.types.size := by
      rw [show Try.prog.types.size = 200 - (200 - Try.prog.types.size) from by kernel_rfl]
      decide +kernel
    exact this
  · intro ds hd
    match ds, hd with
    | [a, b], _ => rfl
  · intro W base args ds ps hval hA
    have hA' : DataW.TrodAll enc Try.prog W 0 (fun _ => true) true [22, 22] args.toList ds ps := hA
    obtain ⟨v0, v1, d0, d1, p0, p1, rfl, rfl, rfl, h0, h1⟩ := trodAll_two hA'
    obtain ⟨c0, l0, hc0, _, r0⟩ := AM.arg_bytes0 tU22 tU5 tC5 (hval 0 22 v0 rfl rfl) h0
    obtain ⟨c1, l1, hc1, _, r1⟩ := AM.arg_bytes0 tU22 tU5 tC5 (hval 1 22 v1 rfl rfl) h1
    obtain ⟨code, hcode, ⟨o, ⟨he, h4⟩, hrun⟩⟩ := ends_law c0 l0 c1 l1
    obtain ⟨n, hn⟩ := AM.Ev1.toldP (H := []) (args := [.ro c0 (.pb l0) 1, .ro c1 (.pb l1) 1]) (l := [.bool true]) (AM.evT_below X) Try.func4 hcode rfl rfl (by simp [AM.gtag]) rfl rfl rfl ⟨o, ⟨he, by show some [AM.getF o.fr 4] = _; rw [h4]⟩, hrun⟩
    exact ⟨n, _, [], hn n (Nat.le_refl _), r0, r1, trivial⟩

theorem inflateEnds_holds : Rows.InflateEndsSaid :=
  OpenClaim.holds_of_wide 4 Try.f4 rfl rfl rfl rfl rfl rfl rfl ⟨rfl, rfl, rfl, rfl, rfl⟩ rfl rfl rfl rfl rfl (by kernel_rfl) Try.func4 (by kernel_rfl)
    (of_decide_eq_true (by kernel_rfl)) (by unfold Func.isWrapper; first | (rw [if_pos (by decide +kernel)]; kernel_rfl) | (rw [if_neg (by decide +kernel)]; exact ⟨rfl, rfl⟩))
    (fun os started H enc _ => inflateEnds_lifted os started H enc)

end Go.Proofs.Ytdjjekeaeoajpaa
