/- HuffmanBack: whatever the lengths and the symbols, the law returns true and leaves its arguments; proved over the abstract machine: the law's walk, and that a code's bits are read as its symbol. No conditions. -/
import Derived.Test.YtikleidhmekgnaaV3
import Derived.Test.YtikleidhmekgnaaAm3
namespace Go.Proofs.Ytikleidhmekgnaa
open Go.ChangeShapes Go.WideShapes Go.ChangeAt Go.RowKit

theorem tU25 : Try.prog.underlying 25 = some (.slice 3) := by kernel_rfl
theorem tU3 : Try.prog.underlying 3 = some (.int .i64) := by kernel_rfl
theorem tC3 : Try.prog.cellsOf 3 = 1 := by kernel_rfl

set_option maxRecDepth 100000 in
theorem huffmanBack_lifted (os : Os) (started : os.Started) (H : Type) (enc : TypeId × Value → H) :
    ReturnsInHanded {} Try.checked os 7 .any (Rows.huffmanBackSpec.pre6 enc Try.prog Try.f7 Rows.huffmanBackRow.domain false) (Rows.huffmanBackSpec.post enc Try.prog Try.f7 false true false false) := by
  refine AM.law_lifted (D := Try.checked) (X := X) rfl ctxOk (fun _ => rfl) own started (by kernel_rfl) Try.func7
    (ChangeSpec.witness6 (enc := enc) (C := Try.checked) false ⟨#[], #[.slice .none 0 0, .slice .none 0 0], []⟩ 8 (by kernel_rfl) (by kernel_rfl) (by kernel_rfl) (by kernel_rfl)) (by kernel_rfl) (by kernel_rfl) full ?_ rfl rfl (by kernel_rfl) ?_ ?_
  · have : ∀ t ∈ [25, 25], t < Try.prog.types.size := by
      rw [show Try.prog.types.size = 200 - (200 - Try.prog.types.size) from by kernel_rfl]
      decide +kernel
    exact this
  · intro ds hd
    match ds, hd with
    | [a, b], _ => rfl
  · intro W base args ds ps hval hA
    have hA' : DataW.TrodAll enc Try.prog W 0 (fun _ => true) true [25, 25] args.toList ds ps := hA
    obtain ⟨v0, v1, d0, d1, p0, p1, rfl, rfl, rfl, h0, h1⟩ := trodAll_two hA'
    obtain ⟨c, l, _, _, r0⟩ := AM.arg_ints tU25 tU3 tC3 (hval 0 25 v0 rfl rfl) h0
    obtain ⟨c2, sy, _, _, r1⟩ := AM.arg_ints tU25 tU3 tC3 (hval 1 25 v1 rfl rfl) h1
    obtain ⟨n, hn⟩ := back_ev c c2 l sy
    exact ⟨n, _, [], hn n (Nat.le_refl _), r0, r1, trivial⟩

theorem huffmanBack_holds : Rows.HuffmanBackSaid :=
  OpenClaim.holds_of_wide 7 Try.f7 rfl rfl rfl rfl rfl rfl rfl ⟨rfl, rfl, rfl, rfl, rfl⟩ rfl rfl rfl rfl rfl (by kernel_rfl) Try.func7 (by kernel_rfl)
    (of_decide_eq_true (by kernel_rfl)) (by unfold Func.isWrapper; first | (rw [if_pos (by decide +kernel)]; kernel_rfl) | (rw [if_neg (by decide +kernel)]; exact ⟨rfl, rfl⟩))
    (fun os started H enc _ => huffmanBack_lifted os started H enc)

end Go.Proofs.Ytikleidhmekgnaa
