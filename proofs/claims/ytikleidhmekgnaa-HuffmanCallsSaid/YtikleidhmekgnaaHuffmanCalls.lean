/- HuffmanCalls: whatever the lengths, the bytes and the place, the law returns true and leaves its arguments; proved over the abstract machine: the law's walk, and that both readings of a symbol agree. No conditions. -/
import Derived.Test.YtikleidhmekgnaaWZ
import Derived.Test.YtikleidhmekgnaaAm3
namespace Go.Proofs.Ytikleidhmekgnaa
open Go.ChangeShapes Go.WideShapes Go.ChangeAt Go.RowKit

theorem tU25 : Try.prog.underlying 25 = some (.slice 3) := by kernel_rfl
theorem tU3 : Try.prog.underlying 3 = some (.int .i64) := by kernel_rfl
theorem tC3 : Try.prog.cellsOf 3 = 1 := by kernel_rfl
theorem tU28 : Try.prog.underlying 28 = some (.slice 5) := by kernel_rfl
theorem tU5 : Try.prog.underlying 5 = some (.int .u8) := by kernel_rfl
theorem tC5 : Try.prog.cellsOf 5 = 1 := by kernel_rfl

set_option maxRecDepth 100000 in
theorem huffmanCalls_lifted (os : Os) (started : os.Started) (H : Type) (enc : TypeId × Value → H) :
    ReturnsInHanded {} Try.checked os 6 .any (Rows.huffmanCallsSpec.pre6 enc Try.prog Try.f6 Rows.huffmanCallsRow.domain false) (Rows.huffmanCallsSpec.post enc Try.prog Try.f6 false true false false) := by
  refine AM.law_lifted (D := Try.checked) (X := X) rfl ctxOk (fun _ => rfl) own started (by kernel_rfl) Try.func6
    (ChangeSpec.witness6 (enc := enc) (C := Try.checked) false ⟨#[], #[.slice .none 0 0, .slice .none 0 0, .int .i64 0], []⟩ 8 (by kernel_rfl) (by kernel_rfl) (by kernel_rfl) (by kernel_rfl)) (by kernel_rfl) (by kernel_rfl) full ?_ rfl rfl (by kernel_rfl) ?_ ?_
  · have : ∀ t ∈ [25, 28, 3], t < Try.prog.types.size := by
      rw [show Try.prog.types.size = 200 - (200 - Try.prog.types.size) from by kernel_rfl]
      decide +kernel
    exact this
  · intro ds hd
    match ds, hd with
    | [a, b, c], _ => rfl
  · intro W base args ds ps hval hA
    have hA' : DataW.TrodAll enc Try.prog W 0 (fun _ => true) true [25, 28, 3] args.toList ds ps := hA
    obtain ⟨v0, v1, v2, d0, d1, d2, p0, p1, p2, rfl, rfl, rfl, h0, h1, h2⟩ := trodAll_three hA'
    obtain ⟨c, l, _, _, r0⟩ := AM.arg_ints tU25 tU3 tC3 (hval 0 25 v0 rfl rfl) h0
    obtain ⟨c2, b, _, r1⟩ := AM.arg_bytes tU28 tU5 tC5 (hval 1 28 v1 rfl rfl) h1
    obtain ⟨a, ha, r2⟩ := AM.arg_int tU3 (hval 2 3 v2 rfl rfl) h2
    obtain ⟨n, hn⟩ := calls_ev c c2 l b a (by have := AM.i64_wf ha; omega)
    exact ⟨n, _, [], hn n (Nat.le_refl _), r0, r1, r2, trivial⟩

theorem huffmanCalls_holds : Rows.HuffmanCallsSaid :=
  OpenClaim.holds_of_wide 6 Try.f6 rfl rfl rfl rfl rfl rfl rfl ⟨rfl, rfl, rfl, rfl, rfl⟩ rfl rfl rfl rfl rfl (by kernel_rfl) Try.func6 (by kernel_rfl)
    (of_decide_eq_true (by kernel_rfl)) (by unfold Func.isWrapper; first | (rw [if_pos (by decide +kernel)]; kernel_rfl) | (rw [if_neg (by decide +kernel)]; exact ⟨rfl, rfl⟩))
    (fun os started H enc _ => huffmanCalls_lifted os started H enc)

end Go.Proofs.Ytikleidhmekgnaa
