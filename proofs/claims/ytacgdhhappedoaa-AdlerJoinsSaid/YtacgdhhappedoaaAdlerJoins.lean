/- AdlerJoins: whatever the three pieces: the law returns true and leaves its arguments; proved over the abstract machine: the law's walk, and that joined sums, and sums gone on from, are those of the pieces one behind the other. No conditions. -/
import Derived.Test.YtacgdhhappedoaaWC
import Derived.Test.YtacgdhhappedoaaAm3
namespace Go.Proofs.Ytacgdhhappedoaa
open Go.ChangeShapes Go.WideShapes Go.ChangeAt Go.RowKit

theorem tU22 : Try.prog.underlying 22 = some (.slice 5) := by kernel_rfl
theorem tU5 : Try.prog.underlying 5 = some (.int .u8) := by kernel_rfl
theorem tU3 : Try.prog.underlying 3 = some (.int .i64) := by kernel_rfl
theorem tC5 : Try.prog.cellsOf 5 = 1 := by kernel_rfl

set_option maxRecDepth 100000 in
theorem adlerJoins_lifted (os : Os) (started : os.Started) (H : Type) (enc : TypeId × Value → H) :
    ReturnsInHanded {} Try.checked os 3 .any (Rows.adlerJoinsSpec.pre6 enc Try.prog Try.f3 Rows.adlerJoinsRow.domain false) (Rows.adlerJoinsSpec.post enc Try.prog Try.f3 false true false false) := by
  refine AM.law_lifted (D := Try.checked) (X := X) rfl ctxOk (fun _ => rfl) own started (by kernel_rfl) Try.func3
    (ChangeSpec.witness6 (enc := enc) (C := Try.checked) false ⟨#[], #[.slice .none 0 0, .slice .none 0 0, .slice .none 0 0], []⟩ 8 (by kernel_rfl) (by kernel_rfl) (by kernel_rfl) (by kernel_rfl)) (by kernel_rfl) (by kernel_rfl) full ?_ rfl rfl (by kernel_rfl) ?_ ?_
  · have : ∀ t ∈ [22, 22, 22], t < Try.prog.types.size := by
      rw [show Try.prog.types.size = 200 - (200 - Try.prog.types.size) from by kernel_rfl]
      decide +kernel
    exact this
  · intro ds hd
    match ds, hd with
    | [a, b, c], _ => rfl
  · intro W base args ds ps hval hA
    have hA' : DataW.TrodAll enc Try.prog W 0 (fun _ => true) true [22, 22, 22] args.toList ds ps := hA
    obtain ⟨v0, v1, v2, d0, d1, d2, p0, p1, p2, rfl, rfl, rfl, h0, h1, h2⟩ := trodAll_three hA'
    obtain ⟨c, l, hl, r0⟩ := AM.arg_bytes tU22 tU5 tC5 (hval 0 22 v0 rfl rfl) h0
    obtain ⟨c', l', hl', r1⟩ := AM.arg_bytes tU22 tU5 tC5 (hval 1 22 v1 rfl rfl) h1
    obtain ⟨c'', l'', hl'', r2⟩ := AM.arg_bytes tU22 tU5 tC5 (hval 2 22 v2 rfl rfl) h2
    obtain ⟨n, hn⟩ := joins_ev c c' c'' l l' l''
    exact ⟨n, _, [], hn n (Nat.le_refl _), r0, r1, r2, trivial⟩

theorem adlerJoins_holds : Rows.AdlerJoinsSaid :=
  OpenClaim.holds_of_wide 3 Try.f3 rfl rfl rfl rfl rfl rfl rfl ⟨rfl, rfl, rfl, rfl, rfl⟩ rfl rfl rfl rfl rfl (by kernel_rfl) Try.func3 (by kernel_rfl)
    (of_decide_eq_true (by kernel_rfl)) (by unfold Func.isWrapper; first | (rw [if_pos (by decide +kernel)]; kernel_rfl) | (rw [if_neg (by decide +kernel)]; exact ⟨rfl, rfl⟩))
    (fun os started H enc _ => adlerJoins_lifted os started H enc)

end Go.Proofs.Ytacgdhhappedoaa
