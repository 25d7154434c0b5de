/- SqueezeNil: whatever the bytes and the number: a reader that is not there refuses every call, and the law returns true; proved by running the abstract machine with the arguments left open. No conditions. -/
import Derived.Test.YtlpobcblakkleaaRows
import Derived.Test.YtlpobcblakkleaaAm3
namespace Go.Proofs.Ytlpobcblakkleaa
open Go.ChangeShapes Go.WideShapes Go.ChangeAt Go.RowKit

noncomputable def X : AM.Ctx := { P := Try.prog, G := fun _ => .none, rw := fun _ _ => false, keep := fun _ _ => .none, norm := fun _ _ => false, dr := fun _ _ => true, dy := fun f id => [(19, 6), (19, 7), (23, 19), (32, 9), (32, 20), (41, 1), (45, 3)].contains (f, id) }

theorem own : ownKnob Try.prog.godebug = .none := by kernel_rfl
theorem full : ∀ t e, t < Try.prog.types.size → Try.prog.underlying t = some (.slice e) → 0 < Try.prog.cellsOf e := slices_full_of Try.prog (by kernel_rfl)
theorem ctxOk : AM.CtxOk X := AM.ctxOk_of (by kernel_rfl) (by kernel_rfl)

set_option maxRecDepth 100000 in
theorem squeezeNil_run (c : Nat) (l : List UInt8) (s : Int) : AM.isTrue (AM.callF X 100 3 [.ro c (.pb l) 1, .int .u8 s] []) = true := by kernel_rfl

theorem tU22 : Try.prog.underlying 22 = some (.slice 5) := by kernel_rfl
theorem tU5 : Try.prog.underlying 5 = some (.int .u8) := by kernel_rfl
theorem tC5 : Try.prog.cellsOf 5 = 1 := by kernel_rfl

set_option maxRecDepth 100000 in
theorem squeezeNil_lifted (os : Os) (started : os.Started) (H : Type) (enc : TypeId × Value → H) :
    ReturnsInHanded {} Try.checked os 3 .any (Rows.squeezeNilSpec.pre6 enc Try.prog Try.f3 Rows.squeezeNilRow.domain false) (Rows.squeezeNilSpec.post enc Try.prog Try.f3 false true false false) := by
  refine AM.law_lifted (D := Try.checked) (X := X) rfl ctxOk (fun _ => rfl) own started (by kernel_rfl) Try.func3
    (ChangeSpec.witness6 (enc := enc) (C := Try.checked) false ⟨#[], #[.slice .none 0 0, .int .u8 0], []⟩ 8 (by kernel_rfl) (by kernel_rfl) (by kernel_rfl) (by kernel_rfl)) (by kernel_rfl) (by kernel_rfl) full ?_ rfl rfl (by kernel_rfl) ?_ ?_
  · have : ∀ t ∈ [22, 5], t < Try.prog.types.size := by
      rw [show Try.prog.types.size = 200 - (200 - Try.prog.types.size) from by kernel_rfl]
      decide +kernel
    exact this
  · intro ds hd
    match ds, hd with
    | [a, b], _ => rfl
  · intro W base args ds ps hval hA
    have hA' : DataW.TrodAll enc Try.prog W 0 (fun _ => true) true [22, 5] args.toList ds ps := hA
    obtain ⟨v0, v1, d0, d1, p0, p1, rfl, rfl, rfl, h0, h1⟩ := trodAll_two hA'
    obtain ⟨c, l, hl, r0⟩ := AM.arg_bytes tU22 tU5 tC5 (hval 0 22 v0 rfl rfl) h0
    obtain ⟨x, hx, r1⟩ := AM.arg_int tU5 (hval 1 5 v1 rfl rfl) h1
    obtain ⟨H', h⟩ := AM.isTrue_some (squeezeNil_run c l x)
    exact ⟨100, _, H', h, r0, r1, trivial⟩

theorem squeezeNil_holds : Rows.SqueezeNilSaid :=
  OpenClaim.holds_of_wide 3 Try.f3 rfl rfl rfl rfl rfl rfl rfl ⟨rfl, rfl, rfl, rfl, rfl⟩ rfl rfl rfl rfl rfl (by kernel_rfl) Try.func3 (by kernel_rfl)
    (of_decide_eq_true (by kernel_rfl)) (by unfold Func.isWrapper; first | (rw [if_pos (by decide +kernel)]; kernel_rfl) | (rw [if_neg (by decide +kernel)]; exact ⟨rfl, rfl⟩))
    (fun os started H enc _ => squeezeNil_lifted os started H enc)

end Go.Proofs.Ytlpobcblakkleaa
