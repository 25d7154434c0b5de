/- SqueezeBack: whatever the bytes, the number, the length of a part, the threshold and the cuts, the law returns true and leaves its arguments; proved over the abstract machine: walks of Squeeze, of a reader of agr frames that is made, fed and looked at, and that a packed part is unpacked as it was. -/
import Derived.Test.YtbodincpjijdiaaRows
import Derived.Test.YtbodincpjijdiaaMg12
import Derived.Test.YtbodincpjijdiaaAm4
namespace Go.Proofs.Ytbodincpjijdiaa
open Go.ChangeShapes Go.WideShapes Go.ChangeAt Go.RowKit

theorem tC3 : Try.prog.cellsOf 3 = 1 := by kernel_rfl
theorem tC5 : Try.prog.cellsOf 5 = 1 := by kernel_rfl
theorem apa : Try.prog.underlying 22 = some (.slice 5) := by kernel_rfl
theorem tU3 : Try.prog.underlying 3 = some (.int .i64) := by kernel_rfl
theorem apb : Try.prog.underlying 36 = some (.slice 3) := by kernel_rfl
theorem tU5 : Try.prog.underlying 5 = some (.int .u8) := by kernel_rfl

theorem KE {H : Type} {enc : TypeId × Value → H} {P : Program} {w : World} {base : Nat} {spare : Nat → Bool} {held : Bool} {t t' t'' t3 t4 : TypeId} {args : Array Value} {ds : List (DataW H)} {ps : List MemPlace} (h : DataW.TrodAll enc P w base spare held [t, t', t'', t3, t4] args.toList ds ps) :
    ∃ v v' v'' v3 v4 d d' d'' d3 d4 p p' p'' p3 p4, args = #[v, v', v'', v3, v4] ∧ ds = [d, d', d'', d3, d4] ∧ ps = p ++ p' ++ p'' ++ p3 ++ p4 ∧ DataW.Trod enc P w base spare held t v d p ∧ DataW.Trod enc P w base spare held t' v' d' p' ∧ DataW.Trod enc P w base spare held t'' v'' d'' p'' ∧ DataW.Trod enc P w base spare held t3 v3 d3 p3 ∧ DataW.Trod enc P w base spare held t4 v4 d4 p4 := by
  obtain ⟨v, vs, d, ds1, p, q, hargs, rfl, rfl, hd, hrest⟩ := trodAll_cons h
  obtain ⟨v', vs', d', ds2, p', q', rfl, rfl, rfl, hd', hrest'⟩ := trodAll_cons hrest
  obtain ⟨v'', vs'', d'', ds3, p'', q'', rfl, rfl, rfl, hd'', hrest''⟩ := trodAll_cons hrest'
  obtain ⟨v3, vs3, d3, ds4, p3, q3, rfl, rfl, rfl, hd3, hrest3⟩ := trodAll_cons hrest''
  obtain ⟨v4, vs4, d4, ds5, p4, q4, rfl, rfl, rfl, hd4, acM⟩ := trodAll_cons hrest3
  obtain ⟨rfl, rfl, rfl⟩ := trodAll_nil acM
  exact ⟨v, v', v'', v3, v4, d, d', d'', d3, d4, p, p', p'', p3, p4, by cases args; simp_all, rfl, by simp, hd, hd', hd'', hd3, hd4⟩

set_option maxRecDepth 100000 in
theorem zD (os : Os) (started : os.Started) (H : Type) (enc : TypeId × Value → H) :
    ReturnsInHanded {} Try.checked os 5 .any (Rows.squeezeBackSpec.pre6 enc Try.prog Try.f5 Rows.squeezeBackRow.domain false) (Rows.squeezeBackSpec.post enc Try.prog Try.f5 false true false false) := by
  refine AM.law_lifted (D := Try.checked) (X := X) rfl adv (fun _ => rfl) own started (by kernel_rfl) Try.func5
    (ChangeSpec.witness6 (enc := enc) (C := Try.checked) false ⟨#[], #[.slice .none 0 0, .int .u8 0, .int .i64 0, .int .i64 0, .slice .none 0 0], []⟩ 8 (by kernel_rfl) (by kernel_rfl) (by kernel_rfl) (by kernel_rfl)) (by kernel_rfl) (by kernel_rfl) full ?_ rfl rfl (by kernel_rfl) ?_ ?_
  · have : ∀ t ∈ [22, 5, 3, 3, 36], t < Try.prog.types.size := by
      rw [show Try.prog.types.size = 200 - (200 - Try.prog.types.size) from by kernel_rfl]
      decide +kernel
    exact this
  · intro ds hd
    match ds, hd with
    | [a, b, c, d, e], _ => rfl
  · intro W base args ds ps hval hA
    have hA' : DataW.TrodAll enc Try.prog W 0 (fun _ => true) true [22, 5, 3, 3, 36] args.toList ds ps := hA
    obtain ⟨v0, v1, v2, v3, v4, d0, d1, d2, d3, d4, p0, p1, p2, p3, p4, rfl, rfl, rfl, h0, h1, h2, h3, h4⟩ := KE hA'
    obtain ⟨c0, l0, hc0, _, r0⟩ := AM.OT apa tU5 tC5 (hval 0 22 v0 rfl rfl) h0
    obtain ⟨x1, hx1, r1⟩ := AM.JF tU5 (hval 1 5 v1 rfl rfl) h1
    obtain ⟨k1, rfl, b1⟩ := AM.nat_wf rfl hx1
    obtain ⟨x2, hx2, r2⟩ := AM.JF tU3 (hval 2 3 v2 rfl rfl) h2
    obtain ⟨x3, hx3, r3⟩ := AM.JF tU3 (hval 3 3 v3 rfl rfl) h3
    obtain ⟨c4, l4, hc4, _, r4⟩ := AM.WT apb tU3 tC3 (hval 4 36 v4 rfl rfl) h4
    obtain ⟨code, hcode, ⟨o, ⟨he, h4⟩, hrun⟩⟩ := Tm c0 c4 l0 l4 k1 x2 x3 hc0 b1
    obtain ⟨n, hn⟩ := AM.Ev1.tY (H := []) (args := [.ro c0 (.pb l0) 1, .int .u8 (k1 : Nat), .int .i64 x2, .int .i64 x3, .ro c4 (.pi .i64 l4) 1]) (l := [.bool true]) (AM.bJ X) Try.func5 hcode rfl rfl (by simp [AM.dn]) rfl rfl rfl ⟨o, ⟨he, by show some [AM.ay o.fr 10] = _; rw [h4]⟩, hrun⟩
    exact ⟨n, _, [], hn n (Nat.le_refl _), r0, r1, r2, r3, r4, trivial⟩

theorem squeezeBack_holds : Rows.SqueezeBackSaid :=
  OpenClaim.holds_of_wide 5 Try.f5 rfl rfl rfl rfl rfl rfl rfl ⟨rfl, rfl, rfl, rfl, rfl⟩ rfl rfl rfl rfl rfl (by kernel_rfl) Try.func5 (by kernel_rfl)
    (of_decide_eq_true (by kernel_rfl)) (by unfold Func.isWrapper; first | (rw [if_pos (by decide +kernel)]; kernel_rfl) | (rw [if_neg (by decide +kernel)]; exact ⟨rfl, rfl⟩))
    (fun os started H enc _ => zD os started H enc)

end Go.Proofs.Ytbodincpjijdiaa
