/- SqueezeFrames: whatever the payloads, the frames' sizes and the cuts, the law returns true and leaves its arguments; proved over the abstract machine: walks of Split and Squeeze, of a reader of ajx frames and one of payloads, both made and fed chunk by chunk, and that what the one tells is told by the other as the payloads that were split. -/
import Derived.Test.YtbodincpjijdiaaRows
import Derived.Test.YtbodincpjijdiaaMg15
import Derived.Test.YtbodincpjijdiaaAm4
namespace Go.Proofs.Ytbodincpjijdiaa
open Go.ChangeShapes Go.WideShapes Go.ChangeAt Go.RowKit

theorem tC3 : Try.prog.cellsOf 3=1 := by kernel_rfl
theorem tU3 : Try.prog.underlying 3=some (.int .i64) := by kernel_rfl
theorem asY : Try.prog.underlying 36=some (.slice 3) := by kernel_rfl
theorem asZ : Try.prog.underlying 38=some (.slice 22) := by kernel_rfl
theorem as1 : Try.prog.underlying 22=some (.slice 5) := by kernel_rfl
theorem rU5 : Try.prog.underlying 5=some (.int .u8) := by kernel_rfl
theorem rC5 : Try.prog.cellsOf 5=1 := by kernel_rfl
theorem as2 : Try.prog.cellsOf 22=1 := by kernel_rfl

set_option maxRecDepth 100000 in
theorem yw(os : Os)(started : os.Started)(H : Type)(enc : TypeId×Value->H) :
 ReturnsInHanded {} Try.checked os 7 .any (Rows.squeezeFramesSpec.pre6 enc Try.prog Try.f7 Rows.squeezeFramesRow.domain false) (Rows.squeezeFramesSpec.post enc Try.prog Try.f7 false true false false) := by
 refine AM.law_lifted (D := Try.checked) (X := X) rfl af7 (fun _=>rfl) own started (by kernel_rfl) Try.func7
  (ChangeSpec.witness6 (enc := enc) (C := Try.checked) false ⟨#[], #[.slice .none 0 0, .int .i64 0, .int .i64 0, .slice .none 0 0], []⟩ 8 (by kernel_rfl) (by kernel_rfl) (by kernel_rfl) (by kernel_rfl)) (by kernel_rfl) (by kernel_rfl) full ?_ rfl rfl (by kernel_rfl) ?_ ?_
 .have : ∀ t∈[38, 3, 3, 36], t<Try.prog.types.size := by
   rw[show Try.prog.types.size=200-(200-Try.prog.types.size) from by kernel_rfl];decide +kernel
  exact this
 .intro ds hd
  match ds, hd with
  | [a, b, c, d], _=>rfl
 .intro W base args ds ps hval hA;have hA' : DataW.TrodAll enc Try.prog W 0 (fun _=>true) true [38, 3, 3, 36] args.toList ds ps := hA;obtain⟨v0, v1, v2, v3, d0, d1, d2, d3, p0, p1, p2, p3, rfl, rfl, rfl, h0, h1, h2, h3⟩ := trodAll_four hA';obtain⟨c0, adb, hq0, hc0, hm0, r0⟩ := AM.Qi asZ as1 rU5 rC5 as2 (hval 0 38 v0 rfl rfl) h0;obtain⟨x1, hx1, r1⟩ := AM.SN tU3 (hval 1 3 v1 rfl rfl) h1;obtain⟨x2, hx2, r2⟩ := AM.SN tU3 (hval 2 3 v2 rfl rfl) h2;obtain⟨c3, l3, hc3, _, r3⟩ := AM.Yv asY tU3 tC3 (hval 3 36 v3 rfl rfl) h3;obtain⟨code, hcode, ⟨o, ⟨he, h4⟩, hrun⟩⟩ := QS c0 c3 adb l3 x1 x2 (fun r hr=>(hq0 r hr).1);obtain⟨n, hn⟩ := AM.Ev1.rU (H := []) (args := [.ro c0 (.pc (adb.map AM.xG)) 1, .int .i64 x1, .int .i64 x2, .ro c3 (.pi .i64 l3) 1]) (l := [.bool true]) (AM.bC X) Try.func7 hcode rfl rfl (by simp[AM.dA]) rfl rfl rfl ⟨o, ⟨he, by show some [AM.aB o.fr 8]=_; rw[h4]⟩, hrun⟩;exact⟨n, _, [], hn n (Nat.le_refl _), r0, r1, r2, r3, trivial⟩

theorem squeezeFrames_holds : Rows.SqueezeFramesSaid :=
 OpenClaim.holds_of_wide 7 Try.f7 rfl rfl rfl rfl rfl rfl rfl ⟨rfl, rfl, rfl, rfl, rfl⟩ rfl rfl rfl rfl rfl (by kernel_rfl) Try.func7 (by kernel_rfl)
  (of_decide_eq_true (by kernel_rfl)) (by unfold Func.isWrapper; first|(rw[if_pos (by decide +kernel)]; kernel_rfl)|(rw[if_neg (by decide +kernel)]; exact⟨rfl, rfl⟩))
  (fun os started H enc _=>yw os started H enc)

end Go.Proofs.Ytbodincpjijdiaa
