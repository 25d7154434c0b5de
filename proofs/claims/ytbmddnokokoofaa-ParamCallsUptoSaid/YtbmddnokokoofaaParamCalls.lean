/- ParamCalls, up to the bulk: whatever the bytes, the parameters, bound or not, the law returns true and leaves its arguments; proved over the abstract machine: walks of Append, of the document's Append, and that both tell the same. Condition: what is read is of bulk at most 1048576. -/
import Derived.Test.YtbmddnokokoofaaRows
import Derived.Test.YtbmddnokokoofaaA2
import Derived.Test.YtbmddnokokoofaaVG
import Derived.Test.YtbmddnokokoofaaAm3
namespace Go.Proofs.Ytbmddnokokoofaa
open Go.ChangeShapes Go.WideShapes Go.ChangeAt Go.RowKit

theorem tC5 : Try.prog.cellsOf 5 = 1 := by kernel_rfl
theorem tU22 : Try.prog.underlying 22 = some (.slice 5) := by kernel_rfl
theorem tU4 : Try.prog.underlying 4 = some .bool := by kernel_rfl
theorem tU5 : Try.prog.underlying 5 = some (.int .u8) := by kernel_rfl

theorem bulk_part {H : Type} {d : DataW H} {l : List (DataW H)} (h : d ∈ l) : Rows.uptoBulk d ≤ Rows.uptoBulkAll l := by
  induction l with
  | nil => cases h
  | cons x r ih =>
    simp only [Rows.uptoBulkAll]
    rcases List.mem_cons.1 h with rfl | h
    · omega
    · have := ih h; omega

theorem bulk_str {H : Type} {d : DataW H} {s : List UInt8} (h : AM.StrIn d s) : s.length ≤ Rows.uptoBulk d := by
  induction h with
  | lit s => simp [Rows.uptoBulk]
  | agg hm _ ih => have := bulk_part hm; simp only [Rows.uptoBulk]; omega
  | elem hm _ ih => have := bulk_part hm; simp only [Rows.uptoBulk]; omega

set_option maxRecDepth 100000 in
theorem paramCalls_lifted (os : Os) (started : os.Started) (H : Type) (enc : TypeId × Value → H) (F : Stop.Interp) :
    ReturnsInHanded {} Try.checked os 4 .any ((Rows.OpenSpec.upto Rows.paramCallsSpec).pre6 enc Try.prog Try.f4 Rows.paramCallsUptoRow.domain false) (((Rows.OpenSpec.upto Rows.paramCallsSpec).at F).post enc Try.prog Try.f4 false true false false) := by
  refine AM.law_lifted_upto (D := Try.checked) (X := X) (s := Rows.OpenSpec.upto Rows.paramCallsSpec) (s0 := Rows.paramCallsSpec) (k := Rows.uptoSmall) rfl ctxOk (fun W => AM.GOk.none (fun _ => rfl) W) rfl rfl own started (by kernel_rfl) Try.func4
    (OpenSpec.witness (enc := enc) (C := Try.checked) (s := Rows.OpenSpec.upto Rows.paramCallsSpec) (k := Rows.uptoSmall) rfl false ⟨#[], #[.slice .none 0 0, .slice .none 0 0, .bool false], []⟩ 8 (by kernel_rfl) (by kernel_rfl) (by kernel_rfl) (x := ([.nil, .nil, .lit (.bool false)], [], [])) (by kernel_rfl) rfl (by kernel_rfl)) (by kernel_rfl) (by kernel_rfl) full ?_ rfl rfl rfl (by kernel_rfl) ?_ ?_
  · have : ∀ t ∈ [22, 35, 4], t < Try.prog.types.size := by
      rw [show Try.prog.types.size = 200 - (200 - Try.prog.types.size) from by kernel_rfl]
      decide +kernel
    exact this
  · intro ds hd
    match ds, hd with
    | [a, b, c], _ => rfl
  · intro W base args ds ps hkk hval hA
    have hA' : DataW.TrodAll enc Try.prog W 0 (fun _ => true) true [22, 35, 4] args.toList ds ps := hA
    obtain ⟨v0, v1, v2, d0, d1, d2, p0, p1, p2, rfl, rfl, rfl, h0, h1, h2⟩ := trodAll_three hA'
    obtain ⟨c0, l0, hc0, _, r0⟩ := AM.arg_bytes0 tU22 tU5 tC5 (hval 0 22 v0 rfl rfl) h0
    obtain ⟨c1, l1, hq1, hc1, hm1, r1⟩ := arg_pms (hval 1 35 v1 rfl rfl) h1
    obtain ⟨b2, r2⟩ := AM.arg_bool tU4 (hval 2 4 v2 rfl rfl) h2
    have hbk : Rows.uptoBulkAll [d0, d1, d2] ≤ 1048576 := of_decide_eq_true hkk
    have bk0 : Rows.uptoBulk d0 ≤ 1048576 := Nat.le_trans (bulk_part (l := [d0, d1, d2]) (by simp)) hbk
    have bk1 : Rows.uptoBulk d1 ≤ 1048576 := Nat.le_trans (bulk_part (l := [d0, d1, d2]) (by simp)) hbk
    have bk2 : Rows.uptoBulk d2 ≤ 1048576 := Nat.le_trans (bulk_part (l := [d0, d1, d2]) (by simp)) hbk
    obtain ⟨code, hcode, ⟨o, ⟨he, h4⟩, hrun⟩⟩ := calls_code c0 l0 c1 l1 b2 hc0 (fun p hp => (hq1 p hp).1) (fun p hp => Nat.le_trans (bulk_str (hq1 p hp).2) bk1)
    obtain ⟨n, hn⟩ := AM.Ev1.toldP (H := []) (args := [.ro c0 (.pb l0) 1, .ro c1 (pmL l1) 1, .bool b2]) (l := [.bool true]) (AM.evT_below X) Try.func4 hcode rfl rfl (by simp [AM.gtag]) rfl rfl rfl ⟨o, ⟨he, by show some [AM.getF o.fr 6] = _; rw [h4]⟩, hrun⟩
    exact ⟨n, _, [], hn n (Nat.le_refl _), r0, r1, r2, trivial⟩

theorem paramCallsUpto_holds : Rows.ParamCallsUptoSaid :=
  OpenClaim.holds_of_cond 4 Try.f4 rfl rfl rfl rfl rfl rfl rfl ⟨rfl, rfl, rfl, rfl, rfl⟩ rfl rfl rfl rfl rfl (by kernel_rfl) Try.func4 (by kernel_rfl)
    (of_decide_eq_true (by kernel_rfl)) (by unfold Func.isWrapper; first | (rw [if_pos (by decide +kernel)]; kernel_rfl) | (rw [if_neg (by decide +kernel)]; exact ⟨rfl, rfl⟩))
    (fun os started H enc _ F => paramCalls_lifted os started H enc F)

end Go.Proofs.Ytbmddnokokoofaa
