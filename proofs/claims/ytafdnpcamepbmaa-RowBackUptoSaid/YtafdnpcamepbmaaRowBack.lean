/- RowBack, up to the bulk: whatever the values, the types, the cut and the byte more, the law returns true and leaves its arguments; proved over the abstract machine: walks of AppendText, ReadText, AppendBinary and ReadBinary, and that what is written is read back, less is too short, more is wrong. Condition: what is read is of bulk at most 1048576. -/
import Derived.Test.YtafdnpcamepbmaaRows
import Derived.Test.YtafdnpcamepbmaaMg7
import Derived.Test.YtafdnpcamepbmaaAm4
namespace Go.Proofs.Ytafdnpcamepbmaa
open Go.ChangeShapes Go.WideShapes Go.ChangeAt Go.RowKit

theorem tU3 : Try.prog.underlying 3 = some (.int .i64) := by kernel_rfl
theorem tU5 : Try.prog.underlying 5 = some (.int .u8) := by kernel_rfl

theorem bulk_part {H : Type} {d : DataW H} {l : List (DataW H)} (h : d ∈ l) : Rows.uptoBulk d ≤ Rows.uptoBulkAll l := by
  induction l with
  | nil => cases h
  | cons x r ih =>
    simp only [Rows.uptoBulkAll]
    rcases List.mem_cons.1 h with rfl | h
    · omega
    · have := ih h; omega

theorem bulk_str {H : Type} {d : DataW H} {s : List UInt8} (h : AM.StrIn d s) : s.length ≤ Rows.uptoBulk d := by
  induction h with
  | lit s => simp [Rows.uptoBulk]
  | agg hm _ ih => have := bulk_part hm; simp only [Rows.uptoBulk]; omega
  | elem hm _ ih => have := bulk_part hm; simp only [Rows.uptoBulk]; omega

set_option maxRecDepth 100000 in
theorem rowBack_lifted (os : Os) (started : os.Started) (H : Type) (enc : TypeId × Value → H) (F : Stop.Interp) :
    ReturnsInHanded {} Try.checked os 4 .any ((Rows.OpenSpec.upto Rows.rowBackSpec).pre6 enc Try.prog Try.f4 Rows.rowBackUptoRow.domain false) (((Rows.OpenSpec.upto Rows.rowBackSpec).at F).post enc Try.prog Try.f4 false true false false) := by
  refine AM.law_lifted_upto (D := Try.checked) (X := X) (s := Rows.OpenSpec.upto Rows.rowBackSpec) (s0 := Rows.rowBackSpec) (k := Rows.uptoSmall) rfl ctxOk (fun W => AM.GOk.none (fun _ => rfl) W) rfl rfl own started (by kernel_rfl) Try.func4
    (OpenSpec.witness (enc := enc) (C := Try.checked) (s := Rows.OpenSpec.upto Rows.rowBackSpec) (k := Rows.uptoSmall) rfl false ⟨#[], #[.slice .none 0 0, .slice .none 0 0, .int .i64 0, .int .u8 0], []⟩ 8 (by kernel_rfl) (by kernel_rfl) (by kernel_rfl) (x := ([.nil, .nil, .lit (.int .i64 0), .lit (.int .u8 0)], [], [])) (by kernel_rfl) rfl (by kernel_rfl)) (by kernel_rfl) (by kernel_rfl) full ?_ rfl rfl rfl (by kernel_rfl) ?_ ?_
  · have : ∀ t ∈ [23, 24, 3, 5], t < Try.prog.types.size := by
      rw [show Try.prog.types.size = 200 - (200 - Try.prog.types.size) from by kernel_rfl]
      decide +kernel
    exact this
  · intro ds hd
    match ds, hd with
    | [a, b, c, d], _ => rfl
  · intro W base args ds ps hkk hval hA
    have hA' : DataW.TrodAll enc Try.prog W 0 (fun _ => true) true [23, 24, 3, 5] args.toList ds ps := hA
    obtain ⟨v0, v1, v2, v3, d0, d1, d2, d3, p0, p1, p2, p3, rfl, rfl, rfl, h0, h1, h2, h3⟩ := trodAll_four hA'
    obtain ⟨c0, l0, hq0, hc0, hm0, r0⟩ := arg_vas (hval 0 23 v0 rfl rfl) h0
    obtain ⟨c1, l1, hq1, hc1, hm1, r1⟩ := arg_tys (hval 1 24 v1 rfl rfl) h1
    obtain ⟨x2, hx2, r2⟩ := AM.arg_int tU3 (hval 2 3 v2 rfl rfl) h2
    obtain ⟨x3, hx3, r3⟩ := AM.arg_int tU5 (hval 3 5 v3 rfl rfl) h3
    obtain ⟨k3, rfl, b3⟩ := AM.nat_wf rfl hx3
    have hbk : Rows.uptoBulkAll [d0, d1, d2, d3] ≤ 1048576 := of_decide_eq_true hkk
    have bk0 : Rows.uptoBulk d0 ≤ 1048576 := Nat.le_trans (bulk_part (l := [d0, d1, d2, d3]) (by simp)) hbk
    have bk1 : Rows.uptoBulk d1 ≤ 1048576 := Nat.le_trans (bulk_part (l := [d0, d1, d2, d3]) (by simp)) hbk
    have bk2 : Rows.uptoBulk d2 ≤ 1048576 := Nat.le_trans (bulk_part (l := [d0, d1, d2, d3]) (by simp)) hbk
    have bk3 : Rows.uptoBulk d3 ≤ 1048576 := Nat.le_trans (bulk_part (l := [d0, d1, d2, d3]) (by simp)) hbk
    obtain ⟨code, hcode, ⟨o, ⟨he, h4⟩, hrun⟩⟩ := back_code2 c0 l0 c1 l1 x2 k3 b3 hc0 hc1 (fun p hp => (hq0 p hp).1) (fun p hp => Nat.le_trans (bulk_str (hq0 p hp).2) bk0) hq1
    obtain ⟨n, hn⟩ := AM.Ev1.toldP (H := []) (args := [.ro c0 (.pr 12 (l0.map Va.pay)) 1, .ro c1 (.pr 2 (l1.map Ty.pay)) 1, .int .i64 x2, .int .u8 (k3 : Nat)]) (l := [.bool true]) (AM.evT_below X) Try.func4 hcode rfl rfl (by simp [AM.gtag]) rfl rfl rfl ⟨o, ⟨he, by show some [AM.getF o.fr 8] = _; rw [h4]⟩, hrun⟩
    exact ⟨n, _, [], hn n (Nat.le_refl _), r0, r1, r2, r3, trivial⟩

theorem rowBackUpto_holds : Rows.RowBackUptoSaid :=
  OpenClaim.holds_of_cond 4 Try.f4 rfl rfl rfl rfl rfl rfl rfl ⟨rfl, rfl, rfl, rfl, rfl⟩ rfl rfl rfl rfl rfl (by kernel_rfl) Try.func4 (by kernel_rfl)
    (of_decide_eq_true (by kernel_rfl)) (by unfold Func.isWrapper; first | (rw [if_pos (by decide +kernel)]; kernel_rfl) | (rw [if_neg (by decide +kernel)]; exact ⟨rfl, rfl⟩))
    (fun os started H enc _ F => rowBack_lifted os started H enc F)

end Go.Proofs.Ytafdnpcamepbmaa
