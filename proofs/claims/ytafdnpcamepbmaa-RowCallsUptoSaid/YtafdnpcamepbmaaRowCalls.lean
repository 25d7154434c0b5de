/- RowCalls, up to the bulk: whatever the bytes, the values, the types, the law returns true and leaves its arguments; proved over the abstract machine: walks of AppendText and AppendBinary, of the document's, and that they tell the same. Condition: what is read is of bulk at most 1048576. -/
import Derived.Test.YtafdnpcamepbmaaRows
import Derived.Test.YtafdnpcamepbmaaMg6
import Derived.Test.YtafdnpcamepbmaaAm3
namespace Go.Proofs.Ytafdnpcamepbmaa
open Go.ChangeShapes Go.WideShapes Go.ChangeAt Go.RowKit

theorem tC5 : Try.prog.cellsOf 5 = 1 := by kernel_rfl
theorem tU22 : Try.prog.underlying 22 = some (.slice 5) := by kernel_rfl
theorem tU5 : Try.prog.underlying 5 = some (.int .u8) := by kernel_rfl

theorem bulk_part {H : Type} {d : DataW H} {l : List (DataW H)} (h : d ∈ l) : Rows.uptoBulk d ≤ Rows.uptoBulkAll l := by
  induction l with
  | nil => cases h
  | cons x r ih =>
    simp only [Rows.uptoBulkAll]
    rcases List.mem_cons.1 h with rfl | h
    · omega
    · have := ih h; omega

theorem bulk_str {H : Type} {d : DataW H} {s : List UInt8} (h : AM.StrIn d s) : s.length ≤ Rows.uptoBulk d := by
  induction h with
  | lit s => simp [Rows.uptoBulk]
  | agg hm _ ih => have := bulk_part hm; simp only [Rows.uptoBulk]; omega
  | elem hm _ ih => have := bulk_part hm; simp only [Rows.uptoBulk]; omega

set_option maxRecDepth 100000 in
theorem rowCalls_lifted (os : Os) (started : os.Started) (H : Type) (enc : TypeId × Value → H) (F : Stop.Interp) :
    ReturnsInHanded {} Try.checked os 3 .any ((Rows.OpenSpec.upto Rows.rowCallsSpec).pre6 enc Try.prog Try.f3 Rows.rowCallsUptoRow.domain false) (((Rows.OpenSpec.upto Rows.rowCallsSpec).at F).post enc Try.prog Try.f3 false true false false) := by
  refine AM.law_lifted_upto (D := Try.checked) (X := X) (s := Rows.OpenSpec.upto Rows.rowCallsSpec) (s0 := Rows.rowCallsSpec) (k := Rows.uptoSmall) rfl ctxOk (fun W => AM.GOk.none (fun _ => rfl) W) rfl rfl own started (by kernel_rfl) Try.func3
    (OpenSpec.witness (enc := enc) (C := Try.checked) (s := Rows.OpenSpec.upto Rows.rowCallsSpec) (k := Rows.uptoSmall) rfl false ⟨#[], #[.slice .none 0 0, .slice .none 0 0, .slice .none 0 0], []⟩ 8 (by kernel_rfl) (by kernel_rfl) (by kernel_rfl) (x := ([.nil, .nil, .nil], [], [])) (by kernel_rfl) rfl (by kernel_rfl)) (by kernel_rfl) (by kernel_rfl) full ?_ rfl rfl rfl (by kernel_rfl) ?_ ?_
  · have : ∀ t ∈ [22, 23, 24], t < Try.prog.types.size := by
      rw [show Try.prog.types.size = 200 - (200 - Try.prog.types.size) from by kernel_rfl]
      decide +kernel
    exact this
  · intro ds hd
    match ds, hd with
    | [a, b, c], _ => rfl
  · intro W base args ds ps hkk hval hA
    have hA' : DataW.TrodAll enc Try.prog W 0 (fun _ => true) true [22, 23, 24] args.toList ds ps := hA
    obtain ⟨v0, v1, v2, d0, d1, d2, p0, p1, p2, rfl, rfl, rfl, h0, h1, h2⟩ := trodAll_three hA'
    obtain ⟨c0, l0, hc0, _, r0⟩ := AM.arg_bytes0 tU22 tU5 tC5 (hval 0 22 v0 rfl rfl) h0
    obtain ⟨c1, l1, hq1, hc1, hm1, r1⟩ := arg_vas (hval 1 23 v1 rfl rfl) h1
    obtain ⟨c2, l2, hq2, hc2, hm2, r2⟩ := arg_tys (hval 2 24 v2 rfl rfl) h2
    have hbk : Rows.uptoBulkAll [d0, d1, d2] ≤ 1048576 := of_decide_eq_true hkk
    have bk0 : Rows.uptoBulk d0 ≤ 1048576 := Nat.le_trans (bulk_part (l := [d0, d1, d2]) (by simp)) hbk
    have bk1 : Rows.uptoBulk d1 ≤ 1048576 := Nat.le_trans (bulk_part (l := [d0, d1, d2]) (by simp)) hbk
    have bk2 : Rows.uptoBulk d2 ≤ 1048576 := Nat.le_trans (bulk_part (l := [d0, d1, d2]) (by simp)) hbk
    obtain ⟨code, hcode, ⟨o, ⟨he, h4⟩, hrun⟩⟩ := calls_code c0 l0 c1 l1 c2 l2 hc0 hc1 hc2 (fun p hp => (hq1 p hp).1) (fun p hp => Nat.le_trans (bulk_str (hq1 p hp).2) bk1) hq2
    obtain ⟨n, hn⟩ := AM.Ev1.toldP (H := []) (args := [.ro c0 (.pb l0) 1, .ro c1 (.pr 12 (l1.map Va.pay)) 1, .ro c2 (.pr 2 (l2.map Ty.pay)) 1]) (l := [.bool true]) (AM.evT_below X) Try.func3 hcode rfl rfl (by simp [AM.gtag]) rfl rfl rfl ⟨o, ⟨he, by show some [AM.getF o.fr 6] = _; rw [h4]⟩, hrun⟩
    exact ⟨n, _, [], hn n (Nat.le_refl _), r0, r1, r2, trivial⟩

theorem rowCallsUpto_holds : Rows.RowCallsUptoSaid :=
  OpenClaim.holds_of_cond 3 Try.f3 rfl rfl rfl rfl rfl rfl rfl ⟨rfl, rfl, rfl, rfl, rfl⟩ rfl rfl rfl rfl rfl (by kernel_rfl) Try.func3 (by kernel_rfl)
    (of_decide_eq_true (by kernel_rfl)) (by unfold Func.isWrapper; first | (rw [if_pos (by decide +kernel)]; kernel_rfl) | (rw [if_neg (by decide +kernel)]; exact ⟨rfl, rfl⟩))
    (fun os started H enc _ F => rowCalls_lifted os started H enc F)

end Go.Proofs.Ytafdnpcamepbmaa
