/- PacketChunks, up to the bulk: whatever the payloads, the frame's size, the cuts, the law returns true and leaves its arguments; proved over the abstract machine: walks of Split, Chunks, New, Feed, Held and Next on a reader that is held, and that frames in whatever chunks tell the payloads, each as soon as it is there. Condition: what is read is of bulk at most 1048576. -/
import Derived.Test.YtconnpileacfeaaRows
import Derived.Test.YtconnpileacfeaaMg4
import Derived.Test.YtconnpileacfeaaAm4
namespace Go.Proofs.Ytconnpileacfeaa
open Go.ChangeShapes Go.WideShapes Go.ChangeAt Go.RowKit

theorem tC3 : Try.prog.cellsOf 3 = 1 := by kernel_rfl
theorem tU3 : Try.prog.underlying 3 = some (.int .i64) := by kernel_rfl
theorem tU44 : Try.prog.underlying 44 = some (.slice 3) := by kernel_rfl
theorem rU43 : Try.prog.underlying 43 = some (.slice 22) := by kernel_rfl
theorem rU22 : Try.prog.underlying 22 = some (.slice 5) := by kernel_rfl
theorem rU5 : Try.prog.underlying 5 = some (.int .u8) := by kernel_rfl
theorem rC5 : Try.prog.cellsOf 5 = 1 := by kernel_rfl
theorem rC22 : Try.prog.cellsOf 22 = 1 := by kernel_rfl

theorem bulk_part {H : Type} {d : DataW H} {l : List (DataW H)} (h : d ∈ l) : Rows.uptoBulk d ≤ Rows.uptoBulkAll l := by
  induction l with
  | nil => cases h
  | cons x r ih =>
    simp only [Rows.uptoBulkAll]
    rcases List.mem_cons.1 h with rfl | h
    · omega
    · have := ih h; omega

theorem bulk_str {H : Type} {d : DataW H} {s : List UInt8} (h : AM.StrIn d s) : s.length ≤ Rows.uptoBulk d := by
  induction h with
  | lit s => simp [Rows.uptoBulk]
  | agg hm _ ih => have := bulk_part hm; simp only [Rows.uptoBulk]; omega
  | elem hm _ ih => have := bulk_part hm; simp only [Rows.uptoBulk]; omega

set_option maxRecDepth 100000 in
theorem packetChunks_lifted (os : Os) (started : os.Started) (H : Type) (enc : TypeId × Value → H) (F : Stop.Interp) :
    ReturnsInHanded {} Try.checked os 5 .any ((Rows.OpenSpec.upto Rows.packetChunksSpec).pre6 enc Try.prog Try.f5 Rows.packetChunksUptoRow.domain false) (((Rows.OpenSpec.upto Rows.packetChunksSpec).at F).post enc Try.prog Try.f5 false true false false) := by
  refine AM.law_lifted_upto (D := Try.checked) (X := X) (s := Rows.OpenSpec.upto Rows.packetChunksSpec) (s0 := Rows.packetChunksSpec) (k := Rows.uptoSmall) rfl ctxOk (fun W => AM.GOk.none (fun _ => rfl) W) rfl rfl own started (by kernel_rfl) Try.func5
    (OpenSpec.witness (enc := enc) (C := Try.checked) (s := Rows.OpenSpec.upto Rows.packetChunksSpec) (k := Rows.uptoSmall) rfl false ⟨#[], #[.slice .none 0 0, .int .i64 0, .slice .none 0 0], []⟩ 8 (by kernel_rfl) (by kernel_rfl) (by kernel_rfl) (x := ([.nil, .lit (.int .i64 0), .nil], [], [])) (by kernel_rfl) rfl (by kernel_rfl)) (by kernel_rfl) (by kernel_rfl) full ?_ rfl rfl rfl (by kernel_rfl) ?_ ?_
  · have : ∀ t ∈ [43, 3, 44], t < Try.prog.types.size := by
      rw [show Try.prog.types.size = 200 - (200 - Try.prog.types.size) from by kernel_rfl]
      decide +kernel
    exact this
  · intro ds hd
    match ds, hd with
    | [a, b, c], _ => rfl
  · intro W base args ds ps hkk hval hA
    have hA' : DataW.TrodAll enc Try.prog W 0 (fun _ => true) true [43, 3, 44] args.toList ds ps := hA
    obtain ⟨v0, v1, v2, d0, d1, d2, p0, p1, p2, rfl, rfl, rfl, h0, h1, h2⟩ := trodAll_three hA'
    obtain ⟨c0, rows0, hq0, hc0, hm0, r0⟩ := AM.arg_bytess rU43 rU22 rU5 rC5 rC22 (hval 0 43 v0 rfl rfl) h0
    obtain ⟨x1, hx1, r1⟩ := AM.arg_int tU3 (hval 1 3 v1 rfl rfl) h1
    obtain ⟨c2, l2, hc2, _, r2⟩ := AM.arg_ints tU44 tU3 tC3 (hval 2 44 v2 rfl rfl) h2
    have hbk : Rows.uptoBulkAll [d0, d1, d2] ≤ 1048576 := of_decide_eq_true hkk
    have bk0 : Rows.uptoBulk d0 ≤ 1048576 := Nat.le_trans (bulk_part (l := [d0, d1, d2]) (by simp)) hbk
    have bk1 : Rows.uptoBulk d1 ≤ 1048576 := Nat.le_trans (bulk_part (l := [d0, d1, d2]) (by simp)) hbk
    have bk2 : Rows.uptoBulk d2 ≤ 1048576 := Nat.le_trans (bulk_part (l := [d0, d1, d2]) (by simp)) hbk
    obtain ⟨code, hcode, ⟨o, ⟨he, h4⟩, hrun⟩⟩ := chunk_code c0 c2 rows0 l2 x1 (fun r hr => (hq0 r hr).1)
    obtain ⟨n, hn⟩ := AM.Ev1.toldP (H := []) (args := [.ro c0 (.pc (rows0.map AM.bRow)) 1, .int .i64 x1, .ro c2 (.pi .i64 l2) 1]) (l := [.bool true]) (AM.evT_below X) Try.func5 hcode rfl rfl (by simp [AM.gtag]) rfl rfl rfl ⟨o, ⟨he, by show some [AM.getF o.fr 6] = _; rw [h4]⟩, hrun⟩
    exact ⟨n, _, [], hn n (Nat.le_refl _), r0, r1, r2, trivial⟩

theorem packetChunksUpto_holds : Rows.PacketChunksUptoSaid :=
  OpenClaim.holds_of_cond 5 Try.f5 rfl rfl rfl rfl rfl rfl rfl ⟨rfl, rfl, rfl, rfl, rfl⟩ rfl rfl rfl rfl rfl (by kernel_rfl) Try.func5 (by kernel_rfl)
    (of_decide_eq_true (by kernel_rfl)) (by unfold Func.isWrapper; first | (rw [if_pos (by decide +kernel)]; kernel_rfl) | (rw [if_neg (by decide +kernel)]; exact ⟨rfl, rfl⟩))
    (fun os started H enc _ F => packetChunks_lifted os started H enc F)

end Go.Proofs.Ytconnpileacfeaa
