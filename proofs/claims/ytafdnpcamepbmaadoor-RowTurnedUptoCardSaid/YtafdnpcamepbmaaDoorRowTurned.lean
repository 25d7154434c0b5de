/- RowTurned, up to the bulk: whatever the values, the types, the law returns true and leaves its arguments, as its tied card says; proved over the abstract machine: walks of AppendBinary, Turned (ReadBinary, Text, AppendText), ReadText, and that what is turned reads back. Condition: what is read is of bulk at most 1048576. -/
import Derived.Test.YtafdnpcamepbmaaDoorRows
import Derived.Test.YtafdnpcamepbmaaDoorCards
import Derived.Test.YtafdnpcamepbmaaDoorTie
import Derived.Lay
import Derived.Test.YtafdnpcamepbmaaDoorMg7
import Derived.Test.YtafdnpcamepbmaaDoorAm3
namespace Go.Proofs.YtafdnpcamepbmaaDoor
open Go.ChangeShapes Go.WideShapes Go.ChangeAt Go.RowKit

set_option maxRecDepth 100000 in
theorem gOk (W : World) (h : laidMetH Tryd.prog Rows.rowTurnedUptoRow.laid W) : AM.GOk X W := by
  rw [Go.MakeChecks.laidMetH_plain _ _ _ (by kernel_rfl)] at h
  refine AM.gok_list (L := globs) rfl fun x hx => ?_
  simp only [globs, List.mem_cons, List.not_mem_nil, or_false] at hx
  rcases hx with hx | hx | hx
  · subst hx
    exact AM.gone_int (P := Tryd.prog) (AM.tab_cells (g := 0) (k := .u64) (zs := [1, 10, 100, 1000, 10000, 100000, 1000000, 10000000, 100000000, 1000000000, 10000000000, 100000000000, 1000000000000, 10000000000000, 100000000000000, 1000000000000000, 10000000000000000, 100000000000000000, 1000000000000000000, 10000000000000000000]) (t := 92) (e := 34) (n := 20) (show _ ∈ Rows.rowTurnedUptoRow.laid from .tail _ (.tail _ (.head _))) (by kernel_rfl) (by kernel_rfl) (by kernel_rfl) (by kernel_rfl) (by kernel_rfl) (by kernel_rfl) h) (by kernel_rfl) (by kernel_rfl)
  · subst hx
    exact AM.gone_bytes (P := Tryd.prog) (l := [0, 1, 28, 2, 29, 14, 24, 3, 30, 22, 20, 15, 25, 17, 4, 8, 31, 27, 13, 23, 21, 19, 16, 7, 26, 12, 18, 6, 11, 5, 10, 9]) (AM.tab_cells (g := 1) (k := .u8) (zs := ([0, 1, 28, 2, 29, 14, 24, 3, 30, 22, 20, 15, 25, 17, 4, 8, 31, 27, 13, 23, 21, 19, 16, 7, 26, 12, 18, 6, 11, 5, 10, 9] : List UInt8).map fun b => (b.toNat : Int)) (t := 116) (e := 5) (n := 32) (show _ ∈ Rows.rowTurnedUptoRow.laid from .head _) (by kernel_rfl) (by kernel_rfl) (by kernel_rfl) (by kernel_rfl) (by kernel_rfl) (by kernel_rfl) h) (by kernel_rfl) (by kernel_rfl)
  · subst hx
    exact AM.gone_bytes (P := Tryd.prog) (l := [0, 1, 56, 2, 57, 49, 28, 3, 61, 58, 42, 50, 38, 29, 17, 4, 62, 47, 59, 36, 45, 43, 51, 22, 53, 39, 33, 30, 24, 18, 12, 5, 63, 55, 48, 27, 60, 41, 37, 16, 46, 35, 44, 21, 52, 32, 23, 11, 54, 26, 40, 15, 34, 20, 31, 10, 25, 14, 19, 9, 13, 8, 7, 6]) (AM.tab_cells (g := 2) (k := .u8) (zs := ([0, 1, 56, 2, 57, 49, 28, 3, 61, 58, 42, 50, 38, 29, 17, 4, 62, 47, 59, 36, 45, 43, 51, 22, 53, 39, 33, 30, 24, 18, 12, 5, 63, 55, 48, 27, 60, 41, 37, 16, 46, 35, 44, 21, 52, 32, 23, 11, 54, 26, 40, 15, 34, 20, 31, 10, 25, 14, 19, 9, 13, 8, 7, 6] : List UInt8).map fun b => (b.toNat : Int)) (t := 117) (e := 5) (n := 64) (show _ ∈ Rows.rowTurnedUptoRow.laid from .tail _ (.head _)) (by kernel_rfl) (by kernel_rfl) (by kernel_rfl) (by kernel_rfl) (by kernel_rfl) (by kernel_rfl) h) (by kernel_rfl) (by kernel_rfl)



theorem bulk_part {H : Type} {d : DataW H} {l : List (DataW H)} (h : d ∈ l) : Rows.uptoBulk d ≤ Rows.uptoBulkAll l := by
  induction l with
  | nil => cases h
  | cons x r ih =>
    simp only [Rows.uptoBulkAll]
    rcases List.mem_cons.1 h with rfl | h
    · omega
    · have := ih h; omega

theorem bulk_str {H : Type} {d : DataW H} {s : List UInt8} (h : AM.StrIn d s) : s.length ≤ Rows.uptoBulk d := by
  induction h with
  | lit s => simp [Rows.uptoBulk]
  | agg hm _ ih => have := bulk_part hm; simp only [Rows.uptoBulk]; omega
  | elem hm _ ih => have := bulk_part hm; simp only [Rows.uptoBulk]; omega

theorem witness_laidu {H : Type} {enc : TypeId × Value → H} {C : Checked} {os : Os} {f : FuncId} {fn : Func} {s : OpenSpec} {k : (H : Type) → List (DataW H) → Bool} (hk : s.cond = some k) {conds : List PathCond} {apart : Bool} {Y : World → Array Value → Prop} (w0 : World) (args : Array Value) (fuel : Nat) (hos : w0.os = os)
    (hsh : (w0.forCall (fun _ _ => 0) ⟨#[], args, []⟩).Shaped C.prog) (hok : Input.okWideB C.prog (w0.forCall (fun _ _ => 0) ⟨#[], args, []⟩) f ⟨#[], args, []⟩ = true)
    {x : List (DataW H) × List (DataW H) × List MemPlace} (hx : DataW.whole enc C.prog (w0.forCall (fun _ _ => 0) ⟨#[], args, []⟩).memory fn.params.toList s.vars apart args.toList fuel = some x)
    (hconds : conds.all (PathCond.test C.prog ⟨fn.params.toList, x.1, s.bare.plain.varTypes C.prog, x.2.1⟩) = true) (hkk : k H (x.1 ++ x.2.1) = true)
    (hsz : s.bare.sizedB enc C.prog fn apart (w0.forCall (fun _ _ => 0) ⟨#[], args, []⟩).memory args fuel = true)
    (hy : Y (w0.forCall (fun _ _ => 0) ⟨#[], args, []⟩).memory args) :
    ∃ (w : World) (tape : Tape) (i : Input), w.os = os ∧ (w.forCall tape i).Shaped C.prog ∧ i.vars = [] ∧ Input.okWide C.prog (w.forCall tape i) .any w.heap.size f i ∧
      ((s.pre enc C.prog fn conds apart (w.forCall tape i).memory i.args ∧ Y (w.forCall tape i).memory i.args) ∧ sizedMet enc C.prog fn s apart (w.forCall tape i).memory i.args) ∧
      ({} : Assume).holds C.prog (lone (Frame.enter C.prog f i.args .normal) [] (w.forCall tape i)) := by
  refine ⟨w0, fun _ _ => 0, ⟨#[], args, []⟩, hos, hsh, (Input.okWide_of_okWideB (base := 0) hok).1, (Input.okWide_of_okWideB hok).2, ⟨⟨(OpenSpec.pre_some hk conds apart _ _).2 ⟨x.1, x.2.1, x.2.2, DataW.Whole_of_whole hx, hconds, hkk⟩, hy⟩, sizedMet_of_sizedB hsz⟩, ?_⟩
  simp only [Assume.holds]
  exact ⟨by simp, by simp, fun _ => Modest.zero, by simp, by simp⟩

theorem rowTurned_met (os : Os) (args : Array Value) : laidMetH Tryd.prog Rows.rowTurnedUptoRow.laid ((World.laidAll Tryd.prog os Rows.rowTurnedUptoRow.laid).forCall (fun _ _ => 0) ⟨#[], args, []⟩).memory := by
  rw [Go.MakeChecks.laidMetH_plain _ _ _ (by kernel_rfl)]
  exact laidMet_laidAll _ (by kernel_rfl) (by kernel_rfl)

set_option maxRecDepth 100000 in
theorem rowTurned_lifted (os : Os) (started : os.Started) (H : Type) (enc : TypeId × Value → H) (F : Stop.Interp) :
    ReturnsInHanded {} Tryd.checked os 4 .any (fun w args => ((Rows.OpenSpec.upto Rows.rowTurnedSpec).pre enc Tryd.prog Tryd.f4 [] false w args ∧ laidMetH Tryd.prog Rows.rowTurnedUptoRow.laid w) ∧ sizedMet enc Tryd.prog Tryd.f4 (Rows.OpenSpec.upto Rows.rowTurnedSpec) false w args)
      (((Rows.OpenSpec.upto Rows.rowTurnedSpec).at F).post enc Tryd.prog Tryd.f4 false true false false) := by
  refine AM.law_lifted_upto_laid (D := Tryd.checked) (X := X) (s := Rows.OpenSpec.upto Rows.rowTurnedSpec) (s0 := Rows.rowTurnedSpec) (k := Rows.uptoSmall) rfl ctxOk (fun W h => gOk W h) rfl rfl own started (by kernel_rfl) Tryd.func4
    (witness_laidu (enc := enc) (C := Tryd.checked) (os := os) (s := Rows.OpenSpec.upto Rows.rowTurnedSpec) (k := Rows.uptoSmall) rfl (Y := fun w _ => laidMetH Tryd.prog Rows.rowTurnedUptoRow.laid w) (World.laidAll Tryd.prog os Rows.rowTurnedUptoRow.laid) #[.slice .none 0 0, .slice .none 0 0] 8 (World.laidAll_os _ _ _) (World.shaped_of_ZipB (by kernel_rfl) (by kernel_rfl)) (by kernel_rfl) (x := ([.nil, .nil], [], [])) (by kernel_rfl) rfl (by kernel_rfl) (by kernel_rfl) (rowTurned_met os _))
    (by kernel_rfl) (by kernel_rfl) full ?_ rfl rfl rfl (by kernel_rfl) ?_ ?_
  · have : ∀ t ∈ [25, 24], t < Tryd.prog.types.size := by
      rw [show Tryd.prog.types.size = 200 - (200 - Tryd.prog.types.size) from by kernel_rfl]
      decide +kernel
    exact this
  · intro ds hd
    match ds, hd with
    | [a, b], _ => rfl
  · intro W base args ds ps hkk hval hA
    have hA' : DataW.TrodAll enc Tryd.prog W 0 (fun _ => true) true [25, 24] args.toList ds ps := hA
    obtain ⟨v0, v1, d0, d1, p0, p1, rfl, rfl, rfl, h0, h1⟩ := trodAll_two hA'
    obtain ⟨c0, l0, hq0, hc0, hm0, r0⟩ := arg_vas (hval 0 25 v0 rfl rfl) h0
    obtain ⟨c1, l1, hq1, hc1, hm1, r1⟩ := arg_tys (hval 1 24 v1 rfl rfl) h1
    have hbk : Rows.uptoBulkAll [d0, d1] ≤ 1048576 := of_decide_eq_true hkk
    have bk0 : Rows.uptoBulk d0 ≤ 1048576 := Nat.le_trans (bulk_part (l := [d0, d1]) (by simp)) hbk
    have bk1 : Rows.uptoBulk d1 ≤ 1048576 := Nat.le_trans (bulk_part (l := [d0, d1]) (by simp)) hbk
    obtain ⟨code, hcode, ⟨o, ⟨he, h4⟩, hrun⟩⟩ := turned_code c0 l0 c1 l1 hc0 hc1 (fun p hp => (hq0 p hp).1) (fun p hp => Nat.le_trans (bulk_str (hq0 p hp).2) bk0) hq1
    obtain ⟨n, hn⟩ := AM.Ev1.toldP (H := []) (args := [.ro c0 (.pr 12 (l0.map Va.pay)) 1, .ro c1 (.pr 2 (l1.map Ty.pay)) 1]) (l := [.bool true]) (AM.evT_below X) Tryd.func4 hcode rfl rfl (by simp [AM.gtag]) rfl rfl rfl ⟨o, ⟨he, by show some [AM.getF o.fr 4] = _; rw [h4]⟩, hrun⟩
    exact ⟨n, _, [], hn n (Nat.le_refl _), r0, r1, trivial⟩

theorem rowTurnedUpto_row : Rows.RowTurnedUptoSaid :=
  OpenClaim.holds_of_cond 4 Tryd.f4 rfl rfl rfl rfl rfl rfl rfl ⟨rfl, rfl, rfl, rfl, rfl⟩ rfl rfl rfl rfl rfl (by kernel_rfl) Tryd.func4 (by kernel_rfl)
    (of_decide_eq_true (by kernel_rfl)) (by unfold Func.isWrapper; first | (rw [if_pos (by decide +kernel)]; kernel_rfl) | (rw [if_neg (by decide +kernel)]; exact ⟨rfl, rfl⟩))
    (fun os started H enc _ F => rowTurned_lifted os started H enc F)

theorem rowTurnedUpto_holds : Rows.RowTurnedUptoCardSaid :=
  Claim7.holds_tied_plain_at .later [] [.data, .data, .data] true (true, "06a8a641e340d9fb2e267542762391f544679531cfad358fafb31014c36fc05f") false
    rowTurnedUpto_row (fun _ h => by cases h) (by kernel_rfl) (fun _ h => by cases h) rowTurnedUpto_row_tie rfl ⟨rfl, rfl⟩ (by kernel_rfl) rfl
    (fun f fn hf hfn => by
      obtain rfl : f = 4 := Option.some.inj ((show Tryd.prog.funcNamed Rows.rowTurnedUptoRow.func = some 4 by kernel_rfl).symm.trans hf) |>.symm
      obtain rfl : fn = Tryd.f4 := (Option.some.inj (Tryd.func4.symm.trans hfn)).symm
      exact ⟨by kernel_rfl, fun j t ht => by
        have hp : Tryd.f4.params = #[25, 24] := rfl
        rw [hp] at ht
        match j with
        | 0 =>
          simp at ht
          subst ht
          exact (show Tryd.prog.wantsStandIn 25 = false by kernel_rfl)
        | 1 =>
          simp at ht
          subst ht
          exact (show Tryd.prog.wantsStandIn 24 = false by kernel_rfl)
        | j + 2 => simp at ht⟩)
    (by kernel_rfl)

end Go.Proofs.YtafdnpcamepbmaaDoor
