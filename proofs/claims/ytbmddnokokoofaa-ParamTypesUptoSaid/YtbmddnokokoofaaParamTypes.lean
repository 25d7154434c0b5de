/- ParamTypes, up to the bulk: whatever the parameters, the types that were known, the law returns true and leaves its arguments; proved over the abstract machine: walks of Append and Read, and that types told anew are read, types that are not must be known. Condition: what is read is of bulk at most 1048576. -/
import Derived.Test.YtbmddnokokoofaaRows
import Derived.Test.YtbmddnokokoofaaMg7
import Derived.Test.YtbmddnokokoofaaAm4
namespace Go.Proofs.Ytbmddnokokoofaa
open Go.ChangeShapes Go.WideShapes Go.ChangeAt Go.RowKit


theorem bulk_part {H : Type} {d : DataW H} {l : List (DataW H)} (h : d ∈ l) : Rows.uptoBulk d ≤ Rows.uptoBulkAll l := by
  induction l with
  | nil => cases h
  | cons x r ih =>
    simp only [Rows.uptoBulkAll]
    rcases List.mem_cons.1 h with rfl | h
    · omega
    · have := ih h; omega

theorem bulk_str {H : Type} {d : DataW H} {s : List UInt8} (h : AM.StrIn d s) : s.length ≤ Rows.uptoBulk d := by
  induction h with
  | lit s => simp [Rows.uptoBulk]
  | agg hm _ ih => have := bulk_part hm; simp only [Rows.uptoBulk]; omega
  | elem hm _ ih => have := bulk_part hm; simp only [Rows.uptoBulk]; omega

set_option maxRecDepth 100000 in
theorem paramTypes_lifted (os : Os) (started : os.Started) (H : Type) (enc : TypeId × Value → H) (F : Stop.Interp) :
    ReturnsInHanded {} Try.checked os 7 .any ((Rows.OpenSpec.upto Rows.paramTypesSpec).pre6 enc Try.prog Try.f7 Rows.paramTypesUptoRow.domain false) (((Rows.OpenSpec.upto Rows.paramTypesSpec).at F).post enc Try.prog Try.f7 false true false false) := by
  refine AM.law_lifted_upto (D := Try.checked) (X := X) (s := Rows.OpenSpec.upto Rows.paramTypesSpec) (s0 := Rows.paramTypesSpec) (k := Rows.uptoSmall) rfl ctxOk (fun W => AM.GOk.none (fun _ => rfl) W) rfl rfl own started (by kernel_rfl) Try.func7
    (OpenSpec.witness (enc := enc) (C := Try.checked) (s := Rows.OpenSpec.upto Rows.paramTypesSpec) (k := Rows.uptoSmall) rfl false ⟨#[], #[.slice .none 0 0, .slice .none 0 0], []⟩ 8 (by kernel_rfl) (by kernel_rfl) (by kernel_rfl) (x := ([.nil, .nil], [], [])) (by kernel_rfl) rfl (by kernel_rfl)) (by kernel_rfl) (by kernel_rfl) full ?_ rfl rfl rfl (by kernel_rfl) ?_ ?_
  · have : ∀ t ∈ [35, 43], t < Try.prog.types.size := by
      rw [show Try.prog.types.size = 200 - (200 - Try.prog.types.size) from by kernel_rfl]
      decide +kernel
    exact this
  · intro ds hd
    match ds, hd with
    | [a, b], _ => rfl
  · intro W base args ds ps hkk hval hA
    have hA' : DataW.TrodAll enc Try.prog W 0 (fun _ => true) true [35, 43] args.toList ds ps := hA
    obtain ⟨v0, v1, d0, d1, p0, p1, rfl, rfl, rfl, h0, h1⟩ := trodAll_two hA'
    obtain ⟨c0, l0, hq0, hc0, hm0, r0⟩ := arg_pms (hval 0 35 v0 rfl rfl) h0
    obtain ⟨c1, l1, hq1, hc1, hm1, r1⟩ := arg_tys (hval 1 43 v1 rfl rfl) h1
    have hbk : Rows.uptoBulkAll [d0, d1] ≤ 1048576 := of_decide_eq_true hkk
    have bk0 : Rows.uptoBulk d0 ≤ 1048576 := Nat.le_trans (bulk_part (l := [d0, d1]) (by simp)) hbk
    have bk1 : Rows.uptoBulk d1 ≤ 1048576 := Nat.le_trans (bulk_part (l := [d0, d1]) (by simp)) hbk
    obtain ⟨code, hcode, ⟨o, ⟨he, h4⟩, hrun⟩⟩ := types_code c0 l0 c1 l1 hc0 hc1 hq1 (fun p hp => (hq0 p hp).1) (fun p hp => Nat.le_trans (bulk_str (hq0 p hp).2) bk0)
    obtain ⟨n, hn⟩ := AM.Ev1.toldP (H := []) (args := [.ro c0 (pmL l0) 1, .ro c1 (.pr 2 (l1.map Ty.pay)) 1]) (l := [.bool true]) (AM.evT_below X) Try.func7 hcode rfl rfl (by simp [AM.gtag]) rfl rfl rfl ⟨o, ⟨he, by show some [AM.getF o.fr 4] = _; rw [h4]⟩, hrun⟩
    exact ⟨n, _, [], hn n (Nat.le_refl _), r0, r1, trivial⟩

theorem paramTypesUpto_holds : Rows.ParamTypesUptoSaid :=
  OpenClaim.holds_of_cond 7 Try.f7 rfl rfl rfl rfl rfl rfl rfl ⟨rfl, rfl, rfl, rfl, rfl⟩ rfl rfl rfl rfl rfl (by kernel_rfl) Try.func7 (by kernel_rfl)
    (of_decide_eq_true (by kernel_rfl)) (by unfold Func.isWrapper; first | (rw [if_pos (by decide +kernel)]; kernel_rfl) | (rw [if_neg (by decide +kernel)]; exact ⟨rfl, rfl⟩))
    (fun os started H enc _ F => paramTypes_lifted os started H enc F)

end Go.Proofs.Ytbmddnokokoofaa
