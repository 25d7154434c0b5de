/- Arguments of laws: values, types, parameters; rows of them. -/
import Derived.Test.YtbmddnokokoofaaVE
import Derived.Test.YtbmddnokokoofaaAm3
namespace Go.Proofs.Ytbmddnokokoofaa
open Go.AM
set_option linter.unusedVariables false

/-- a value as it may come -/
def Va.okA (v : Va) : Prop := v.b < 18446744073709551616 ∧ -9223372036854775808 ≤ v.i ∧ v.i < 9223372036854775808

theorem row_pm {r : List AV} {cs : List Value} (h : Cells [.i .u8, .b, .b, .i .i64, .i .i64, .i .u64, .s, .b, .i .i64, .i .i64, .i .i64, .i .i64, .i .i64, .i .i64, .i .i64] r cs) : ∃ p : Pm, AV.pc r = p.pay ∧ p.ok ∧ AV.str p.v.t ∈ r := by
  rcases h with _ | ⟨h0, h⟩
  rcases h with _ | ⟨h1, h⟩
  rcases h with _ | ⟨h2, h⟩
  rcases h with _ | ⟨h3, h⟩
  rcases h with _ | ⟨h4, h⟩
  rcases h with _ | ⟨h5, h⟩
  rcases h with _ | ⟨h6, h⟩
  rcases h with _ | ⟨h7, h⟩
  rcases h with _ | ⟨h8, h⟩
  rcases h with _ | ⟨h9, h⟩
  rcases h with _ | ⟨h10, h⟩
  rcases h with _ | ⟨h11, h⟩
  rcases h with _ | ⟨h12, h⟩
  rcases h with _ | ⟨h13, h⟩
  rcases h with _ | ⟨h14, h⟩
  cases h
  obtain ⟨x0, rfl, _, w0⟩ := h0
  obtain ⟨x0, rfl, b0⟩ := AM.nat_wf rfl w0
  obtain ⟨x1, rfl, _⟩ := h1
  obtain ⟨x2, rfl, _⟩ := h2
  obtain ⟨x3, rfl, _, w3⟩ := h3
  have w3 := AM.i64_wf w3
  obtain ⟨x4, rfl, _, w4⟩ := h4
  have w4 := AM.i64_wf w4
  obtain ⟨x5, rfl, _, w5⟩ := h5
  obtain ⟨x5, rfl, b5⟩ := AM.nat_wf rfl w5
  obtain ⟨x6, rfl, _, _⟩ := h6
  obtain ⟨x7, rfl, _⟩ := h7
  obtain ⟨x8, rfl, _, w8⟩ := h8
  have w8 := AM.i64_wf w8
  obtain ⟨x9, rfl, _, w9⟩ := h9
  have w9 := AM.i64_wf w9
  obtain ⟨x10, rfl, _, w10⟩ := h10
  have w10 := AM.i64_wf w10
  obtain ⟨x11, rfl, _, w11⟩ := h11
  have w11 := AM.i64_wf w11
  obtain ⟨x12, rfl, _, w12⟩ := h12
  have w12 := AM.i64_wf w12
  obtain ⟨x13, rfl, _, w13⟩ := h13
  have w13 := AM.i64_wf w13
  obtain ⟨x14, rfl, _, w14⟩ := h14
  have w14 := AM.i64_wf w14
  exact ⟨⟨⟨x0, x1⟩, x2, ⟨x3, x4, x5, x6, ⟨x7, x8, x9, x10, x11, x12, x13, x14⟩⟩⟩, rfl, ⟨b0, b5, w4.1, Int.lt_of_le_of_lt w4.2 (by decide)⟩, by simp⟩

theorem lv_pm : leaves Try.prog 6 34 = some [.i .u8, .b, .b, .i .i64, .i .i64, .i .u64, .s, .b, .i .i64, .i .i64, .i .i64, .i .i64, .i .i64, .i .i64, .i .i64] := by kernel_rfl

/-- a row of them -/
theorem arg_pms {H : Type} {enc : TypeId × Value → H} {W : World} {base : Nat} {v : Value} {d : DataW H} {ps : List MemPlace} (hval : Value.okWide Try.prog W .any base 35 v) (hd : DataW.Trod enc Try.prog W 0 (fun _ => true) true 35 v d ps) :
    ∃ (c : Nat) (l : List Pm), (∀ p ∈ l, p.ok ∧ AM.StrIn d p.v.t) ∧ (c = 0 → l = []) ∧ l.length ≤ maxLen ∧ AM.VRel (AM.start W) (AM.T0 W.heap.size) (.ro c (.pr 15 (l.map Pm.pay)) 1) v := by
  obtain ⟨c, rows, h1, h2, h3, h4⟩ := AM.arg_rows (show Try.prog.underlying 35 = some (.slice 34) by kernel_rfl) lv_pm (by kernel_rfl) (by simp) hval hd
  obtain ⟨l, q1, q2, q3⟩ := AM.rows_as AV.pc Pm.pay (Q := fun p => p.ok ∧ AM.StrIn d p.v.t) (rows := rows) (fun r hr => by
    obtain ⟨⟨cs, h⟩, hs⟩ := h1 r hr
    obtain ⟨p, e, h5⟩ := row_pm h
    exact ⟨p, e, h5.1, hs _ h5.2⟩)
  refine ⟨c, l, q3, fun h => ?_, by rw [q2]; exact h3, ?_⟩
  · have := h2 h
    subst this
    exact List.eq_nil_of_length_eq_zero q2
  · rw [← q1]
    exact h4

theorem row_va {r : List AV} {cs : List Value} (h : Cells [.i .i64, .i .i64, .i .u64, .s, .b, .i .i64, .i .i64, .i .i64, .i .i64, .i .i64, .i .i64, .i .i64] r cs) : ∃ p : Va, AV.pc r = p.pay ∧ p.okA ∧ AV.str p.t ∈ r := by
  rcases h with _ | ⟨h0, h⟩
  rcases h with _ | ⟨h1, h⟩
  rcases h with _ | ⟨h2, h⟩
  rcases h with _ | ⟨h3, h⟩
  rcases h with _ | ⟨h4, h⟩
  rcases h with _ | ⟨h5, h⟩
  rcases h with _ | ⟨h6, h⟩
  rcases h with _ | ⟨h7, h⟩
  rcases h with _ | ⟨h8, h⟩
  rcases h with _ | ⟨h9, h⟩
  rcases h with _ | ⟨h10, h⟩
  rcases h with _ | ⟨h11, h⟩
  cases h
  obtain ⟨x0, rfl, _, w0⟩ := h0
  have w0 := AM.i64_wf w0
  obtain ⟨x1, rfl, _, w1⟩ := h1
  have w1 := AM.i64_wf w1
  obtain ⟨x2, rfl, _, w2⟩ := h2
  obtain ⟨x2, rfl, b2⟩ := AM.nat_wf rfl w2
  obtain ⟨x3, rfl, _, _⟩ := h3
  obtain ⟨x4, rfl, _⟩ := h4
  obtain ⟨x5, rfl, _, w5⟩ := h5
  have w5 := AM.i64_wf w5
  obtain ⟨x6, rfl, _, w6⟩ := h6
  have w6 := AM.i64_wf w6
  obtain ⟨x7, rfl, _, w7⟩ := h7
  have w7 := AM.i64_wf w7
  obtain ⟨x8, rfl, _, w8⟩ := h8
  have w8 := AM.i64_wf w8
  obtain ⟨x9, rfl, _, w9⟩ := h9
  have w9 := AM.i64_wf w9
  obtain ⟨x10, rfl, _, w10⟩ := h10
  have w10 := AM.i64_wf w10
  obtain ⟨x11, rfl, _, w11⟩ := h11
  have w11 := AM.i64_wf w11
  exact ⟨⟨x0, x1, x2, x3, ⟨x4, x5, x6, x7, x8, x9, x10, x11⟩⟩, rfl, ⟨b2, w1.1, Int.lt_of_le_of_lt w1.2 (by decide)⟩, by simp⟩

theorem lv_va : leaves Try.prog 6 32 = some [.i .i64, .i .i64, .i .u64, .s, .b, .i .i64, .i .i64, .i .i64, .i .i64, .i .i64, .i .i64, .i .i64] := by kernel_rfl

theorem row_ty {r : List AV} {cs : List Value} (h : Cells [.i .u8, .b] r cs) : ∃ p : Ty, AV.pc r = p.pay ∧ p.t < 256 := by
  rcases h with _ | ⟨h0, h⟩
  rcases h with _ | ⟨h1, h⟩
  cases h
  obtain ⟨x0, rfl, _, w0⟩ := h0
  obtain ⟨x0, rfl, b0⟩ := AM.nat_wf rfl w0
  obtain ⟨x1, rfl, _⟩ := h1
  exact ⟨⟨x0, x1⟩, rfl, b0⟩

theorem lv_ty : leaves Try.prog 6 27 = some [.i .u8, .b] := by kernel_rfl

/-- a row of them -/
theorem arg_tys {H : Type} {enc : TypeId × Value → H} {W : World} {base : Nat} {v : Value} {d : DataW H} {ps : List MemPlace} (hval : Value.okWide Try.prog W .any base 43 v) (hd : DataW.Trod enc Try.prog W 0 (fun _ => true) true 43 v d ps) :
    ∃ (c : Nat) (l : List Ty), (∀ p ∈ l, p.t < 256) ∧ (c = 0 → l = []) ∧ l.length ≤ maxLen ∧ AM.VRel (AM.start W) (AM.T0 W.heap.size) (.ro c (.pr 2 (l.map Ty.pay)) 1) v := by
  obtain ⟨c, rows, h1, h2, h3, h4⟩ := AM.arg_rows (show Try.prog.underlying 43 = some (.slice 27) by kernel_rfl) lv_ty (by kernel_rfl) (by simp) hval hd
  obtain ⟨l, q1, q2, q3⟩ := AM.rows_as AV.pc Ty.pay (Q := fun p => p.t < 256) (rows := rows) (fun r hr => by
    obtain ⟨⟨cs, h⟩, hs⟩ := h1 r hr
    obtain ⟨p, e, h5⟩ := row_ty h
    exact ⟨p, e, h5⟩)
  refine ⟨c, l, q3, fun h => ?_, by rw [q2]; exact h3, ?_⟩
  · have := h2 h
    subst this
    exact List.eq_nil_of_length_eq_zero q2
  · rw [← q1]
    exact h4

end Go.Proofs.Ytbmddnokokoofaa
