/- Plain: Write and the document's Write tell the same. -/
import Derived.Test.YtikleidhmekgnaaWF
namespace Go.Proofs.Ytikleidhmekgnaa
open Go.AM
set_option linter.unusedSimpArgs false
set_option linter.unusedVariables false

theorem fst_nonneg (l : List Int) (i : Nat) (h : l.length ≤ 320) : 0 ≤ fst (ct l) i := (fst_bound (ct l) (fun j => ⟨ct_nonneg l j, by have := ct_le l j; omega⟩) i).1

theorem code_neg {l : List Int} (h : l.length ≤ 320) (hf : fine l = true) {j : Nat} (hj : j < l.length) : code l j < 0 ↔ l.getD j 0 = 0 := by
  have hr : 0 ≤ l.getD j 0 ∧ l.getD j 0 ≤ 15 := by
    have := List.all_eq_true.1 hf (l.getD j 0) (by rw [List.getD_eq_getElem?_getD, List.getElem?_eq_getElem hj]; exact List.getElem_mem hj)
    simpa using this
  unfold code
  by_cases q : 0 < l.getD j 0
  · rw [if_pos q]
    have := fst_nonneg l (l.getD j 0).toNat h
    have := ct_nonneg (l.take j) (l.getD j 0).toNat
    omega
  · rw [if_neg q]; omega

theorem writeL_eq {l : List Int} (h : l.length ≤ 320) (hf : fine l = true) : ∀ (sy : List Int) (k : Nat) (b : List UInt8),
    (writeL l (codesR l) sy k b).2.2 = okL l sy ∧ (okL l sy = true → (writeL l (codesR l) sy k b).1 = (rwriteL l (codesR l) sy k b).1 ∧ (writeL l (codesR l) sy k b).2.1 = (rwriteL l (codesR l) sy k b).2)
  | [], k, b => by simp [writeL, okL, rwriteL]
  | s :: r, k, b => by
    unfold writeL okL rwriteL
    by_cases hc : s < 0 ∨ (l.length : Int) ≤ s ∨ l.getD s.toNat 0 = 0
    · have hc2 : s < 0 ∨ ((codesR l).length : Int) ≤ s ∨ (codesR l).getD s.toNat 0 < 0 := by
        rw [codesR_len]
        by_cases h1 : s < 0
        · exact .inl h1
        by_cases h2 : (l.length : Int) ≤ s
        · exact .inr (.inl h2)
        · have hj : s.toNat < l.length := by omega
          rw [codesR_at h hf _ hj, code_neg h hf hj]
          exact hc
      rw [if_pos hc, if_pos hc2]
      exact ⟨rfl, fun z => by cases z⟩
    · have hc2 : ¬ (s < 0 ∨ ((codesR l).length : Int) ≤ s ∨ (codesR l).getD s.toNat 0 < 0) := by
        rw [codesR_len]
        have hj : s.toNat < l.length := by omega
        rw [codesR_at h hf _ hj, code_neg h hf hj]
        exact hc
      rw [if_neg hc, if_neg hc2]
      exact writeL_eq h hf r _ _

theorem rcheck_fine {l : List Int} (he : (rcheckR l).2 = 0) : l.length ≤ 320 ∧ fine l = true := by
  unfold rcheckR at he
  rw [rsumL_err] at he
  by_cases h : 320 < (l.length : Int)
  · rw [if_pos h] at he; cases he
  · rw [if_neg h] at he
    by_cases hf : fine l = true
    · exact ⟨by omega, hf⟩
    · simp [hf] at he

theorem write_same (l sy : List Int) : writeR l sy = rwriteR l sy := by
  unfold writeR rwriteR
  rw [check_eq]
  by_cases he : (rcheckR l).2 = 0
  · rw [if_pos he, if_pos he]
    obtain ⟨h, hf⟩ := rcheck_fine he
    obtain ⟨h1, h2⟩ := writeL_eq h hf sy 0 []
    rw [h1, ← codes_eq h hf]
    by_cases ho : okL l sy = true
    · rw [if_pos ho, if_pos ho, (h2 ho).1, (h2 ho).2]
    · rw [if_neg ho, if_neg ho]
  · rw [if_neg he, if_neg he]

end Go.Proofs.Ytikleidhmekgnaa
