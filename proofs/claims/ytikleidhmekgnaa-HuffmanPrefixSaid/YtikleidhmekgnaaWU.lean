/- Plain: both ways of reading a symbol tell the same. -/
import Derived.Test.YtikleidhmekgnaaWT
namespace Go.Proofs.Ytikleidhmekgnaa
open Go.AM
set_option linter.unusedSimpArgs false
set_option linter.unusedVariables false

theorem findJ_eq (l : List Int) (hl : l.length ≤ 320) (hf : fine l = true) (i : Nat) (hi : 0 < i) (c' : Int) : ∀ (todo pre cs : List Int), l = pre ++ todo → cs.length = todo.length →
    (∀ j, j < todo.length → cs.getD j 0 = code l (pre.length + j)) →
    findJ i c' todo cs pre.length = if fst (ct l) i + ct pre i ≤ c' then ((posL i todo pre.length)[(c' - fst (ct l) i - ct pre i).toNat]?).map Int.toNat else none
  | [], pre, cs, e, hc, hx => by simp [findJ, posL]
  | x :: r, pre, [], e, hc, hx => by simp at hc
  | x :: r, pre, y :: cs, e, hc, hx => by
    have hat : l.getD pre.length 0 = x := by rw [e]; simp
    have htk : l.take pre.length = pre := by rw [e]; simp
    have hy : y = code l pre.length := by
      have := hx 0 (by simp)
      simpa using this
    have ea : ct (pre ++ [x]) i = ct pre i + if x = (i : Int) then 1 else 0 := by
      unfold ct; rw [List.count_append, List.count_cons]; by_cases q : x = (i : Int) <;> simp [q]
    have ih := findJ_eq l hl hf i hi c' r (pre ++ [x]) cs (by simp [e]) (by simpa using hc) (fun j hj => by
      have := hx (j + 1) (by simpa using hj)
      rw [List.getD_cons_succ] at this
      rw [this]
      congr 1
      simp only [List.length_append, List.length_cons, List.length_nil]; omega)
    rw [show (pre ++ [x]).length = pre.length + 1 by simp, ea] at ih
    unfold findJ posL
    by_cases hxi : x = (i : Int)
    · have hyv : y = fst (ct l) i + ct pre i := by
        rw [hy]
        simp only [code, hat, htk]
        rw [if_pos (by omega), hxi]
        rfl
      rw [if_pos hxi]
      by_cases hyc : y = c'
      · rw [if_pos ⟨hxi, hyc⟩, if_pos (by omega), show (c' - fst (ct l) i - ct pre i).toNat = 0 by omega]
        simp
      · rw [if_neg (fun z => hyc z.2), ih, if_pos hxi]
        by_cases hle : fst (ct l) i + ct pre i ≤ c'
        · rw [if_pos hle, if_pos (by omega), show (c' - fst (ct l) i - ct pre i).toNat = (c' - fst (ct l) i - (ct pre i + 1)).toNat + 1 by omega, List.getElem?_cons_succ]
        · rw [if_neg hle, if_neg (by omega)]
    · rw [if_neg (fun z => hxi z.1), ih, if_neg hxi, if_neg hxi]
      simp

theorem posL_nonneg : ∀ (l : List Int) (x : Int) (k j : Nat) (z : Int), (posL x l k)[j]? = some z → 0 ≤ z
  | [], x, k, j, z, h => by simp [posL] at h
  | y :: r, x, k, j, z, h => by
    unfold posL at h
    split at h
    · cases j with
      | zero => simp at h; omega
      | succ j => exact posL_nonneg r x (k + 1) j z (by simpa using h)
    · exact posL_nonneg r x (k + 1) j z h

theorem pdec_eq (l n f : List Int) (b : List UInt8) (a : Nat) (hl : l.length ≤ 320) (hf : fine l = true) (hn : ∀ i : Nat, i < 16 → n.getD i 0 = ct l i) (hfi : ∀ i : Nat, i < 16 → f.getD i 0 = fst (ct l) i) : ∀ (k i : Nat) (code : Int), 0 < i → i + k ≤ 16 →
    (pdecL l n f b a k i code).1 = decL l (codesR l) b a k i code
  | 0, i, code, _, _ => rfl
  | k + 1, i, code, hi, hik => by
    have hfj := findJ_eq l hl hf i hi (2 * code + rbit b (a + i - 1)) l [] (codesR l) rfl (codesR_len l) (fun j hj => by rw [codesR_at hl hf j hj]; simp)
    simp only [List.length_nil] at hfj
    have hc0 : ct [] i = 0 := rfl
    rw [hc0] at hfj
    have hps : ((posL i l 0).length : Int) = ct l i := by rw [posL_len]; rfl
    unfold pdecL decL
    rw [hn i (by omega), hfi i (by omega)]
    by_cases hs : 8 * b.length ≤ a + i - 1
    · have hs2 : 8 * (b.length : Int) - (i : Int) < a := by omega
      rw [if_pos hs, if_pos hs2]
    · have hs2 : ¬ 8 * (b.length : Int) - (i : Int) < a := by omega
      rw [if_neg hs, if_neg hs2, hfj]
      generalize 2 * code + rbit b (a + i - 1) = c' at *
      by_cases h0 : fst (ct l) i + 0 ≤ c'
      · rw [if_pos h0, show (c' - fst (ct l) i - 0).toNat = (c' - fst (ct l) i).toNat by omega]
        by_cases h1 : c' - fst (ct l) i < ct l i
        · rw [if_pos ⟨by omega, h1⟩]
          obtain ⟨z, hz⟩ : ∃ z, (posL i l 0)[(c' - fst (ct l) i).toNat]? = some z := ⟨_, List.getElem?_eq_getElem (by omega)⟩
          have hz0 := posL_nonneg _ _ _ _ _ hz
          rw [List.getD_eq_getElem?_getD, hz]
          simp only [Option.map_some, Option.getD_some]
          rw [show ((z.toNat : Nat) : Int) = z by omega]
        · rw [if_neg (fun z => h1 z.2), List.getElem?_eq_none (by omega)]
          exact pdec_eq l n f b a hl hf hn hfi k (i + 1) c' (by omega) (by omega)
      · rw [if_neg h0, if_neg (fun z => h0 (by omega))]
        exact pdec_eq l n f b a hl hf hn hfi k (i + 1) c' (by omega) (by omega)

end Go.Proofs.Ytikleidhmekgnaa
