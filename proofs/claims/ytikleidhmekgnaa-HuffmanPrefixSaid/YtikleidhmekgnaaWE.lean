/- Plain: counts, sums and codes of the program and of the document agree. -/
import Derived.Test.YtikleidhmekgnaaWD
namespace Go.Proofs.Ytikleidhmekgnaa
open Go.AM
set_option linter.unusedSimpArgs false
set_option linter.unusedVariables false

/-- a length that may be -/
def fine (l : List Int) : Bool := l.all fun x => decide (0 ≤ x ∧ x ≤ 15)

theorem countL_err : ∀ (l n : List Int), (countL n l).2 = if fine l then 0 else 2
  | [], n => by simp [countL, fine]
  | x :: r, n => by
    unfold countL
    by_cases h : 0 ≤ x ∧ x ≤ 15
    · rw [if_pos h, countL_err r]; simp [fine, h]
    · rw [if_neg h]; simp only [fine, List.all_cons, decide_eq_false h, Bool.false_and]; rfl

theorem rsumL_err : ∀ (l : List Int) (s : Int), (rsumL l s).2 = if fine l then 0 else 2
  | [], n => by simp [rsumL, fine]
  | x :: r, n => by
    unfold rsumL
    by_cases h : 0 ≤ x ∧ x ≤ 15
    · rw [if_pos h, rsumL_err r]; simp [fine, h]
    · rw [if_neg h]; simp only [fine, List.all_cons, decide_eq_false h, Bool.false_and]; rfl

theorem fine_cons {x : Int} {r : List Int} : fine (x :: r) = true ↔ (0 ≤ x ∧ x ≤ 15) ∧ fine r = true := by simp [fine]

theorem getD_set (n : List Int) (i j : Nat) (v : Int) (h : i < n.length) : (n.set i v).getD j 0 = if i = j then v else n.getD j 0 := by
  simp only [List.getD_eq_getElem?_getD, List.getElem?_set]
  by_cases e : i = j
  · subst e; simp [h]
  · simp [e]

/-- the counts are counts -/
theorem countL_at : ∀ (l n : List Int) (B : Int), fine l = true → n.length = 16 → (∀ j : Nat, 0 ≤ n.getD j 0 ∧ n.getD j 0 ≤ B) → B + l.length < 9223372036854775808 →
    ∀ j : Nat, j < 16 → (countL n l).1.getD j 0 = n.getD j 0 + (l.count (j : Int) : Nat)
  | [], n, B, _, _, _, _, j, _ => by simp [countL]
  | x :: r, n, B, hf, hn, hb, hB, j, hj => by
    obtain ⟨h, hr⟩ := fine_cons.1 hf
    unfold countL
    rw [if_pos h]
    have hx : x.toNat < n.length := by omega
    have hw : IntKind.i64.wrap (n.getD x.toNat 0 + 1) = n.getD x.toNat 0 + 1 := by
      have := hb x.toNat
      simp only [List.length_cons] at hB
      exact wrap_i64 (by omega) (by omega)
    rw [hw, countL_at r _ (B + 1) hr (by simpa using hn) (fun k => by
      rw [getD_set _ _ _ _ hx]
      have := hb k
      have := hb x.toNat
      split <;> omega) (by simp only [List.length_cons] at hB; omega) j hj, getD_set _ _ _ _ hx, List.count_cons]
    by_cases e : x.toNat = j
    · have : x = (j : Int) := by omega
      subst e; simp [← this]; omega
    · have : ¬ x = (j : Int) := by omega
      simp [e, this]

/-- how many have length j -/
def ct (l : List Int) (j : Nat) : Int := (l.count (j : Int) : Nat)

theorem ct_nonneg (l : List Int) (j : Nat) : 0 ≤ ct l j := by simp [ct]
theorem ct_le (l : List Int) (j : Nat) : ct l j ≤ l.length := by unfold ct; have := List.count_le_length (a := (j : Int)) (l := l); omega

theorem z16_at (j : Nat) : z16.getD j 0 = 0 := by
  unfold z16
  match j with
  | 0 | 1 | 2 | 3 | 4 | 5 | 6 | 7 | 8 | 9 | 10 | 11 | 12 | 13 | 14 | 15 => rfl
  | j + 16 => rfl

theorem countsR_at {l : List Int} (h : l.length ≤ 320) (hf : fine l = true) (j : Nat) (hj : j < 16) : (countsR l).1.getD j 0 = ct l j := by
  unfold countsR
  rw [if_neg (by omega), countL_at l z16 0 hf rfl (fun j => by rw [z16_at]; omega) (by omega) j hj, z16_at]
  simp [ct]

theorem countsR_err (l : List Int) : (countsR l).2 = if 320 < (l.length : Int) then 3 else if fine l then 0 else 2 := by
  unfold countsR; split
  · rfl
  · exact countL_err l z16

/-- the sum of the counts' parts -/
def sumP (c : Nat → Int) : Nat → Nat → Int
  | 0, _ => 0
  | k + 1, i => c i * 2 ^ (15 - i) + sumP c k (i + 1)

theorem sumL_eq (n : List Int) (c : Nat → Int) (hc : ∀ j, j < 16 → n.getD j 0 = c j) (h0 : ∀ j, 0 ≤ c j ∧ c j ≤ 320) : ∀ (k i : Nat) (s : Int), k + i = 16 → 0 ≤ s → s ≤ 10485760 * i →
    sumL n k i s = s + sumP c k i
  | 0, _, s, _, _, _ => by simp [sumL, sumP]
  | k + 1, i, s, h, hs, hs2 => by
    have hp : (2 : Int) ^ (15 - i) ≤ 2 ^ 15 := by
      have := Nat.pow_le_pow_right (n := 2) (by omega) (show 15 - i ≤ 15 by omega)
      exact_mod_cast this
    have hp0 : (0 : Int) < 2 ^ (15 - i) := Int.pow_pos (by omega)
    have hb := h0 i
    have hm : c i * 2 ^ (15 - i) ≤ 320 * 2 ^ 15 := Int.mul_le_mul hb.2 hp (by omega) (by omega)
    have hm0 : 0 ≤ c i * 2 ^ (15 - i) := Int.mul_nonneg hb.1 (by omega)
    unfold sumL sumP
    rw [hc i (by omega), Nat.min_eq_left (by omega), wrap_i64 (n := c i * 2 ^ (15 - i)) (by omega) (by omega), wrap_i64 (by omega) (by omega)]
    rw [sumL_eq n c hc h0 k (i + 1) _ (by omega) (by omega) (by omega)]
    omega

/-- the sum of the lengths' parts -/
def sumK : List Int → Int
  | [] => 0
  | x :: r => (if 0 < x then 2 ^ (15 - x.toNat) else 0) + sumK r

theorem sumK_bound : ∀ l : List Int, 0 ≤ sumK l ∧ sumK l ≤ 32768 * l.length
  | [] => by simp [sumK]
  | x :: r => by
    have := sumK_bound r
    have hp : (2 : Int) ^ (15 - x.toNat) ≤ 2 ^ 15 := by
      have := Nat.pow_le_pow_right (n := 2) (by omega) (show 15 - x.toNat ≤ 15 by omega)
      exact_mod_cast this
    have hp0 : (0 : Int) < 2 ^ (15 - x.toNat) := Int.pow_pos (by omega)
    simp only [sumK, List.length_cons]
    split <;> omega

theorem rsumL_eq : ∀ (l : List Int) (s : Int), fine l = true → 0 ≤ s → s + 32768 * l.length < 9223372036854775808 → (rsumL l s).1 = s + sumK l
  | [], s, _, _, _ => by simp [rsumL, sumK]
  | x :: r, s, hf, hs, hb => by
    obtain ⟨h, hr⟩ := fine_cons.1 hf
    unfold rsumL
    rw [if_pos h]
    simp only [List.length_cons] at hb
    have hp : (2 : Int) ^ (15 - x.toNat) ≤ 2 ^ 15 := by
      have := Nat.pow_le_pow_right (n := 2) (by omega) (show 15 - x.toNat ≤ 15 by omega)
      exact_mod_cast this
    have hp0 : (0 : Int) < 2 ^ (15 - x.toNat) := Int.pow_pos (by omega)
    have e : min (15 - x).toNat 64 = 15 - x.toNat := by omega
    rw [e, wrap_i64 (n := 2 ^ (15 - x.toNat)) (by omega) (by omega), wrap_i64 (by omega) (by omega)]
    by_cases h0 : 0 < x
    · rw [if_pos h0, rsumL_eq r _ hr (by omega) (by omega)]; simp only [sumK, if_pos h0]; omega
    · rw [if_neg h0, rsumL_eq r _ hr (by omega) (by omega)]; simp only [sumK, if_neg h0]; omega

theorem ct_cons (x : Int) (r : List Int) (j : Nat) : ct (x :: r) j = ct r j + if x = (j : Int) then 1 else 0 := by
  unfold ct
  rw [List.count_cons]
  by_cases h : x = (j : Int) <;> simp [h]

/-- both sums are one -/
theorem sumP_eq : ∀ l : List Int, fine l = true → sumP (ct l) 15 1 = sumK l
  | [], _ => by simp [sumP, sumK, ct]
  | x :: r, hf => by
    obtain ⟨h, hr⟩ := fine_cons.1 hf
    have ih := sumP_eq r hr
    have hx : x = 0 ∨ x = 1 ∨ x = 2 ∨ x = 3 ∨ x = 4 ∨ x = 5 ∨ x = 6 ∨ x = 7 ∨ x = 8 ∨ x = 9 ∨ x = 10 ∨ x = 11 ∨ x = 12 ∨ x = 13 ∨ x = 14 ∨ x = 15 := by omega
    unfold sumK
    rw [← ih]
    simp only [sumP, ct_cons]
    rcases hx with rfl | rfl | rfl | rfl | rfl | rfl | rfl | rfl | rfl | rfl | rfl | rfl | rfl | rfl | rfl | rfl <;> simp <;> omega

/-- both checks tell one -/
theorem check_eq (l : List Int) : checkR l = rcheckR l := by
  unfold checkR rcheckR
  rw [countsR_err, rsumL_err]
  by_cases h : 320 < (l.length : Int)
  · simp [h]
  · by_cases hf : fine l = true
    · simp only [h, hf, if_false, if_true]
      rw [sumL_eq (countsR l).1 (ct l) (fun j hj => countsR_at (by omega) hf j hj) (fun j => ⟨ct_nonneg l j, by have := ct_le l j; omega⟩) 15 1 0 rfl (by omega) (by omega), sumP_eq l hf, rsumL_eq l 0 hf (by omega) (by omega)]
    · simp [h, hf]

end Go.Proofs.Ytikleidhmekgnaa
