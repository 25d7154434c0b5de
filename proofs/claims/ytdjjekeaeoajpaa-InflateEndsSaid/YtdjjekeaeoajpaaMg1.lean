/- WE to ID: texts of this claim, one behind the other; what each shows stands at its head. -/
import Derived.Test.YtdjjekeaeoajpaaAm3
import Derived.Test.YtdjjekeaeoajpaaMg0
/- Plain: counts, sums and codes of the program and of the document agree. -/
namespace Go.Proofs.Ytdjjekeaeoajpaa
open Go.AM
set_option linter.unusedSimpArgs false
set_option linter.unusedVariables false

/-- a length that may be -/
def fine (l : List Int) : Bool := l.all fun x => decide (0 ≤ x ∧ x ≤ 15)

theorem countL_err : ∀ (l n : List Int), (countL n l).2 = if fine l then 0 else 2
  | [], n => by simp [countL, fine]
  | x :: r, n => by
    unfold countL
    by_cases h : 0 ≤ x ∧ x ≤ 15
    · rw [if_pos h, countL_err r]; simp [fine, h]
    · rw [if_neg h]; simp only [fine, List.all_cons, decide_eq_false h, Bool.false_and]; rfl

theorem rsumL_err : ∀ (l : List Int) (s : Int), (rsumL l s).2 = if fine l then 0 else 2
  | [], n => by simp [rsumL, fine]
  | x :: r, n => by
    unfold rsumL
    by_cases h : 0 ≤ x ∧ x ≤ 15
    · rw [if_pos h, rsumL_err r]; simp [fine, h]
    · rw [if_neg h]; simp only [fine, List.all_cons, decide_eq_false h, Bool.false_and]; rfl

theorem fine_cons {x : Int} {r : List Int} : fine (x :: r) = true ↔ (0 ≤ x ∧ x ≤ 15) ∧ fine r = true := by simp [fine]

theorem getD_set (n : List Int) (i j : Nat) (v : Int) (h : i < n.length) : (n.set i v).getD j 0 = if i = j then v else n.getD j 0 := by
  simp only [List.getD_eq_getElem?_getD, List.getElem?_set]
  by_cases e : i = j
  · subst e; simp [h]
  · simp [e]

/-- the counts are counts -/
theorem countL_at : ∀ (l n : List Int) (B : Int), fine l = true → n.length = 16 → (∀ j : Nat, 0 ≤ n.getD j 0 ∧ n.getD j 0 ≤ B) → B + l.length < 9223372036854775808 →
    ∀ j : Nat, j < 16 → (countL n l).1.getD j 0 = n.getD j 0 + (l.count (j : Int) : Nat)
  | [], n, B, _, _, _, _, j, _ => by simp [countL]
  | x :: r, n, B, hf, hn, hb, hB, j, hj => by
    obtain ⟨h, hr⟩ := fine_cons.1 hf
    unfold countL
    rw [if_pos h]
    have hx : x.toNat < n.length := by omega
    have hw : IntKind.i64.wrap (n.getD x.toNat 0 + 1) = n.getD x.toNat 0 + 1 := by
      have := hb x.toNat
      simp only [List.length_cons] at hB
      exact wrap_i64 (by omega) (by omega)
    rw [hw, countL_at r _ (B + 1) hr (by simpa using hn) (fun k => by
      rw [getD_set _ _ _ _ hx]
      have := hb k
      have := hb x.toNat
      split <;> omega) (by simp only [List.length_cons] at hB; omega) j hj, getD_set _ _ _ _ hx, List.count_cons]
    by_cases e : x.toNat = j
    · have : x = (j : Int) := by omega
      subst e; simp [← this]; omega
    · have : ¬ x = (j : Int) := by omega
      simp [e, this]

/-- how many have length j -/
def ct (l : List Int) (j : Nat) : Int := (l.count (j : Int) : Nat)

theorem ct_nonneg (l : List Int) (j : Nat) : 0 ≤ ct l j := by simp [ct]
theorem ct_le (l : List Int) (j : Nat) : ct l j ≤ l.length := by unfold ct; have := List.count_le_length (a := (j : Int)) (l := l); omega

theorem z16_at (j : Nat) : z16.getD j 0 = 0 := by
  unfold z16
  match j with
  | 0 | 1 | 2 | 3 | 4 | 5 | 6 | 7 | 8 | 9 | 10 | 11 | 12 | 13 | 14 | 15 => rfl
  | j + 16 => rfl

theorem countsR_at {l : List Int} (h : l.length ≤ 320) (hf : fine l = true) (j : Nat) (hj : j < 16) : (countsR l).1.getD j 0 = ct l j := by
  unfold countsR
  rw [if_neg (by omega), countL_at l z16 0 hf rfl (fun j => by rw [z16_at]; omega) (by omega) j hj, z16_at]
  simp [ct]

theorem countsR_err (l : List Int) : (countsR l).2 = if 320 < (l.length : Int) then 3 else if fine l then 0 else 2 := by
  unfold countsR; split
  · rfl
  · exact countL_err l z16

/-- the sum of the counts' parts -/
def sumP (c : Nat → Int) : Nat → Nat → Int
  | 0, _ => 0
  | k + 1, i => c i * 2 ^ (15 - i) + sumP c k (i + 1)

theorem sumL_eq (n : List Int) (c : Nat → Int) (hc : ∀ j, j < 16 → n.getD j 0 = c j) (h0 : ∀ j, 0 ≤ c j ∧ c j ≤ 320) : ∀ (k i : Nat) (s : Int), k + i = 16 → 0 ≤ s → s ≤ 10485760 * i →
    sumL n k i s = s + sumP c k i
  | 0, _, s, _, _, _ => by simp [sumL, sumP]
  | k + 1, i, s, h, hs, hs2 => by
    have hp : (2 : Int) ^ (15 - i) ≤ 2 ^ 15 := by
      have := Nat.pow_le_pow_right (n := 2) (by omega) (show 15 - i ≤ 15 by omega)
      exact_mod_cast this
    have hp0 : (0 : Int) < 2 ^ (15 - i) := Int.pow_pos (by omega)
    have hb := h0 i
    have hm : c i * 2 ^ (15 - i) ≤ 320 * 2 ^ 15 := Int.mul_le_mul hb.2 hp (by omega) (by omega)
    have hm0 : 0 ≤ c i * 2 ^ (15 - i) := Int.mul_nonneg hb.1 (by omega)
    unfold sumL sumP
    rw [hc i (by omega), Nat.min_eq_left (by omega), wrap_i64 (n := c i * 2 ^ (15 - i)) (by omega) (by omega), wrap_i64 (by omega) (by omega)]
    rw [sumL_eq n c hc h0 k (i + 1) _ (by omega) (by omega) (by omega)]
    omega

/-- the sum of the lengths' parts -/
def sumK : List Int → Int
  | [] => 0
  | x :: r => (if 0 < x then 2 ^ (15 - x.toNat) else 0) + sumK r

theorem rsumL_eq : ∀ (l : List Int) (s : Int), fine l = true → 0 ≤ s → s + 32768 * l.length < 9223372036854775808 → (rsumL l s).1 = s + sumK l
  | [], s, _, _, _ => by simp [rsumL, sumK]
  | x :: r, s, hf, hs, hb => by
    obtain ⟨h, hr⟩ := fine_cons.1 hf
    unfold rsumL
    rw [if_pos h]
    simp only [List.length_cons] at hb
    have hp : (2 : Int) ^ (15 - x.toNat) ≤ 2 ^ 15 := by
      have := Nat.pow_le_pow_right (n := 2) (by omega) (show 15 - x.toNat ≤ 15 by omega)
      exact_mod_cast this
    have hp0 : (0 : Int) < 2 ^ (15 - x.toNat) := Int.pow_pos (by omega)
    have e : min (15 - x).toNat 64 = 15 - x.toNat := by omega
    rw [e, wrap_i64 (n := 2 ^ (15 - x.toNat)) (by omega) (by omega), wrap_i64 (by omega) (by omega)]
    by_cases h0 : 0 < x
    · rw [if_pos h0, rsumL_eq r _ hr (by omega) (by omega)]; simp only [sumK, if_pos h0]; omega
    · rw [if_neg h0, rsumL_eq r _ hr (by omega) (by omega)]; simp only [sumK, if_neg h0]; omega

theorem ct_cons (x : Int) (r : List Int) (j : Nat) : ct (x :: r) j = ct r j + if x = (j : Int) then 1 else 0 := by
  unfold ct
  rw [List.count_cons]
  by_cases h : x = (j : Int) <;> simp [h]

/-- both sums are one -/
theorem sumP_eq : ∀ l : List Int, fine l = true → sumP (ct l) 15 1 = sumK l
  | [], _ => by simp [sumP, sumK, ct]
  | x :: r, hf => by
    obtain ⟨h, hr⟩ := fine_cons.1 hf
    have ih := sumP_eq r hr
    have hx : x = 0 ∨ x = 1 ∨ x = 2 ∨ x = 3 ∨ x = 4 ∨ x = 5 ∨ x = 6 ∨ x = 7 ∨ x = 8 ∨ x = 9 ∨ x = 10 ∨ x = 11 ∨ x = 12 ∨ x = 13 ∨ x = 14 ∨ x = 15 := by omega
    unfold sumK
    rw [← ih]
    simp only [sumP, ct_cons]
    rcases hx with rfl | rfl | rfl | rfl | rfl | rfl | rfl | rfl | rfl | rfl | rfl | rfl | rfl | rfl | rfl | rfl <;> simp <;> omega

/-- both checks tell one -/
theorem check_eq (l : List Int) : checkR l = rcheckR l := by
  unfold checkR rcheckR
  rw [countsR_err, rsumL_err]
  by_cases h : 320 < (l.length : Int)
  · simp [h]
  · by_cases hf : fine l = true
    · simp only [h, hf, if_false, if_true]
      rw [sumL_eq (countsR l).1 (ct l) (fun j hj => countsR_at (by omega) hf j hj) (fun j => ⟨ct_nonneg l j, by have := ct_le l j; omega⟩) 15 1 0 rfl (by omega) (by omega), sumP_eq l hf, rsumL_eq l 0 hf (by omega) (by omega)]
    · simp [h, hf]

end Go.Proofs.Ytdjjekeaeoajpaa

/- Plain: codes of the program and of the document agree. -/
namespace Go.Proofs.Ytdjjekeaeoajpaa
open Go.AM
set_option linter.unusedSimpArgs false
set_option linter.unusedVariables false

/-- the first code of each length -/
def fst (c : Nat → Int) : Nat → Int
  | 0 => 0
  | 1 => 0
  | i + 2 => 2 * (fst c (i + 1) + c (i + 1))

theorem fst_bound (c : Nat → Int) (h0 : ∀ j, 0 ≤ c j ∧ c j ≤ 320) : ∀ i : Nat, 0 ≤ fst c i ∧ fst c i + 640 ≤ 640 * 2 ^ i
  | 0 => by simp [fst]
  | 1 => by simp [fst]
  | i + 2 => by
    have := fst_bound c h0 (i + 1)
    have := h0 (i + 1)
    have e : (2 : Int) ^ (i + 2) = 2 * 2 ^ (i + 1) := by rw [Int.pow_succ]; omega
    rw [e]
    simp only [fst]
    omega

theorem firstL_eq (n : List Int) (c : Nat → Int) (hc : ∀ j, 0 < j → j < 16 → n.getD j 0 = c j) (h0 : ∀ j, 0 ≤ c j ∧ c j ≤ 320) : ∀ (k i : Nat) (f : List Int), k + i = 16 → 0 < i → f.length = 17 →
    (∀ j, j ≤ i → f.getD j 0 = fst c j) → ∀ j, j ≤ 16 → (firstL n k i f).getD j 0 = fst c j
  | 0, i, f, hk, hi, hl, hf, j, hj => by
    unfold firstL; exact hf j (by omega)
  | k + 1, i, f, hk, hi, hl, hf, j, hj => by
    unfold firstL
    refine firstL_eq n c hc h0 k (i + 1) _ (by omega) (by omega) (by simpa using hl) (fun a ha => ?_) j hj
    rw [getD_set _ _ _ _ (by omega)]
    by_cases e : i + 1 = a
    · subst e
      rw [if_pos rfl, hf i (by omega), hc i hi (by omega)]
      have hb := fst_bound c h0 i
      have hb1 := h0 i
      have hp : (2 : Int) ^ i ≤ 2 ^ 15 := by
        have := Nat.pow_le_pow_right (n := 2) (by omega) (show i ≤ 15 by omega)
        exact_mod_cast this
      rw [wrap_i64 (n := fst c i + c i) (by omega) (by omega), wrap_i64 (by omega) (by omega)]
      obtain ⟨m, rfl⟩ : ∃ m, i = m + 1 := ⟨i - 1, by omega⟩
      simp only [fst]
      omega
    · rw [if_neg e]; exact hf a (by omega)

theorem z17_at (j : Nat) : z17.getD j 0 = 0 := by
  unfold z17
  match j with
  | 0 | 1 | 2 | 3 | 4 | 5 | 6 | 7 | 8 | 9 | 10 | 11 | 12 | 13 | 14 | 15 | 16 => rfl
  | j + 17 => rfl

theorem firstsR_at {l : List Int} (h : l.length ≤ 320) (hf : fine l = true) (j : Nat) (hj : j ≤ 16) : (firstsR (countsR l).1).getD j 0 = fst (ct l) j := by
  unfold firstsR
  refine firstL_eq _ (ct l) (fun a ha hb => ?_) (fun j => ⟨ct_nonneg l j, by have := ct_le l j; omega⟩) 15 1 z17 rfl (by omega) rfl (fun a ha => ?_) j hj
  · rw [getD_set _ _ _ _ (by rw [countsR_len]; omega), if_neg (by omega), countsR_at h hf a hb]
  · rw [z17_at]
    match a with
    | 0 | 1 => rfl

/-- the code at place p -/
def code (l : List Int) (p : Nat) : Int := if 0 < l.getD p 0 then fst (ct l) (l.getD p 0).toNat + ct (l.take p) (l.getD p 0).toNat else -1

theorem codesL_eq (l : List Int) (h : l.length ≤ 320) (hf : fine l = true) : ∀ (todo pre next : List Int), l = pre ++ todo → next.length = 17 →
    (∀ j : Nat, 0 < j → j < 16 → next.getD j 0 = fst (ct l) j + ct pre j) → ∀ j, j < todo.length → (codesL next todo).getD j 0 = code l (pre.length + j)
  | [], pre, next, _, _, _, j, hj => by simp at hj
  | x :: r, pre, next, e, hn, hx, j, hj => by
    have hat : l.getD pre.length 0 = x := by rw [e]; simp
    have htk : l.take pre.length = pre := by rw [e]; simp
    have hxr : 0 ≤ x ∧ x ≤ 15 := by
      have := List.all_eq_true.1 hf x (by rw [e]; simp)
      simpa using this
    unfold codesL
    by_cases h0 : 0 < x
    · rw [if_pos h0]
      have hb := fst_bound (ct l) (fun j => ⟨ct_nonneg l j, by have := ct_le l j; omega⟩) x.toNat
      have hp : (2 : Int) ^ x.toNat ≤ 2 ^ 15 := by
        have := Nat.pow_le_pow_right (n := 2) (by omega) (show x.toNat ≤ 15 by omega)
        exact_mod_cast this
      have hpl : pre.length ≤ l.length := by rw [e]; simp
      have hcp := ct_le pre x.toNat
      have hcn := ct_nonneg pre x.toNat
      have hnx := hx x.toNat (by omega) (by omega)
      match j with
      | 0 => simp only [code, Nat.add_zero, hat, htk, if_pos h0, List.getD_cons_zero, hnx]
      | j + 1 =>
        have := codesL_eq l h hf r (pre ++ [x]) (next.set x.toNat (IntKind.i64.wrap (next.getD x.toNat 0 + 1))) (by simp [e]) (by simpa using hn) (fun a ha hb2 => by
          rw [getD_set _ _ _ _ (by omega), wrap_i64 (by omega) (by omega)]
          have ea : ct (pre ++ [x]) a = ct pre a + if x = (a : Int) then 1 else 0 := by
            unfold ct; rw [List.count_append, List.count_cons]; by_cases q : x = (a : Int) <;> simp [q]
          rw [ea]
          by_cases q : x.toNat = a
          · subst q
            rw [if_pos rfl, if_pos (by omega), hnx]; omega
          · rw [if_neg q, if_neg (by omega), hx a ha hb2]; omega) j (by simpa using hj)
        simp only [List.getD_cons_succ]
        rw [this]
        simp only [List.length_append, List.length_cons, List.length_nil]
        congr 1; omega
    · rw [if_neg h0]
      match j with
      | 0 => simp only [code, Nat.add_zero, hat, if_neg h0, List.getD_cons_zero]
      | j + 1 =>
        have := codesL_eq l h hf r (pre ++ [x]) next (by simp [e]) hn (fun a ha hb2 => by
          have ea : ct (pre ++ [x]) a = ct pre a + if x = (a : Int) then 1 else 0 := by
            unfold ct; rw [List.count_append, List.count_cons]; by_cases q : x = (a : Int) <;> simp [q]
          rw [ea, if_neg (by omega), hx a ha hb2]; omega) j (by simpa using hj)
        simp only [List.getD_cons_succ]
        rw [this]
        simp only [List.length_append, List.length_cons, List.length_nil]
        congr 1; omega

theorem codesR_at {l : List Int} (h : l.length ≤ 320) (hf : fine l = true) (j : Nat) (hj : j < l.length) : (codesR l).getD j 0 = code l j := by
  unfold codesR
  have hl : (firstsR (countsR l).1).length = 17 := by unfold firstsR; rw [firstL_len]; rfl
  have := codesL_eq l h hf l [] _ rfl hl (fun a ha hb => by rw [firstsR_at h hf a (by omega)]; simp [ct]) j hj
  simpa using this

/-- where the document's walk stands: the next code of length n is behind m of them -/
def Inv (l : List Int) (n : Nat) (m nx la : Int) : Prop :=
  0 ≤ la ∧ la ≤ n ∧ 0 ≤ nx ∧ (la = 0 → nx = 0) ∧ (if 0 < la then (nx + 1) * 2 ^ (n - la.toNat) else nx) = fst (ct l) n + m

theorem step_eq {l : List Int} (h : l.length ≤ 320) {n : Nat} (hn : n ≤ 15) {m nx la : Int} (hm : m ≤ 320) (hi : Inv l n m nx la) : rStep n nx la = fst (ct l) n + m := by
  obtain ⟨h1, h2, h3, h4, h5⟩ := hi
  unfold rStep
  have hb := fst_bound (ct l) (fun j => ⟨ct_nonneg l j, by have := ct_le l j; omega⟩) n
  have hp : (2 : Int) ^ n ≤ 2 ^ 15 := by
    have := Nat.pow_le_pow_right (n := 2) (by omega) (show n ≤ 15 by omega)
    exact_mod_cast this
  by_cases hl : 0 < la
  · rw [if_pos hl] at h5 ⊢
    have hp1 : (1 : Int) ≤ 2 ^ (n - la.toNat) := Int.pow_pos (by omega)
    have hle : nx + 1 ≤ (nx + 1) * 2 ^ (n - la.toNat) := by
      have := Int.mul_le_mul_of_nonneg_left hp1 (show 0 ≤ nx + 1 by omega)
      omega
    rw [wrap_i64 (n := nx + 1) (by omega) (by omega), wrap_i64 (n := (n : Int) - la) (by omega) (by omega), wrap_u64 (by omega) (by omega)]
    have e : min ((n : Int) - la).toNat 64 = n - la.toNat := by omega
    rw [e, h5, wrap_i64 (by omega) (by omega)]
  · rw [if_neg hl] at h5 ⊢; exact h5

theorem rIn_eq (l : List Int) (h : l.length ≤ 320) (n : Nat) (hn : n ≤ 15) (hn0 : 0 < n) : ∀ (todo pre o : List Int) (nx la : Int), l = pre ++ todo → o.length = l.length → Inv l n (ct pre n) nx la →
    Inv l n (ct l n) (rIn n todo pre.length nx la o).1 (rIn n todo pre.length nx la o).2.1 ∧
      (∀ j, j < l.length → (rIn n todo pre.length nx la o).2.2.getD j 0 = if l.getD j 0 = n ∧ pre.length ≤ j then code l j else o.getD j 0)
  | [], pre, o, nx, la, e, ho, hi => by
    simp only [List.append_nil] at e
    subst e
    refine ⟨hi, fun j hj => ?_⟩
    rw [if_neg (by omega)]; rfl
  | x :: r, pre, o, nx, la, e, ho, hi => by
    have hat : l.getD pre.length 0 = x := by rw [e]; simp
    have htk : l.take pre.length = pre := by rw [e]; simp
    have hpl : pre.length < l.length := by rw [e]; simp
    have hcp := ct_le pre n
    have hcn := ct_nonneg pre n
    have ea : ct (pre ++ [x]) n = ct pre n + if x = (n : Int) then 1 else 0 := by
      unfold ct; rw [List.count_append, List.count_cons]; by_cases q : x = (n : Int) <;> simp [q]
    have el : pre.length + 1 = (pre ++ [x]).length := by simp
    unfold rIn
    by_cases hx : x = (n : Int)
    · rw [if_pos hx]
      have hs := step_eq h hn (by omega) hi
      have hb := fst_bound (ct l) (fun j => ⟨ct_nonneg l j, by have := ct_le l j; omega⟩) n
      rw [hs, el]
      obtain ⟨g1, g2⟩ := rIn_eq l h n hn hn0 r (pre ++ [x]) (o.set pre.length (fst (ct l) n + ct pre n)) (fst (ct l) n + ct pre n) n (by simp [e]) (by simpa using ho) (by
        refine ⟨by omega, by omega, by omega, by omega, ?_⟩
        rw [if_pos (by omega), ea, if_pos hx]
        simp; omega)
      refine ⟨g1, fun j hj => ?_⟩
      rw [g2 j hj, getD_set _ _ _ _ (by omega)]
      by_cases q : pre.length = j
      · subst q
        rw [if_neg (by simp), if_pos rfl, if_pos ⟨by rw [hat, hx], Nat.le_refl _⟩]
        simp only [code, hat, htk]
        rw [if_pos (by omega), hx]; rfl
      · rw [if_neg q]
        by_cases q2 : l.getD j 0 = n
        · simp only [q2, List.length_append, List.length_cons, List.length_nil]
          by_cases q3 : pre.length ≤ j
          · rw [if_pos ⟨trivial, by omega⟩, if_pos ⟨trivial, q3⟩]
          · rw [if_neg (by omega), if_neg (by omega)]
        · rw [if_neg (fun z => q2 z.1), if_neg (fun z => q2 z.1)]
    · rw [if_neg hx, el]
      obtain ⟨g1, g2⟩ := rIn_eq l h n hn hn0 r (pre ++ [x]) o nx la (by simp [e]) ho (by rw [ea, if_neg hx]; simpa using hi)
      refine ⟨g1, fun j hj => ?_⟩
      rw [g2 j hj]
      by_cases q2 : l.getD j 0 = n
      · have q : pre.length ≠ j := by rintro rfl; exact hx (by rw [← hat, q2])
        simp only [q2, List.length_append, List.length_cons, List.length_nil]
        by_cases q3 : pre.length ≤ j
        · rw [if_pos ⟨trivial, by omega⟩, if_pos ⟨trivial, q3⟩]
        · rw [if_neg (by omega), if_neg (by omega)]
      · rw [if_neg (fun z => q2 z.1), if_neg (fun z => q2 z.1)]

theorem rOut_eq (l : List Int) (h : l.length ≤ 320) : ∀ (k n : Nat) (o : List Int) (nx la : Int), k + n = 16 → 0 < n → o.length = l.length → Inv l n 0 nx la →
    ∀ j, j < l.length → (rOut l k n nx la o).2.2.getD j 0 = if (n : Int) ≤ l.getD j 0 ∧ l.getD j 0 ≤ 15 then code l j else o.getD j 0
  | 0, n, o, nx, la, hk, hn, ho, hi, j, hj => by
    rw [if_neg (by omega)]; rfl
  | k + 1, n, o, nx, la, hk, hn, ho, hi, j, hj => by
    unfold rOut
    obtain ⟨g1, g2⟩ := rIn_eq l h n (by omega) hn l [] o nx la rfl ho (by simpa [ct] using hi)
    simp only [List.length_nil] at g1 g2
    have hlen : (rIn n l 0 nx la o).2.2.length = l.length := by rw [rIn_len]; exact ho
    have g3 : Inv l (n + 1) 0 (rIn n l 0 nx la o).1 (rIn n l 0 nx la o).2.1 := by
      obtain ⟨a1, a2, a3, a4, a5⟩ := g1
      refine ⟨a1, by omega, a3, a4, ?_⟩
      obtain ⟨m, rfl⟩ : ∃ m, n = m + 1 := ⟨n - 1, by omega⟩
      simp only [fst]
      rw [← a5]
      by_cases q : 0 < (rIn ((m + 1 : Nat) : Int) l 0 nx la o).2.1
      · rw [if_pos q, if_pos q]
        have e : m + 1 + 1 - (rIn ((m + 1 : Nat) : Int) l 0 nx la o).2.1.toNat = (m + 1 - (rIn ((m + 1 : Nat) : Int) l 0 nx la o).2.1.toNat) + 1 := by omega
        rw [e, Int.pow_succ, ← Int.mul_assoc]
        omega
      · rw [if_neg q, if_neg q, a4 (by omega)]; rfl
    rw [rOut_eq l h k (n + 1) _ _ _ (by omega) (by omega) hlen g3 j hj, g2 j hj]
    by_cases q1 : ((n + 1 : Nat) : Int) ≤ l.getD j 0 ∧ l.getD j 0 ≤ 15
    · rw [if_pos q1, if_pos ⟨by omega, q1.2⟩]
    · rw [if_neg q1]
      by_cases q2 : l.getD j 0 = n
      · rw [if_pos ⟨q2, by omega⟩, if_pos (by omega)]
      · rw [if_neg (fun z => q2 z.1), if_neg (by omega)]

theorem rNeg_eq (l : List Int) : ∀ (todo pre o : List Int), l = pre ++ todo → o.length = l.length → ∀ j, j < l.length → (rNeg todo pre.length o).getD j 0 = if l.getD j 0 = 0 ∧ pre.length ≤ j then -1 else o.getD j 0
  | [], pre, o, e, ho, j, hj => by
    simp only [List.append_nil] at e
    subst e
    rw [if_neg (by omega)]; rfl
  | x :: r, pre, o, e, ho, j, hj => by
    have hat : l.getD pre.length 0 = x := by rw [e]; simp
    have el : pre.length + 1 = (pre ++ [x]).length := by simp
    have hpl : pre.length < l.length := by rw [e]; simp
    unfold rNeg
    rw [el, rNeg_eq l r (pre ++ [x]) _ (by simp [e]) (by split <;> simp [ho]) j hj]
    simp only [List.length_append, List.length_cons, List.length_nil]
    by_cases q : pre.length = j
    · subst q
      rw [if_neg (by omega), hat]
      by_cases q2 : x = 0
      · rw [if_pos q2, if_pos ⟨q2, Nat.le_refl _⟩, getD_set _ _ _ _ (by omega), if_pos rfl]
      · rw [if_neg q2, if_neg (fun z => q2 z.1)]
    · have e2 : (if x = 0 then o.set pre.length (-1) else o).getD j 0 = o.getD j 0 := by
        split
        · rw [getD_set _ _ _ _ (by omega), if_neg q]
        · rfl
      rw [e2]
      by_cases q2 : l.getD j 0 = 0
      · by_cases q3 : pre.length ≤ j
        · rw [if_pos ⟨q2, by omega⟩, if_pos ⟨q2, q3⟩]
        · rw [if_neg (by omega), if_neg (by omega)]
      · rw [if_neg (fun z => q2 z.1), if_neg (fun z => q2 z.1)]

theorem rcodesR_at {l : List Int} (h : l.length ≤ 320) (hf : fine l = true) (j : Nat) (hj : j < l.length) : (rcodesR l).getD j 0 = code l j := by
  unfold rcodesR
  have hlen : (rOut l 15 1 0 0 (List.replicate l.length 0)).2.2.length = l.length := by rw [rOut_len]; simp
  have h1 := rNeg_eq l l [] _ rfl hlen j hj
  simp only [List.length_nil] at h1
  have h2 := rOut_eq l h 15 1 (List.replicate l.length 0) 0 0 rfl (by omega) (by simp) ⟨by omega, by omega, by omega, fun _ => rfl, by simp [fst]⟩ j hj
  rw [h1, h2]
  have hr : 0 ≤ l.getD j 0 ∧ l.getD j 0 ≤ 15 := by
    have := List.all_eq_true.1 hf (l.getD j 0) (by rw [List.getD_eq_getElem?_getD, List.getElem?_eq_getElem hj]; exact List.getElem_mem hj)
    simpa using this
  by_cases q : l.getD j 0 = 0
  · rw [if_pos ⟨q, by omega⟩]; simp only [code]; rw [if_neg (by omega)]
  · rw [if_neg (fun z => q z.1), if_pos (by omega)]

theorem codesR_len (l : List Int) : (codesR l).length = l.length := by unfold codesR; rw [codesL_len]

theorem rcodesR_len (l : List Int) : (rcodesR l).length = l.length := by unfold rcodesR; rw [rNeg_len, rOut_len]; simp

/-- the codes are one -/
theorem codes_eq {l : List Int} (h : l.length ≤ 320) (hf : fine l = true) : codesR l = rcodesR l := by
  refine List.ext_getElem (by rw [codesR_len, rcodesR_len]) fun j h1 h2 => ?_
  have hj : j < l.length := by rw [codesR_len] at h1; exact h1
  have e1 := codesR_at h hf j hj
  have e2 := rcodesR_at h hf j hj
  rw [List.getD_eq_getElem?_getD, List.getElem?_eq_getElem h1] at e1
  rw [List.getD_eq_getElem?_getD, List.getElem?_eq_getElem h2] at e2
  simp only [Option.getD_some] at e1 e2
  rw [e1, e2]

end Go.Proofs.Ytdjjekeaeoajpaa

/- Plain: a code that may be. -/
namespace Go.Proofs.Ytdjjekeaeoajpaa
open Go.AM
set_option linter.unusedSimpArgs false
set_option linter.unusedVariables false

theorem rcheck_fine {l : List Int} (he : (rcheckR l).2 = 0) : l.length ≤ 320 ∧ fine l = true := by
  unfold rcheckR at he
  rw [rsumL_err] at he
  by_cases h : 320 < (l.length : Int)
  · rw [if_pos h] at he; cases he
  · rw [if_neg h] at he
    by_cases hf : fine l = true
    · exact ⟨by omega, hf⟩
    · simp [hf] at he

end Go.Proofs.Ytdjjekeaeoajpaa

/- Plain: a symbol of a code, decoded. -/
namespace Go.Proofs.Ytdjjekeaeoajpaa
open Go.AM
set_option linter.unusedSimpArgs false
set_option linter.unusedVariables false

theorem bits_nat {v : Nat} (h : v < 9223372036854775808) : (AM.bits .i64 (v : Int)).toNat = v := by
  unfold AM.bits
  simp [IntKind.bits]
  omega

/-- the document's bit i -/
def rbit (b : List UInt8) (i : Nat) : Int := ((b.getD (i / 8) 0).toNat / 2 ^ (i % 8) % 2 : Nat)

/-- a loop, by a property of what it tells -/
theorem loop_pred {C : Ctx} {T : Cf} {f m : Nat} {c : Code} {σ : Type} (I : σ → Prop) (fr : σ → AM.Frame) (H : σ → AM.Heap) (P : σ → AM.Out → Prop) (μ : σ → Nat)
    (step : ∀ s, I s → ∃ o, Run C T f m c (fr s) (H s) o ∧ ((∃ s', I s' ∧ o = ⟨.normal, fr s', H s'⟩ ∧ (∀ o', P s' o' → P s o') ∧ μ s' < μ s) ∨ (o.ex ≠ .normal ∧ P s o))) (s : σ) (hs : I s) :
    ∃ o, Run C T f m (.loop c) (fr s) (H s) o ∧ P s o := by
  generalize hn : μ s = n
  induction n using Nat.strongRecOn generalizing s with
  | _ n ih =>
    obtain ⟨o, h1, ⟨s', a, b, c, d⟩ | ⟨a, b⟩⟩ := step s hs
    · obtain ⟨o', g1, g2⟩ := ih (μ s') (by omega) s' a rfl
      subst b
      exact ⟨o', Run.loop_step h1 g1, c _ g2⟩
    · exact ⟨o, Run.loop_out h1 a, b⟩

/-- the longest -/
def mxL : Int → List Int → Int
  | m, [] => m
  | m, x :: r => mxL (if m < x then x else m) r

theorem mxL_bound : ∀ (l : List Int) (m : Int), 0 ≤ m → m ≤ 15 → fine l = true → 0 ≤ mxL m l ∧ mxL m l ≤ 15
  | [], m, h0, h1, _ => ⟨h0, h1⟩
  | x :: r, m, h0, h1, hf => by
    obtain ⟨h, hr⟩ := fine_cons.1 hf
    unfold mxL
    refine mxL_bound r _ ?_ ?_ hr <;> split <;> omega

/-- where a code of length i is -/
def findJ (i code : Int) : List Int → List Int → Nat → Option Nat
  | x :: r, y :: cs, j => if x = i ∧ y = code then some j else findJ i code r cs (j + 1)
  | _, _, _ => none

/-- the document's reading of a symbol -/
def decL (l codes : List Int) (b : List UInt8) (a : Nat) : Nat → Nat → Int → Int × Int × Int
  | 0, _, _ => (0, 0, 5)
  | k + 1, i, code => if 8 * b.length - (i : Int) < a then (0, 0, 4) else
    match findJ i (2 * code + rbit b (a + i - 1)) l codes 0 with
    | some j => (j, i, 0)
    | none => decL l codes b a k (i + 1) (2 * code + rbit b (a + i - 1))

def decR (l codes : List Int) (b : List UInt8) (a : Nat) : Int × Int × Int := decL l codes b a (mxL 0 l).toNat 1 0

def t3 (r : Int × Int × Int) : AV := .tup [.int .i64 r.1, .int .i64 r.2.1, .int .i64 r.2.2]

/-- the document's Read -/
def rreadR (l : List Int) (b : List UInt8) (a : Int) : Int × Int × Int :=
  if (rcheckR l).2 = 0 then (if a < 0 then (0, 0, 2) else decR l (rcodesR l) b a.toNat) else (0, 0, (rcheckR l).2)

theorem bsI (H : AM.Heap) (x : Int) : buildSliceV X H 26 1 [(0, .int .i64 x)] = some (.ro 1 (.pi .i64 [x]) 0, H) := by kernel_rfl

theorem seq_ex {C : Ctx} {T : Cf} {f m : Nat} {a b : Code} {fr fr1 : AM.Frame} {H H1 : AM.Heap} {Q : AM.Out → Prop} (h0 : Run C T f m a fr H ⟨.normal, fr1, H1⟩) (h1 : ∃ o, Run C T f m b fr1 H1 o ∧ Q o) : ∃ o, Run C T f m (.seq a b) fr H o ∧ Q o := by
  obtain ⟨o, g1, g2⟩ := h1
  exact ⟨o, Run.seq h0 g1, g2⟩

theorem seqB_ex {C : Ctx} {T : Cf} {f m id : Nat} {a c rest : Code} {fr fr1 : AM.Frame} {H H1 : AM.Heap} {P Q : AM.Out → Prop} (h0 : Run C T f m a fr H ⟨.normal, fr1, H1⟩) (hl : ∃ o, Run C T f m c fr1 H1 o ∧ P o)
    (h1 : ∀ o, P o → (∃ fr' H', blockOut id o = ⟨.normal, fr', H'⟩ ∧ ∃ o', Run C T f m rest fr' H' o' ∧ Q o') ∨ ((blockOut id o).ex ≠ .normal ∧ Q (blockOut id o))) : ∃ o, Run C T f m (.seq (.seq a (.block id c)) rest) fr H o ∧ Q o := by
  obtain ⟨o, g1, g2⟩ := hl
  have hb : Run C T f m (.seq a (.block id c)) fr H (blockOut id o) := Run.seq h0 (Run.block' g1)
  rcases h1 o g2 with ⟨fr', H', e, o', h2, h3⟩ | ⟨h2, h3⟩
  · rw [e] at hb; exact ⟨o', Run.seq hb h2, h3⟩
  · exact ⟨_, Run.seq_out hb h2, h3⟩

end Go.Proofs.Ytdjjekeaeoajpaa

/- Plain: a stream of bits that is read up to its first error. -/
namespace Go.Proofs.Ytdjjekeaeoajpaa
open Go.AM
set_option linter.unusedSimpArgs false
set_option linter.unusedVariables false

/-- what a reading tells: a value, the bit behind it, all bytes that were told; or an error -/
inductive Res (α : Type) where
  | ok (a : α) (k : Nat) (o : List UInt8)
  | err (e : Int)

abbrev PM (α : Type) := Nat → List UInt8 → Res α

def pret {α : Type} (a : α) : PM α := fun k o => .ok a k o
def pbad {α : Type} (e : Int) : PM α := fun _ _ => .err e
def pbnd {α β : Type} (m : PM α) (f : α → PM β) : PM β := fun k o => match m k o with
  | .ok a k' o' => f a k' o'
  | .err e => .err e

def bitP (b : List UInt8) : PM Int := fun k o => if k < 8 * b.length then .ok (rbit b k) (k + 1) o else .err 4
def telP (mo : Int) (c : UInt8) : PM Unit := fun k o => if (o.length : Int) < mo then .ok () k (o ++ [c]) else .err 3
def aliP : PM Unit := fun k o => .ok () ((k + 7) / 8 * 8) o
def fldP (b : List UInt8) : Nat → PM Int
  | 0 => pret 0
  | n + 1 => pbnd (fldP b n) fun x => pbnd (bitP b) fun y => pret (x + 2 ^ n * y)
def repP (m : PM Unit) : Nat → PM Unit
  | 0 => pret ()
  | n + 1 => pbnd m fun _ => repP m n

/-- a symbol of a code, bit by bit -/
def decP (b : List UInt8) (l codes : List Int) : Nat → Nat → Int → PM Nat
  | 0, _, _ => pbad 5
  | k + 1, i, x => pbnd (bitP b) fun y => match findJ i (2 * x + y) l codes 0 with
    | some j => pret j
    | none => decP b l codes k (i + 1) (2 * x + y)
def symP (b : List UInt8) (l : List Int) : PM Nat := if (rcheckR l).2 = 0 then decP b l (rcodesR l) (mxL 0 l).toNat 1 0 else pbad (rcheckR l).2

def stoP (b : List UInt8) (mo : Int) : PM Unit := pbnd aliP fun _ => pbnd (fldP b 16) fun n => pbnd (fldP b 16) fun m =>
  if n + m = 65535 then repP (pbnd (fldP b 8) fun c => telP mo (UInt8.ofNat c.toNat)) n.toNat else pbad 5

/-- a copy's length: its base, how many bits -/
def lenT : List (Int × Nat) := [(3, 0), (4, 0), (5, 0), (6, 0), (7, 0), (8, 0), (9, 0), (10, 0), (11, 1), (13, 1), (15, 1), (17, 1), (19, 2), (23, 2), (27, 2), (31, 2), (35, 3), (43, 3), (51, 3), (59, 3), (67, 4), (83, 4), (99, 4), (115, 4), (131, 5), (163, 5), (195, 5), (227, 5), (258, 0)]
def lenB (s : Nat) : Int := (lenT.getD (s - 257) (0, 0)).1
def lenX (s : Nat) : Nat := (lenT.getD (s - 257) (0, 0)).2
def dstX (d : Nat) : Nat := if d < 4 then 0 else d / 2 - 1
def dstB (d : Nat) : Nat := if d < 4 then 1 + d else 1 + (2 + d % 2) * 2 ^ (d / 2 - 1)

/-- a byte that stands so far back is told again -/
def cpyP (mo : Int) (d : Nat) : PM Unit := fun k o => telP mo (o.getD (o.length - d) 0) k o
def bakP (mo : Int) (d n : Nat) : PM Unit := fun k o => if d > o.length then .err 5 else repP (cpyP mo d) n k o
def copP (b : List UInt8) (mo : Int) (dl : List Int) (s : Nat) : PM Unit :=
  if 286 ≤ s then pbad 5 else pbnd (fldP b (lenX s)) fun x => pbnd (symP b dl) fun d =>
    if 30 ≤ d then pbad 5 else pbnd (fldP b (dstX d)) fun y => bakP mo (dstB d + y.toNat) (lenB s + x).toNat
def codP (b : List UInt8) (mo : Int) (ll dl : List Int) : Nat → PM Unit
  | 0 => pbad 99
  | f + 1 => pbnd (symP b ll) fun s => if s = 256 then pret () else if s < 256 then pbnd (telP mo (UInt8.ofNat s)) fun _ => codP b mo ll dl f
    else pbnd (copP b mo dl s) fun _ => codP b mo ll dl f

/-- the order in which the lengths of the code of lengths stand -/
def ordL : List Nat := [16, 17, 18, 0, 8, 7, 9, 6, 10, 5, 11, 4, 12, 3, 13, 2, 14, 1, 15]
def hcP (b : List UInt8) : List Nat → List Int → PM (List Int)
  | [], c => pret c
  | i :: r, c => pbnd (fldP b 3) fun x => hcP b r (c.set i x)

def agnP (n : Nat) (acc : List Int) (x : Int) (t : Nat) : PM (List Int) := if n < acc.length + t then pbad 5 else pret (acc ++ List.replicate t x)
/-- what a symbol of the code of lengths adds -/
def lstP (b : List UInt8) (n : Nat) (acc : List Int) (s : Nat) : PM (List Int) :=
  if s = 16 then (if acc = [] then pbad 5 else pbnd (fldP b 2) fun t => agnP n acc (acc.getLastD 0) (3 + t.toNat))
  else if s = 17 then pbnd (fldP b 3) fun t => agnP n acc 0 (3 + t.toNat)
  else if s = 18 then pbnd (fldP b 7) fun t => agnP n acc 0 (11 + t.toNat)
  else pret (acc ++ [(s : Int)])
def lenP (b : List UInt8) (cl : List Int) (n : Nat) : Nat → List Int → PM (List Int)
  | 0, _ => pbad 99
  | f + 1, acc => if n ≤ acc.length then pret acc else pbnd (symP b cl) fun s => pbnd (lstP b n acc s) fun a2 => lenP b cl n f a2

/-- has a code just one symbol, of one bit? -/
def lonB (l : List Int) : Bool := (l.filter (0 < ·)) == [1]
/-- has no symbol a code? -/
def nonB (l : List Int) : Bool := (l.filter (0 < ·)) == []
def okLit (l : List Int) : Bool := (rcheckR l).2 == 0 && (l.getD 256 0 != 0 && ((rcheckR l).1 || lonB l))
def okDis (l : List Int) : Bool := (rcheckR l).2 == 0 && ((rcheckR l).1 || (lonB l || nonB l))

def dynP (b : List UInt8) (F : Nat) : PM (List Int × List Int) := pbnd (fldP b 5) fun nl => pbnd (fldP b 5) fun nd => pbnd (fldP b 4) fun nc =>
  if 286 < 257 + nl ∨ 30 < 1 + nd then pbad 5 else pbnd (hcP b (ordL.take (4 + nc).toNat) (List.replicate 19 0)) fun cl =>
    if rcheckR cl = (true, 0) then pbnd (lenP b cl ((257 + nl) + (1 + nd)).toNat F []) fun a =>
      if (okLit (a.take (257 + nl).toNat) && okDis (a.drop (257 + nl).toNat)) = true then pret (a.take (257 + nl).toNat, a.drop (257 + nl).toNat) else pbad 5
    else pbad 5

/-- the lengths of the fixed codes -/
def fixL : List Int := List.replicate 144 8 ++ List.replicate 112 9 ++ List.replicate 24 7 ++ List.replicate 8 8
def fixD : List Int := List.replicate 32 5

structure Blk where
  kind : Int
  last : Bool
  k : Nat
  n : Nat

def kndP (b : List UInt8) (mo : Int) (F : Nat) (t : Int) : PM Unit :=
  if t = 0 then stoP b mo else if t = 1 then codP b mo fixL fixD F else if t = 2 then pbnd (dynP b F) fun c => codP b mo c.1 c.2 F else pbad 5
/-- a block: where it stands, what it tells -/
def blkP (b : List UInt8) (mo : Int) (F : Nat) : PM Blk := fun k o => pbnd (fldP b 1) (fun l => pbnd (fldP b 2) fun t => pbnd (kndP b mo F t) fun _ => fun k' o' => .ok ⟨t, l == 1, k, o'.length - o.length⟩ k' o') k o
def blsP (b : List UInt8) (mo : Int) (F : Nat) : Nat → PM (List Blk)
  | 0 => pbad 99
  | f + 1 => pbnd (blkP b mo F) fun x => if x.last = true then pret [x] else pbnd (blsP b mo F f) fun r => pret (x :: r)

/-- what a stream tells: bytes, how many bytes it has, the error -/
def infR (F : Nat) (b : List UInt8) (mo : Int) : List UInt8 × Int × Int :=
  if mo < 0 then ([], 0, 2) else match blsP b mo F F 0 [] with
  | .ok _ k o => (o, ((k + 7) / 8 : Nat), 0)
  | .err e => ([], 0, e)
def bloR (F : Nat) (b : List UInt8) (mo : Int) : List Blk × Int :=
  if mo < 0 then ([], 2) else match blsP b mo F F 0 [] with
  | .ok l _ _ => (l, 0)
  | .err e => ([], e)

end Go.Proofs.Ytdjjekeaeoajpaa

/- Structures: a reader of bits that a caller holds, and calls of its methods. -/
namespace Go.Proofs.Ytdjjekeaeoajpaa
open Go.AM
set_option linter.unusedSimpArgs false
set_option linter.unusedVariables false

/-- a reader's state: the bit, what was told, the error -/
structure Is where
  k : Nat
  o : List UInt8
  e : Int

def irBx (c : Nat) (b : List UInt8) (mo : Int) (s : Is) (vo : AV) (τ1 τ : Nat) : AM.Obj := ⟨.pc [.ro c (.pb b) τ1, .int .i64 (s.k : Nat), vo, .int .i64 mo, .int .i64 s.e], 0, some 5, 1, false, true, τ⟩

/-- what was told, as the reader holds it -/
def OuV (t : Nat) (H : AM.Heap) (oa : Option Nat) (vo : AV) (l : List UInt8) : Prop := match oa with
  | none => l = [] ∧ ∃ τ, (τ = 0 ∨ τ = t) ∧ vo = .ro 0 .pn τ
  | some a => ∃ g τ ob, (τ = 0 ∨ τ = t) ∧ vo = .sl a 0 l.length g ∧ H[a]? = some (some ob) ∧ RwT (.pb l) g τ ob

/-- a reader at o -/
structure IrV (c : Nat) (b : List UInt8) (mo : Int) (t : Nat) (H : AM.Heap) (o : Nat) (oa : Option Nat) (s : Is) : Prop where
  bx : ∃ vo τ1 τ, (τ1 = 0 ∨ τ1 = t) ∧ (τ = 0 ∨ τ = t) ∧ H[o]? = some (some (irBx c b mo s vo τ1 τ)) ∧ OuV t H oa vo s.o
  ne : ∀ a, oa = some a → a ≠ o

/-- the same, described -/
def irS (c : Nat) (b : List UInt8) (mo : Int) (s : Is) : Bool → List AM.Obj
  | false => [irBx c b mo s (.ro 0 .pn 0) 0 0]
  | true => [irBx c b mo s (.sl 1 0 s.o.length 0) 0 0, ⟨.pb s.o, 0, none, 0, true, false, 0⟩]

section
variable {c : Nat} {b : List UInt8} {mo : Int} {t : Nat} {H : AM.Heap} {o : Nat} {oa : Option Nat} {s : Is}

theorem irS_ok (c : Nat) (b : List UInt8) (mo : Int) (s : Is) (r : Bool) : OkS (irS c b mo s r) := by
  intro k ob0 hk x hx
  cases r
  · cases k with
    | zero =>
      obtain rfl := Option.some.inj hk
      simp [irBx, ids, idsL] at hx
    | succ k => simp [irS] at hk
  · match k, hk with
    | 0, hk =>
      obtain rfl := Option.some.inj hk
      simp [irBx, ids, idsL] at hx
      subst hx
      simp [irS]
    | 1, hk =>
      obtain rfl := Option.some.inj hk
      simp [ids] at hx
    | k + 2, hk => simp [irS] at hk

theorem irS_len (c : Nat) (b : List UInt8) (mo : Int) (s : Is) (r : Bool) : (irS c b mo s r).length = if r then 2 else 1 := by cases r <;> rfl

theorem irS_reach (c : Nat) (b : List UInt8) (mo : Int) (s : Is) (r : Bool) : reach ((irS c b mo s r).map some) reachFuel [0] [] = List.range (irS c b mo s r).length := by
  cases r
  · exact reach_box rfl (by simp [irBx, ids, idsL])
  · show reach _ (99996 + 1 + 1 + 1 + 1) [0] [] = [0, 1]
    simp [irS, irBx, reach, ids, idsL]

theorem IrV.img (h : IrV c b mo t H o oa s) : ∃ π, Img t H π (irS c b mo s oa.isSome) ∧ π.map Prod.fst = o :: oa.toList ∧ π[0]? = some (o, 0) := by
  obtain ⟨⟨vo, τ1, τ, hτ1, hτ, h0, ho⟩, hne⟩ := h
  cases oa with
  | none =>
    obtain ⟨hl, τ2, hτ2, rfl⟩ := ho
    refine ⟨[(o, 0)], ⟨rfl, ?_, ?_⟩, rfl, rfl⟩
    · intro j k oj gj ok gk h1 h2 _
      have := ltAt h1; have := ltAt h2
      simp at *; omega
    · intro k ob0 hk
      cases k with
      | succ k => simp [irS] at hk
      | zero =>
        obtain rfl := Option.some.inj hk
        refine ⟨o, 0, _, rfl, h0, ⟨?_, rfl, rfl, rfl, fun _ => ⟨rfl, rfl, rfl⟩, hτ, ?_⟩⟩
        · simp [irBx, ren, renL, tz]
        · intro k hk
          simp [irBx, tags, tagsL] at hk
          rcases hk with rfl | rfl
          · exact hτ1
          · exact hτ2
  | some a =>
    obtain ⟨g, τ2, ob, hτ2, rfl, ha, hw⟩ := ho
    have hao := hne a rfl
    refine ⟨[(o, 0), (a, g)], ⟨rfl, ?_, ?_⟩, rfl, rfl⟩
    · intro j k oj gj ok gk h1 h2 e
      match j, k, h1, h2 with
      | 0, 0, _, _ => rfl
      | 1, 1, _, _ => rfl
      | 0, 1, h1, h2 => simp at h1 h2; omega
      | 1, 0, h1, h2 => simp at h1 h2; omega
      | j + 2, _, h1, _ => simp at h1
      | 0, k + 2, _, h2 => simp at h2
      | 1, k + 2, _, h2 => simp at h2
    · intro k ob0 hk
      match k, hk with
      | 0, hk =>
        obtain rfl := Option.some.inj hk
        refine ⟨o, 0, _, rfl, h0, ⟨?_, rfl, rfl, rfl, fun _ => ⟨rfl, rfl, rfl⟩, hτ, ?_⟩⟩
        · simp [irBx, ren, renL, tz, rhoP, idN]
        · intro k hk
          simp [irBx, tags, tagsL] at hk
          rw [hk]; exact hτ1
      | 1, hk =>
        obtain rfl := Option.some.inj hk
        refine ⟨a, g, ob, rfl, ha, ⟨by rw [hw.p]; rfl, hw.g, hw.row, hw.ids, (fun h => by cases h), by rw [hw.tg]; exact hτ2, ?_⟩⟩
        intro k hk
        rw [hw.p] at hk
        simp [tags] at hk
      | k + 2, hk => simp [irS] at hk

theorem IrV.of_img {π : List (Nat × Nat)} {r : Bool} (h : Img t H π (irS c b mo s r)) (h0 : π[0]? = some (o, 0)) (hr : r = false → s.o = []) : ∃ oa, IrV c b mo t H o oa s ∧ π.map Prod.fst = o :: oa.toList ∧ oa.isSome = r ∧ (∀ a, oa = some a → ∃ g, π[1]? = some (a, g)) := by
  obtain ⟨o', g', ob, q1, q2, q3⟩ := h.ob 0 _ (by cases r <;> rfl : (irS c b mo s r)[0]? = some (irBx c b mo s (if r then .sl 1 0 s.o.length 0 else .ro 0 .pn 0) 0 0))
  rw [h0] at q1
  simp only [Option.some.injEq, Prod.mk.injEq] at q1
  obtain ⟨rfl, rfl⟩ := q1
  obtain ⟨b1, b2, _⟩ := q3.bx rfl
  obtain ⟨p, g, cap, z, row, idb, tg⟩ := ob
  have r2 := q3.gen; have r3 := q3.row; have r4 := q3.ids; have r5 := q3.tg; have r6 := q3.tp; have r1 := q3.p
  simp only [irBx] at r1 r2 r3 r4 r5 r6 b1 b2
  subst r2 r3 r4 b1 b2
  simp only [ren, renL] at r1
  obtain ⟨l1, rfl, k1⟩ := inv_pc r1
  obtain ⟨x1, l2, rfl, e1, k2⟩ := inv_cons k1
  obtain ⟨x2, l3, rfl, e2, k3⟩ := inv_cons k2
  obtain ⟨x3, l4, rfl, e3, k4⟩ := inv_cons k3
  obtain ⟨x4, l5, rfl, e4, k5⟩ := inv_cons k4
  obtain ⟨x5, l6, rfl, e5, k6⟩ := inv_cons k5
  obtain rfl := inv_nil k6
  obtain ⟨τ1, rfl⟩ := inv_ro e1
  obtain rfl := inv_int e2
  obtain rfl := inv_int e4
  obtain rfl := inv_int e5
  have hτ1 : τ1 = 0 ∨ τ1 = t := r6 τ1 (by simp [tags, tagsL])
  cases r with
  | false =>
    simp only [Bool.false_eq_true, if_false, ren] at e3
    obtain ⟨τ2, rfl⟩ := inv_ro e3
    have hτ2 : τ2 = 0 ∨ τ2 = t := r6 τ2 (by simp [tags, tagsL])
    have hl := h.len
    refine ⟨none, ⟨⟨_, τ1, tg, hτ1, r5, q2, hr rfl, τ2, hτ2, rfl⟩, fun a h => by cases h⟩, ?_, rfl, fun a h => by cases h⟩
    match π, hl, h0 with
    | [x], _, h0 => simp at h0; subst h0; rfl
  | true =>
    obtain ⟨a, g, ob, p1, p2, p3⟩ := h.ob 1 _ rfl
    simp only [if_true, ren, rhoP, p1] at e3
    obtain rfl := inv_sl e3
    have hl := h.len
    have hne : a ≠ o := fun e => by have := h.nd 1 0 a g o 0 p1 h0 e; omega
    have ep := p3.p
    simp only [ren] at ep
    refine ⟨some a, ⟨⟨_, τ1, tg, hτ1, r5, q2, g, ob.tg, ob, p3.tg, rfl, p2, inv_pb ep, p3.gen, p3.row, p3.ids, rfl⟩, fun a' h => by cases h; exact hne⟩, ?_, rfl, fun a' h => by cases h; exact ⟨g, p1⟩⟩
    match π, hl, h0, p1 with
    | [x, y], _, h0, p1 => simp at h0 p1; subst h0 p1; rfl

/-- a call of a method -/
theorem meth_ev {f n : Nat} {fn : Func} {code : Code} {xs ys : List AV} {Q : Is → List AV → Bool → Prop} (hF : X.P.funcs[f]? = some fn) (hb : fn.body = some code) (hrw : X.rw f 0 = false) (h : IrV c b mo t H o oa s)
    (hA : ∀ π K, π.map Prod.fst = o :: oa.toList → ArgI X f H π K 1 xs ys) (hi : idsL ys = []) (hn : xs.length + 2 = n) (hng : n < gtag)
    (run : ∀ m E, IrV c b mo n E 0 (oa.map fun _ => 1) s → Tells (EndsP fun fr E' => ∃ s' oa' l, resultsV X fr E' fn.results.toList = some l ∧ idsL l = [] ∧ tagsL l = [] ∧ noTups l = true ∧ IrV c b mo n E' 0 oa' s' ∧ (oa ≠ none → oa' = some 1) ∧ Q s' l oa'.isSome)
      X (evT X) f m code (numbered 0 (coerce X (.ptr 0 0 0 0 :: ys) (paramsOf X f))) E) :
    ∃ H' oa' s' l, evT X f (.ptr o 0 0 0 :: xs) H = some (resultV l, H') ∧ IrV c b mo t H' o oa' s' ∧ Q s' l oa'.isSome ∧ H.length ≤ H'.length ∧ (∀ a, oa = some a → oa' = some a) ∧ (∀ a, oa = none → oa' = some a → H.length ≤ a) ∧
      (∀ j, j < H.length → j ≠ o → (∀ a, oa = some a → j ≠ a) → H'[j]? = H[j]?) := by
  obtain ⟨π, hI, hπ, hπ0⟩ := h.img
  have hK : 0 < (irS c b mo s oa.isSome).length := by rw [irS_len]; split <;> omega
  have hA' := (hA π (irS c b mo s oa.isSome).length hπ)
  have hA2 : ArgI X f H π (irS c b mo s oa.isSome).length 0 (.ptr o 0 0 0 :: xs) (.ptr 0 0 0 0 :: ys) := ArgI.ptr hI hrw hπ0 hK hA'
  have hoa : oa.isSome = false → s.o = [] := by
    intro h1
    cases oa with
    | some a => cases h1
    | none => obtain ⟨⟨vo, τ1, τ, _, _, _, ho⟩, _⟩ := h; exact ho.1
  obtain ⟨π'', S', v0, H', τf, hE, hτf, hI', hok', hid, ⟨s', l, r', hS', hv0, hr', hQ, hil⟩, hlen, hfix, hnew, hrest⟩ := Ev1.img (C := X) (T := evT X) (f := f) (H := H) (n := n) (ys := .ptr 0 0 0 0 :: ys) (Q := fun S' v0 => ∃ s' l r', S' = irS c b mo s' r' ∧ v0 = resultV l ∧ (r' = false → s'.o = []) ∧ Q s' l r' ∧ idsL l = [] ∧ tagsL l = [] ∧ noTups l = true ∧ (oa.isSome = true → r' = true)) (evT_below X) hF hb hI (irS_ok c b mo s _) hA2
    (by rw [show idsL (AV.ptr 0 0 0 0 :: ys) = [0] by simp [idsL, ids, hi]]; exact irS_reach c b mo s _) (by simp; omega) hng (by
      intro E hEl hEI
      obtain ⟨oa1, hV, hπ1, hs1, hat1⟩ := IrV.of_img hEI (by rw [pi0_at, if_pos hK]) hoa
      have hoa1 : oa1 = oa.map fun _ => 1 := by
        cases oa with
        | none => cases oa1 with
          | none => rfl
          | some a => cases hs1
        | some a => cases oa1 with
          | none => cases hs1
          | some a1 =>
            obtain ⟨g, hg⟩ := hat1 a1 rfl
            rw [pi0_at] at hg
            simp [irS_len] at hg
            rw [Option.map_some, ← hg.1]
      rw [hoa1] at hV
      obtain ⟨out, hout, hrun⟩ := run (irS c b mo s oa.isSome).length E hV
      refine ⟨out, ⟨hout.1, ?_⟩, hrun⟩
      obtain ⟨s', oa', l, hr, hil, htl, hnt, hV', ho', hQ⟩ := hout.2
      obtain ⟨π', hI', hπ', hπ0'⟩ := hV'.img
      have hoa' : oa'.isSome = false → s'.o = [] := by
        intro h1
        cases oa' with
        | some a => cases h1
        | none => obtain ⟨⟨vo, τ1, τ, _, _, _, ho⟩, _⟩ := hV'; exact ho.1
      refine Leaves.plain hr hil htl hnt hI' (irS_ok c b mo s' _) ?_ ?_ ?_ ?_ ⟨s', l, _, rfl, rfl, hoa', hQ, hil, htl, hnt, ?_⟩
      · rw [irS_len, irS_len]
        cases oa with
        | none => cases oa'.isSome <;> simp
        | some a => rw [ho' (by simp)]; simp
      · intro k hk
        cases oa with
        | none =>
          rw [irS_len] at hk
          simp at hk
          subst hk
          exact ⟨0, hπ0'⟩
        | some a =>
          rw [irS_len] at hk
          simp at hk
          have : k = 0 ∨ k = 1 := by omega
          rcases this with rfl | rfl
          · exact ⟨0, hπ0'⟩
          · rw [ho' (by simp)] at hπ'
            have h1 : (π'.map Prod.fst)[1]? = some 1 := by rw [hπ']; rfl
            rw [List.getElem?_map] at h1
            cases hp : π'[1]? with
            | none => rw [hp] at h1; cases h1
            | some x =>
              rw [hp] at h1
              simp at h1
              exact ⟨x.2, by rw [← h1]⟩
      · intro k ob ob' h1 h2
        cases hx : oa.isSome <;> cases hy : oa'.isSome <;> rw [hx] at h1 <;> rw [hy] at h2
        all_goals
          match k, h1, h2 with
          | 0, h1, h2 =>
            have e1 := Option.some.inj h1
            have e2 := Option.some.inj h2
            subst e1 e2; rfl
          | 1, h1, h2 => first | (simp [irS] at h1; done) | (simp [irS] at h2; done) | (
            have e1 := Option.some.inj h1
            have e2 := Option.some.inj h2
            subst e1 e2; rfl)
          | k + 2, h1, h2 => simp [irS] at h1
      · intro k hk1 hk2
        cases hx : oa.isSome <;> cases hy : oa'.isSome <;> rw [hx, irS_len] at hk1 <;> rw [hy, irS_len] at hk2 <;> simp at hk1 hk2
        all_goals first | omega | skip
        have : k = 1 := by omega
        subst this
        rw [show List.range (irS c b mo s false).length = [0] from rfl, irS_reach]
        rw [irS_len]; simp
      · intro h1
        cases oa with
        | none => cases h1
        | some a => rw [ho' (by simp)]; rfl)
  subst hS' hv0
  obtain ⟨g0, hg0⟩ := hfix 0 o 0 hπ0
  have hg00 : g0 = 0 := by
    obtain ⟨o', g', ob, q1, q2, q3⟩ := hI'.ob 0 _ (by cases r' <;> rfl : (irS c b mo s' r')[0]? = some (irBx c b mo s' (if r' then .sl 1 0 s'.o.length 0 else .ro 0 .pn 0) 0 0))
    rw [hg0] at q1
    simp only [Option.some.injEq, Prod.mk.injEq] at q1
    obtain ⟨_, rfl⟩ := q1
    exact (q3.bx rfl).2.2
  subst hg00
  obtain ⟨oa', hV', hπ'', hs', hat'⟩ := IrV.of_img hI' hg0 hr'
  obtain ⟨hil, htl, hnt, hmono⟩ := hil
  rw [ren_flat (resultV l) (by rw [ids_result hnt]; exact hil) (fun k hk => by rw [tags_result hnt, htl] at hk; cases hk)] at hE
  refine ⟨H', oa', s', l, evT_eq hE, hV', by rw [hs']; exact hQ, hlen, ?_, ?_, ?_⟩
  · intro a ha
    subst ha
    cases oa' with
    | none =>
      have := hmono rfl
      rw [this] at hs'; cases hs'
    | some a' =>
      obtain ⟨g, hg⟩ := hat' a' rfl
      have h1 : (π.map Prod.fst)[1]? = some a := by rw [hπ]; rfl
      rw [List.getElem?_map] at h1
      cases hp : π[1]? with
      | none => rw [hp] at h1; cases h1
      | some x =>
        rw [hp] at h1
        simp at h1
        obtain ⟨g2, hg2⟩ := hfix 1 x.1 x.2 hp
        rw [hg] at hg2
        simp at hg2
        rw [hg2.1, h1]
  · intro a ha ha'
    subst ha ha'
    obtain ⟨g, hg⟩ := hat' a rfl
    exact hnew 1 a g (by rw [irS_len]; simp) hg
  · intro j hj hjo hja
    refine hrest j hj ?_
    intro k x g hk e
    have h1 : x ∈ π.map Prod.fst := List.mem_map.2 ⟨(x, g), List.mem_of_getElem? hk, rfl⟩
    rw [hπ] at h1
    rcases List.mem_cons.1 h1 with h1 | h1
    · exact hjo (e.trans h1)
    · cases oa with
      | none => simp at h1
      | some a =>
        simp at h1
        exact hja a rfl (e.trans h1)

end

end Go.Proofs.Ytdjjekeaeoajpaa

/- Plain: what a stream tells hangs on the bits alone that were read, and on no more room than what was told. -/
namespace Go.Proofs.Ytdjjekeaeoajpaa
open Go.AM
set_option linter.unusedSimpArgs false
set_option linter.unusedVariables false

structure Loc {α : Type} (m : List UInt8 → Int → PM α) : Prop where
  up : ∀ b mo k o a k' o', m b mo k o = .ok a k' o' → k ≤ 8 * b.length → k ≤ k' ∧ k' ≤ 8 * b.length ∧ (∃ x, o' = o ++ x) ∧ ((o.length : Int) ≤ mo → (o'.length : Int) ≤ mo)
  same : ∀ b b2 mo mo2 k o a k' o', m b mo k o = .ok a k' o' → k ≤ 8 * b.length → (∀ i, i < k' → rbit b2 i = rbit b i) → k' ≤ 8 * b2.length → (o'.length : Int) ≤ mo2 → m b2 mo2 k o = .ok a k' o'
  cut : ∀ b b2 mo k o a k' o', m b mo k o = .ok a k' o' → k ≤ 8 * b.length → (∀ i, i < 8 * b2.length → rbit b2 i = rbit b i) → k ≤ 8 * b2.length → 8 * b2.length < k' → (o.length : Int) ≤ mo → m b2 mo k o = .err 4
  few : ∀ b mo mo2 k o a k' o', m b mo k o = .ok a k' o' → k ≤ 8 * b.length → (o.length : Int) ≤ mo2 → mo2 < o'.length → m b mo2 k o = .err 3

theorem res_ok {α : Type} {a a' : α} {k k' : Nat} {o o' : List UInt8} (h : Res.ok a k o = .ok a' k' o') : a = a' ∧ k = k' ∧ o = o' := by
  cases h; exact ⟨rfl, rfl, rfl⟩

theorem pbnd_ok {α β : Type} {m : PM α} {f : α → PM β} {k k' : Nat} {o o' : List UInt8} {b : β} (h : pbnd m f k o = .ok b k' o') : ∃ a k1 o1, m k o = .ok a k1 o1 ∧ f a k1 o1 = .ok b k' o' := by
  unfold pbnd at h
  cases hm : m k o with
  | ok a k1 o1 => rw [hm] at h; exact ⟨a, k1, o1, rfl, h⟩
  | err e => rw [hm] at h; cases h
theorem pbnd_of {α β : Type} {m : PM α} {f : α → PM β} {k k1 : Nat} {o o1 : List UInt8} {a : α} (h : m k o = .ok a k1 o1) : pbnd m f k o = f a k1 o1 := by
  unfold pbnd; rw [h]
theorem pbnd_err {α β : Type} {m : PM α} {f : α → PM β} {k : Nat} {o : List UInt8} {e : Int} (h : m k o = .err e) : pbnd m f k o = .err e := by
  unfold pbnd; rw [h]

theorem Loc.ret {α : Type} (a : α) : Loc (fun _ _ => pret a) where
  up := by
    intro b mo k o a' k' o' h hk
    obtain ⟨_, rfl, rfl⟩ := res_ok h
    exact ⟨Nat.le_refl _, hk, ⟨[], by simp⟩, fun h => h⟩
  same := fun b b2 mo mo2 k o a k' o' h _ _ _ _ => h
  cut := by
    intro b b2 mo k o a' k' o' h hk _ h2 h3
    obtain ⟨_, rfl, rfl⟩ := res_ok h
    omega
  few := by
    intro b mo mo2 k o a' k' o' h hk h2 h3
    obtain ⟨_, rfl, rfl⟩ := res_ok h
    omega

theorem Loc.bad {α : Type} (e : Int) : Loc (α := α) (fun _ _ => pbad e) where
  up := by intro b mo k o a' k' o' h; cases h
  same := by intro b b2 mo mo2 k o a' k' o' h; cases h
  cut := by intro b b2 mo k o a' k' o' h; cases h
  few := by intro b mo mo2 k o a' k' o' h; cases h

theorem Loc.bnd {α β : Type} {m : List UInt8 → Int → PM α} {f : α → List UInt8 → Int → PM β} (hm : Loc m) (hf : ∀ a, Loc (f a)) : Loc (fun b mo => pbnd (m b mo) fun a => f a b mo) where
  up := by
    intro b mo k o a' k' o' h hk
    obtain ⟨a, k1, o1, h1, h2⟩ := pbnd_ok h
    obtain ⟨e1, e2, ⟨x, rfl⟩, e4⟩ := hm.up _ _ _ _ _ _ _ h1 hk
    obtain ⟨f1, f2, ⟨y, rfl⟩, f4⟩ := (hf a).up _ _ _ _ _ _ _ h2 e2
    exact ⟨by omega, f2, ⟨x ++ y, by simp⟩, fun h => f4 (e4 h)⟩
  same := by
    intro b b2 mo mo2 k o a' k' o' h hk hb hl ho
    obtain ⟨a, k1, o1, h1, h2⟩ := pbnd_ok h
    obtain ⟨e1, e2, ⟨x, rfl⟩, e4⟩ := hm.up _ _ _ _ _ _ _ h1 hk
    obtain ⟨f1, f2, ⟨y, rfl⟩, f4⟩ := (hf a).up _ _ _ _ _ _ _ h2 e2
    have e5 := hm.same b b2 mo mo2 k o a k1 _ h1 hk (fun i hi => hb i (by omega)) (by omega) (by simp at ho ⊢; omega)
    rw [pbnd_of e5]
    exact (hf a).same b b2 mo mo2 _ _ _ _ _ h2 e2 hb hl ho
  cut := by
    intro b b2 mo k o a' k' o' h hk hb hl hc hm0
    obtain ⟨a, k1, o1, h1, h2⟩ := pbnd_ok h
    obtain ⟨e1, e2, ⟨x, rfl⟩, e4⟩ := hm.up _ _ _ _ _ _ _ h1 hk
    by_cases h3 : 8 * b2.length < k1
    · rw [pbnd_err (hm.cut b b2 mo k o a k1 _ h1 hk hb hl h3 hm0)]
    · rw [pbnd_of (hm.same b b2 mo mo k o a k1 _ h1 hk (fun i hi => hb i (by omega)) (by omega) (e4 hm0))]
      exact (hf a).cut b b2 mo _ _ _ _ _ h2 e2 hb (by omega) hc (e4 hm0)
  few := by
    intro b mo mo2 k o a' k' o' h hk h2 h3
    obtain ⟨a, k1, o1, h1, h4⟩ := pbnd_ok h
    obtain ⟨e1, e2, ⟨x, rfl⟩, e4⟩ := hm.up _ _ _ _ _ _ _ h1 hk
    by_cases h5 : mo2 < ((o ++ x).length : Int)
    · rw [pbnd_err (hm.few b mo mo2 k o a k1 _ h1 hk h2 h5)]
    · rw [pbnd_of (hm.same b b mo mo2 k o a k1 _ h1 hk (fun _ _ => rfl) e2 (by omega))]
      exact (hf a).few b mo mo2 _ _ _ _ _ h4 e2 (by omega) h3

/-- what looks at where it stands -/
theorem Loc.look {α : Type} {f : Nat → List UInt8 → List UInt8 → Int → PM α} (h : ∀ k o, Loc (f k o)) : Loc (fun b mo k o => f k o b mo k o) where
  up := fun b mo k o a k' o' h1 hk => (h k o).up _ _ _ _ _ _ _ h1 hk
  same := fun b b2 mo mo2 k o a k' o' h1 hk hb hl ho => (h k o).same _ _ _ _ _ _ _ _ _ h1 hk hb hl ho
  cut := fun b b2 mo k o a k' o' h1 hk hb hl hc hm => (h k o).cut _ _ _ _ _ _ _ _ h1 hk hb hl hc hm
  few := fun b mo mo2 k o a k' o' h1 hk h2 h3 => (h k o).few _ _ _ _ _ _ _ _ h1 hk h2 h3

theorem Loc.ite {α : Type} {c : Prop} [Decidable c] {m m2 : List UInt8 → Int → PM α} (h : Loc m) (h2 : Loc m2) : Loc (fun b mo => if c then m b mo else m2 b mo) := by
  by_cases hc : c
  · simpa [hc] using h
  · simpa [hc] using h2

theorem loc_bit : Loc (fun b _ => bitP b) where
  up := by
    intro b mo k o a k' o' h hk
    unfold bitP at h
    split at h
    · obtain ⟨_, rfl, rfl⟩ := res_ok h
      exact ⟨by omega, by omega, ⟨[], by simp⟩, fun h => h⟩
    · cases h
  same := by
    intro b b2 mo mo2 k o a k' o' h hk hb hl ho
    unfold bitP at h ⊢
    split at h
    · obtain ⟨rfl, rfl, rfl⟩ := res_ok h
      rw [if_pos (by omega), hb k (by omega)]
    · cases h
  cut := by
    intro b b2 mo k o a k' o' h hk hb hl hc hm
    unfold bitP at h ⊢
    split at h
    · obtain ⟨rfl, rfl, rfl⟩ := res_ok h
      rw [if_neg (by omega)]
    · cases h
  few := by
    intro b mo mo2 k o a k' o' h hk h2 h3
    unfold bitP at h
    split at h
    · obtain ⟨rfl, rfl, rfl⟩ := res_ok h
      omega
    · cases h

theorem loc_ali : Loc (fun _ _ => aliP) where
  up := by
    intro b mo k o a k' o' h hk
    obtain ⟨_, rfl, rfl⟩ := res_ok h
    exact ⟨by omega, by omega, ⟨[], by simp⟩, fun h => h⟩
  same := fun b b2 mo mo2 k o a k' o' h _ _ _ _ => h
  cut := by
    intro b b2 mo k o a k' o' h hk hb hl hc hm
    obtain ⟨_, rfl, rfl⟩ := res_ok h
    omega
  few := by
    intro b mo mo2 k o a k' o' h hk h2 h3
    obtain ⟨_, rfl, rfl⟩ := res_ok h
    omega

theorem loc_tel (c : UInt8) : Loc (fun _ mo => telP mo c) where
  up := by
    intro b mo k o a k' o' h hk
    unfold telP at h
    split at h
    · obtain ⟨_, rfl, rfl⟩ := res_ok h
      exact ⟨by omega, by omega, ⟨[c], rfl⟩, fun _ => by simp; omega⟩
    · cases h
  same := by
    intro b b2 mo mo2 k o a k' o' h hk hb hl ho
    unfold telP at h ⊢
    split at h
    · obtain ⟨rfl, rfl, rfl⟩ := res_ok h
      rw [if_pos (by simp at ho; omega)]
    · cases h
  cut := by
    intro b b2 mo k o a k' o' h hk hb hl hc hm
    unfold telP at h
    split at h
    · obtain ⟨rfl, rfl, rfl⟩ := res_ok h
      omega
    · cases h
  few := by
    intro b mo mo2 k o a k' o' h hk h2 h3
    unfold telP at h ⊢
    split at h
    · obtain ⟨rfl, rfl, rfl⟩ := res_ok h
      rw [if_neg (by simp at h3; omega)]
    · cases h

theorem loc_fld : ∀ n, Loc (fun b _ => fldP b n)
  | 0 => Loc.ret 0
  | n + 1 => Loc.bnd (f := fun x b _ => pbnd (bitP b) fun y => pret (x + 2 ^ n * y)) (loc_fld n) fun x => Loc.bnd (f := fun y _ _ => pret (x + 2 ^ n * y)) loc_bit fun y => Loc.ret _

theorem Loc.rep {m : List UInt8 → Int → PM Unit} (h : Loc m) : ∀ n, Loc (fun b mo => repP (m b mo) n)
  | 0 => Loc.ret ()
  | n + 1 => Loc.bnd (f := fun _ b mo => repP (m b mo) n) h fun _ => Loc.rep h n

theorem loc_dec (l codes : List Int) : ∀ (k i : Nat) (x : Int), Loc (fun b _ => decP b l codes k i x)
  | 0, _, _ => Loc.bad 5
  | k + 1, i, x => by
    refine Loc.bnd (f := fun y b _ => match findJ i (2 * x + y) l codes 0 with
      | some j => pret j
      | none => decP b l codes k (i + 1) (2 * x + y)) loc_bit fun y => ?_
    cases findJ i (2 * x + y) l codes 0 with
    | some j => exact Loc.ret j
    | none => exact loc_dec l codes k (i + 1) (2 * x + y)

theorem loc_sym (l : List Int) : Loc (fun b _ => symP b l) := by
  unfold symP
  exact Loc.ite (loc_dec l _ _ _ _) (Loc.bad _)

theorem loc_sto : Loc stoP := by
  unfold stoP
  refine Loc.bnd (f := fun _ b mo => _) loc_ali fun _ => ?_
  refine Loc.bnd (f := fun n b mo => _) (loc_fld 16) fun n => ?_
  refine Loc.bnd (f := fun m b mo => _) (loc_fld 16) fun m => ?_
  refine Loc.ite (Loc.rep (Loc.bnd (f := fun c b mo => _) (loc_fld 8) fun c => loc_tel _) _) (Loc.bad 5)

theorem loc_cpy (d : Nat) : Loc (fun _ mo => cpyP mo d) := by
  unfold cpyP
  exact Loc.look (f := fun k o b mo => telP mo (o.getD (o.length - d) 0)) fun k o => loc_tel _

theorem loc_bak (d n : Nat) : Loc (fun _ mo => bakP mo d n) := by
  unfold bakP
  refine Loc.look (f := fun k o b mo => fun k o2 => if d > o.length then .err 5 else repP (cpyP mo d) n k o2) fun k o => ?_
  by_cases h : d > o.length
  · simp only [h, if_true]; exact Loc.bad 5
  · simp only [h, if_false]; exact Loc.rep (loc_cpy d) n

theorem loc_cop (dl : List Int) (s : Nat) : Loc (fun b mo => copP b mo dl s) := by
  unfold copP
  refine Loc.ite (Loc.bad 5) ?_
  refine Loc.bnd (f := fun x b mo => _) (loc_fld _) fun x => ?_
  refine Loc.bnd (f := fun d b mo => _) (loc_sym dl) fun d => ?_
  refine Loc.ite (Loc.bad 5) ?_
  exact Loc.bnd (f := fun y b mo => _) (loc_fld _) fun y => loc_bak _ _

theorem loc_cod (ll dl : List Int) : ∀ F, Loc (fun b mo => codP b mo ll dl F)
  | 0 => Loc.bad 99
  | f + 1 => by
    unfold codP
    refine Loc.bnd (f := fun s b mo => _) (loc_sym ll) fun s => ?_
    refine Loc.ite (Loc.ret ()) (Loc.ite ?_ ?_)
    · exact Loc.bnd (f := fun _ b mo => codP b mo ll dl f) (loc_tel _) fun _ => loc_cod ll dl f
    · exact Loc.bnd (f := fun _ b mo => codP b mo ll dl f) (loc_cop dl s) fun _ => loc_cod ll dl f

theorem loc_hc : ∀ (r : List Nat) (c : List Int), Loc (fun b _ => hcP b r c)
  | [], c => Loc.ret c
  | i :: r, c => Loc.bnd (f := fun x b _ => hcP b r (c.set i x)) (loc_fld 3) fun x => loc_hc r _

theorem loc_agn (n : Nat) (acc : List Int) (x : Int) (t : Nat) : Loc (fun _ _ => agnP n acc x t) := by
  unfold agnP
  exact Loc.ite (Loc.bad 5) (Loc.ret _)

theorem loc_lst (n : Nat) (acc : List Int) (s : Nat) : Loc (fun b _ => lstP b n acc s) := by
  unfold lstP
  refine Loc.ite (Loc.ite (Loc.bad 5) ?_) (Loc.ite ?_ (Loc.ite ?_ (Loc.ret _)))
  · exact Loc.bnd (f := fun t b _ => _) (loc_fld 2) fun t => loc_agn _ _ _ _
  · exact Loc.bnd (f := fun t b _ => _) (loc_fld 3) fun t => loc_agn _ _ _ _
  · exact Loc.bnd (f := fun t b _ => _) (loc_fld 7) fun t => loc_agn _ _ _ _

theorem loc_len (cl : List Int) (n : Nat) : ∀ (F : Nat) (acc : List Int), Loc (fun b _ => lenP b cl n F acc)
  | 0, _ => Loc.bad 99
  | f + 1, acc => by
    unfold lenP
    refine Loc.ite (Loc.ret acc) ?_
    refine Loc.bnd (f := fun s b mo => _) (loc_sym cl) fun s => ?_
    exact Loc.bnd (f := fun a2 b _ => lenP b cl n f a2) (loc_lst n acc s) fun a2 => loc_len cl n f a2

theorem loc_dyn (F : Nat) : Loc (fun b _ => dynP b F) := by
  unfold dynP
  refine Loc.bnd (f := fun nl b mo => _) (loc_fld 5) fun nl => ?_
  refine Loc.bnd (f := fun nd b mo => _) (loc_fld 5) fun nd => ?_
  refine Loc.bnd (f := fun nc b mo => _) (loc_fld 4) fun nc => ?_
  refine Loc.ite (Loc.bad 5) ?_
  refine Loc.bnd (f := fun cl b mo => _) (loc_hc _ _) fun cl => ?_
  refine Loc.ite ?_ (Loc.bad 5)
  refine Loc.bnd (f := fun a b mo => _) (loc_len cl _ F []) fun a => ?_
  exact Loc.ite (Loc.ret _) (Loc.bad 5)

theorem loc_knd (F : Nat) (t : Int) : Loc (fun b mo => kndP b mo F t) := by
  unfold kndP
  refine Loc.ite loc_sto (Loc.ite (loc_cod _ _ F) (Loc.ite ?_ (Loc.bad 5)))
  exact Loc.bnd (f := fun c b mo => codP b mo c.1 c.2 F) (loc_dyn F) fun c => loc_cod _ _ F

theorem loc_blk (F : Nat) : Loc (fun b mo => blkP b mo F) := by
  unfold blkP
  refine Loc.look (f := fun k o b mo => pbnd (fldP b 1) (fun l => pbnd (fldP b 2) fun t => pbnd (kndP b mo F t) fun _ => fun k' o' => .ok (⟨t, l == 1, k, o'.length - o.length⟩ : Blk) k' o')) fun k o => ?_
  refine Loc.bnd (f := fun l b mo => _) (loc_fld 1) fun l => ?_
  refine Loc.bnd (f := fun t b mo => _) (loc_fld 2) fun t => ?_
  refine Loc.bnd (f := fun _ b mo => _) (loc_knd F t) fun _ => ?_
  exact Loc.look (f := fun k' o' b mo => pret (⟨t, l == 1, k, o'.length - o.length⟩ : Blk)) fun k' o' => Loc.ret _

theorem loc_bls (F : Nat) : ∀ f, Loc (fun b mo => blsP b mo F f)
  | 0 => Loc.bad 99
  | f + 1 => by
    unfold blsP
    refine Loc.bnd (f := fun x b mo => _) (loc_blk F) fun x => ?_
    refine Loc.ite (Loc.ret _) ?_
    exact Loc.bnd (f := fun r _ _ => pret (x :: r)) (loc_bls F f) fun r => Loc.ret _

end Go.Proofs.Ytdjjekeaeoajpaa

/- Walks: a reader of bits: fails, tell. -/
namespace Go.Proofs.Ytdjjekeaeoajpaa
open Go.AM
set_option linter.unusedSimpArgs false
set_option linter.unusedVariables false

/-- what a call of a method leaves alone -/
structure Kpt (H H' : AM.Heap) (o : Nat) (oa oa' : Option Nat) : Prop where
  len : H.length ≤ H'.length
  same : ∀ a, oa = some a → oa' = some a
  new : ∀ a, oa = none → oa' = some a → H.length ≤ a
  rest : ∀ j, j < H.length → j ≠ o → (∀ a, oa = some a → j ≠ a) → H'[j]? = H[j]?

theorem Kpt.refl (H : AM.Heap) (o : Nat) (oa : Option Nat) : Kpt H H o oa oa := ⟨Nat.le_refl _, fun _ h => h, fun a h h2 => (by rw [h] at h2; cases h2), fun _ _ _ _ => rfl⟩
theorem Kpt.trans {H H1 H2 : AM.Heap} {o : Nat} {oa oa1 oa2 : Option Nat} (h : Kpt H H1 o oa oa1) (h2 : Kpt H1 H2 o oa1 oa2) : Kpt H H2 o oa oa2 where
  len := Nat.le_trans h.len h2.len
  same := fun a ha => h2.same a (h.same a ha)
  new := by
    intro a ha ha2
    cases h1 : oa1 with
    | none => exact Nat.le_trans h.len (h2.new a h1 ha2)
    | some x =>
      have := h2.same x h1
      rw [ha2] at this
      cases this
      exact h.new a ha h1
  rest := by
    intro j hj hjo hja
    rw [h2.rest j (Nat.lt_of_lt_of_le hj h.len) hjo ?_, h.rest j hj hjo hja]
    intro a ha
    cases h1 : oa with
    | none => have := h.new a h1 ha; omega
    | some x =>
      have := h.same x h1
      rw [ha] at this
      cases this
      exact hja a h1
theorem Kpt.upd {H : AM.Heap} {o : Nat} {oa : Option Nat} (x : Option AM.Obj) : Kpt H (AM.upd H o x) o oa oa where
  len := by simp [AM.upd]
  same := fun _ h => h
  new := fun a h h2 => by rw [h] at h2; cases h2
  rest := fun j hj hjo _ => by unfold AM.upd; rw [List.getElem?_set_ne (Ne.symm hjo)]
theorem Kpt.cat {H : AM.Heap} {o : Nat} {oa : Option Nat} (r : AM.Heap) : Kpt H (H ++ r) o oa oa where
  len := by simp
  same := fun _ h => h
  new := fun a h h2 => by rw [h] at h2; cases h2
  rest := fun j hj hjo _ => List.getElem?_append_left hj

/-- within bounds -/
def IsOk (b : List UInt8) (mo : Int) (s : Is) : Prop := s.k ≤ 8 * b.length ∧ (s.o.length : Int) ≤ mo

/-- from s to s' as m tells; d: what is told behind an error -/
def RunS (b : List UInt8) (mo : Int) {α : Type} (m : PM α) (d : α) (s s' : Is) (a : α) : Prop :=
  IsOk b mo s' ∧ if s.e = 0 then (match m s.k s.o with
    | .ok x k o => s' = ⟨k, o, 0⟩ ∧ a = x
    | .err e => s'.e = e ∧ e ≠ 0 ∧ a = d) else s' = s ∧ a = d

section
variable {b : List UInt8} {mo : Int} {α β : Type} {s s1 s2 : Is}

theorem RunS.bnd {m : PM α} {f : α → PM β} {d x : α} {d2 y : β} (h : RunS b mo m d s s1 x) (h2 : RunS b mo (f x) d2 s1 s2 y) : RunS b mo (pbnd m f) d2 s s2 y := by
  refine ⟨h2.1, ?_⟩
  have h1 := h.2
  have h3 := h2.2
  by_cases he : s.e = 0
  · rw [if_pos he] at h1 ⊢
    unfold pbnd
    cases hm : m s.k s.o with
    | ok a k o =>
      rw [hm] at h1
      obtain ⟨rfl, rfl⟩ := h1
      simpa using h3
    | err e =>
      rw [hm] at h1
      obtain ⟨h4, h5, rfl⟩ := h1
      rw [if_neg (by rw [h4]; exact h5)] at h3
      obtain ⟨rfl, rfl⟩ := h3
      exact ⟨h4, h5, rfl⟩
  · rw [if_neg he] at h1 ⊢
    obtain ⟨rfl, rfl⟩ := h1
    rw [if_neg he] at h3
    exact h3

theorem RunS.ret {a d : α} (hs : IsOk b mo s) (h : s.e ≠ 0 → a = d) : RunS b mo (pret a) d s s a := by
  refine ⟨hs, ?_⟩
  by_cases he : s.e = 0
  · rw [if_pos he]
    exact ⟨by rw [← he], rfl⟩
  · rw [if_neg he]
    exact ⟨rfl, h he⟩

theorem RunS.map {m : PM α} {d x : α} (g : α → β) (h : RunS b mo m d s s1 x) : RunS b mo (pbnd m fun a => pret (g a)) (g d) s s1 (g x) := by
  have h1 := h.2
  refine ⟨h.1, ?_⟩
  by_cases he : s.e = 0
  · rw [if_pos he] at h1 ⊢
    unfold pbnd
    cases hm : m s.k s.o with
    | ok a k o =>
      rw [hm] at h1
      obtain ⟨rfl, rfl⟩ := h1
      exact ⟨rfl, rfl⟩
    | err e =>
      rw [hm] at h1
      obtain ⟨h4, h5, rfl⟩ := h1
      exact ⟨h4, h5, rfl⟩
  · rw [if_neg he] at h1 ⊢
    obtain ⟨rfl, rfl⟩ := h1
    exact ⟨rfl, rfl⟩

/-- behind an error nothing more is done -/
theorem RunS.stop {m : PM α} {d : α} (hs : IsOk b mo s) (he : s.e ≠ 0) : RunS b mo m d s s d := ⟨hs, by rw [if_neg he]; exact ⟨rfl, rfl⟩⟩
theorem RunS.stopped {m : PM α} {d x : α} (h : RunS b mo m d s s1 x) (he : s.e ≠ 0) : s1 = s ∧ x = d := by
  have := h.2
  rwa [if_neg he] at this
theorem RunS.fine {m : PM α} {d x : α} (h : RunS b mo m d s s1 x) (he : s1.e = 0) : s.e = 0 ∧ m s.k s.o = .ok x s1.k s1.o := by
  have h1 := h.2
  by_cases h0 : s.e = 0
  · rw [if_pos h0] at h1
    cases hm : m s.k s.o with
    | ok a k o =>
      rw [hm] at h1
      obtain ⟨rfl, rfl⟩ := h1
      exact ⟨h0, rfl⟩
    | err e =>
      rw [hm] at h1
      exact absurd (h1.1.symm.trans he) h1.2.1
  · rw [if_neg h0] at h1
    exact absurd (h1.1 ▸ he) h0
theorem RunS.err {m : PM α} {d x : α} (h : RunS b mo m d s s1 x) (h0 : s.e = 0) (he : s1.e ≠ 0) : m s.k s.o = .err s1.e ∧ x = d := by
  have h1 := h.2
  rw [if_pos h0] at h1
  cases hm : m s.k s.o with
  | ok a k o =>
    rw [hm] at h1
    obtain ⟨rfl, rfl⟩ := h1
    exact absurd rfl he
  | err e =>
    rw [hm] at h1
    exact ⟨by rw [h1.1], h1.2.2⟩
theorem RunS.of_err {m : PM α} {d : α} {e : Int} (hs : IsOk b mo s1) (h0 : s.e = 0) (hm : m s.k s.o = .err e) (he : s1.e = e) (hne : e ≠ 0) : RunS b mo m d s s1 d := ⟨hs, by rw [if_pos h0, hm]; exact ⟨he, hne, rfl⟩⟩
theorem RunS.of_ok {m : PM α} {d x : α} {k : Nat} {o : List UInt8} (hs : IsOk b mo ⟨k, o, 0⟩) (h0 : s.e = 0) (hm : m s.k s.o = .ok x k o) : RunS b mo m d s ⟨k, o, 0⟩ x := ⟨hs, by rw [if_pos h0, hm]; exact ⟨rfl, rfl⟩⟩
end

def failS (s : Is) (e : Int) : Is := if s.e = 0 then { s with e := e } else s

theorem RunS.bad {b : List UInt8} {mo : Int} {α : Type} {s : Is} {e : Int} {d : α} (hs : IsOk b mo s) (he : e ≠ 0) : RunS b mo (pbad e) d s (failS s e) d := by
  unfold failS
  by_cases h0 : s.e = 0
  · rw [if_pos h0]
    exact RunS.of_err (e := e) ⟨hs.1, hs.2⟩ h0 rfl rfl he
  · rw [if_neg h0]
    exact RunS.stop hs h0

section
variable {c : Nat} {b : List UInt8} {mo : Int} {t : Nat} {H : AM.Heap} {o : Nat} {oa : Option Nat} {s : Is}

theorem OuV.upd {vo : AV} {l : List UInt8} {x : Option AM.Obj} (h : OuV t H oa vo l) (hne : ∀ a, oa = some a → a ≠ o) : OuV t (AM.upd H o x) oa vo l := by
  cases oa with
  | none => exact h
  | some a =>
    obtain ⟨g, τ, ob, h1, h2, h3, h4⟩ := h
    exact ⟨g, τ, ob, h1, h2, neAt h3 (Ne.symm (hne a rfl)), h4⟩

/-- the reader's cells changed -/
theorem IrV.set {s' : Is} {vo : AV} {τ1 τ : Nat} (hne : ∀ a, oa = some a → a ≠ o) (h1 : τ1 = 0 ∨ τ1 = t) (h2 : τ = 0 ∨ τ = t) (ho : o < H.length) (hv : OuV t H oa vo s'.o) : IrV c b mo t (AM.upd H o (some (irBx c b mo s' vo τ1 τ))) o oa s' :=
  ⟨⟨vo, τ1, τ, h1, h2, by unfold AM.upd; rw [List.getElem?_set_self ho], hv.upd hne⟩, hne⟩

theorem IrV.lt (h : IrV c b mo t H o oa s) : o < H.length ∧ ∀ a, oa = some a → a < H.length := by
  obtain ⟨⟨vo, τ1, τ, _, _, h0, ho⟩, _⟩ := h
  refine ⟨ltAt h0, fun a ha => ?_⟩
  subst ha
  obtain ⟨g, τ, ob, _, _, h3, _⟩ := ho
  exact ltAt h3

/-- what lies elsewhere does not matter -/
theorem IrV.keep {H' : AM.Heap} (h : IrV c b mo t H o oa s) (h1 : H'[o]? = H[o]?) (h2 : ∀ a, oa = some a → H'[a]? = H[a]?) : IrV c b mo t H' o oa s := by
  obtain ⟨⟨vo, τ1, τ, a1, a2, h0, ho⟩, hne⟩ := h
  refine ⟨⟨vo, τ1, τ, a1, a2, by rw [h1]; exact h0, ?_⟩, hne⟩
  cases oa with
  | none => exact ho
  | some a =>
    obtain ⟨g, τ, ob, b1, b2, b3, b4⟩ := ho
    exact ⟨g, τ, ob, b1, b2, by rw [h2 a rfl]; exact b3, b4⟩
theorem IrV.cat {r : AM.Heap} (h : IrV c b mo t H o oa s) : IrV c b mo t (H ++ r) o oa s := h.keep (List.getElem?_append_left h.lt.1) fun a ha => List.getElem?_append_left (h.lt.2 a ha)
theorem IrV.other {j : Nat} {x : Option AM.Obj} (h : IrV c b mo t H o oa s) (h1 : j ≠ o) (h2 : ∀ a, oa = some a → j ≠ a) : IrV c b mo t (AM.upd H j x) o oa s :=
  h.keep (by unfold AM.upd; rw [List.getElem?_set_ne h1]) fun a ha => by unfold AM.upd; rw [List.getElem?_set_ne (h2 a ha)]

set_option maxRecDepth 100000 in
theorem fails_code {m : Nat} {e : Int} {E : AM.Heap} (h : IrV c b mo t E 0 oa s) : ∃ code, Try.f16.body = some code ∧
    Tells (EndsP fun fr E' => IrV c b mo t E' 0 oa (failS s e)) X (evT X) 16 m code [(0, .ptr 0 0 0 0), (1, .int .i64 e)] E := by
  refine ⟨_, rfl, ?_⟩
  obtain ⟨⟨vo, τ1, τ, a1, a2, h0, ho⟩, hne⟩ := id h
  unfold failS
  by_cases he : s.e = 0
  · rw [if_pos he]
    refine ⟨⟨.normal, [], AM.upd E 0 (some (irBx c b mo { s with e := e } vo τ1 τ))⟩, ⟨.inl rfl, IrV.set hne a1 a2 h.lt.1 ho⟩, ?_⟩
    simp only [irBx, he] at h0 ⊢
    (refine ⟨0, ?_⟩; simp (maxSteps := 2000000) -implicitDefEqProofs [-getElem?_pos, List.getElem?_cons_zero, List.getElem?_cons_succ, go_sem, eqV, plen, loadV, storeV, h0])
  · rw [if_neg he]
    have heb : (s.e == 0) = false := by simpa using he
    refine ⟨⟨.normal, [(0, .ptr 0 0 0 0), (1, .int .i64 e), (8, .bool false)], E⟩, ⟨.inl rfl, h⟩, ?_⟩
    simp only [irBx] at h0
    (refine ⟨0, ?_⟩; simp (maxSteps := 2000000) -implicitDefEqProofs [-getElem?_pos, List.getElem?_cons_zero, List.getElem?_cons_succ, go_sem, eqV, plen, loadV, storeV, h0, he, heb])

theorem fails_ev' {e : Int} (h : IrV c b mo t H o oa s) : ∃ H', evT X 16 [.ptr o 0 0 0, .int .i64 e] H = some (.tup [], H') ∧ IrV c b mo t H' o oa (failS s e) ∧ Kpt H H' o oa oa := by
  obtain ⟨code, hc, _⟩ := fails_code (m := 0) (e := e) (E := [some (irBx c b mo s (.ro 0 .pn 0) 0 0)]) (c := c) (b := b) (mo := mo) (t := 0) (oa := none) (s := ⟨s.k, [], s.e⟩) ⟨⟨_, 0, 0, .inl rfl, .inl rfl, rfl, rfl, 0, .inl rfl, rfl⟩, fun a h => by cases h⟩
  obtain ⟨H', oa', s', l, hE, hV, ⟨hs, hl, hr⟩, h1, h2, h3, h4⟩ := meth_ev (f := 16) (n := 3) (xs := [.int .i64 e]) (ys := [.int .i64 e]) (Q := fun s' l r => s' = failS s e ∧ l = [] ∧ r = oa.isSome) Try.func16 hc rfl h (fun π K _ => ArgI.flat rfl rfl ArgI.nil) rfl rfl (by simp [gtag]) (by
    intro m E hE
    obtain ⟨code2, hc2, ht⟩ := fails_code (m := m) (e := e) hE
    rw [hc] at hc2
    obtain rfl := Option.some.inj hc2
    rw [par16]
    exact ht.mono fun o ho => ⟨ho.1, _, _, [], rfl, rfl, rfl, rfl, ho.2, fun h => (by cases oa with
      | none => exact absurd rfl h
      | some a => rfl), rfl, rfl, by cases oa <;> rfl⟩)
  subst hs hl
  have hoa : oa' = oa := by
    cases oa with
    | none => cases oa' with
      | none => rfl
      | some a => cases hr
    | some a => exact h2 a rfl
  subst hoa
  exact ⟨H', hE, hV, ⟨h1, h2, h3, h4⟩⟩

theorem fails_ev {e : Int} (h : IrV c b mo t H o oa s) : ∃ H' oa', evT X 16 [.ptr o 0 0 0, .int .i64 e] H = some (.tup [], H') ∧ IrV c b mo t H' o oa' (failS s e) ∧ Kpt H H' o oa oa' := by
  obtain ⟨H', h1, h2, h3⟩ := fails_ev' (e := e) h
  exact ⟨H', oa, h1, h2, h3⟩

theorem bsB (H : AM.Heap) (y : UInt8) : buildSliceV X H 22 1 [(0, .int .u8 (y.toNat : Nat))] = some (.ro 1 (.pb [y]) 0, H) := by
  have := y.toNat_lt
  have h1 : (y.toNat : Int) < 256 := by omega
  simp [buildSliceV, setParts, litRow, mkRow, asBytes, cellsAV, cellsOf, scalars, scalar, idsL, ids, tagsL, tags, joinTags, h1]

/-- a byte appended to what was told -/
theorem OuV.app {vo : AV} {l : List UInt8} (y : UInt8) (h : OuV t H oa vo l) (hH : 0 < H.length) (hne : ∀ a, oa = some a → a ≠ 0) (hl : l.length ≤ 10000000) : ∃ v' H' oa', appendV X H 22 vo (.ro 1 (.pb [y]) 0) = some (v', H') ∧ OuV t H' oa' v' (l ++ [y]) ∧ Kpt H H' 0 oa oa' ∧ H'[0]? = H[0]? ∧ (∀ a, oa' = some a → a ≠ 0) := by
  cases oa with
  | none =>
    obtain ⟨rfl, τ, hτ, rfl⟩ := h
    have hat : (H ++ [some (⟨.pb [y], 0, none, 0, true, false, 0⟩ : AM.Obj)])[H.length]? = some (some ⟨.pb [y], 0, none, 0, true, false, 0⟩) := by simp
    refine ⟨.sl H.length 0 1 0, H ++ [some ⟨.pb [y], 0, none, 0, true, false, 0⟩], some H.length, ?_, ⟨0, 0, _, .inl rfl, rfl, hat, ⟨rfl, rfl, rfl, rfl, rfl⟩⟩, ⟨by simp, fun a h => (by cases h), fun a _ h => (by cases h; exact Nat.le_refl _), fun j hj _ _ => List.getElem?_append_left hj⟩, List.getElem?_append_left hH, fun a h => by cases h; omega⟩
    simp only [appendV, und22, size5, zok5]
    simp [srcV, payB, plen, ptag, roomOk, papp, emptyRow, pesz]
  | some a =>
    obtain ⟨g, τ, ob, hτ, rfl, ho, hw⟩ := h
    obtain ⟨ob', w1, w2⟩ := app_rwt (C := X) (T := 22) (e := 5) (src := .ro 1 (.pb [y]) 0) (m := [y]) und22 und5 size5 bytes5 zok5 ho hw (.inl (by simp [srcV, payB, ptag])) (by simp; omega)
    refine ⟨_, _, some a, w2, ⟨g + 1, τ, ob', hτ, by simp, setAt ho, w1⟩, ⟨by simp [AM.upd], fun a' h => h, fun a' h => (by cases h), fun j hj h0 hja => by unfold AM.upd; rw [List.getElem?_set_ne (Ne.symm (hja a rfl))]⟩, by unfold AM.upd; rw [List.getElem?_set_ne (hne a rfl)], hne⟩

set_option maxRecDepth 100000 in
theorem tl_r1 {m : Nat} {y : UInt8} {E : AM.Heap} {bb : Bool} (h : IrV c b mo t E 0 oa s) : ∃ code, ((Try.f17.body).bind (codeAt [1, 0, 0])) = some code ∧ Run X (evT X) 17 m code [(0, .ptr 0 0 0 0), (1, .int .u8 (y.toNat : Nat)), (8, .bool bb)] E ⟨.normal, [(0, .ptr 0 0 0 0), (1, .int .u8 (y.toNat : Nat)), (18, .bool (decide (mo ≤ s.o.length)))], E⟩ := by
  refine ⟨_, rfl, ?_⟩
  obtain ⟨⟨vo, τ1, τ, a1, a2, h0, ho⟩, hne⟩ := id h
  simp only [irBx] at h0
  cases oa with
  | none =>
    obtain ⟨h1, τ2, hτ2, rfl⟩ := ho
    rw [h1]
    (refine ⟨0, ?_⟩; simp (maxSteps := 2000000) -implicitDefEqProofs [-getElem?_pos, List.getElem?_cons_zero, List.getElem?_cons_succ, go_sem, eqV, plen, loadV, storeV, h0])
  | some a =>
    obtain ⟨g, τ2, ob, hτ2, rfl, h3, h4⟩ := ho
    have hg := h4.g
    generalize s.o.length = N at *
    (refine ⟨0, ?_⟩; simp (maxSteps := 2000000) -implicitDefEqProofs [-getElem?_pos, List.getElem?_cons_zero, List.getElem?_cons_succ, go_sem, eqV, plen, loadV, storeV, h0, h3, hg])

set_option maxRecDepth 100000 in
theorem tell_code {m : Nat} {y : UInt8} {E : AM.Heap} (h : IrV c b mo t E 0 oa s) (hs : IsOk b mo s) (hm : mo ≤ 1000000) : ∃ code, Try.f17.body = some code ∧
    Tells (EndsP fun fr E' => ∃ s' oa', IrV c b mo t E' 0 oa' s' ∧ (∀ a, oa = some a → oa' = some a) ∧ RunS b mo (telP mo y) () s s' ()) X (evT X) 17 m code [(0, .ptr 0 0 0 0), (1, .int .u8 (y.toNat : Nat))] E := by
  refine ⟨_, rfl, ?_⟩
  obtain ⟨⟨vo, τ1, τ, a1, a2, h0, ho⟩, hne⟩ := id h
  by_cases he : s.e = 0
  · apply Tells.seq (fr' := [(0, .ptr 0 0 0 0), (1, .int .u8 (y.toNat : Nat)), (8, .bool false)]) (H' := E)
    · simp only [irBx, he] at h0
      (refine ⟨0, ?_⟩; simp (maxSteps := 2000000) -implicitDefEqProofs [-getElem?_pos, List.getElem?_cons_zero, List.getElem?_cons_succ, go_sem, eqV, plen, loadV, storeV, h0])
    apply Tells.assoc
    apply Tells.seq (piece (tl_r1 h) _ rfl)
    by_cases hl : (s.o.length : Int) < mo
    · have hlI : decide (mo ≤ (s.o.length : Int)) = false := by simpa using hl
      rw [hlI]
      have hbs := bsB E y
      obtain ⟨v', E', oa', hA, hv', hk, hE0, hne'⟩ := ho.app y h.lt.1 hne (by omega)
      have h0' : E'[0]? = some (some (irBx c b mo s vo τ1 τ)) := by rw [hE0]; exact h0
      refine ⟨⟨.normal, [], AM.upd E' 0 (some (irBx c b mo ⟨s.k, s.o ++ [y], 0⟩ v' τ1 τ))⟩, ⟨.inl rfl, ⟨s.k, s.o ++ [y], 0⟩, oa', IrV.set hne' a1 a2 (ltAt h0') hv', hk.same, RunS.of_ok ⟨hs.1, by simp; omega⟩ he (by simp [telP, hl])⟩, ?_⟩
      simp only [irBx, he] at h0 h0' ⊢
      cases oa' with
      | none => exact absurd hv'.1 (by simp)
      | some a =>
        obtain ⟨g, τ2, ob, _, rfl, _⟩ := hv'
        generalize (s.o ++ [y]).length = N at *
        (refine ⟨0, ?_⟩; simp (maxSteps := 2000000) -implicitDefEqProofs [-getElem?_pos, List.getElem?_cons_zero, List.getElem?_cons_succ, go_sem, eqV, plen, loadV, storeV, h0, h0', hbs, hA])
    · have hlI : decide (mo ≤ (s.o.length : Int)) = true := by simp; omega
      rw [hlI]
      obtain ⟨H', oa', hE, hV, hk⟩ := fails_ev (e := 3) h
      have hfs : failS s 3 = { s with e := 3 } := by unfold failS; rw [if_pos he]
      refine ⟨⟨.ret, [], H'⟩, ⟨.inr rfl, _, oa', hV, hk.same, ?_⟩, ?_⟩
      · rw [hfs]
        exact RunS.of_err (e := 3) ⟨hs.1, hs.2⟩ he (by simp [telP, hl]) rfl (by simp)
      · (refine ⟨0, ?_⟩; simp (maxSteps := 2000000) -implicitDefEqProofs [-getElem?_pos, List.getElem?_cons_zero, List.getElem?_cons_succ, go_sem, eqV, plen, loadV, storeV, hE])
  · refine ⟨⟨.ret, [(0, .ptr 0 0 0 0), (1, .int .u8 (y.toNat : Nat)), (8, .bool true)], E⟩, ⟨.inr rfl, s, oa, h, fun a ha => ha, RunS.stop hs he⟩, ?_⟩
    have heb : (s.e != 0) = true := by simpa using he
    simp only [irBx] at h0
    (refine ⟨0, ?_⟩; simp (maxSteps := 2000000) -implicitDefEqProofs [-getElem?_pos, List.getElem?_cons_zero, List.getElem?_cons_succ, go_sem, eqV, plen, loadV, storeV, h0, he, heb])

end

end Go.Proofs.Ytdjjekeaeoajpaa
