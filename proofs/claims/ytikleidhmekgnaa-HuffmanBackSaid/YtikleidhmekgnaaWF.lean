/- Plain: codes of the program and of the document agree. -/
import Derived.Test.YtikleidhmekgnaaWE
namespace Go.Proofs.Ytikleidhmekgnaa
open Go.AM
set_option linter.unusedSimpArgs false
set_option linter.unusedVariables false

/-- the first code of each length -/
def fst (c : Nat → Int) : Nat → Int
  | 0 => 0
  | 1 => 0
  | i + 2 => 2 * (fst c (i + 1) + c (i + 1))

theorem fst_bound (c : Nat → Int) (h0 : ∀ j, 0 ≤ c j ∧ c j ≤ 320) : ∀ i : Nat, 0 ≤ fst c i ∧ fst c i + 640 ≤ 640 * 2 ^ i
  | 0 => by simp [fst]
  | 1 => by simp [fst]
  | i + 2 => by
    have := fst_bound c h0 (i + 1)
    have := h0 (i + 1)
    have e : (2 : Int) ^ (i + 2) = 2 * 2 ^ (i + 1) := by rw [Int.pow_succ]; omega
    rw [e]
    simp only [fst]
    omega

theorem firstL_eq (n : List Int) (c : Nat → Int) (hc : ∀ j, 0 < j → j < 16 → n.getD j 0 = c j) (h0 : ∀ j, 0 ≤ c j ∧ c j ≤ 320) : ∀ (k i : Nat) (f : List Int), k + i = 16 → 0 < i → f.length = 17 →
    (∀ j, j ≤ i → f.getD j 0 = fst c j) → ∀ j, j ≤ 16 → (firstL n k i f).getD j 0 = fst c j
  | 0, i, f, hk, hi, hl, hf, j, hj => by
    unfold firstL; exact hf j (by omega)
  | k + 1, i, f, hk, hi, hl, hf, j, hj => by
    unfold firstL
    refine firstL_eq n c hc h0 k (i + 1) _ (by omega) (by omega) (by simpa using hl) (fun a ha => ?_) j hj
    rw [getD_set _ _ _ _ (by omega)]
    by_cases e : i + 1 = a
    · subst e
      rw [if_pos rfl, hf i (by omega), hc i hi (by omega)]
      have hb := fst_bound c h0 i
      have hb1 := h0 i
      have hp : (2 : Int) ^ i ≤ 2 ^ 15 := by
        have := Nat.pow_le_pow_right (n := 2) (by omega) (show i ≤ 15 by omega)
        exact_mod_cast this
      rw [wrap_i64 (n := fst c i + c i) (by omega) (by omega), wrap_i64 (by omega) (by omega)]
      obtain ⟨m, rfl⟩ : ∃ m, i = m + 1 := ⟨i - 1, by omega⟩
      simp only [fst]
      omega
    · rw [if_neg e]; exact hf a (by omega)

theorem z17_at (j : Nat) : z17.getD j 0 = 0 := by
  unfold z17
  match j with
  | 0 | 1 | 2 | 3 | 4 | 5 | 6 | 7 | 8 | 9 | 10 | 11 | 12 | 13 | 14 | 15 | 16 => rfl
  | j + 17 => rfl

theorem firstsR_at {l : List Int} (h : l.length ≤ 320) (hf : fine l = true) (j : Nat) (hj : j ≤ 16) : (firstsR (countsR l).1).getD j 0 = fst (ct l) j := by
  unfold firstsR
  refine firstL_eq _ (ct l) (fun a ha hb => ?_) (fun j => ⟨ct_nonneg l j, by have := ct_le l j; omega⟩) 15 1 z17 rfl (by omega) rfl (fun a ha => ?_) j hj
  · rw [getD_set _ _ _ _ (by rw [countsR_len]; omega), if_neg (by omega), countsR_at h hf a hb]
  · rw [z17_at]
    match a with
    | 0 | 1 => rfl

/-- the code at place p -/
def code (l : List Int) (p : Nat) : Int := if 0 < l.getD p 0 then fst (ct l) (l.getD p 0).toNat + ct (l.take p) (l.getD p 0).toNat else -1

theorem codesL_eq (l : List Int) (h : l.length ≤ 320) (hf : fine l = true) : ∀ (todo pre next : List Int), l = pre ++ todo → next.length = 17 →
    (∀ j : Nat, 0 < j → j < 16 → next.getD j 0 = fst (ct l) j + ct pre j) → ∀ j, j < todo.length → (codesL next todo).getD j 0 = code l (pre.length + j)
  | [], pre, next, _, _, _, j, hj => by simp at hj
  | x :: r, pre, next, e, hn, hx, j, hj => by
    have hat : l.getD pre.length 0 = x := by rw [e]; simp
    have htk : l.take pre.length = pre := by rw [e]; simp
    have hxr : 0 ≤ x ∧ x ≤ 15 := by
      have := List.all_eq_true.1 hf x (by rw [e]; simp)
      simpa using this
    unfold codesL
    by_cases h0 : 0 < x
    · rw [if_pos h0]
      have hb := fst_bound (ct l) (fun j => ⟨ct_nonneg l j, by have := ct_le l j; omega⟩) x.toNat
      have hp : (2 : Int) ^ x.toNat ≤ 2 ^ 15 := by
        have := Nat.pow_le_pow_right (n := 2) (by omega) (show x.toNat ≤ 15 by omega)
        exact_mod_cast this
      have hpl : pre.length ≤ l.length := by rw [e]; simp
      have hcp := ct_le pre x.toNat
      have hcn := ct_nonneg pre x.toNat
      have hnx := hx x.toNat (by omega) (by omega)
      match j with
      | 0 => simp only [code, Nat.add_zero, hat, htk, if_pos h0, List.getD_cons_zero, hnx]
      | j + 1 =>
        have := codesL_eq l h hf r (pre ++ [x]) (next.set x.toNat (IntKind.i64.wrap (next.getD x.toNat 0 + 1))) (by simp [e]) (by simpa using hn) (fun a ha hb2 => by
          rw [getD_set _ _ _ _ (by omega), wrap_i64 (by omega) (by omega)]
          have ea : ct (pre ++ [x]) a = ct pre a + if x = (a : Int) then 1 else 0 := by
            unfold ct; rw [List.count_append, List.count_cons]; by_cases q : x = (a : Int) <;> simp [q]
          rw [ea]
          by_cases q : x.toNat = a
          · subst q
            rw [if_pos rfl, if_pos (by omega), hnx]; omega
          · rw [if_neg q, if_neg (by omega), hx a ha hb2]; omega) j (by simpa using hj)
        simp only [List.getD_cons_succ]
        rw [this]
        simp only [List.length_append, List.length_cons, List.length_nil]
        congr 1; omega
    · rw [if_neg h0]
      match j with
      | 0 => simp only [code, Nat.add_zero, hat, if_neg h0, List.getD_cons_zero]
      | j + 1 =>
        have := codesL_eq l h hf r (pre ++ [x]) next (by simp [e]) hn (fun a ha hb2 => by
          have ea : ct (pre ++ [x]) a = ct pre a + if x = (a : Int) then 1 else 0 := by
            unfold ct; rw [List.count_append, List.count_cons]; by_cases q : x = (a : Int) <;> simp [q]
          rw [ea, if_neg (by omega), hx a ha hb2]; omega) j (by simpa using hj)
        simp only [List.getD_cons_succ]
        rw [this]
        simp only [List.length_append, List.length_cons, List.length_nil]
        congr 1; omega

theorem codesR_at {l : List Int} (h : l.length ≤ 320) (hf : fine l = true) (j : Nat) (hj : j < l.length) : (codesR l).getD j 0 = code l j := by
  unfold codesR
  have hl : (firstsR (countsR l).1).length = 17 := by unfold firstsR; rw [firstL_len]; rfl
  have := codesL_eq l h hf l [] _ rfl hl (fun a ha hb => by rw [firstsR_at h hf a (by omega)]; simp [ct]) j hj
  simpa using this

/-- where the document's walk stands: the next code of length n is behind m of them -/
def Inv (l : List Int) (n : Nat) (m nx la : Int) : Prop :=
  0 ≤ la ∧ la ≤ n ∧ 0 ≤ nx ∧ (la = 0 → nx = 0) ∧ (if 0 < la then (nx + 1) * 2 ^ (n - la.toNat) else nx) = fst (ct l) n + m

theorem step_eq {l : List Int} (h : l.length ≤ 320) {n : Nat} (hn : n ≤ 15) {m nx la : Int} (hm : m ≤ 320) (hi : Inv l n m nx la) : rStep n nx la = fst (ct l) n + m := by
  obtain ⟨h1, h2, h3, h4, h5⟩ := hi
  unfold rStep
  have hb := fst_bound (ct l) (fun j => ⟨ct_nonneg l j, by have := ct_le l j; omega⟩) n
  have hp : (2 : Int) ^ n ≤ 2 ^ 15 := by
    have := Nat.pow_le_pow_right (n := 2) (by omega) (show n ≤ 15 by omega)
    exact_mod_cast this
  by_cases hl : 0 < la
  · rw [if_pos hl] at h5 ⊢
    have hp1 : (1 : Int) ≤ 2 ^ (n - la.toNat) := Int.pow_pos (by omega)
    have hle : nx + 1 ≤ (nx + 1) * 2 ^ (n - la.toNat) := by
      have := Int.mul_le_mul_of_nonneg_left hp1 (show 0 ≤ nx + 1 by omega)
      omega
    rw [wrap_i64 (n := nx + 1) (by omega) (by omega), wrap_i64 (n := (n : Int) - la) (by omega) (by omega), wrap_u64 (by omega) (by omega)]
    have e : min ((n : Int) - la).toNat 64 = n - la.toNat := by omega
    rw [e, h5, wrap_i64 (by omega) (by omega)]
  · rw [if_neg hl] at h5 ⊢; exact h5

theorem rIn_eq (l : List Int) (h : l.length ≤ 320) (n : Nat) (hn : n ≤ 15) (hn0 : 0 < n) : ∀ (todo pre o : List Int) (nx la : Int), l = pre ++ todo → o.length = l.length → Inv l n (ct pre n) nx la →
    Inv l n (ct l n) (rIn n todo pre.length nx la o).1 (rIn n todo pre.length nx la o).2.1 ∧
      (∀ j, j < l.length → (rIn n todo pre.length nx la o).2.2.getD j 0 = if l.getD j 0 = n ∧ pre.length ≤ j then code l j else o.getD j 0)
  | [], pre, o, nx, la, e, ho, hi => by
    simp only [List.append_nil] at e
    subst e
    refine ⟨hi, fun j hj => ?_⟩
    rw [if_neg (by omega)]; rfl
  | x :: r, pre, o, nx, la, e, ho, hi => by
    have hat : l.getD pre.length 0 = x := by rw [e]; simp
    have htk : l.take pre.length = pre := by rw [e]; simp
    have hpl : pre.length < l.length := by rw [e]; simp
    have hcp := ct_le pre n
    have hcn := ct_nonneg pre n
    have ea : ct (pre ++ [x]) n = ct pre n + if x = (n : Int) then 1 else 0 := by
      unfold ct; rw [List.count_append, List.count_cons]; by_cases q : x = (n : Int) <;> simp [q]
    have el : pre.length + 1 = (pre ++ [x]).length := by simp
    unfold rIn
    by_cases hx : x = (n : Int)
    · rw [if_pos hx]
      have hs := step_eq h hn (by omega) hi
      have hb := fst_bound (ct l) (fun j => ⟨ct_nonneg l j, by have := ct_le l j; omega⟩) n
      rw [hs, el]
      obtain ⟨g1, g2⟩ := rIn_eq l h n hn hn0 r (pre ++ [x]) (o.set pre.length (fst (ct l) n + ct pre n)) (fst (ct l) n + ct pre n) n (by simp [e]) (by simpa using ho) (by
        refine ⟨by omega, by omega, by omega, by omega, ?_⟩
        rw [if_pos (by omega), ea, if_pos hx]
        simp; omega)
      refine ⟨g1, fun j hj => ?_⟩
      rw [g2 j hj, getD_set _ _ _ _ (by omega)]
      by_cases q : pre.length = j
      · subst q
        rw [if_neg (by simp), if_pos rfl, if_pos ⟨by rw [hat, hx], Nat.le_refl _⟩]
        simp only [code, hat, htk]
        rw [if_pos (by omega), hx]; rfl
      · rw [if_neg q]
        by_cases q2 : l.getD j 0 = n
        · simp only [q2, List.length_append, List.length_cons, List.length_nil]
          by_cases q3 : pre.length ≤ j
          · rw [if_pos ⟨trivial, by omega⟩, if_pos ⟨trivial, q3⟩]
          · rw [if_neg (by omega), if_neg (by omega)]
        · rw [if_neg (fun z => q2 z.1), if_neg (fun z => q2 z.1)]
    · rw [if_neg hx, el]
      obtain ⟨g1, g2⟩ := rIn_eq l h n hn hn0 r (pre ++ [x]) o nx la (by simp [e]) ho (by rw [ea, if_neg hx]; simpa using hi)
      refine ⟨g1, fun j hj => ?_⟩
      rw [g2 j hj]
      by_cases q2 : l.getD j 0 = n
      · have q : pre.length ≠ j := by rintro rfl; exact hx (by rw [← hat, q2])
        simp only [q2, List.length_append, List.length_cons, List.length_nil]
        by_cases q3 : pre.length ≤ j
        · rw [if_pos ⟨trivial, by omega⟩, if_pos ⟨trivial, q3⟩]
        · rw [if_neg (by omega), if_neg (by omega)]
      · rw [if_neg (fun z => q2 z.1), if_neg (fun z => q2 z.1)]

theorem rOut_eq (l : List Int) (h : l.length ≤ 320) : ∀ (k n : Nat) (o : List Int) (nx la : Int), k + n = 16 → 0 < n → o.length = l.length → Inv l n 0 nx la →
    ∀ j, j < l.length → (rOut l k n nx la o).2.2.getD j 0 = if (n : Int) ≤ l.getD j 0 ∧ l.getD j 0 ≤ 15 then code l j else o.getD j 0
  | 0, n, o, nx, la, hk, hn, ho, hi, j, hj => by
    rw [if_neg (by omega)]; rfl
  | k + 1, n, o, nx, la, hk, hn, ho, hi, j, hj => by
    unfold rOut
    obtain ⟨g1, g2⟩ := rIn_eq l h n (by omega) hn l [] o nx la rfl ho (by simpa [ct] using hi)
    simp only [List.length_nil] at g1 g2
    have hlen : (rIn n l 0 nx la o).2.2.length = l.length := by rw [rIn_len]; exact ho
    have g3 : Inv l (n + 1) 0 (rIn n l 0 nx la o).1 (rIn n l 0 nx la o).2.1 := by
      obtain ⟨a1, a2, a3, a4, a5⟩ := g1
      refine ⟨a1, by omega, a3, a4, ?_⟩
      obtain ⟨m, rfl⟩ : ∃ m, n = m + 1 := ⟨n - 1, by omega⟩
      simp only [fst]
      rw [← a5]
      by_cases q : 0 < (rIn ((m + 1 : Nat) : Int) l 0 nx la o).2.1
      · rw [if_pos q, if_pos q]
        have e : m + 1 + 1 - (rIn ((m + 1 : Nat) : Int) l 0 nx la o).2.1.toNat = (m + 1 - (rIn ((m + 1 : Nat) : Int) l 0 nx la o).2.1.toNat) + 1 := by omega
        rw [e, Int.pow_succ, ← Int.mul_assoc]
        omega
      · rw [if_neg q, if_neg q, a4 (by omega)]; rfl
    rw [rOut_eq l h k (n + 1) _ _ _ (by omega) (by omega) hlen g3 j hj, g2 j hj]
    by_cases q1 : ((n + 1 : Nat) : Int) ≤ l.getD j 0 ∧ l.getD j 0 ≤ 15
    · rw [if_pos q1, if_pos ⟨by omega, q1.2⟩]
    · rw [if_neg q1]
      by_cases q2 : l.getD j 0 = n
      · rw [if_pos ⟨q2, by omega⟩, if_pos (by omega)]
      · rw [if_neg (fun z => q2 z.1), if_neg (by omega)]

theorem rNeg_eq (l : List Int) : ∀ (todo pre o : List Int), l = pre ++ todo → o.length = l.length → ∀ j, j < l.length → (rNeg todo pre.length o).getD j 0 = if l.getD j 0 = 0 ∧ pre.length ≤ j then -1 else o.getD j 0
  | [], pre, o, e, ho, j, hj => by
    simp only [List.append_nil] at e
    subst e
    rw [if_neg (by omega)]; rfl
  | x :: r, pre, o, e, ho, j, hj => by
    have hat : l.getD pre.length 0 = x := by rw [e]; simp
    have el : pre.length + 1 = (pre ++ [x]).length := by simp
    have hpl : pre.length < l.length := by rw [e]; simp
    unfold rNeg
    rw [el, rNeg_eq l r (pre ++ [x]) _ (by simp [e]) (by split <;> simp [ho]) j hj]
    simp only [List.length_append, List.length_cons, List.length_nil]
    by_cases q : pre.length = j
    · subst q
      rw [if_neg (by omega), hat]
      by_cases q2 : x = 0
      · rw [if_pos q2, if_pos ⟨q2, Nat.le_refl _⟩, getD_set _ _ _ _ (by omega), if_pos rfl]
      · rw [if_neg q2, if_neg (fun z => q2 z.1)]
    · have e2 : (if x = 0 then o.set pre.length (-1) else o).getD j 0 = o.getD j 0 := by
        split
        · rw [getD_set _ _ _ _ (by omega), if_neg q]
        · rfl
      rw [e2]
      by_cases q2 : l.getD j 0 = 0
      · by_cases q3 : pre.length ≤ j
        · rw [if_pos ⟨q2, by omega⟩, if_pos ⟨q2, q3⟩]
        · rw [if_neg (by omega), if_neg (by omega)]
      · rw [if_neg (fun z => q2 z.1), if_neg (fun z => q2 z.1)]

theorem rcodesR_at {l : List Int} (h : l.length ≤ 320) (hf : fine l = true) (j : Nat) (hj : j < l.length) : (rcodesR l).getD j 0 = code l j := by
  unfold rcodesR
  have hlen : (rOut l 15 1 0 0 (List.replicate l.length 0)).2.2.length = l.length := by rw [rOut_len]; simp
  have h1 := rNeg_eq l l [] _ rfl hlen j hj
  simp only [List.length_nil] at h1
  have h2 := rOut_eq l h 15 1 (List.replicate l.length 0) 0 0 rfl (by omega) (by simp) ⟨by omega, by omega, by omega, fun _ => rfl, by simp [fst]⟩ j hj
  rw [h1, h2]
  have hr : 0 ≤ l.getD j 0 ∧ l.getD j 0 ≤ 15 := by
    have := List.all_eq_true.1 hf (l.getD j 0) (by rw [List.getD_eq_getElem?_getD, List.getElem?_eq_getElem hj]; exact List.getElem_mem hj)
    simpa using this
  by_cases q : l.getD j 0 = 0
  · rw [if_pos ⟨q, by omega⟩]; simp only [code]; rw [if_neg (by omega)]
  · rw [if_neg (fun z => q z.1), if_pos (by omega)]

theorem codesR_len (l : List Int) : (codesR l).length = l.length := by unfold codesR; rw [codesL_len]

theorem rcodesR_len (l : List Int) : (rcodesR l).length = l.length := by unfold rcodesR; rw [rNeg_len, rOut_len]; simp

/-- the codes are one -/
theorem codes_eq {l : List Int} (h : l.length ≤ 320) (hf : fine l = true) : codesR l = rcodesR l := by
  refine List.ext_getElem (by rw [codesR_len, rcodesR_len]) fun j h1 h2 => ?_
  have hj : j < l.length := by rw [codesR_len] at h1; exact h1
  have e1 := codesR_at h hf j hj
  have e2 := rcodesR_at h hf j hj
  rw [List.getD_eq_getElem?_getD, List.getElem?_eq_getElem h1] at e1
  rw [List.getD_eq_getElem?_getD, List.getElem?_eq_getElem h2] at e2
  simp only [Option.getD_some] at e1 e2
  rw [e1, e2]

end Go.Proofs.Ytikleidhmekgnaa
