/- Plain: what is known of the codes of lengths that are a code. -/
import Derived.Test.YtikleidhmekgnaaWZ
namespace Go.Proofs.Ytikleidhmekgnaa
open Go.AM
set_option linter.unusedSimpArgs false
set_option linter.unusedVariables false

theorem mxL_ge : ∀ (l : List Int) (m : Int), m ≤ mxL m l ∧ ∀ x ∈ l, x ≤ mxL m l
  | [], m => ⟨Int.le_refl _, by simp⟩
  | x :: r, m => by
    unfold mxL
    by_cases h : m < x
    · rw [if_pos h]
      obtain ⟨h1, h2⟩ := mxL_ge r x
      refine ⟨by omega, fun y hy => ?_⟩
      rcases List.mem_cons.1 hy with rfl | hy
      · exact h1
      · exact h2 y hy
    · rw [if_neg h]
      obtain ⟨h1, h2⟩ := mxL_ge r m
      refine ⟨h1, fun y hy => ?_⟩
      rcases List.mem_cons.1 hy with rfl | hy
      · omega
      · exact h2 y hy

theorem ct_zero {l : List Int} {j : Nat} (h : (j : Int) ∉ l) : ct l j = 0 := by
  unfold ct
  rw [List.count_eq_zero.2 h]; rfl

theorem ct_above {l : List Int} {j : Nat} (h : mxL 0 l < (j : Int)) : ct l j = 0 :=
  ct_zero fun hm => by have := (mxL_ge l 0).2 _ hm; omega

/-- what lies below a length, and what is left -/
theorem fst_sum (c : Nat → Int) : ∀ (d i : Nat), i = d + 1 → i ≤ 15 → fst c i * 2 ^ (15 - i) + sumP c (16 - i) i = sumP c 15 1
  | 0, i, hi, h => by subst hi; simp [fst]
  | d + 1, i, hi, h => by
    have ih := fst_sum c d (d + 1) rfl (by omega)
    subst hi
    generalize sumP c 15 1 = S at *
    rw [show 16 - (d + 1) = (16 - (d + 1 + 1)) + 1 by omega] at ih
    unfold sumP at ih
    have e : (2 : Int) ^ (15 - (d + 1)) = 2 * 2 ^ (15 - (d + 1 + 1)) := by
      rw [show 15 - (d + 1) = (15 - (d + 1 + 1)) + 1 by omega, Int.pow_succ]; omega
    have e2 : fst c (d + 1 + 1) = 2 * (fst c (d + 1) + c (d + 1)) := by cases d <;> rfl
    rw [e2]
    rw [e] at ih
    generalize (2 : Int) ^ (15 - (d + 1 + 1)) = p at *
    rw [show d + 1 + 1 = d + 2 from rfl] at *
    generalize sumP c (16 - (d + 2)) (d + 2) = q at *
    rw [← ih]
    generalize fst c (d + 1) = u
    generalize c (d + 1) = v
    rw [Int.mul_assoc, Int.add_mul, Int.mul_add, ← Int.mul_assoc u 2 p, ← Int.mul_assoc v 2 p, Int.mul_comm u 2, Int.mul_comm v 2, Int.mul_assoc, Int.mul_assoc]
    omega

theorem sumP_nonneg (c : Nat → Int) (h0 : ∀ j, 0 ≤ c j) : ∀ (k i : Nat), 0 ≤ sumP c k i
  | 0, i => by simp [sumP]
  | k + 1, i => by
    unfold sumP
    have := sumP_nonneg c h0 k (i + 1)
    have := Int.mul_nonneg (h0 i) (Int.le_of_lt (Int.pow_pos (n := 2) (m := 15 - i) (by omega)))
    omega

theorem sumP_zero (c : Nat → Int) : ∀ (k i : Nat), (∀ j, i ≤ j → c j = 0) → sumP c k i = 0
  | 0, i, _ => by simp [sumP]
  | k + 1, i, h => by
    unfold sumP
    rw [h i (Nat.le_refl _), sumP_zero c k (i + 1) fun j hj => h j (by omega)]
    simp

theorem rcheck_sum {l : List Int} (he : (rcheckR l).2 = 0) : sumP (ct l) 15 1 ≤ 32768 ∧ ((rcheckR l).1 = true → sumP (ct l) 15 1 = 32768) := by
  obtain ⟨hl, hf⟩ := rcheck_fine he
  have e1 : (rsumL l 0).2 = 0 := by rw [rsumL_err, hf]; rfl
  have e2 : (rsumL l 0).1 = sumP (ct l) 15 1 := by rw [rsumL_eq l 0 hf (by omega) (by omega), sumP_eq l hf]; omega
  unfold rcheckR at he ⊢
  rw [if_neg (by omega), if_pos e1, e2] at he ⊢
  by_cases h : 32768 < sumP (ct l) 15 1
  · rw [if_pos h] at he; cases he
  · rw [if_neg h]
    exact ⟨by omega, fun z => by simpa using z⟩

theorem pow_split {i : Nat} (h : i ≤ 15) : (2 : Int) ^ i * 2 ^ (15 - i) = 32768 := by
  rw [← Int.pow_add, show i + (15 - i) = 15 by omega]; rfl

theorem kraft {l : List Int} (he : (rcheckR l).2 = 0) (i : Nat) (h1 : 1 ≤ i) (h : i ≤ 15) : fst (ct l) i + ct l i ≤ 2 ^ i := by
  obtain ⟨hs, _⟩ := rcheck_sum he
  have hf := fst_sum (ct l) (i - 1) i (by omega) h
  rw [show 16 - i = (15 - i) + 1 by omega] at hf
  generalize sumP (ct l) 15 1 = S at *
  unfold sumP at hf
  have hn := sumP_nonneg (ct l) (ct_nonneg l) (15 - i) (i + 1)
  have hp : (0 : Int) < 2 ^ (15 - i) := Int.pow_pos (by omega)
  have := pow_split h
  refine Int.le_of_mul_le_mul_right (a := 2 ^ (15 - i)) ?_ hp
  rw [this, Int.add_mul]
  omega

theorem kraft_whole {l : List Int} (he : (rcheckR l).2 = 0) (hw : (rcheckR l).1 = true) : ∃ m : Nat, mxL 0 l = (m : Int) ∧ 1 ≤ m ∧ m ≤ 15 ∧ fst (ct l) m + ct l m = 2 ^ m := by
  obtain ⟨hl, hfi⟩ := rcheck_fine he
  obtain ⟨_, hs⟩ := rcheck_sum he
  have hs := hs hw
  obtain ⟨hm0, hm⟩ := mxL_bound l 0 (by omega) (by omega) hfi
  have h1 : 1 ≤ mxL 0 l := by
    apply Classical.byContradiction
    intro hz
    rw [sumP_zero (ct l) 15 1 (fun j hj => ct_above (by omega))] at hs
    omega
  refine ⟨(mxL 0 l).toNat, by omega, by omega, by omega, ?_⟩
  obtain ⟨m, hmm⟩ : ∃ m, (mxL 0 l).toNat = m := ⟨_, rfl⟩
  rw [hmm]
  have hm15 : m ≤ 15 := by omega
  have hf := fst_sum (ct l) (m - 1) m (by omega) hm15
  rw [show 16 - m = (15 - m) + 1 by omega, hs] at hf
  unfold sumP at hf
  rw [sumP_zero (ct l) (15 - m) (m + 1) (fun j hj => ct_above (by omega))] at hf
  have hp : (0 : Int) < 2 ^ (15 - m) := Int.pow_pos (by omega)
  have hq := pow_split hm15
  refine Int.eq_of_mul_eq_mul_right (a := 2 ^ (15 - m)) (by omega) ?_
  rw [hq, Int.add_mul]
  omega

theorem fst_shift (c : Nat → Int) (h0 : ∀ j, 0 ≤ c j) (i : Nat) (h1 : 1 ≤ i) : ∀ d : Nat, (fst c i + c i) * 2 ^ (d + 1) ≤ fst c (i + d + 1)
  | 0 => by
    have e2 : fst c (i + 0 + 1) = 2 * (fst c i + c i) := by obtain ⟨i, rfl⟩ : ∃ k, i = k + 1 := ⟨i - 1, by omega⟩; rfl
    rw [e2]; simp; omega
  | d + 1 => by
    have ih := fst_shift c h0 i h1 d
    have e2 : fst c (i + (d + 1) + 1) = 2 * (fst c (i + d + 1) + c (i + d + 1)) := by
      rw [show i + (d + 1) = (i + d) + 1 by omega]; rfl
    rw [e2, Int.pow_succ, ← Int.mul_assoc]
    have := h0 (i + d + 1)
    omega

theorem ct_take {l : List Int} {p : Nat} (hp : p < l.length) (x : Nat) (hx : l.getD p 0 = (x : Int)) : 0 ≤ ct (l.take p) x ∧ ct (l.take p) x < ct l x := by
  refine ⟨ct_nonneg _ _, ?_⟩
  have e : l = l.take p ++ l[p] :: l.drop (p + 1) := by rw [List.getElem_cons_drop, List.take_append_drop]
  have hxx : l[p] = (x : Int) := by rw [← hx, List.getD_eq_getElem?_getD, List.getElem?_eq_getElem hp]; rfl
  unfold ct
  conv => rhs; rw [e]
  rw [List.count_append, List.count_cons, hxx]
  simp; omega

theorem ct_take_mono {l : List Int} {p q : Nat} (hpq : p < q) (hp : p < l.length) (x : Nat) (hx : l.getD p 0 = (x : Int)) : ct (l.take p) x < ct (l.take q) x := by
  have hp' : p < (l.take q).length := by simp; omega
  have h := (ct_take hp' x (by rw [List.getD_eq_getElem?_getD, List.getElem?_take, if_pos hpq, ← List.getD_eq_getElem?_getD]; exact hx)).2
  rwa [List.take_take, Nat.min_eq_left (by omega)] at h

/-- a symbol's code lies among those of its length -/
theorem code_in {l : List Int} {p : Nat} (hp : p < l.length) (x : Nat) (hx : l.getD p 0 = (x : Int)) (h0 : 0 < x) : fst (ct l) x ≤ code l p ∧ code l p < fst (ct l) x + ct l x := by
  have := ct_take hp x hx
  unfold code
  rw [hx, if_pos (by omega), Int.toNat_natCast]
  omega

theorem code_inj {l : List Int} {p q : Nat} (hpq : p < q) (hq : q < l.length) (x : Nat) (hx : l.getD p 0 = (x : Int)) (hx2 : l.getD q 0 = (x : Int)) (h0 : 0 < x) : code l p < code l q := by
  have := ct_take_mono hpq (by omega) x hx
  unfold code
  rw [hx, hx2, if_pos (by omega), if_pos (by omega), Int.toNat_natCast]
  omega

theorem code_lt {l : List Int} (he : (rcheckR l).2 = 0) {p : Nat} (hp : p < l.length) (x : Nat) (hx : l.getD p 0 = (x : Int)) (h0 : 0 < x) : 0 ≤ code l p ∧ code l p < 2 ^ x := by
  obtain ⟨hl, hf⟩ := rcheck_fine he
  have hx15 : x ≤ 15 := by
    have hm : l[p] ∈ l := List.getElem_mem hp
    have hxx : l[p] = (x : Int) := by rw [← hx, List.getD_eq_getElem?_getD, List.getElem?_eq_getElem hp]; rfl
    have := List.all_eq_true.1 hf _ hm
    rw [hxx] at this
    simp at this; omega
  have h1 := kraft he x (by omega) hx15
  have h2 := code_in hp x hx h0
  have h3 := fst_nonneg l x hl
  omega

/-- a shorter symbol's code does not begin a longer one's -/
theorem code_short {l : List Int} (h320 : l.length ≤ 320) {p q : Nat} (hp : p < l.length) (hq : q < l.length) (x d : Nat) (hx : l.getD p 0 = (x : Int)) (hy : l.getD q 0 = ((x + d + 1 : Nat) : Int)) (h0 : 0 < x) : code l p < code l q / 2 ^ (d + 1) := by
  have h1 := code_in hp x hx h0
  have h2 := code_in hq _ hy (by omega)
  have h3 := fst_shift (ct l) (ct_nonneg l) x h0 d
  have hpp : (0 : Int) < 2 ^ (d + 1) := Int.pow_pos (by omega)
  have : fst (ct l) x + ct l x ≤ code l q / 2 ^ (d + 1) := (Int.le_ediv_iff_mul_le hpp).2 (by omega)
  omega

theorem fine_at {l : List Int} (hf : fine l = true) {p : Nat} (hp : p < l.length) : 0 ≤ l.getD p 0 ∧ l.getD p 0 ≤ 15 ∧ l.getD p 0 ≤ mxL 0 l := by
  have hm : l[p] ∈ l := List.getElem_mem hp
  have e : l.getD p 0 = l[p] := by rw [List.getD_eq_getElem?_getD, List.getElem?_eq_getElem hp]; rfl
  have := List.all_eq_true.1 hf _ hm
  simp only [decide_eq_true_eq] at this
  have := (mxL_ge l 0).2 _ hm
  omega

end Go.Proofs.Ytikleidhmekgnaa
