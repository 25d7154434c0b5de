/- Plain: of a whole code every row of bits begins with one. -/
import Derived.Test.YtikleidhmekgnaaV1
namespace Go.Proofs.Ytikleidhmekgnaa
open Go.AM
set_option linter.unusedSimpArgs false
set_option linter.unusedVariables false

theorem findJ_miss {l : List Int} (hl : l.length ≤ 320) (hf : fine l = true) (i : Nat) (hi : 0 < i) (c' : Int) (h : fst (ct l) i ≤ c') (hn : findJ i c' l (rcodesR l) 0 = none) : fst (ct l) i + ct l i ≤ c' := by
  have e := findJ_eq l hl hf i hi c' l [] (rcodesR l) rfl (rcodesR_len l) (fun j hj => by rw [rcodesR_at hl hf j hj]; simp)
  have z : ct [] i = 0 := rfl
  simp only [List.length_nil, z] at e
  rw [hn, if_pos (by omega)] at e
  apply Classical.byContradiction
  intro hlt
  have hlen := posL_len l i 0
  have hct : ct l i = ((l.count (i : Int) : Nat) : Int) := rfl
  rw [List.getElem?_eq_getElem (by rw [hlen]; omega)] at e
  cases e

theorem whole_step {l : List Int} (he : (rcheckR l).2 = 0) {m : Nat} (hm15 : m ≤ 15) (hm1 : 1 ≤ m) (hwm : fst (ct l) m + ct l m = 2 ^ m) (b : List UInt8) (hb : b.length = 2) :
    ∀ (k i : Nat) (c : Int), k + i = m + 1 → 1 ≤ i → 0 ≤ c → c < 2 ^ (i - 1) → (i = 1 ∨ fst (ct l) (i - 1) + ct l (i - 1) ≤ c) → (decL l (rcodesR l) b 0 k i c).2.2 = 0
  | 0, i, c, hk, hi, h0, h1, h2 => by
    have e : i - 1 = m := by omega
    rw [e] at h1 h2
    omega
  | k + 1, i, c, hk, hi, h0, h1, h2 => by
    obtain ⟨hl, hf⟩ := rcheck_fine he
    unfold decL
    rw [if_neg (by omega)]
    have hbt := rbit_two b (0 + i - 1)
    generalize rbit b (0 + i - 1) = x at *
    have hfi : fst (ct l) i ≤ 2 * c + x := by
      rcases h2 with rfl | h2
      · simp [fst]; omega
      · by_cases h : i = 1
        · subst h; simp [fst]; omega
        · have e2 : fst (ct l) i = 2 * (fst (ct l) (i - 1) + ct l (i - 1)) := by
            obtain ⟨j, rfl⟩ : ∃ j, i = j + 2 := ⟨i - 2, by omega⟩
            rfl
          omega
    cases hj : findJ i (2 * c + x) l (rcodesR l) 0 with
    | some j => rfl
    | none =>
      have hms := findJ_miss hl hf i (by omega) (2 * c + x) hfi hj
      simp only
      refine whole_step he hm15 hm1 hwm b hb k (i + 1) (2 * c + x) (by omega) (by omega) (by omega) ?_ (.inr hms)
      have e : (2 : Int) ^ (i + 1 - 1) = 2 * 2 ^ (i - 1) := by
        rw [show i + 1 - 1 = (i - 1) + 1 by omega, Int.pow_succ]; omega
      rw [e]; omega

theorem whole_reads {l : List Int} (he : (rcheckR l).2 = 0) (hw : (rcheckR l).1 = true) (b : List UInt8) (hb : b.length = 2) : (rreadR l b 0).2.2 = 0 := by
  obtain ⟨m, hm, h1, h15, hwm⟩ := kraft_whole he hw
  unfold rreadR
  rw [if_pos he, if_neg (by omega)]
  unfold decR
  rw [hm, Int.toNat_natCast]
  exact whole_step he h15 h1 hwm b hb m 1 0 rfl (by omega) (by omega) (by simp) (.inl rfl)

end Go.Proofs.Ytikleidhmekgnaa
