/- Plain: what is written by a code is read by it. -/
import Derived.Test.YtikleidhmekgnaaV1
namespace Go.Proofs.Ytikleidhmekgnaa
open Go.AM
set_option linter.unusedSimpArgs false
set_option linter.unusedVariables false

theorem findJ_none (i c : Int) : ∀ (l cs : List Int) (k : Nat), (∀ j, j < l.length → l.getD j 0 = i → cs.getD j 0 ≠ c) → findJ i c l cs k = none
  | [], cs, k, _ => by cases cs <;> rfl
  | x :: r, [], k, _ => rfl
  | x :: r, y :: cs, k, h => by
    unfold findJ
    rw [if_neg fun z => h 0 (by simp) (by simpa using z.1) (by simpa using z.2)]
    exact findJ_none i c r cs (k + 1) fun j hj h1 => by
      have := h (j + 1) (by simpa using hj)
      rw [List.getD_cons_succ, List.getD_cons_succ] at this
      exact this h1

theorem findJ_some (i c : Int) : ∀ (l cs : List Int) (k p : Nat), cs.length = l.length → p < l.length → l.getD p 0 = i → cs.getD p 0 = c → (∀ j, j < p → ¬ (l.getD j 0 = i ∧ cs.getD j 0 = c)) → findJ i c l cs k = some (k + p)
  | [], cs, k, p, _, hp, _, _, _ => by simp at hp
  | x :: r, [], k, p, hl, _, _, _, _ => by simp at hl
  | x :: r, y :: cs, k, p, hl, hp, h1, h2, h => by
    unfold findJ
    cases p with
    | zero =>
      rw [if_pos ⟨by simpa using h1, by simpa using h2⟩]; rfl
    | succ p =>
      rw [if_neg fun z => h 0 (by omega) ⟨by simpa using z.1, by simpa using z.2⟩]
      rw [findJ_some i c r cs (k + 1) p (by simpa using hl) (by simpa using hp) (by rwa [List.getD_cons_succ] at h1) (by rwa [List.getD_cons_succ] at h2) fun j hj => by
        have := h (j + 1) (by omega)
        rwa [List.getD_cons_succ, List.getD_cons_succ] at this]
      congr 1; omega

/-- a step of reading: the next bit of a code -/
theorem bit_step (c : Int) (d : Nat) : 2 * (c / 2 ^ (d + 1)) + c / 2 ^ d % 2 = c / 2 ^ d := by
  have e : c / 2 ^ (d + 1) = c / 2 ^ d / 2 := by rw [Int.pow_succ, Int.ediv_ediv_of_nonneg (Int.le_of_lt (Int.pow_pos (by omega)))]
  rw [e]; omega

theorem dec_step {l : List Int} (he : (rcheckR l).2 = 0) {p L : Nat} (hp : p < l.length) (hL : l.getD p 0 = (L : Int)) (h0 : 0 < L) (b : List UInt8) (a : Nat)
    (hb : ∀ i, i < L → rbit b (a + i) = code l p / 2 ^ (L - 1 - i) % 2) (hlen : a + L ≤ 8 * b.length) :
    ∀ (k i : Nat), 1 ≤ i → i ≤ L → L ≤ k + i - 1 → decL l (rcodesR l) b a k i (code l p / 2 ^ (L - (i - 1))) = ((p : Int), (L : Int), 0)
  | 0, i, h1, h2, h3 => by omega
  | k + 1, i, h1, h2, h3 => by
    obtain ⟨hl, hf⟩ := rcheck_fine he
    have hcl := rcodesR_len l
    unfold decL
    rw [if_neg (by omega)]
    have hbit : 2 * (code l p / 2 ^ (L - (i - 1))) + rbit b (a + i - 1) = code l p / 2 ^ (L - i) := by
      have := hb (i - 1) (by omega)
      rw [show a + i - 1 = a + (i - 1) by omega, this, show L - (i - 1) = (L - i) + 1 by omega, show L - 1 - (i - 1) = L - i by omega]
      exact bit_step _ _
    rw [hbit]
    by_cases hi : i = L
    · subst hi
      rw [Nat.sub_self, Int.pow_zero, Int.ediv_one, findJ_some (i : Int) (code l p) l (rcodesR l) 0 p hcl hp hL (rcodesR_at hl hf p hp) fun j hj z => by
        have := code_inj hj hp i z.1 hL (by omega)
        rw [rcodesR_at hl hf j (by omega)] at z
        omega]
      simp
    · rw [findJ_none (i : Int) _ l (rcodesR l) 0 fun j hj z => by
        rw [rcodesR_at hl hf j hj]
        have := code_short hl hj hp i (L - i - 1) z (by rw [hL]; congr 1; omega) (by omega)
        rw [show L - i - 1 + 1 = L - i by omega] at this
        omega]
      have := dec_step he hp hL h0 b a hb hlen k (i + 1) (by omega) (by omega) (by omega)
      rwa [show i + 1 - 1 = i by omega] at this

/-- a symbol whose code lies at a is read there -/
theorem dec_code {l : List Int} (he : (rcheckR l).2 = 0) {p L : Nat} (hp : p < l.length) (hL : l.getD p 0 = (L : Int)) (h0 : 0 < L) (b : List UInt8) (a : Nat)
    (hb : ∀ i, i < L → rbit b (a + i) = code l p / 2 ^ (L - 1 - i) % 2) (hlen : a + L ≤ 8 * b.length) : decR l (rcodesR l) b a = ((p : Int), (L : Int), 0) := by
  obtain ⟨hl, hf⟩ := rcheck_fine he
  have hm := fine_at hf hp
  have h := dec_step he hp hL h0 b a hb hlen (mxL 0 l).toNat 1 (by omega) (by omega) (by omega)
  have hc := code_lt he hp L hL h0
  rw [show L - (1 - 1) = L from rfl, Int.ediv_eq_zero_of_lt hc.1 hc.2] at h
  exact h

/-- k bits, and nothing behind -/
def okB (b : List UInt8) (k : Nat) : Prop := b.length = byB k ∧ ∀ j, k ≤ j → rbit b j = 0

theorem orB_bits : ∀ (w : Fin 256) (r j : Fin 8), (orB (UInt8.ofNat w) 1 r).toNat / 2 ^ j.val % 2 = if j = r then 1 else w.val / 2 ^ j.val % 2 := by decide +kernel
theorem orB_zero : ∀ (w : Fin 256) (r : Fin 8), (orB (UInt8.ofNat w) 0 r).toNat = w.val := by decide +kernel

theorem orB_mod (w : UInt8) (x : Int) (k : Nat) : orB w x k = orB w x (k % 8) := by unfold orB; rw [Nat.mod_mod]

theorem orB_bit (w : UInt8) (x : Int) (hx : x = 0 ∨ x = 1) (k j : Nat) (hj : j < 8) (hz : w.toNat / 2 ^ (k % 8) % 2 = 0) : ((orB w x k).toNat / 2 ^ j % 2 : Nat) = if j = k % 8 then x.toNat else w.toNat / 2 ^ j % 2 := by
  have hw : w = UInt8.ofNat w.toNat := by simp
  have hlt : w.toNat < 256 := w.toNat_lt
  rw [orB_mod]
  rcases hx with rfl | rfl
  · have := orB_zero ⟨w.toNat, hlt⟩ ⟨k % 8, by omega⟩
    simp only at this
    rw [← hw] at this
    rw [this]
    by_cases h : j = k % 8
    · rw [if_pos h, h, hz]; rfl
    · rw [if_neg h]
  · have := orB_bits ⟨w.toNat, hlt⟩ ⟨k % 8, by omega⟩ ⟨j, hj⟩
    simp only [Fin.mk.injEq] at this
    rw [← hw] at this
    rw [this]; rfl

theorem rbit_ext {b : List UInt8} {j : Nat} (h : 8 * b.length ≤ j) : rbit b j = 0 := by
  unfold rbit
  rw [List.getD_eq_getElem?_getD, List.getElem?_eq_none (by omega)]
  simp

theorem rbit_snoc (b : List UInt8) (j : Nat) : rbit (b ++ [0]) j = rbit b j := by
  by_cases h : j / 8 < b.length
  · unfold rbit
    rw [List.getD_eq_getElem?_getD, List.getElem?_append_left h, ← List.getD_eq_getElem?_getD]
  · rw [rbit_ext (b := b) (by omega)]
    unfold rbit
    by_cases h2 : j / 8 = b.length
    · rw [List.getD_eq_getElem?_getD, h2]; simp
    · rw [List.getD_eq_getElem?_getD, List.getElem?_eq_none (by simp; omega)]; simp

theorem rbit_set (b : List UInt8) (k : Nat) (x : Int) (hx : x = 0 ∨ x = 1) (hk : k / 8 < b.length) (hz : rbit b k = 0) (j : Nat) :
    rbit (b.set (k / 8) (orB (b.getD (k / 8) 0) x k)) j = if j = k then x else rbit b j := by
  by_cases h : j / 8 = k / 8
  · have e : (b.set (k / 8) (orB (b.getD (k / 8) 0) x k)).getD (j / 8) 0 = orB (b.getD (k / 8) 0) x k := by
      rw [List.getD_eq_getElem?_getD, h, List.getElem?_set_self hk]; rfl
    have hz' : (b.getD (k / 8) 0).toNat / 2 ^ (k % 8) % 2 = 0 := by unfold rbit at hz; exact_mod_cast hz
    unfold rbit
    rw [e, orB_bit _ x hx k (j % 8) (by omega) hz', h]
    by_cases h2 : j = k
    · subst h2; simp; omega
    · rw [if_neg h2, if_neg (by omega)]
  · rw [if_neg (by intro z; subst z; exact h rfl)]
    unfold rbit
    rw [List.getD_eq_getElem?_getD, List.getElem?_set_ne (by omega), ← List.getD_eq_getElem?_getD]

theorem putB_bit {b : List UInt8} {k : Nat} {x : Int} (hb : okB b k) (hx : x = 0 ∨ x = 1) : okB (putB b k x) (k + 1) ∧ (∀ j, j < k → rbit (putB b k x) j = rbit b j) ∧ rbit (putB b k x) k = x := by
  have hl := putB_len (x := x) hb.1
  have key : ∀ j, rbit (putB b k x) j = if j = k then x else rbit b j := by
    intro j
    unfold putB
    by_cases h8 : k % 8 = 0
    · rw [if_pos h8, rbit_set _ k x hx (by have := hb.1; unfold byB at this; simp; omega) (by rw [rbit_snoc]; exact hb.2 k (Nat.le_refl _)), rbit_snoc]
    · rw [if_neg h8, rbit_set _ k x hx (by have := hb.1; unfold byB at this; omega) (hb.2 k (Nat.le_refl _))]
  refine ⟨⟨hl, fun j hj => ?_⟩, fun j hj => ?_, ?_⟩
  · rw [key, if_neg (by omega)]; exact hb.2 j (by omega)
  · rw [key, if_neg (by omega)]
  · rw [key, if_pos rfl]

theorem bitV_eq {c : Int} (h0 : 0 ≤ c) (h1 : c < 32768) {j : Nat} (hj : j ≤ 15) : bitV c j = c / 2 ^ j % 2 := by
  unfold bitV
  rw [Nat.min_eq_left (by omega), Int.fdiv_eq_ediv_of_nonneg _ (Int.le_of_lt (Int.pow_pos (by omega)))]
  obtain ⟨n, rfl⟩ : ∃ n : Nat, c = (n : Int) := ⟨c.toNat, by omega⟩
  have e : ((n : Int) / 2 ^ j) = ((n / 2 ^ j : Nat) : Int) := by simp
  have hlt : n / 2 ^ j < 32768 := Nat.lt_of_le_of_lt (Nat.div_le_self _ _) (by omega)
  rw [e]
  generalize n / 2 ^ j = v at *
  have hand : (AM.bits .i64 (v : Int) &&& AM.bits .i64 1).toNat = v % 2 := by
    have h2 : (AM.bits .i64 (v : Int)).toNat = v := bits_nat (by omega)
    have h3 := bits_one
    rw [show (AM.bits .i64 (v : Int) &&& AM.bits .i64 1).toNat = (AM.bits .i64 (v : Int)).toNat &&& (AM.bits .i64 1).toNat by simp, h2, h3, Nat.and_one_is_mod]
  rw [hand, wrap_i64 (by omega) (by omega)]
  omega

theorem putC_bits {c : Int} (h0 : 0 ≤ c) (h1 : c < 32768) : ∀ (j k : Nat) (b : List UInt8), j ≤ 15 → okB b k → okB (putC c j k b) (k + j) ∧ (∀ i, i < k → rbit (putC c j k b) i = rbit b i) ∧ (∀ i, i < j → rbit (putC c j k b) (k + i) = c / 2 ^ (j - 1 - i) % 2)
  | 0, k, b, hj, hb => ⟨hb, fun i _ => rfl, fun i hi => by omega⟩
  | j + 1, k, b, hj, hb => by
    have e := bitV_eq h0 h1 (j := j) (by omega)
    have hx : bitV c j = 0 ∨ bitV c j = 1 := by rw [e]; omega
    obtain ⟨q1, q2, q3⟩ := putB_bit hb hx
    obtain ⟨r1, r2, r3⟩ := putC_bits h0 h1 j (k + 1) (putB b k (bitV c j)) (by omega) q1
    unfold putC
    refine ⟨by rw [show k + (j + 1) = k + 1 + j by omega]; exact r1, fun i hi => by rw [r2 i (by omega), q2 i hi], fun i hi => ?_⟩
    cases i with
    | zero =>
      have := r2 k (by omega)
      show rbit (putC c j (k + 1) (putB b k (bitV c j))) k = _
      rw [this, q3, e]; rfl
    | succ i =>
      have := r3 i (by omega)
      rw [show k + (i + 1) = k + 1 + i by omega, this, show j + 1 - 1 - (i + 1) = j - 1 - i by omega]

/-- symbols, one by one, from a to z -/
def reads (l : List Int) (B : List UInt8) : List Int → Nat → Nat → Prop
  | [], a, z => a = z
  | s :: r, a, z => 0 ≤ s ∧ s < l.length ∧ decR l (rcodesR l) B a = (s, l.getD s.toNat 0, 0) ∧ 0 ≤ l.getD s.toNat 0 ∧ reads l B r (a + (l.getD s.toNat 0).toNat) z

theorem rwrite_reads {l : List Int} (he : (rcheckR l).2 = 0) : ∀ (sy : List Int) (k : Nat) (b : List UInt8), okL l sy = true → okB b k →
    okB (rwriteL l (rcodesR l) sy k b).1 (rwriteL l (rcodesR l) sy k b).2 ∧ k ≤ (rwriteL l (rcodesR l) sy k b).2 ∧ (∀ i, i < k → rbit (rwriteL l (rcodesR l) sy k b).1 i = rbit b i) ∧ reads l (rwriteL l (rcodesR l) sy k b).1 sy k (rwriteL l (rcodesR l) sy k b).2
  | [], k, b, _, hb => ⟨hb, Nat.le_refl _, fun _ _ => rfl, rfl⟩
  | s :: r, k, b, ho, hb => by
    obtain ⟨hl, hf⟩ := rcheck_fine he
    unfold okL at ho
    by_cases hc : s < 0 ∨ (l.length : Int) ≤ s ∨ l.getD s.toNat 0 = 0
    · rw [if_pos hc] at ho; cases ho
    · rw [if_neg hc] at ho
      have hp : s.toNat < l.length := by omega
      have hm := fine_at hf hp
      obtain ⟨L, hL⟩ : ∃ L : Nat, l.getD s.toNat 0 = (L : Int) := ⟨(l.getD s.toNat 0).toNat, by omega⟩
      have hcd := code_lt he hp L hL (by omega)
      have hp15 : (2 : Int) ^ L ≤ 2 ^ 15 := by
        have := Nat.pow_le_pow_right (n := 2) (by omega) (show L ≤ 15 by omega)
        exact_mod_cast this
      unfold rwriteL reads
      rw [hL, Int.toNat_natCast, rcodesR_at hl hf _ hp]
      obtain ⟨q1, q2, q3⟩ := putC_bits hcd.1 (by omega) L k b (by omega) hb
      obtain ⟨r1, r2, r3, r4⟩ := rwrite_reads he r (k + L) _ ho q1
      refine ⟨r1, by omega, fun i hi => by rw [r3 i (by omega), q2 i hi], by omega, by omega, ?_, by omega, r4⟩
      have hd := dec_code he hp hL (by omega) (rwriteL l (rcodesR l) r (k + L) (putC (code l s.toNat) L k b)).1 k (fun i hi => by rw [r3 (k + i) (by omega), q3 i hi]) (by have := r1.1; unfold byB at this; omega)
      rw [hd]
      simp only [Prod.mk.injEq, and_true]
      omega

theorem reads_all {l : List Int} {B : List UInt8} : ∀ (sy out : List Int) (a z : Nat), reads l B sy a z → rallL l (rcodesR l) B sy.length out a = (out ++ sy, (z : Int), 0)
  | [], out, a, z, h => by simp [rallL, show a = z from h]
  | s :: r, out, a, z, h => by
    obtain ⟨h1, h2, h3, h4, h5⟩ := h
    simp only [List.length_cons]
    unfold rallL
    rw [h3]
    simp only [if_true]
    rw [reads_all r (out ++ [s]) _ z h5]
    simp

theorem back_plain {l sy : List Int} (hw : (rwriteR l sy).2.2 = 0) : (rcheckR l).2 = 0 ∧ ∃ K : Nat, (rwriteR l sy).2.1 = (K : Int) ∧ (rwriteR l sy).1.length = (K + 7) / 8 ∧ reads l (rwriteR l sy).1 sy 0 K ∧ rallR l (rwriteR l sy).1 sy.length = (sy, (K : Int), 0) := by
  unfold rwriteR at hw ⊢
  by_cases he : (rcheckR l).2 = 0
  · rw [if_pos he] at hw ⊢
    by_cases ho : okL l sy = true
    · rw [if_pos ho]
      obtain ⟨r1, r2, r3, r4⟩ := rwrite_reads he sy 0 [] ho ⟨rfl, fun j _ => rbit_ext (by simp)⟩
      refine ⟨he, _, rfl, r1.1, r4, ?_⟩
      unfold rallR
      rw [if_pos he, if_neg (by omega), Int.toNat_natCast, reads_all sy [] 0 _ r4]
      simp
    · rw [if_neg ho] at hw; cases hw
  · rw [if_neg he] at hw; exact absurd hw he

theorem write_bad_nil {l sy : List Int} (hw : (rwriteR l sy).2.2 ≠ 0) : (rwriteR l sy).1 = [] ∧ (rwriteR l sy).2.1 = 0 := by
  unfold rwriteR at hw ⊢
  split
  · split
    · rename_i h1 h2; rw [if_pos h1, if_pos h2] at hw; exact absurd rfl hw
    · exact ⟨rfl, rfl⟩
  · exact ⟨rfl, rfl⟩

end Go.Proofs.Ytikleidhmekgnaa
