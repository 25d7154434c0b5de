/- Plain: a column's bytes give it back; walks: the law ColumnApart. -/
import Derived.Test.YtkgchoknkakcgaaDoorP4
namespace Go.Proofs.YtkgchoknkakcgaaDoor
open Go.AM
set_option linter.unusedSimpArgs false
set_option linter.unusedVariables false

theorem leB_inj {n x y : Nat} (hx : x < 256 ^ n) (hy : y < 256 ^ n) (h : leB n x = leB n y) : x = y := by
  have := congrArg leV h
  rw [leV_leB, leV_leB, Nat.mod_eq_of_lt hx, Nat.mod_eq_of_lt hy] at this
  exact this

theorem aI_small {n : Nat} (h : n ≤ 250) : aI n = [UInt8.ofNat n] := by
  unfold aI frm; rw [if_pos h]; simp only [leB, if_true, List.nil_append]; rw [Nat.mod_eq_of_lt (by omega)]

/-- a counted number's reading -/
theorem rdI_aI {x : Nat} (hx : x < 18446744073709551616) (r : List UInt8) : rdI (aI x ++ r) = (x, szI x, 0) := by
  by_cases h1 : x ≤ 250
  · rw [aI_small h1]
    have e : (UInt8.ofNat x).toNat = x := by simp; omega
    have hs : szI x = 1 := by unfold szI; rw [if_pos h1]
    simp only [List.cons_append, List.nil_append, rdI_cons, e]
    rw [if_neg (by omega), if_pos h1, hs]
  · obtain ⟨h2, h3, h4, h5⟩ := frm_ok hx
    have key : ∃ q n, frm x = (q, n) ∧ szI x = n + 1 ∧ 252 ≤ q ∧ q ≤ 254 ∧ bsz q = n := by
      unfold frm szI
      rw [if_neg h1, if_neg h1]
      by_cases h6 : x < 65536
      · rw [if_pos h6, if_pos h6]; exact ⟨252, 2, rfl, rfl, by omega, by omega, rfl⟩
      · rw [if_neg h6, if_neg h6]
        by_cases h7 : x < 16777216
        · rw [if_pos h7, if_pos h7]; exact ⟨253, 3, rfl, rfl, by omega, by omega, rfl⟩
        · rw [if_neg h7, if_neg h7]; exact ⟨254, 8, rfl, rfl, by omega, by omega, rfl⟩
    obtain ⟨q, n, hf, hs, q1, q2, hb⟩ := key
    rw [hf] at h2 h3 h4 h5
    simp only at h2 h3 h4 h5
    have hai : aI x = UInt8.ofNat q :: leB n x := by unfold aI; rw [hf]; simp only; rw [if_neg (by omega)]; rfl
    have e : (UInt8.ofNat q).toNat = q := by simp; omega
    rw [hai, List.cons_append, rdI_cons, e, if_neg (by omega), if_neg (by omega), hb]
    unfold rdN'
    rw [if_neg (by simp [leB_len]), hs]
    have : (leB n x ++ r).take n = leB n x := by
      have := List.take_left (l₁ := leB n x) (l₂ := r)
      rw [leB_len] at this; exact this
    rw [this, leV_leB, Nat.mod_eq_of_lt h4]

theorem rdT_aT {s : List UInt8} (hs : s.length < 18446744073709551616) (r : List UInt8) : rdT (aT s ++ r) = (s, (aT s).length, 0) := by
  unfold rdT aT
  rw [List.append_assoc, rdI_aI hs]
  have hl := aI_len s.length
  simp only [ne_eq, not_true_eq_false, if_false]
  rw [if_neg (by simp [hl])]
  have e : (aI s.length ++ (s ++ r)).drop (szI s.length) = s ++ r := by rw [← hl, List.drop_left]
  rw [e, List.take_left]
  simp [hl]

theorem aT_inj {s t r q : List UInt8} (hs : s.length ≤ 255) (ht : t.length ≤ 255) (h : aT s ++ r = aT t ++ q) : s = t ∧ r = q := by
  have h1 := rdT_aT (s := s) (by omega) r
  have h2 := rdT_aT (s := t) (by omega) q
  rw [h, h2] at h1
  simp only [Prod.mk.injEq] at h1
  obtain ⟨e, e2, _⟩ := h1
  subst e
  exact ⟨rfl, List.append_cancel_left h⟩

theorem app_inj {a b r q : List UInt8} (hl : a.length = b.length) (h : a ++ r = b ++ q) : a = b ∧ r = q := List.append_inj h hl

theorem coB_inj {x y : Co} (hx : CoOk x) (hy : CoOk y) (sx : x.small) (sy : y.small) (h : coB' x = coB' y) : x = y := by
  unfold coB' txB at h
  rw [List.append_assoc, List.append_assoc] at h
  have h := List.append_cancel_left h
  simp only [Co.nms, List.take, List.flatMap_cons, List.flatMap_nil, List.append_assoc, List.nil_append] at h
  obtain ⟨a0, a1, a2, a3, a4⟩ := sx
  obtain ⟨b0, b1, b2, b3, b4⟩ := sy
  obtain ⟨e0, h⟩ := aT_inj a0 b0 h
  obtain ⟨e1, h⟩ := aT_inj a1 b1 h
  obtain ⟨e2, h⟩ := aT_inj a2 b2 h
  obtain ⟨e3, h⟩ := aT_inj a3 b3 h
  obtain ⟨e4, h⟩ := aT_inj a4 b4 h
  unfold tlB at h
  have h := (List.cons.inj h).2
  obtain ⟨e5, h⟩ := app_inj (by simp [leB_len]) h
  obtain ⟨e6, h⟩ := app_inj (by simp [leB_len]) h
  obtain ⟨e7, h⟩ := List.cons.inj h
  obtain ⟨e8, h⟩ := app_inj (by simp [leB_len]) h
  have e9 := (List.cons.inj h).1
  have f5 := leB_inj hx.cs hy.cs e5
  have f6 := leB_inj hx.ln hy.ln e6
  have f8 := leB_inj hx.fl hy.fl e8
  have u : ∀ a b : Nat, a < 256 → b < 256 → UInt8.ofNat a = UInt8.ofNat b → a = b := by
    intro a b ha hb h
    have := congrArg UInt8.toNat h
    simpa [Nat.mod_eq_of_lt ha, Nat.mod_eq_of_lt hb] using this
  have f7 := u _ _ hx.ty hy.ty e7
  have f9 := u _ _ hx.dc hy.dc e9
  cases x; cases y
  simp only at *
  subst e0 e1 e2 e3 e4 f5 f6 f7 f8 f9
  rfl

/-- names are their types' own -/
theorem nmS_inj : ((List.range 256).all fun a => (List.range 256).all fun b => (nmS a == nmS b) == (a == b)) = true := by decide +kernel

theorem nmS_eq {a b : Nat} (ha : a < 256) (hb : b < 256) : (nmS a == nmS b) = (a == b) := by
  have := List.all_eq_true.1 (List.all_eq_true.1 nmS_inj a (List.mem_range.2 ha)) b (List.mem_range.2 hb)
  simpa using this

end Go.Proofs.YtkgchoknkakcgaaDoor
