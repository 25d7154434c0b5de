/- Plain: a column that is written is read back; less is too short, more is wrong. -/
import Derived.Test.YtkgchoknkakcgaaPA
import Derived.Test.YtkgchoknkakcgaaP2
namespace Go.Proofs.Ytkgchoknkakcgaa
open Go.AM
set_option linter.unusedSimpArgs false
set_option linter.unusedVariables false

theorem aI_small' {n : Nat} (h : n ≤ 250) : aI n = [UInt8.ofNat n] := by
  unfold aI frm; rw [if_pos h]; simp only [leB, if_true, List.nil_append]; rw [Nat.mod_eq_of_lt (by omega)]

theorem aI_big {x : Nat} (hx : x < 18446744073709551616) (h1 : ¬ x ≤ 250) : ∃ q n, aI x = UInt8.ofNat q :: leB n x ∧ szI x = n + 1 ∧ 252 ≤ q ∧ q ≤ 254 ∧ bsz q = n ∧ x < 256 ^ n := by
  obtain ⟨h2, h3, h4, h5⟩ := frm_ok hx
  have key : ∃ q n, frm x = (q, n) ∧ szI x = n + 1 ∧ 252 ≤ q ∧ q ≤ 254 ∧ bsz q = n := by
    unfold frm szI
    rw [if_neg h1, if_neg h1]
    by_cases h6 : x < 65536
    · rw [if_pos h6, if_pos h6]; exact ⟨252, 2, rfl, rfl, by omega, by omega, rfl⟩
    · rw [if_neg h6, if_neg h6]
      by_cases h7 : x < 16777216
      · rw [if_pos h7, if_pos h7]; exact ⟨253, 3, rfl, rfl, by omega, by omega, rfl⟩
      · rw [if_neg h7, if_neg h7]; exact ⟨254, 8, rfl, rfl, by omega, by omega, rfl⟩
  obtain ⟨q, n, hf, hs, q1, q2, hb⟩ := key
  rw [hf] at h4
  exact ⟨q, n, by unfold aI; rw [hf]; simp only; rw [if_neg (by omega)]; rfl, hs, q1, q2, hb, h4⟩

/-- a counted number's reading -/
theorem rdI_of {x : Nat} (hx : x < 18446744073709551616) (r : List UInt8) : rdI (aI x ++ r) = (x, szI x, 0) := by
  by_cases h1 : x ≤ 250
  · rw [aI_small' h1]
    have e : (UInt8.ofNat x).toNat = x := by simp; omega
    have hs : szI x = 1 := by unfold szI; rw [if_pos h1]
    simp only [List.cons_append, List.nil_append, rdI_cons, e]
    rw [if_neg (by omega), if_pos h1, hs]
  · obtain ⟨q, n, hai, hs, q1, q2, hb, h4⟩ := aI_big hx h1
    have e : (UInt8.ofNat q).toNat = q := by simp; omega
    rw [hai, List.cons_append, rdI_cons, e, if_neg (by omega), if_neg (by omega), hb]
    unfold rdN'
    rw [if_neg (by simp [leB_len]), hs]
    have : (leB n x ++ r).take n = leB n x := by
      have := List.take_left (l₁ := leB n x) (l₂ := r)
      rw [leB_len] at this; exact this
    rw [this, leV_leB, Nat.mod_eq_of_lt h4]

/-- cut within -/
theorem rdI_cut {x k : Nat} (hx : x < 18446744073709551616) (r : List UInt8) (hk : k < szI x) : rdI ((aI x ++ r).take k) = (0, 0, 4) := by
  rw [List.take_append_of_le_length (by rw [aI_len]; omega)]
  by_cases h1 : x ≤ 250
  · have hs : szI x = 1 := by unfold szI; rw [if_pos h1]
    obtain rfl : k = 0 := by omega
    rfl
  · obtain ⟨q, n, hai, hs, q1, q2, hb, h4⟩ := aI_big hx h1
    have e : (UInt8.ofNat q).toNat = q := by simp; omega
    rw [hai]
    match k with
    | 0 => rfl
    | k + 1 =>
      rw [List.take_succ_cons, rdI_cons, e, if_neg (by omega), if_neg (by omega), hb]
      unfold rdN'
      rw [if_pos (by rw [List.length_take, leB_len]; omega)]

theorem aT_length (s : List UInt8) : (aT s).length = szI s.length + s.length := by simp [aT, aI_len]

theorem cutT {s R : List UInt8} {k : Nat} (hs : s.length ≤ 255) : (k < (aT s).length ∧ (tx ((aT s ++ R).take k, 0)).2.2 = 4) ∨ ((aT s).length ≤ k ∧ tx ((aT s ++ R).take k, 0) = (s, R.take (k - (aT s).length), 0)) := by
  rw [aT_length]
  by_cases h1 : k < szI s.length
  · left
    refine ⟨by omega, ?_⟩
    have : rdT ((aT s ++ R).take k) = ([], 0, 4) := by
      unfold rdT aT
      rw [List.append_assoc, rdI_cut (by omega) _ h1]
      rfl
    rw [tx_of]
    unfold txE
    simp only [this]
    rfl
  · have hI : rdI ((aT s ++ R).take k) = (s.length, szI s.length, 0) := by
      unfold aT
      rw [List.append_assoc, List.take_append, List.take_of_length_le (by rw [aI_len]; omega)]
      exact rdI_of (by omega) _
    by_cases h2 : k < szI s.length + s.length
    · left
      refine ⟨h2, ?_⟩
      have : rdT ((aT s ++ R).take k) = ([], 0, 4) := by
        unfold rdT
        rw [hI]
        simp only [ne_eq, not_true_eq_false, if_false]
        rw [if_pos (by rw [List.length_take]; simp [aT_length]; omega)]
      rw [tx_of]
      unfold txE
      simp only [this]
      rfl
    · right
      refine ⟨by omega, ?_⟩
      have hl : ((aT s ++ R).take k) = aI s.length ++ (s ++ R.take (k - (szI s.length + s.length))) := by
        rw [List.take_append, List.take_of_length_le (by rw [aT_length]; omega), aT_length]
        unfold aT
        rw [List.append_assoc]
      have : rdT ((aT s ++ R).take k) = (s, szI s.length + s.length, 0) := by
        unfold rdT
        rw [hI]
        simp only [ne_eq, not_true_eq_false, if_false]
        rw [hl]
        rw [if_neg (by simp [aI_len])]
        have e : (aI s.length ++ (s ++ R.take (k - (szI s.length + s.length)))).drop (szI s.length) = s ++ R.take (k - (szI s.length + s.length)) := by rw [← aI_len, List.drop_left]
        rw [e, List.take_left]
      rw [tx_of]
      unfold txE
      simp only [this]
      rw [if_neg (by simp; omega)]
      have hd : (List.take k (aT s ++ R)).drop (szI s.length + s.length) = R.take (k - (szI s.length + s.length)) := by
        rw [hl, ← List.append_assoc, ← aI_len, ← List.length_append, List.drop_left]
      rw [hd]

theorem cutF {n v : Nat} {R : List UInt8} {k : Nat} (hv : v < 256 ^ n) : (k < n ∧ (fx n ((leB n v ++ R).take k, 0)).2.2 = 4) ∨ (n ≤ k ∧ fx n ((leB n v ++ R).take k, 0) = (v, R.take (k - n), 0)) := by
  have hl := leB_len n v
  by_cases h : k < n
  · left
    refine ⟨h, ?_⟩
    unfold fx
    rw [if_neg (by simp), if_pos (by rw [List.length_take]; simp; omega)]
  · right
    refine ⟨by omega, ?_⟩
    have e : (leB n v ++ R).take k = leB n v ++ R.take (k - n) := by
      rw [List.take_append, List.take_of_length_le (by omega), hl]
    unfold fx
    rw [e, if_neg (by simp), if_neg (by simp [hl])]
    simp only
    have e1 : (leB n v ++ R.take (k - n)).take n = leB n v := by
      have := List.take_left (l₁ := leB n v) (l₂ := R.take (k - n)); rw [hl] at this; exact this
    have e2 : (leB n v ++ R.take (k - n)).drop n = R.take (k - n) := by
      have := List.drop_left (l₁ := leB n v) (l₂ := R.take (k - n)); rw [hl] at this; exact this
    rw [e1, e2, leV_leB, Nat.mod_eq_of_lt hv]

theorem k4T {s : St} (h : s.2 = 4) : (tx s).2.2 = 4 := by unfold tx; rw [if_pos (by rw [h]; decide)]; exact h
theorem k4F {n : Nat} {s : St} (h : s.2 = 4) : (fx n s).2.2 = 4 := by unfold fx; rw [if_pos (by rw [h]; decide)]; exact h
theorem k4M {bad : Bool} {s : St} (h : s.2 = 4) : (ms bad s).2 = 4 := by unfold ms; simp only; rw [wr_keep (by rw [h]; decide)]; exact h
theorem ms_f {l : List UInt8} : ms false (l, 0) = (l, 0) := rfl

theorem rd4 {b : List UInt8} (h : (qf b).2 = 4) : (rdC b).2 = 4 := by unfold rdC; rw [if_pos (by rw [h]; decide)]; exact h

theorem tl_eq {x : Co} (hx : CoOk x) : tlB x = leB 1 12 ++ (leB 2 x.cs ++ (leB 4 x.ln ++ (leB 1 x.ty ++ (leB 2 x.fl ++ (leB 1 x.dc ++ leB 2 0))))) := by
  have e1 : leB 1 x.ty = [UInt8.ofNat x.ty] := by simp only [leB]; rw [Nat.mod_eq_of_lt hx.ty]
  have e2 : leB 1 x.dc = [UInt8.ofNat x.dc] := by simp only [leB]; rw [Nat.mod_eq_of_lt hx.dc]
  rw [e1, e2]
  rfl

theorem coB_eq {x : Co} (hx : CoOk x) (E : List UInt8) : coB' x ++ E = aT defC ++ (aT x.s ++ (aT x.t ++ (aT x.ot ++ (aT x.n ++ (aT x.on ++ (leB 1 12 ++ (leB 2 x.cs ++ (leB 4 x.ln ++ (leB 1 x.ty ++ (leB 2 x.fl ++ (leB 1 x.dc ++ (leB 2 0 ++ E)))))))))))) := by
  unfold coB'
  rw [tl_eq hx]
  simp [txB, Co.nms, defB, defC]

/-- a column's bytes, and more behind them, cut -/
theorem rdC_take {x : Co} (hx : CoOk x) (h : chk x = 0) (E : List UInt8) (k : Nat) :
    (k < (coB' x).length → (rdC ((coB' x ++ E).take k)).2 = 4) ∧ ((coB' x).length ≤ k → rdC ((coB' x ++ E).take k) = if E.take (k - (coB' x).length) = [] then (x, 0) else ({}, 5)) := by
  have hk : kn x.ty = true := by
    unfold chk at h
    by_cases hs : x.small ∧ kn x.ty = true
    · exact hs.2
    · rw [if_neg hs] at h; cases h
  obtain ⟨a0, a1, a2, a3, a4⟩ := chk_small h
  have hlen : (coB' x).length = (aT defC).length + ((aT x.s).length + ((aT x.t).length + ((aT x.ot).length + ((aT x.n).length + ((aT x.on).length + 13))))) := by
    have := congrArg List.length (coB_eq hx [])
    simp only [List.length_append, leB_len, List.length_nil] at this
    omega
  rw [coB_eq hx E, hlen]
  generalize hb : (aT defC ++ (aT x.s ++ (aT x.t ++ (aT x.ot ++ (aT x.n ++ (aT x.on ++ (leB 1 12 ++ (leB 2 x.cs ++ (leB 4 x.ln ++ (leB 1 x.ty ++ (leB 2 x.fl ++ (leB 1 x.dc ++ (leB 2 0 ++ E))))))))))))).take k = b
  have c12 : (q12 b).2.2 = 4 → (rdC b).2 = 4 := fun h => rd4 (k4M (k4M h))
  have c11 : (q11 b).2.2 = 4 → (rdC b).2 = 4 := fun h => c12 (k4F h)
  have c10 : (q10 b).2.2 = 4 → (rdC b).2 = 4 := fun h => c11 (k4F h)
  have c9 : (q9 b).2.2 = 4 → (rdC b).2 = 4 := fun h => c10 (k4F (k4M h))
  have c8 : (q8 b).2.2 = 4 → (rdC b).2 = 4 := fun h => c9 (k4F h)
  have c7 : (q7 b).2.2 = 4 → (rdC b).2 = 4 := fun h => c8 (k4F h)
  have c6 : (q6 b).2.2 = 4 → (rdC b).2 = 4 := fun h => c7 (k4F (k4M h))
  have c5 : (q5 b).2.2 = 4 → (rdC b).2 = 4 := fun h => c6 (k4F h)
  have c4 : (q4 b).2.2 = 4 → (rdC b).2 = 4 := fun h => c5 (k4T h)
  have c3 : (q3 b).2.2 = 4 → (rdC b).2 = 4 := fun h => c4 (k4T h)
  have c2 : (q2 b).2.2 = 4 → (rdC b).2 = 4 := fun h => c3 (k4T h)
  have c1 : (q1 b).2.2 = 4 → (rdC b).2 = 4 := fun h => c2 (k4T h)
  have c0 : (q0 b).2.2 = 4 → (rdC b).2 = 4 := fun h => c1 (k4T (k4M h))
  have fin : ∀ {n : Nat}, k < n → (rdC b).2 = 4 → (k < n → (rdC b).2 = 4) ∧ (n ≤ k → rdC b = if E.take (k - n) = [] then (x, 0) else ({}, 5)) := fun h1 h2 => ⟨fun _ => h2, fun h3 => absurd h1 (by omega)⟩
  have e0 := congrArg (fun l => tx (l, 0)) hb.symm
  replace e0 : q0 b = _ := e0
  rcases cutT (s := defC) (k := k) (by simp [defC]) with ⟨l0, r0⟩ | ⟨l0, r0⟩
  · exact fin (by omega) (c0 (by rw [e0]; exact r0))
  rw [r0] at e0
  have e1 : q1 b = tx (ms ((q0 b).1 != defC) (q0 b).2) := rfl
  rw [e0, show (defC != defC) = false from by decide, ms_f] at e1
  rcases cutT (s := x.s) (k := k - (aT defC).length) a0 with ⟨l1, r1⟩ | ⟨l1, r1⟩
  · exact fin (by omega) (c1 (by rw [e1]; exact r1))
  rw [r1] at e1
  have e2 : q2 b = tx (q1 b).2 := rfl
  rw [e1] at e2
  rcases cutT (s := x.t) (k := k - (aT defC).length - (aT x.s).length) a1 with ⟨l2, r2⟩ | ⟨l2, r2⟩
  · exact fin (by omega) (c2 (by rw [e2]; exact r2))
  rw [r2] at e2
  have e3 : q3 b = tx (q2 b).2 := rfl
  rw [e2] at e3
  rcases cutT (s := x.ot) (k := k - (aT defC).length - (aT x.s).length - (aT x.t).length) a2 with ⟨l3, r3⟩ | ⟨l3, r3⟩
  · exact fin (by omega) (c3 (by rw [e3]; exact r3))
  rw [r3] at e3
  have e4 : q4 b = tx (q3 b).2 := rfl
  rw [e3] at e4
  rcases cutT (s := x.n) (k := k - (aT defC).length - (aT x.s).length - (aT x.t).length - (aT x.ot).length) a3 with ⟨l4, r4⟩ | ⟨l4, r4⟩
  · exact fin (by omega) (c4 (by rw [e4]; exact r4))
  rw [r4] at e4
  have e5 : q5 b = tx (q4 b).2 := rfl
  rw [e4] at e5
  rcases cutT (s := x.on) (k := k - (aT defC).length - (aT x.s).length - (aT x.t).length - (aT x.ot).length - (aT x.n).length) a4 with ⟨l5, r5⟩ | ⟨l5, r5⟩
  · exact fin (by omega) (c5 (by rw [e5]; exact r5))
  rw [r5] at e5
  generalize hj : k - (aT defC).length - (aT x.s).length - (aT x.t).length - (aT x.ot).length - (aT x.n).length - (aT x.on).length = j at *
  have e6 : q6 b = fx 1 (q5 b).2 := rfl
  rw [e5] at e6
  rcases cutF (n := 1) (v := 12) (k := j) (by decide) with ⟨l6, r6⟩ | ⟨l6, r6⟩
  · exact fin (by omega) (c6 (by rw [e6]; exact r6))
  rw [r6] at e6
  have e7 : q7 b = fx 2 (ms ((q6 b).1 != 12) (q6 b).2) := rfl
  rw [e6, show ((12 : Nat) != 12) = false from rfl, ms_f] at e7
  rcases cutF (n := 2) (v := x.cs) (k := j - 1) hx.cs with ⟨l7, r7⟩ | ⟨l7, r7⟩
  · exact fin (by omega) (c7 (by rw [e7]; exact r7))
  rw [r7] at e7
  have e8 : q8 b = fx 4 (q7 b).2 := rfl
  rw [e7] at e8
  rcases cutF (n := 4) (v := x.ln) (k := j - 1 - 2) hx.ln with ⟨l8, r8⟩ | ⟨l8, r8⟩
  · exact fin (by omega) (c8 (by rw [e8]; exact r8))
  rw [r8] at e8
  have e9 : q9 b = fx 1 (q8 b).2 := rfl
  rw [e8] at e9
  rcases cutF (n := 1) (v := x.ty) (k := j - 1 - 2 - 4) hx.ty with ⟨l9, r9⟩ | ⟨l9, r9⟩
  · exact fin (by omega) (c9 (by rw [e9]; exact r9))
  rw [r9] at e9
  have e10 : q10 b = fx 2 (ms (!kn (q9 b).1) (q9 b).2) := rfl
  rw [e9] at e10
  simp only [hk, Bool.not_true, ms_f] at e10
  rcases cutF (n := 2) (v := x.fl) (k := j - 1 - 2 - 4 - 1) hx.fl with ⟨l10, r10⟩ | ⟨l10, r10⟩
  · exact fin (by omega) (c10 (by rw [e10]; exact r10))
  rw [r10] at e10
  have e11 : q11 b = fx 1 (q10 b).2 := rfl
  rw [e10] at e11
  rcases cutF (n := 1) (v := x.dc) (k := j - 1 - 2 - 4 - 1 - 2) hx.dc with ⟨l11, r11⟩ | ⟨l11, r11⟩
  · exact fin (by omega) (c11 (by rw [e11]; exact r11))
  rw [r11] at e11
  have e12 : q12 b = fx 2 (q11 b).2 := rfl
  rw [e11] at e12
  rcases cutF (n := 2) (v := 0) (R := E) (k := j - 1 - 2 - 4 - 1 - 2 - 1) (by decide) with ⟨l12, r12⟩ | ⟨l12, r12⟩
  · exact fin (by omega) (c12 (by rw [e12]; exact r12))
  rw [r12] at e12
  refine ⟨fun h => absurd h (by omega), fun _ => ?_⟩
  rw [show k - ((aT defC).length + ((aT x.s).length + ((aT x.t).length + ((aT x.ot).length + ((aT x.n).length + ((aT x.on).length + 13)))))) = j - 1 - 2 - 4 - 1 - 2 - 1 - 2 by omega]
  generalize E.take (j - 1 - 2 - 4 - 1 - 2 - 1 - 2) = F at *
  have ef : qf b = ms (decide (0 < (q12 b).2.1.length)) (ms ((q12 b).1 != 0) (q12 b).2) := rfl
  rw [e12] at ef
  simp only [show ((0 : Nat) != 0) = false from rfl, ms_f] at ef
  have eC : qC b = x := by
    unfold qC
    rw [e1, e2, e3, e4, e5, e7, e8, e9, e10, e11]
  unfold rdC
  rw [ef, eC]
  cases F with
  | nil => rfl
  | cons y t => rfl

theorem co_back {x : Co} (hx : CoOk x) (h : chk x = 0) : rdC (coB' x) = (x, 0) := by
  have := (rdC_take hx h [] (coB' x).length).2 (Nat.le_refl _)
  rw [List.append_nil, List.take_length] at this
  rw [this, if_pos (by simp)]
theorem co_short {x : Co} (hx : CoOk x) (h : chk x = 0) {k : Nat} (hk : k < (coB' x).length) : (rdC ((coB' x).take k)).2 = 4 := by
  have := (rdC_take hx h [] k).1 hk
  rw [List.append_nil] at this
  exact this
theorem co_long {x : Co} (hx : CoOk x) (h : chk x = 0) (y : UInt8) : (rdC (coB' x ++ [y])).2 = 5 := by
  have := (rdC_take hx h [y] ((coB' x).length + 1)).2 (by omega)
  rw [List.take_of_length_le (by simp)] at this
  rw [this, show (coB' x).length + 1 - (coB' x).length = 1 by omega, if_neg (by simp)]

theorem count_back {n : Int} (h1 : 1 ≤ n) (h2 : n ≤ 4096) : rcR (aI n.toNat) = (n, 0) := by
  obtain ⟨n, rfl⟩ : ∃ m : Nat, n = (m : Int) := ⟨n.toNat, by omega⟩
  rw [Int.toNat_natCast]
  have := rdI_of (x := n) (by omega) []
  rw [List.append_nil] at this
  unfold rcR
  rw [this]
  simp only
  rw [if_neg (by simp), if_neg (by rw [aI_len]; omega)]

end Go.Proofs.Ytkgchoknkakcgaa
