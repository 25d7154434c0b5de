/- Plain: what was read is written as it was; another statement's id. -/
import Derived.Test.YtmdciglfpedhgaaDoorKE
namespace Go.Proofs.YtmdciglfpedhgaaDoor
open Go.AM
set_option linter.unusedSimpArgs false
set_option linter.unusedVariables false

theorem fx_n (n : Nat) (s : St) (h : s.2 ≠ 0) : (fx n s).2.2 ≠ 0 := by
  intro h2
  exact h (fx_inv h2).1

theorem ex3 {r : List UInt8} {s3 s5 : St} (h3 : s3 = if (fx 1 (fx 4 (r, 0)).2).2.2 = 0 ∧ 1 < (fx 1 (fx 4 (r, 0)).2).1 then ((fx 1 (fx 4 (r, 0)).2).2.1, 5) else (fx 1 (fx 4 (r, 0)).2).2)
    (h5 : s5 = if (fx 4 s3).1 ≠ 1 ∧ (fx 4 s3).2.2 = 0 then ((fx 4 s3).2.1, 5) else (fx 4 s3).2) (h : s5.2 = 0) :
    (fx 1 (fx 4 (r, 0)).2).1 ≤ 1 ∧ leB 4 (fx 4 (r, 0)).1 ++ [UInt8.ofNat (fx 1 (fx 4 (r, 0)).2).1, 1, 0, 0, 0] ++ s5.1 = r := by
  have hw := fx_lt (n := 1) (fx 4 (r, 0)).2
  have e5 : ¬ ((fx 4 s3).1 ≠ 1 ∧ (fx 4 s3).2.2 = 0) := fun hh => by rw [if_pos hh] at h5; rw [h5] at h; simp at h
  rw [if_neg e5] at h5
  rw [h5] at h
  have one : (fx 4 s3).1 = 1 := Decidable.byContradiction fun hh => e5 ⟨hh, h⟩
  obtain ⟨q1, q2⟩ := fx_inv h
  have e3 : ¬ ((fx 1 (fx 4 (r, 0)).2).2.2 = 0 ∧ 1 < (fx 1 (fx 4 (r, 0)).2).1) := fun hh => by rw [if_pos hh] at h3; rw [h3] at q1; simp at q1
  rw [if_neg e3] at h3
  have q1' := q1
  rw [h3] at q1'
  obtain ⟨p1, p2⟩ := fx_inv q1'
  obtain ⟨_, o2⟩ := fx_inv p1
  simp only at o2
  refine ⟨by have := fun hh => e3 ⟨q1', hh⟩; omega, ?_⟩
  rw [one, leB_41, h3] at q2
  rw [q2, leB_1 (by omega)] at p2
  rw [p2] at o2
  rw [h5, h3]
  generalize fx 4 (r, 0) = a at *
  rw [o2]
  simp

/-- what was read is written as it was -/
theorem enc_read {b : List UInt8} {d : Cm} (h : readR b = (d, 0)) : chkR d = 0 ∧ encR d = b := by
  unfold readR at h
  simp only at h
  split at h
  · rename_i h1
    exact absurd (Prod.mk.inj h).2 h1
  · rename_i h1
    split at h
    · rename_i h2
      exact absurd (Prod.mk.inj h).2 h2
    · rename_i h2
      split at h
      · rename_i h3
        have := (Prod.mk.inj h).2
        simp at this
      · rename_i h3
        have hd := (Prod.mk.inj h).1
        simp only [ne_eq, Decidable.not_not] at h1 h2 h3
        obtain ⟨_, hb⟩ := fx_inv h1
        simp only at hb
        have hk := fx_lt (n := 1) (b, 0)
        clear h
        generalize fx 1 (b, 0) = q at *
        obtain ⟨k, r, e⟩ := q
        simp only at h1 hd h2 h3 hb hk
        subst h1
        rw [hb]
        rw [leB_1 (by omega)]
        clear hb
        have hkk : ∀ x : Cm, x.k = k → (chkR x = 0 ∧ encH x ++ x.dat = r) → chkR x = 0 ∧ encR x = [UInt8.ofNat k] ++ r := by
          rintro x rfl ⟨q1, q2⟩
          exact ⟨q1, by unfold encR; rw [q2]; rfl⟩
        subst hd
        refine hkk _ (bodyR_ok (by omega) _).2.2.2 ?_
        rw [chk_iff]
        have h9 := shp_lt k
        unfold bodyR at h2 h3 ⊢
        rcases hj : shp k with _ | _ | _ | _ | _ | _ | _ | _ | _ | j
        · rw [hj] at h2 h3
          simp only [barR, encH, hj] at h2 h3 ⊢
          exact ⟨⟨trivial, by simp⟩, by simpa using h3.symm⟩
        · simp only [barR, encH, hj] at h2 h3 ⊢
          exact ⟨⟨trivial, by simp⟩, by simp⟩
        · rw [hj] at h2 h3
          simp only [barR, encH, hj] at h2 h3 ⊢
          have q := (fx_inv h2).2
          rw [h3] at q
          exact ⟨⟨trivial, by simp⟩, by simpa using q.symm⟩
        · rw [hj] at h2 h3
          have q := ex3 rfl rfl h2
          simp only [barR, encH, hj]
          exact ⟨⟨trivial, q.1⟩, q.2⟩
        · rw [hj] at h2 h3
          simp only [barR, encH, hj] at h2 h3 ⊢
          have q := fx_inv h2
          have q2 := (fx_inv q.1).2
          simp only at q2
          rw [q.2] at q2
          exact ⟨⟨trivial, by simp⟩, by rw [List.append_assoc]; exact q2.symm⟩
        · rw [hj] at h2 h3
          simp only [barR, encH, hj] at h2 h3 ⊢
          have q := (fx_inv h2).2
          rw [h3] at q
          exact ⟨⟨trivial, by simp⟩, by simpa using q.symm⟩
        · rw [hj] at h2 h3
          simp only [barR, encH, hj] at h2 h3 ⊢
          have q := (fx_inv h2).2
          rw [h3] at q
          exact ⟨⟨trivial, by simp⟩, by simpa using q.symm⟩
        · rw [hj] at h2 h3
          simp only [barR, encH, hj] at h2 h3 ⊢
          have q := fx_inv h2
          have q2 := (fx_inv q.1).2
          simp only at q2
          rw [q.2, h3] at q2
          exact ⟨⟨trivial, by simp⟩, by simpa using q2.symm⟩
        · simp only [barR, encH, hj] at h2 h3 ⊢
          exact ⟨⟨trivial, by simp⟩, by simp⟩
        · omega

theorem abt_shp {k : Nat} (hk : k < 256) (h : abt k = true) : shp k = 3 ∨ shp k = 4 ∨ shp k = 5 ∨ shp k = 7 := by
  unfold abt at h
  simp only [Bool.or_eq_true, beq_iff_eq] at h
  rcases h with ((((rfl | rfl) | rfl) | rfl) | rfl) <;> decide

/-- with another statement, a command may still be -/
theorem chk_st {x : Cm} {id : Nat} (hk : x.k < 256) (ha : abt x.k = true) (h : chkR x = 0) : chkR { x with st := id } = 0 := by
  obtain ⟨h1, h2⟩ := (chk_iff x).1 h
  refine (chk_iff _).2 ⟨?_, h2⟩
  have hs := abt_shp hk ha
  obtain ⟨k, txt, st, pa, fl, co, op, dat⟩ := x
  unfold barR at h1 ⊢
  simp only at hs h1 ⊢
  rcases hs with hj | hj | hj | hj <;> rw [hj] at h1 ⊢ <;> simp only [Cm.mk.injEq, true_and, and_true] at h1 ⊢ <;> exact h1

/-- its bytes differ in the four of the id alone -/
theorem enc_st {x : Cm} (hk : x.k < 256) (ha : abt x.k = true) : ∃ r, ∀ id, encR { x with st := id } = UInt8.ofNat x.k :: (leB 4 id ++ r) := by
  have hs := abt_shp hk ha
  unfold encR encH
  simp only
  rcases hs with hj | hj | hj | hj
  · exact ⟨[UInt8.ofNat x.fl, 1, 0, 0, 0] ++ x.dat, fun id => by rw [hj]; simp⟩
  · exact ⟨leB 2 x.pa ++ x.dat, fun id => by rw [hj]; simp⟩
  · exact ⟨x.dat, fun id => by rw [hj]; rfl⟩
  · exact ⟨leB 4 x.co ++ x.dat, fun id => by rw [hj]; simp⟩

/-- all that the law asks -/
theorem stmt_plain {b : List UInt8} {id : Nat} {x : Cm} (hid : id < 4294967296) (h : readR b = (x, 0)) (ha : abt x.k = true) :
    ∃ y : List UInt8, wsR b id = (y, 0) ∧ y.length = b.length ∧ readR y = ({ x with st := id }, 0) ∧ wsR y x.st = (b, 0) ∧ ∀ i, i < b.length → (i < 1 ∨ 4 < i) → y[i]? = b[i]? := by
  have hok := (readR_ok b).1
  rw [h] at hok
  obtain ⟨h1, h2⟩ := enc_read h
  have h3 := chk_st (id := id) hok.k ha h1
  have hok2 : CmOk { x with st := id } := ⟨hok.k, hid, hok.pa, hok.fl, hok.co, hok.op⟩
  obtain ⟨r, hr⟩ := enc_st hok.k ha
  have e1 := hr id
  have e2 : encR x = UInt8.ofNat x.k :: (leB 4 x.st ++ r) := hr x.st
  have hrd := read_enc _ hok2 h3
  refine ⟨encR { x with st := id }, ?_, ?_, hrd, ?_, ?_⟩
  · unfold wsR
    rw [h]
    simp only
    rw [if_neg (by simp), if_pos ha, appR_nil _ h3]
  · rw [← h2, e1, e2]
    simp [leB_len]
  · unfold wsR
    rw [hrd]
    simp only
    rw [if_neg (by simp), if_pos ha]
    have : ({ k := x.k, txt := x.txt, st := x.st, pa := x.pa, fl := x.fl, co := x.co, op := x.op, dat := x.dat } : Cm) = x := rfl
    rw [this, appR_nil _ h1, h2]
  · intro i _ hi
    rw [← h2, e1, e2]
    rcases hi with hi | hi
    · have : i = 0 := by omega
      subst this; rfl
    · obtain ⟨j, rfl⟩ : ∃ j, i = j + 5 := ⟨i - 5, by omega⟩
      have l1 := leB_len 4 id
      have l2 := leB_len 4 x.st
      rw [List.getElem?_cons_succ, List.getElem?_cons_succ, List.getElem?_append_right (by omega), List.getElem?_append_right (by omega), l1, l2]

end Go.Proofs.YtmdciglfpedhgaaDoor
