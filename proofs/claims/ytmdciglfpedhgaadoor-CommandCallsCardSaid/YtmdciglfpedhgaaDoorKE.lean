/- Plain: what is written is read, what is read was written so. -/
import Derived.Test.YtmdciglfpedhgaaDoorKD
namespace Go.Proofs.YtmdciglfpedhgaaDoor
open Go.AM
set_option linter.unusedSimpArgs false
set_option linter.unusedVariables false

theorem fx_app {n v : Nat} (h : v < 256 ^ n) (r : List UInt8) : fx n (leB n v ++ r, 0) = (v, r, 0) := by
  have hl := leB_len n v
  unfold fx
  rw [if_neg (by simp), if_neg (by simp [hl])]
  simp only
  rw [List.take_append_of_le_length (by omega), List.take_of_length_le (by omega), List.drop_append_of_le_length (by omega), List.drop_of_length_le (by omega), leV_leB, Nat.mod_eq_of_lt h, List.nil_append]

theorem fx_cons (y : UInt8) (r : List UInt8) : fx 1 (y :: r, 0) = (y.toNat, r, 0) := by
  simp [fx, leV]

theorem fx_inv {n : Nat} {s : St} (h : (fx n s).2.2 = 0) : s.2 = 0 ∧ s.1 = leB n (fx n s).1 ++ (fx n s).2.1 := by
  unfold fx at h ⊢
  split at h
  · rename_i h1
    exact absurd h h1
  · rename_i h1
    split at h
    · simp at h
    · rename_i h2
      rw [if_neg h1, if_neg h2]
      refine ⟨by simpa using h1, ?_⟩
      simp only
      have : leB n (leV (s.1.take n)) = s.1.take n := by
        have e := leB_leV (s.1.take n)
        rwa [List.length_take, Nat.min_eq_left (by omega)] at e
      rw [this, List.take_append_drop]

theorem barR_st (x : Cm) : (barR x).fl = x.fl ∨ (barR x).fl = 0 := by
  unfold barR
  split <;> simp

theorem chk_iff (x : Cm) : chkR x = 0 ↔ barR x = x ∧ x.fl ≤ 1 := by
  unfold chkR
  constructor
  · intro h
    split at h
    · rename_i h1
      refine ⟨?_, h1.2⟩
      have h2 := h1.1
      have hk : (barR x).k = x.k := by unfold barR; split <;> rfl
      have hd : (barR x).dat = x.dat := by
        rcases barR_dat x (.ro 0 .pn 0) with ⟨_, h3⟩ | ⟨_, h3⟩
        · exact h3
        · simp only [same7, Bool.and_eq_true, beq_iff_eq] at h2
          rw [h3] at h2 ⊢
          exact (List.eq_nil_of_length_eq_zero h2.2.2.2.2.2.2.symm).symm
      simp only [same7, Bool.and_eq_true, beq_iff_eq] at h2
      obtain ⟨a1, a2, a3, a4, a5, a6, _⟩ := h2
      generalize barR x = y at *
      cases x; cases y
      simp only at *
      subst hk hd a1 a2 a3 a4 a5 a6
      rfl
    · simp at h
  · rintro ⟨h1, h2⟩
    rw [if_pos ⟨by rw [h1]; simp [same7], h2⟩]

def encR (x : Cm) : List UInt8 := UInt8.ofNat x.k :: (encH x ++ x.dat)

theorem appR_nil (x : Cm) (h : chkR x = 0) : appR [] x = (encR x, 0) := by
  unfold appR
  rw [if_pos h]; rfl

theorem leB_1 {f : Nat} (h : f < 256) : leB 1 f = [UInt8.ofNat f] := by
  simp [leB, Nat.mod_eq_of_lt h]

theorem leB_41 : leB 4 1 = [1, 0, 0, 0] := by decide

/-- what is written is read back -/
theorem read_enc (x : Cm) (hx : CmOk x) (h : chkR x = 0) : readR (encR x) = (x, 0) := by
  obtain ⟨hb, hf⟩ := (chk_iff x).1 h
  have hk := hx.k
  have e1 : (UInt8.ofNat x.k).toNat = x.k := by simp; omega
  unfold readR encR
  rw [fx_cons, e1]
  simp only
  rw [if_neg (by simp)]
  suffices hs : bodyR x.k (encH x ++ x.dat, 0) = (x, [], 0) by
    rw [hs]
    simp
  obtain ⟨k, txt, st, pa, fl, co, op, dat⟩ := x
  have h9 := shp_lt k
  unfold bodyR encH
  unfold barR at hb
  simp only at hb hf hk h9 ⊢
  have hx1 := hx.st
  have hx2 := hx.pa
  have hx3 := hx.fl
  have hx4 := hx.co
  have hx5 := hx.op
  simp only at hx1 hx2 hx3 hx4 hx5
  generalize shp k = j at *
  match j, h9 with
  | 0, _ =>
    simp only [Cm.mk.injEq, true_and] at hb
    obtain ⟨rfl, rfl, rfl, rfl, rfl, rfl, rfl⟩ := hb
    rfl
  | 1, _ =>
    simp only [Cm.mk.injEq, true_and] at hb
    obtain ⟨rfl, rfl, rfl, rfl, rfl, rfl⟩ := hb
    simp
  | 2, _ =>
    simp only [Cm.mk.injEq, true_and] at hb
    obtain ⟨rfl, rfl, rfl, rfl, rfl, rfl⟩ := hb
    simp only
    rw [fx_app (by omega)]
  | 3, _ =>
    simp only [Cm.mk.injEq, true_and, and_true] at hb
    obtain ⟨rfl, rfl, rfl, rfl⟩ := hb
    simp only
    have e : leB 4 st ++ [UInt8.ofNat fl, 1, 0, 0, 0] ++ dat = leB 4 st ++ (UInt8.ofNat fl :: (leB 4 1 ++ dat)) := by rw [leB_41]; simp
    have e2 : (UInt8.ofNat fl).toNat = fl := by simp; omega
    rw [e, fx_app (by omega)]
    simp only
    rw [fx_cons, e2]
    simp only
    have hn : ¬ (True ∧ 1 < fl) := fun h => by have := h.2; omega
    rw [if_neg hn, fx_app (n := 4) (v := 1) (by omega)]
    simp
  | 4, _ =>
    simp only [Cm.mk.injEq, true_and, and_true] at hb
    obtain ⟨rfl, rfl, rfl, rfl⟩ := hb
    simp only
    rw [List.append_assoc, fx_app (by omega)]
    simp only
    rw [fx_app (by omega)]
  | 5, _ =>
    simp only [Cm.mk.injEq, true_and, and_true] at hb
    obtain ⟨rfl, rfl, rfl, rfl, rfl, rfl⟩ := hb
    simp only
    rw [fx_app (by omega)]
  | 6, _ =>
    simp only [Cm.mk.injEq, true_and, and_true] at hb
    obtain ⟨rfl, rfl, rfl, rfl, rfl, rfl⟩ := hb
    simp only
    rw [fx_app (by omega)]
  | 7, _ =>
    simp only [Cm.mk.injEq, true_and, and_true] at hb
    obtain ⟨rfl, rfl, rfl, rfl, rfl⟩ := hb
    simp only
    rw [List.append_assoc, fx_app (by omega)]
    simp only
    rw [fx_app (by omega)]
  | 8, _ =>
    simp only [Cm.mk.injEq, true_and, and_true] at hb
    obtain ⟨rfl, rfl, rfl, rfl, rfl, rfl⟩ := hb
    simp

end Go.Proofs.YtmdciglfpedhgaaDoor
