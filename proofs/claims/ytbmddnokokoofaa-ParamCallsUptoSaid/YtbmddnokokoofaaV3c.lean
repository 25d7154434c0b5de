/- Walks: the check's choice. -/
import Derived.Test.YtbmddnokokoofaaV3
namespace Go.Proofs.Ytbmddnokokoofaa
open Go.AM
set_option linter.unusedSimpArgs false
set_option linter.unusedVariables false

set_option maxRecDepth 100000 in
set_option maxHeartbeats 4000000 in
theorem ckR (v : Va) (t : Ty) (k : Int) (n : Nat) (hbd : -1 ≤ k ∧ k ≤ 7) (hk0 : ¬ k < 0) (hsz : k = 1 ∨ k = 2 ∨ k = 3 ∨ k = 4 → n = 1 ∨ n = 2 ∨ n = 4 ∨ n = 8) (hF : evT X 38 [.agg v.w.pay, .int .u8 (t.t : Nat)] [some (vaO v), some (tyO t)] = some (.bool (fin v.w t.t), [some (vaO v), some (tyO t)])) (k1 : ¬ v.k = 1) (k234 : ¬ (v.k = 2 ∨ v.k = 3 ∨ v.k = 4)) : ∃ code, ckO = some code ∧
    Tells (Goes (ckP v t k n)) X (evT X) 19 0 code (ckFr k (v.k == k) (8 * n)) [some (vaO v), some (tyO t)] := by
  refine ⟨_, rfl, ?_⟩
  unfold ckP okVk
  have k1b : (v.k == 1) = false := by simpa using k1
  rw [if_neg k1]
  have k2b : (v.k == 2) = false := by simp; omega
  have k3b : (v.k == 3) = false := by simp; omega
  have k4b : (v.k == 4) = false := by simp; omega
  rw [if_neg k234]
  generalize 8 * n = n8 at *
  by_cases k56 : v.k = 5 ∨ v.k = 6
  · rw [if_pos k56]
    by_cases hk1 : k = v.k
    case neg =>
      have hkb : (v.k == k) = false := by simp; omega
      rw [decide_eq_false hk1]
      refine Tells.of (o := ⟨.normal, [(6, .bool false)], [some (vaO v), some (tyO t)]⟩) ⟨0, ?_⟩ ⟨rfl, rfl, .inl rfl⟩
      rcases k56 with kv | kv
      · rw [kv] at hkb
        simp (maxSteps := 2000000) -implicitDefEqProofs [-getElem?_pos, List.getElem?_cons_zero, List.getElem?_cons_succ, go_sem, eqV, plen, loadV, storeV, vaO, tyO, Va.pay, ckFr, kv, hkb]
      · rw [kv] at hkb
        simp (maxSteps := 2000000) -implicitDefEqProofs [-getElem?_pos, List.getElem?_cons_zero, List.getElem?_cons_succ, go_sem, eqV, plen, loadV, storeV, vaO, tyO, Va.pay, ckFr, kv, hkb]
    subst hk1
    have hEq := fun H xo yo => eqVa v { k := v.k, w := v.w } H xo yo
    have hbi := bdVw v.k v.w
    generalize hpz : (({ k := v.k, w := v.w } : Va).pay) = pz at *
    generalize decide (v = { k := v.k, w := v.w }) = e at *
    clear hpz
    simp only [Va.pay] at hEq
    simp only [Wh.pay] at hbi
    cases e with
    | false =>
      refine Tells.of (o := ⟨.normal, [(6, .bool false)], [some (vaO v), some (tyO t)]⟩) ⟨0, ?_⟩ ⟨rfl, rfl, .inl (by simp)⟩
      rcases k56 with kv | kv
      · rw [kv] at hEq hbi
        simp (maxSteps := 2000000) -implicitDefEqProofs [-getElem?_pos, List.getElem?_cons_zero, List.getElem?_cons_succ, go_sem, eqV, plen, loadV, storeV, -eqV, vaO, tyO, Va.pay, ckFr, kv, mkVa, mkWh, hbi, hEq]
      · rw [kv] at hEq hbi
        simp (maxSteps := 2000000) -implicitDefEqProofs [-getElem?_pos, List.getElem?_cons_zero, List.getElem?_cons_succ, go_sem, eqV, plen, loadV, storeV, -eqV, vaO, tyO, Va.pay, ckFr, kv, mkVa, mkWh, hbi, hEq]
    | true =>
    refine Tells.of (o := ⟨.normal, [(6, .bool (fin v.w t.t))], [some (vaO v), some (tyO t)]⟩) ⟨0, ?_⟩ ⟨rfl, rfl, .inl (by simp)⟩
    simp only [vaO, tyO, Va.pay, Ty.pay, Wh.pay] at hF
    generalize fin v.w t.t = fb at *
    rcases k56 with kv | kv
    · rw [kv] at hEq hbi hF
      simp (maxSteps := 2000000) -implicitDefEqProofs [-getElem?_pos, List.getElem?_cons_zero, List.getElem?_cons_succ, go_sem, eqV, plen, loadV, storeV, -eqV, vaO, tyO, Va.pay, Ty.pay, ckFr, kv, mkVa, mkWh, hbi, hEq, hF]
    · rw [kv] at hEq hbi hF
      simp (maxSteps := 2000000) -implicitDefEqProofs [-getElem?_pos, List.getElem?_cons_zero, List.getElem?_cons_succ, go_sem, eqV, plen, loadV, storeV, -eqV, vaO, tyO, Va.pay, Ty.pay, ckFr, kv, mkVa, mkWh, hbi, hEq, hF]
  have k5b : (v.k == 5) = false := by simp; omega
  have k6b : (v.k == 6) = false := by simp; omega
  rw [if_neg k56]
  by_cases k7 : v.k = 7
  · rw [if_pos k7]
    by_cases hk1 : k = 7
    case neg =>
      have hkb : ((7 : Int) == k) = false := by simp; omega
      rw [decide_eq_false hk1]
      refine Tells.of (o := ⟨.normal, [(6, .bool false)], [some (vaO v), some (tyO t)]⟩) ⟨0, ?_⟩ ⟨rfl, rfl, .inl rfl⟩
      simp (maxSteps := 2000000) -implicitDefEqProofs [-getElem?_pos, List.getElem?_cons_zero, List.getElem?_cons_succ, go_sem, eqV, plen, loadV, storeV, vaO, tyO, Va.pay, ckFr, k7, hkb]
    subst hk1
    have hEq := fun H xo yo => eqVa v { k := 7, t := v.t } H xo yo
    have hbi := bdVt 7 v.t
    generalize hpz : (({ k := 7, t := v.t } : Va).pay) = pz at *
    generalize decide (v = { k := 7, t := v.t }) = e at *
    clear hpz
    simp only [Va.pay] at hEq
    rw [k7] at hEq
    cases e with
    | false =>
      refine Tells.of (o := ⟨.normal, [(6, .bool false)], [some (vaO v), some (tyO t)]⟩) ⟨0, ?_⟩ ⟨rfl, rfl, .inl (by simp)⟩
      simp (maxSteps := 2000000) -implicitDefEqProofs [-getElem?_pos, List.getElem?_cons_zero, List.getElem?_cons_succ, go_sem, eqV, plen, loadV, storeV, -eqV, vaO, tyO, Va.pay, ckFr, k7, mkVa, hbi, hEq]
    | true =>
    have hl : decide ((v.t.length : Int) ≤ 16777216) = decide (v.t.length ≤ 16777216) := by rw [decide_eq_decide]; omega
    generalize decide (v.t.length ≤ 16777216) = lb at *
    refine Tells.of (o := ⟨.normal, [(6, .bool lb)], [some (vaO v), some (tyO t)]⟩) ⟨0, ?_⟩ ⟨rfl, rfl, .inl (by simp)⟩
    simp (maxSteps := 2000000) -implicitDefEqProofs [-getElem?_pos, List.getElem?_cons_zero, List.getElem?_cons_succ, go_sem, eqV, plen, loadV, storeV, -eqV, vaO, tyO, Va.pay, ckFr, k7, mkVa, hbi, hEq, hl]
  have k7b : (v.k == 7) = false := by simpa using k7
  rw [if_neg k7]
  by_cases k0 : v.k = 0
  · refine Tells.of (o := ⟨.normal, [(6, .bool false)], [some (vaO v), some (tyO t)]⟩) ⟨0, ?_⟩ ⟨rfl, rfl, .inl rfl⟩
    simp (maxSteps := 2000000) -implicitDefEqProofs [-getElem?_pos, List.getElem?_cons_zero, List.getElem?_cons_succ, go_sem, eqV, plen, loadV, storeV, vaO, tyO, Va.pay, ckFr, k0]
  have k0b : (v.k == 0) = false := by simpa using k0
  have hkb : (v.k == k) = false := by simp; omega
  refine Tells.of (o := ⟨.normal, [(2, .ptr 0 0 0 0), (5, .int .i64 k), (6, .bool false), (103, .bool false)], [some (vaO v), some (tyO t)]⟩) ⟨0, ?_⟩ ⟨rfl, rfl, .inr rfl⟩
  simp (maxSteps := 2000000) -implicitDefEqProofs [-getElem?_pos, List.getElem?_cons_zero, List.getElem?_cons_succ, go_sem, eqV, plen, loadV, storeV, vaO, tyO, Va.pay, ckFr, hkb, k0b, k1b, k2b, k3b, k4b, k5b, k6b, k7b]

end Go.Proofs.Ytbmddnokokoofaa
