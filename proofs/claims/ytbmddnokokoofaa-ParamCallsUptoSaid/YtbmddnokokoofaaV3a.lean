/- Walks: the check's choice. -/
import Derived.Test.YtbmddnokokoofaaV3
namespace Go.Proofs.Ytbmddnokokoofaa
open Go.AM
set_option linter.unusedSimpArgs false
set_option linter.unusedVariables false

set_option maxRecDepth 100000 in
set_option maxHeartbeats 4000000 in
theorem ck1 (v : Va) (t : Ty) (k : Int) (n : Nat) (hbd : -1 ≤ k ∧ k ≤ 7) (hk0 : ¬ k < 0) (hsz : k = 1 ∨ k = 2 ∨ k = 3 ∨ k = 4 → n = 1 ∨ n = 2 ∨ n = 4 ∨ n = 8) (hF : evT X 38 [.agg v.w.pay, .int .u8 (t.t : Nat)] [some (vaO v), some (tyO t)] = some (.bool (fin v.w t.t), [some (vaO v), some (tyO t)])) (k1 : v.k = 1) : ∃ code, ckO = some code ∧
    Tells (Goes (ckP v t k n)) X (evT X) 19 0 code (ckFr k (v.k == k) (8 * n)) [some (vaO v), some (tyO t)] := by
  refine ⟨_, rfl, ?_⟩
  unfold ckP okVk
  rw [if_pos k1]
  by_cases hk1 : k = 1
  case neg =>
    have hkb : ((1 : Int) == k) = false := by simp; omega
    rw [decide_eq_false hk1]
    refine Tells.of (o := ⟨.normal, [(6, .bool false)], [some (vaO v), some (tyO t)]⟩) ⟨0, ?_⟩ ⟨rfl, rfl, .inl rfl⟩
    generalize 8 * n = n8 at *
    simp (maxSteps := 2000000) -implicitDefEqProofs [-getElem?_pos, List.getElem?_cons_zero, List.getElem?_cons_succ, go_sem, eqV, plen, loadV, storeV, vaO, tyO, Va.pay, ckFr, k1, hkb]
  subst hk1
  have hEq := fun H xo yo => eqVa v { k := 1, i := v.i } H xo yo
  have hbi := bdVi 1 v.i
  generalize hpz : (({ k := 1, i := v.i } : Va).pay) = pz at *
  generalize decide (v = { k := 1, i := v.i }) = e at *
  simp only [Va.pay] at hEq
  rw [k1] at hEq
  cases e with
  | false =>
    refine Tells.of (o := ⟨.normal, [(6, .bool false)], [some (vaO v), some (tyO t)]⟩) ⟨0, ?_⟩ ⟨rfl, rfl, .inl (by simp)⟩
    generalize 8 * n = n8 at *
    simp (maxSteps := 2000000) -implicitDefEqProofs [-getElem?_pos, List.getElem?_cons_zero, List.getElem?_cons_succ, go_sem, eqV, plen, loadV, storeV, -eqV, vaO, tyO, Va.pay, ckFr, k1, mkVa, hbi, hEq]
  | true =>
  have hn := hsz (.inl rfl)
  unfold okI
  rcases hn with rfl | rfl | rfl | rfl
  · have hq := fdiv_q (i := v.i) (m := 7) _ rfl
    have e1 : (decide (8 ≤ 1) || decide (-(2 ^ (8 * 1 - 1)) ≤ v.i ∧ v.i < 2 ^ (8 * 1 - 1))) = ((v.i.fdiv 128 == 0) || (v.i.fdiv 128 == -1)) := by rw [show (128 : Int) = 2 ^ 7 from rfl, hq]; simp
    rw [e1]
    clear e1 hq
    generalize hq2 : v.i.fdiv 128 = q at *
    by_cases q0 : q = 0
    · refine Tells.of (o := ⟨.normal, [(6, .bool true)], [some (vaO v), some (tyO t)]⟩) ⟨0, ?_⟩ ⟨rfl, rfl, .inl (by simp [q0])⟩
      simp (maxSteps := 2000000) -implicitDefEqProofs [-getElem?_pos, List.getElem?_cons_zero, List.getElem?_cons_succ, go_sem, eqV, plen, loadV, storeV, -eqV, vaO, tyO, Va.pay, ckFr, k1, mkVa, hbi, hEq, hq2, q0, minmax, show IntKind.i64.bits = 64 from rfl, show IntKind.i64.wrap 7 = 7 from rfl, show IntKind.i64.wrap 15 = 15 from rfl, show IntKind.i64.wrap 31 = 31 from rfl, show IntKind.i64.wrap 63 = 63 from rfl]
    have q0b : (q == 0) = false := by simpa using q0
    by_cases q1 : q = -1
    · refine Tells.of (o := ⟨.normal, [(6, .bool true)], [some (vaO v), some (tyO t)]⟩) ⟨0, ?_⟩ ⟨rfl, rfl, .inl (by simp [q1])⟩
      simp (maxSteps := 2000000) -implicitDefEqProofs [-getElem?_pos, List.getElem?_cons_zero, List.getElem?_cons_succ, go_sem, eqV, plen, loadV, storeV, -eqV, vaO, tyO, Va.pay, ckFr, k1, mkVa, hbi, hEq, hq2, q1, minmax, show IntKind.i64.bits = 64 from rfl, show IntKind.i64.wrap 7 = 7 from rfl, show IntKind.i64.wrap 15 = 15 from rfl, show IntKind.i64.wrap 31 = 31 from rfl, show IntKind.i64.wrap 63 = 63 from rfl]
    have q1b : (q == -1) = false := by simpa using q1
    refine Tells.of (o := ⟨.normal, [(6, .bool false)], [some (vaO v), some (tyO t)]⟩) ⟨0, ?_⟩ ⟨rfl, rfl, .inl (by simp [q0, q1])⟩
    simp (maxSteps := 2000000) -implicitDefEqProofs [-getElem?_pos, List.getElem?_cons_zero, List.getElem?_cons_succ, go_sem, eqV, plen, loadV, storeV, -eqV, vaO, tyO, Va.pay, ckFr, k1, mkVa, hbi, hEq, hq2, q0b, q1b, minmax, show IntKind.i64.bits = 64 from rfl, show IntKind.i64.wrap 7 = 7 from rfl, show IntKind.i64.wrap 15 = 15 from rfl, show IntKind.i64.wrap 31 = 31 from rfl, show IntKind.i64.wrap 63 = 63 from rfl]
  · have hq := fdiv_q (i := v.i) (m := 15) _ rfl
    have e1 : (decide (8 ≤ 2) || decide (-(2 ^ (8 * 2 - 1)) ≤ v.i ∧ v.i < 2 ^ (8 * 2 - 1))) = ((v.i.fdiv 32768 == 0) || (v.i.fdiv 32768 == -1)) := by rw [show (32768 : Int) = 2 ^ 15 from rfl, hq]; simp
    rw [e1]
    clear e1 hq
    generalize hq2 : v.i.fdiv 32768 = q at *
    by_cases q0 : q = 0
    · refine Tells.of (o := ⟨.normal, [(6, .bool true)], [some (vaO v), some (tyO t)]⟩) ⟨0, ?_⟩ ⟨rfl, rfl, .inl (by simp [q0])⟩
      simp (maxSteps := 2000000) -implicitDefEqProofs [-getElem?_pos, List.getElem?_cons_zero, List.getElem?_cons_succ, go_sem, eqV, plen, loadV, storeV, -eqV, vaO, tyO, Va.pay, ckFr, k1, mkVa, hbi, hEq, hq2, q0, minmax, show IntKind.i64.bits = 64 from rfl, show IntKind.i64.wrap 7 = 7 from rfl, show IntKind.i64.wrap 15 = 15 from rfl, show IntKind.i64.wrap 31 = 31 from rfl, show IntKind.i64.wrap 63 = 63 from rfl]
    have q0b : (q == 0) = false := by simpa using q0
    by_cases q1 : q = -1
    · refine Tells.of (o := ⟨.normal, [(6, .bool true)], [some (vaO v), some (tyO t)]⟩) ⟨0, ?_⟩ ⟨rfl, rfl, .inl (by simp [q1])⟩
      simp (maxSteps := 2000000) -implicitDefEqProofs [-getElem?_pos, List.getElem?_cons_zero, List.getElem?_cons_succ, go_sem, eqV, plen, loadV, storeV, -eqV, vaO, tyO, Va.pay, ckFr, k1, mkVa, hbi, hEq, hq2, q1, minmax, show IntKind.i64.bits = 64 from rfl, show IntKind.i64.wrap 7 = 7 from rfl, show IntKind.i64.wrap 15 = 15 from rfl, show IntKind.i64.wrap 31 = 31 from rfl, show IntKind.i64.wrap 63 = 63 from rfl]
    have q1b : (q == -1) = false := by simpa using q1
    refine Tells.of (o := ⟨.normal, [(6, .bool false)], [some (vaO v), some (tyO t)]⟩) ⟨0, ?_⟩ ⟨rfl, rfl, .inl (by simp [q0, q1])⟩
    simp (maxSteps := 2000000) -implicitDefEqProofs [-getElem?_pos, List.getElem?_cons_zero, List.getElem?_cons_succ, go_sem, eqV, plen, loadV, storeV, -eqV, vaO, tyO, Va.pay, ckFr, k1, mkVa, hbi, hEq, hq2, q0b, q1b, minmax, show IntKind.i64.bits = 64 from rfl, show IntKind.i64.wrap 7 = 7 from rfl, show IntKind.i64.wrap 15 = 15 from rfl, show IntKind.i64.wrap 31 = 31 from rfl, show IntKind.i64.wrap 63 = 63 from rfl]
  · have hq := fdiv_q (i := v.i) (m := 31) _ rfl
    have e1 : (decide (8 ≤ 4) || decide (-(2 ^ (8 * 4 - 1)) ≤ v.i ∧ v.i < 2 ^ (8 * 4 - 1))) = ((v.i.fdiv 2147483648 == 0) || (v.i.fdiv 2147483648 == -1)) := by rw [show (2147483648 : Int) = 2 ^ 31 from rfl, hq]; simp
    rw [e1]
    clear e1 hq
    generalize hq2 : v.i.fdiv 2147483648 = q at *
    by_cases q0 : q = 0
    · refine Tells.of (o := ⟨.normal, [(6, .bool true)], [some (vaO v), some (tyO t)]⟩) ⟨0, ?_⟩ ⟨rfl, rfl, .inl (by simp [q0])⟩
      simp (maxSteps := 2000000) -implicitDefEqProofs [-getElem?_pos, List.getElem?_cons_zero, List.getElem?_cons_succ, go_sem, eqV, plen, loadV, storeV, -eqV, vaO, tyO, Va.pay, ckFr, k1, mkVa, hbi, hEq, hq2, q0, minmax, show IntKind.i64.bits = 64 from rfl, show IntKind.i64.wrap 7 = 7 from rfl, show IntKind.i64.wrap 15 = 15 from rfl, show IntKind.i64.wrap 31 = 31 from rfl, show IntKind.i64.wrap 63 = 63 from rfl]
    have q0b : (q == 0) = false := by simpa using q0
    by_cases q1 : q = -1
    · refine Tells.of (o := ⟨.normal, [(6, .bool true)], [some (vaO v), some (tyO t)]⟩) ⟨0, ?_⟩ ⟨rfl, rfl, .inl (by simp [q1])⟩
      simp (maxSteps := 2000000) -implicitDefEqProofs [-getElem?_pos, List.getElem?_cons_zero, List.getElem?_cons_succ, go_sem, eqV, plen, loadV, storeV, -eqV, vaO, tyO, Va.pay, ckFr, k1, mkVa, hbi, hEq, hq2, q1, minmax, show IntKind.i64.bits = 64 from rfl, show IntKind.i64.wrap 7 = 7 from rfl, show IntKind.i64.wrap 15 = 15 from rfl, show IntKind.i64.wrap 31 = 31 from rfl, show IntKind.i64.wrap 63 = 63 from rfl]
    have q1b : (q == -1) = false := by simpa using q1
    refine Tells.of (o := ⟨.normal, [(6, .bool false)], [some (vaO v), some (tyO t)]⟩) ⟨0, ?_⟩ ⟨rfl, rfl, .inl (by simp [q0, q1])⟩
    simp (maxSteps := 2000000) -implicitDefEqProofs [-getElem?_pos, List.getElem?_cons_zero, List.getElem?_cons_succ, go_sem, eqV, plen, loadV, storeV, -eqV, vaO, tyO, Va.pay, ckFr, k1, mkVa, hbi, hEq, hq2, q0b, q1b, minmax, show IntKind.i64.bits = 64 from rfl, show IntKind.i64.wrap 7 = 7 from rfl, show IntKind.i64.wrap 15 = 15 from rfl, show IntKind.i64.wrap 31 = 31 from rfl, show IntKind.i64.wrap 63 = 63 from rfl]
  · have e1 : (decide (8 ≤ 8) || decide (-(2 ^ (8 * 8 - 1)) ≤ v.i ∧ v.i < 2 ^ (8 * 8 - 1))) = true := by simp
    rw [e1]
    refine Tells.of (o := ⟨.normal, [(6, .bool true)], [some (vaO v), some (tyO t)]⟩) ⟨0, ?_⟩ ⟨rfl, rfl, .inl (by simp)⟩
    simp (maxSteps := 2000000) -implicitDefEqProofs [-getElem?_pos, List.getElem?_cons_zero, List.getElem?_cons_succ, go_sem, eqV, plen, loadV, storeV, -eqV, vaO, tyO, Va.pay, ckFr, k1, mkVa, hbi, hEq, minmax, show IntKind.i64.bits = 64 from rfl, show IntKind.i64.wrap 7 = 7 from rfl, show IntKind.i64.wrap 15 = 15 from rfl, show IntKind.i64.wrap 31 = 31 from rfl, show IntKind.i64.wrap 63 = 63 from rfl]

end Go.Proofs.Ytbmddnokokoofaa
