/- Walks: the check's choice. -/
import Derived.Test.YtbmddnokokoofaaV3
namespace Go.Proofs.Ytbmddnokokoofaa
open Go.AM
set_option linter.unusedSimpArgs false
set_option linter.unusedVariables false

set_option maxRecDepth 100000 in
set_option maxHeartbeats 4000000 in
theorem ck234 (v : Va) (t : Ty) (k : Int) (n : Nat) (hbd : -1 ≤ k ∧ k ≤ 7) (hk0 : ¬ k < 0) (hsz : k = 1 ∨ k = 2 ∨ k = 3 ∨ k = 4 → n = 1 ∨ n = 2 ∨ n = 4 ∨ n = 8) (hF : evT X 38 [.agg v.w.pay, .int .u8 (t.t : Nat)] [some (vaO v), some (tyO t)] = some (.bool (fin v.w t.t), [some (vaO v), some (tyO t)])) (k234 : v.k = 2 ∨ v.k = 3 ∨ v.k = 4) : ∃ code, ckO = some code ∧
    Tells (Goes (ckP v t k n)) X (evT X) 19 0 code (ckFr k (v.k == k) (8 * n)) [some (vaO v), some (tyO t)] := by
  refine ⟨_, rfl, ?_⟩
  unfold ckP okVk
  have k1 : ¬ v.k = 1 := by omega
  rw [if_neg k1, if_pos k234]
  by_cases hk1 : k = v.k
  case neg =>
    have hkb : (v.k == k) = false := by simp; omega
    rw [decide_eq_false hk1]
    refine Tells.of (o := ⟨.normal, [(6, .bool false)], [some (vaO v), some (tyO t)]⟩) ⟨0, ?_⟩ ⟨rfl, rfl, .inl rfl⟩
    generalize 8 * n = n8 at *
    rcases k234 with kv | kv | kv
    · rw [kv] at hkb
      simp (maxSteps := 2000000) -implicitDefEqProofs [-getElem?_pos, List.getElem?_cons_zero, List.getElem?_cons_succ, go_sem, eqV, plen, loadV, storeV, vaO, tyO, Va.pay, ckFr, kv, hkb]
    · rw [kv] at hkb
      simp (maxSteps := 2000000) -implicitDefEqProofs [-getElem?_pos, List.getElem?_cons_zero, List.getElem?_cons_succ, go_sem, eqV, plen, loadV, storeV, vaO, tyO, Va.pay, ckFr, kv, hkb]
    · rw [kv] at hkb
      simp (maxSteps := 2000000) -implicitDefEqProofs [-getElem?_pos, List.getElem?_cons_zero, List.getElem?_cons_succ, go_sem, eqV, plen, loadV, storeV, vaO, tyO, Va.pay, ckFr, kv, hkb]
  subst hk1
  have hn := hsz (by omega)
  have hEq := fun H xo yo => eqVa v { k := v.k, b := v.b } H xo yo
  have hbi := bdVb v.k v.b
  generalize hpz : (({ k := v.k, b := v.b } : Va).pay) = pz at *
  generalize decide (v = { k := v.k, b := v.b }) = e at *
  simp only [Va.pay] at hEq
  cases e with
  | false =>
    refine Tells.of (o := ⟨.normal, [(6, .bool false)], [some (vaO v), some (tyO t)]⟩) ⟨0, ?_⟩ ⟨rfl, rfl, .inl (by simp)⟩
    generalize 8 * n = n8 at *
    rcases k234 with kv | kv | kv
    · rw [kv] at hEq hbi
      simp (maxSteps := 2000000) -implicitDefEqProofs [-getElem?_pos, List.getElem?_cons_zero, List.getElem?_cons_succ, go_sem, eqV, plen, loadV, storeV, -eqV, vaO, tyO, Va.pay, ckFr, kv, mkVa, hbi, hEq]
    · rw [kv] at hEq hbi
      simp (maxSteps := 2000000) -implicitDefEqProofs [-getElem?_pos, List.getElem?_cons_zero, List.getElem?_cons_succ, go_sem, eqV, plen, loadV, storeV, -eqV, vaO, tyO, Va.pay, ckFr, kv, mkVa, hbi, hEq]
    · rw [kv] at hEq hbi
      simp (maxSteps := 2000000) -implicitDefEqProofs [-getElem?_pos, List.getElem?_cons_zero, List.getElem?_cons_succ, go_sem, eqV, plen, loadV, storeV, -eqV, vaO, tyO, Va.pay, ckFr, kv, mkVa, hbi, hEq]
  | true =>
  unfold okB
  clear hpz
  have main : ∀ kk : Int, v.k = kk → (kk = 2 ∨ kk = 3 ∨ kk = 4) → True := fun _ _ _ => trivial
  rcases hn with rfl | rfl | rfl | rfl
  · have e1 : (decide (8 ≤ 1) || decide (v.b < 2 ^ (8 * 1))) = ((v.b / 256 : Nat) == 0) := by rw [Bool.eq_iff_iff]; first | (simp; done) | (simp; omega)
    rw [e1]
    clear e1
    have hd : Int.fdiv (v.b : Int) 256 = ((v.b / 256 : Nat) : Int) := by
      rw [Int.fdiv_eq_ediv_of_nonneg _ (by decide)]; exact (Int.natCast_ediv _ _).symm
    generalize v.b / 256 = q at *
    have hqb : ((q : Int) == 0) = (q == 0) := by rw [Bool.eq_iff_iff]; simp
    generalize hqq : (q == 0) = qb at *
    refine Tells.of (o := ⟨.normal, [(6, .bool qb)], [some (vaO v), some (tyO t)]⟩) ⟨0, ?_⟩ ⟨rfl, rfl, .inl (by simp)⟩
    rcases k234 with kv | kv | kv
    · rw [kv] at hEq hbi
      simp (maxSteps := 2000000) -implicitDefEqProofs [-getElem?_pos, List.getElem?_cons_zero, List.getElem?_cons_succ, go_sem, eqV, plen, loadV, storeV, -eqV, vaO, tyO, Va.pay, ckFr, kv, mkVa, hbi, hEq, hd, hqb, show IntKind.u64.bits = 64 from rfl]
    · rw [kv] at hEq hbi
      simp (maxSteps := 2000000) -implicitDefEqProofs [-getElem?_pos, List.getElem?_cons_zero, List.getElem?_cons_succ, go_sem, eqV, plen, loadV, storeV, -eqV, vaO, tyO, Va.pay, ckFr, kv, mkVa, hbi, hEq, hd, hqb, show IntKind.u64.bits = 64 from rfl]
    · rw [kv] at hEq hbi
      simp (maxSteps := 2000000) -implicitDefEqProofs [-getElem?_pos, List.getElem?_cons_zero, List.getElem?_cons_succ, go_sem, eqV, plen, loadV, storeV, -eqV, vaO, tyO, Va.pay, ckFr, kv, mkVa, hbi, hEq, hd, hqb, show IntKind.u64.bits = 64 from rfl]
  · have e1 : (decide (8 ≤ 2) || decide (v.b < 2 ^ (8 * 2))) = ((v.b / 65536 : Nat) == 0) := by rw [Bool.eq_iff_iff]; first | (simp; done) | (simp; omega)
    rw [e1]
    clear e1
    have hd : Int.fdiv (v.b : Int) 65536 = ((v.b / 65536 : Nat) : Int) := by
      rw [Int.fdiv_eq_ediv_of_nonneg _ (by decide)]; exact (Int.natCast_ediv _ _).symm
    generalize v.b / 65536 = q at *
    have hqb : ((q : Int) == 0) = (q == 0) := by rw [Bool.eq_iff_iff]; simp
    generalize hqq : (q == 0) = qb at *
    refine Tells.of (o := ⟨.normal, [(6, .bool qb)], [some (vaO v), some (tyO t)]⟩) ⟨0, ?_⟩ ⟨rfl, rfl, .inl (by simp)⟩
    rcases k234 with kv | kv | kv
    · rw [kv] at hEq hbi
      simp (maxSteps := 2000000) -implicitDefEqProofs [-getElem?_pos, List.getElem?_cons_zero, List.getElem?_cons_succ, go_sem, eqV, plen, loadV, storeV, -eqV, vaO, tyO, Va.pay, ckFr, kv, mkVa, hbi, hEq, hd, hqb, show IntKind.u64.bits = 64 from rfl]
    · rw [kv] at hEq hbi
      simp (maxSteps := 2000000) -implicitDefEqProofs [-getElem?_pos, List.getElem?_cons_zero, List.getElem?_cons_succ, go_sem, eqV, plen, loadV, storeV, -eqV, vaO, tyO, Va.pay, ckFr, kv, mkVa, hbi, hEq, hd, hqb, show IntKind.u64.bits = 64 from rfl]
    · rw [kv] at hEq hbi
      simp (maxSteps := 2000000) -implicitDefEqProofs [-getElem?_pos, List.getElem?_cons_zero, List.getElem?_cons_succ, go_sem, eqV, plen, loadV, storeV, -eqV, vaO, tyO, Va.pay, ckFr, kv, mkVa, hbi, hEq, hd, hqb, show IntKind.u64.bits = 64 from rfl]
  · have e1 : (decide (8 ≤ 4) || decide (v.b < 2 ^ (8 * 4))) = ((v.b / 4294967296 : Nat) == 0) := by rw [Bool.eq_iff_iff]; first | (simp; done) | (simp; omega)
    rw [e1]
    clear e1
    have hd : Int.fdiv (v.b : Int) 4294967296 = ((v.b / 4294967296 : Nat) : Int) := by
      rw [Int.fdiv_eq_ediv_of_nonneg _ (by decide)]; exact (Int.natCast_ediv _ _).symm
    generalize v.b / 4294967296 = q at *
    have hqb : ((q : Int) == 0) = (q == 0) := by rw [Bool.eq_iff_iff]; simp
    generalize hqq : (q == 0) = qb at *
    refine Tells.of (o := ⟨.normal, [(6, .bool qb)], [some (vaO v), some (tyO t)]⟩) ⟨0, ?_⟩ ⟨rfl, rfl, .inl (by simp)⟩
    rcases k234 with kv | kv | kv
    · rw [kv] at hEq hbi
      simp (maxSteps := 2000000) -implicitDefEqProofs [-getElem?_pos, List.getElem?_cons_zero, List.getElem?_cons_succ, go_sem, eqV, plen, loadV, storeV, -eqV, vaO, tyO, Va.pay, ckFr, kv, mkVa, hbi, hEq, hd, hqb, show IntKind.u64.bits = 64 from rfl]
    · rw [kv] at hEq hbi
      simp (maxSteps := 2000000) -implicitDefEqProofs [-getElem?_pos, List.getElem?_cons_zero, List.getElem?_cons_succ, go_sem, eqV, plen, loadV, storeV, -eqV, vaO, tyO, Va.pay, ckFr, kv, mkVa, hbi, hEq, hd, hqb, show IntKind.u64.bits = 64 from rfl]
    · rw [kv] at hEq hbi
      simp (maxSteps := 2000000) -implicitDefEqProofs [-getElem?_pos, List.getElem?_cons_zero, List.getElem?_cons_succ, go_sem, eqV, plen, loadV, storeV, -eqV, vaO, tyO, Va.pay, ckFr, kv, mkVa, hbi, hEq, hd, hqb, show IntKind.u64.bits = 64 from rfl]
  · have e1 : (decide (8 ≤ 8) || decide (v.b < 2 ^ (8 * 8))) = true := by simp
    rw [e1]
    refine Tells.of (o := ⟨.normal, [(6, .bool true)], [some (vaO v), some (tyO t)]⟩) ⟨0, ?_⟩ ⟨rfl, rfl, .inl (by simp)⟩
    rcases k234 with kv | kv | kv
    · rw [kv] at hEq hbi
      simp (maxSteps := 2000000) -implicitDefEqProofs [-getElem?_pos, List.getElem?_cons_zero, List.getElem?_cons_succ, go_sem, eqV, plen, loadV, storeV, -eqV, vaO, tyO, Va.pay, ckFr, kv, mkVa, hbi, hEq]
    · rw [kv] at hEq hbi
      simp (maxSteps := 2000000) -implicitDefEqProofs [-getElem?_pos, List.getElem?_cons_zero, List.getElem?_cons_succ, go_sem, eqV, plen, loadV, storeV, -eqV, vaO, tyO, Va.pay, ckFr, kv, mkVa, hbi, hEq]
    · rw [kv] at hEq hbi
      simp (maxSteps := 2000000) -implicitDefEqProofs [-getElem?_pos, List.getElem?_cons_zero, List.getElem?_cons_succ, go_sem, eqV, plen, loadV, storeV, -eqV, vaO, tyO, Va.pay, ckFr, kv, mkVa, hbi, hEq]

end Go.Proofs.Ytbmddnokokoofaa
