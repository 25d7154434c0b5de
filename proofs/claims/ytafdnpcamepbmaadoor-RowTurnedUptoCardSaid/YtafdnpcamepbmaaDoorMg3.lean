/- V3b to VA: texts of this claim, one behind the other; what each shows stands at its head. -/
import Derived.Test.YtafdnpcamepbmaaDoorMg2
/- Walks: the check's choice. -/
namespace Go.Proofs.YtafdnpcamepbmaaDoor
open Go.AM
set_option linter.unusedSimpArgs false
set_option linter.unusedVariables false

set_option maxRecDepth 100000 in
set_option maxHeartbeats 4000000 in
theorem ck234 (v : Va) (t : Ty) (k : Int) (n : Nat) (hbd : -1 ≤ k ∧ k ≤ 7) (hk0 : ¬ k < 0) (hsz : k = 1 ∨ k = 2 ∨ k = 3 ∨ k = 4 → n = 1 ∨ n = 2 ∨ n = 4 ∨ n = 8) (hF : evT X 32 [.agg v.w.pay, .int .u8 (t.t : Nat)] [some (vaO v), some (tyO t)] = some (.bool (fin v.w t.t), [some (vaO v), some (tyO t)])) (k234 : v.k = 2 ∨ v.k = 3 ∨ v.k = 4) : ∃ code, ckO = some code ∧
    Tells (Goes (ckP v t k n)) X (evT X) 19 0 code (ckFr k (v.k == k) (8 * n)) [some (vaO v), some (tyO t)] := by
  refine ⟨_, rfl, ?_⟩
  unfold ckP okVk
  have k1 : ¬ v.k = 1 := by omega
  rw [if_neg k1, if_pos k234]
  by_cases hk1 : k = v.k
  case neg =>
    have hkb : (v.k == k) = false := by simp; omega
    rw [decide_eq_false hk1]
    refine Tells.of (o := ⟨.normal, [(6, .bool false)], [some (vaO v), some (tyO t)]⟩) ⟨0, ?_⟩ ⟨rfl, rfl, .inl rfl⟩
    generalize 8 * n = n8 at *
    rcases k234 with kv | kv | kv
    · rw [kv] at hkb
      simp (maxSteps := 2000000) -implicitDefEqProofs [-getElem?_pos, List.getElem?_cons_zero, List.getElem?_cons_succ, go_sem, eqV, plen, loadV, storeV, vaO, tyO, Va.pay, ckFr, kv, hkb]
    · rw [kv] at hkb
      simp (maxSteps := 2000000) -implicitDefEqProofs [-getElem?_pos, List.getElem?_cons_zero, List.getElem?_cons_succ, go_sem, eqV, plen, loadV, storeV, vaO, tyO, Va.pay, ckFr, kv, hkb]
    · rw [kv] at hkb
      simp (maxSteps := 2000000) -implicitDefEqProofs [-getElem?_pos, List.getElem?_cons_zero, List.getElem?_cons_succ, go_sem, eqV, plen, loadV, storeV, vaO, tyO, Va.pay, ckFr, kv, hkb]
  subst hk1
  have hn := hsz (by omega)
  have hEq := fun H xo yo => eqVa v { k := v.k, b := v.b } H xo yo
  have hbi := bdVb v.k v.b
  generalize hpz : (({ k := v.k, b := v.b } : Va).pay) = pz at *
  generalize decide (v = { k := v.k, b := v.b }) = e at *
  simp only [Va.pay] at hEq
  cases e with
  | false =>
    refine Tells.of (o := ⟨.normal, [(6, .bool false)], [some (vaO v), some (tyO t)]⟩) ⟨0, ?_⟩ ⟨rfl, rfl, .inl (by simp)⟩
    generalize 8 * n = n8 at *
    rcases k234 with kv | kv | kv
    · rw [kv] at hEq hbi
      simp (maxSteps := 2000000) -implicitDefEqProofs [-getElem?_pos, List.getElem?_cons_zero, List.getElem?_cons_succ, go_sem, eqV, plen, loadV, storeV, -eqV, vaO, tyO, Va.pay, ckFr, kv, mkVa, hbi, hEq]
    · rw [kv] at hEq hbi
      simp (maxSteps := 2000000) -implicitDefEqProofs [-getElem?_pos, List.getElem?_cons_zero, List.getElem?_cons_succ, go_sem, eqV, plen, loadV, storeV, -eqV, vaO, tyO, Va.pay, ckFr, kv, mkVa, hbi, hEq]
    · rw [kv] at hEq hbi
      simp (maxSteps := 2000000) -implicitDefEqProofs [-getElem?_pos, List.getElem?_cons_zero, List.getElem?_cons_succ, go_sem, eqV, plen, loadV, storeV, -eqV, vaO, tyO, Va.pay, ckFr, kv, mkVa, hbi, hEq]
  | true =>
  unfold okB
  clear hpz
  have main : ∀ kk : Int, v.k = kk → (kk = 2 ∨ kk = 3 ∨ kk = 4) → True := fun _ _ _ => trivial
  rcases hn with rfl | rfl | rfl | rfl
  · have e1 : (decide (8 ≤ 1) || decide (v.b < 2 ^ (8 * 1))) = ((v.b / 256 : Nat) == 0) := by rw [Bool.eq_iff_iff]; first | (simp; done) | (simp; omega)
    rw [e1]
    clear e1
    have hd : Int.fdiv (v.b : Int) 256 = ((v.b / 256 : Nat) : Int) := by
      rw [Int.fdiv_eq_ediv_of_nonneg _ (by decide)]; exact (Int.natCast_ediv _ _).symm
    generalize v.b / 256 = q at *
    have hqb : ((q : Int) == 0) = (q == 0) := by rw [Bool.eq_iff_iff]; simp
    generalize hqq : (q == 0) = qb at *
    refine Tells.of (o := ⟨.normal, [(6, .bool qb)], [some (vaO v), some (tyO t)]⟩) ⟨0, ?_⟩ ⟨rfl, rfl, .inl (by simp)⟩
    rcases k234 with kv | kv | kv
    · rw [kv] at hEq hbi
      simp (maxSteps := 2000000) -implicitDefEqProofs [-getElem?_pos, List.getElem?_cons_zero, List.getElem?_cons_succ, go_sem, eqV, plen, loadV, storeV, -eqV, vaO, tyO, Va.pay, ckFr, kv, mkVa, hbi, hEq, hd, hqb, show IntKind.u64.bits = 64 from rfl]
    · rw [kv] at hEq hbi
      simp (maxSteps := 2000000) -implicitDefEqProofs [-getElem?_pos, List.getElem?_cons_zero, List.getElem?_cons_succ, go_sem, eqV, plen, loadV, storeV, -eqV, vaO, tyO, Va.pay, ckFr, kv, mkVa, hbi, hEq, hd, hqb, show IntKind.u64.bits = 64 from rfl]
    · rw [kv] at hEq hbi
      simp (maxSteps := 2000000) -implicitDefEqProofs [-getElem?_pos, List.getElem?_cons_zero, List.getElem?_cons_succ, go_sem, eqV, plen, loadV, storeV, -eqV, vaO, tyO, Va.pay, ckFr, kv, mkVa, hbi, hEq, hd, hqb, show IntKind.u64.bits = 64 from rfl]
  · have e1 : (decide (8 ≤ 2) || decide (v.b < 2 ^ (8 * 2))) = ((v.b / 65536 : Nat) == 0) := by rw [Bool.eq_iff_iff]; first | (simp; done) | (simp; omega)
    rw [e1]
    clear e1
    have hd : Int.fdiv (v.b : Int) 65536 = ((v.b / 65536 : Nat) : Int) := by
      rw [Int.fdiv_eq_ediv_of_nonneg _ (by decide)]; exact (Int.natCast_ediv _ _).symm
    generalize v.b / 65536 = q at *
    have hqb : ((q : Int) == 0) = (q == 0) := by rw [Bool.eq_iff_iff]; simp
    generalize hqq : (q == 0) = qb at *
    refine Tells.of (o := ⟨.normal, [(6, .bool qb)], [some (vaO v), some (tyO t)]⟩) ⟨0, ?_⟩ ⟨rfl, rfl, .inl (by simp)⟩
    rcases k234 with kv | kv | kv
    · rw [kv] at hEq hbi
      simp (maxSteps := 2000000) -implicitDefEqProofs [-getElem?_pos, List.getElem?_cons_zero, List.getElem?_cons_succ, go_sem, eqV, plen, loadV, storeV, -eqV, vaO, tyO, Va.pay, ckFr, kv, mkVa, hbi, hEq, hd, hqb, show IntKind.u64.bits = 64 from rfl]
    · rw [kv] at hEq hbi
      simp (maxSteps := 2000000) -implicitDefEqProofs [-getElem?_pos, List.getElem?_cons_zero, List.getElem?_cons_succ, go_sem, eqV, plen, loadV, storeV, -eqV, vaO, tyO, Va.pay, ckFr, kv, mkVa, hbi, hEq, hd, hqb, show IntKind.u64.bits = 64 from rfl]
    · rw [kv] at hEq hbi
      simp (maxSteps := 2000000) -implicitDefEqProofs [-getElem?_pos, List.getElem?_cons_zero, List.getElem?_cons_succ, go_sem, eqV, plen, loadV, storeV, -eqV, vaO, tyO, Va.pay, ckFr, kv, mkVa, hbi, hEq, hd, hqb, show IntKind.u64.bits = 64 from rfl]
  · have e1 : (decide (8 ≤ 4) || decide (v.b < 2 ^ (8 * 4))) = ((v.b / 4294967296 : Nat) == 0) := by rw [Bool.eq_iff_iff]; first | (simp; done) | (simp; omega)
    rw [e1]
    clear e1
    have hd : Int.fdiv (v.b : Int) 4294967296 = ((v.b / 4294967296 : Nat) : Int) := by
      rw [Int.fdiv_eq_ediv_of_nonneg _ (by decide)]; exact (Int.natCast_ediv _ _).symm
    generalize v.b / 4294967296 = q at *
    have hqb : ((q : Int) == 0) = (q == 0) := by rw [Bool.eq_iff_iff]; simp
    generalize hqq : (q == 0) = qb at *
    refine Tells.of (o := ⟨.normal, [(6, .bool qb)], [some (vaO v), some (tyO t)]⟩) ⟨0, ?_⟩ ⟨rfl, rfl, .inl (by simp)⟩
    rcases k234 with kv | kv | kv
    · rw [kv] at hEq hbi
      simp (maxSteps := 2000000) -implicitDefEqProofs [-getElem?_pos, List.getElem?_cons_zero, List.getElem?_cons_succ, go_sem, eqV, plen, loadV, storeV, -eqV, vaO, tyO, Va.pay, ckFr, kv, mkVa, hbi, hEq, hd, hqb, show IntKind.u64.bits = 64 from rfl]
    · rw [kv] at hEq hbi
      simp (maxSteps := 2000000) -implicitDefEqProofs [-getElem?_pos, List.getElem?_cons_zero, List.getElem?_cons_succ, go_sem, eqV, plen, loadV, storeV, -eqV, vaO, tyO, Va.pay, ckFr, kv, mkVa, hbi, hEq, hd, hqb, show IntKind.u64.bits = 64 from rfl]
    · rw [kv] at hEq hbi
      simp (maxSteps := 2000000) -implicitDefEqProofs [-getElem?_pos, List.getElem?_cons_zero, List.getElem?_cons_succ, go_sem, eqV, plen, loadV, storeV, -eqV, vaO, tyO, Va.pay, ckFr, kv, mkVa, hbi, hEq, hd, hqb, show IntKind.u64.bits = 64 from rfl]
  · have e1 : (decide (8 ≤ 8) || decide (v.b < 2 ^ (8 * 8))) = true := by simp
    rw [e1]
    refine Tells.of (o := ⟨.normal, [(6, .bool true)], [some (vaO v), some (tyO t)]⟩) ⟨0, ?_⟩ ⟨rfl, rfl, .inl (by simp)⟩
    rcases k234 with kv | kv | kv
    · rw [kv] at hEq hbi
      simp (maxSteps := 2000000) -implicitDefEqProofs [-getElem?_pos, List.getElem?_cons_zero, List.getElem?_cons_succ, go_sem, eqV, plen, loadV, storeV, -eqV, vaO, tyO, Va.pay, ckFr, kv, mkVa, hbi, hEq]
    · rw [kv] at hEq hbi
      simp (maxSteps := 2000000) -implicitDefEqProofs [-getElem?_pos, List.getElem?_cons_zero, List.getElem?_cons_succ, go_sem, eqV, plen, loadV, storeV, -eqV, vaO, tyO, Va.pay, ckFr, kv, mkVa, hbi, hEq]
    · rw [kv] at hEq hbi
      simp (maxSteps := 2000000) -implicitDefEqProofs [-getElem?_pos, List.getElem?_cons_zero, List.getElem?_cons_succ, go_sem, eqV, plen, loadV, storeV, -eqV, vaO, tyO, Va.pay, ckFr, kv, mkVa, hbi, hEq]

end Go.Proofs.YtafdnpcamepbmaaDoor

/- Walks: the check's choice. -/
namespace Go.Proofs.YtafdnpcamepbmaaDoor
open Go.AM
set_option linter.unusedSimpArgs false
set_option linter.unusedVariables false

set_option maxRecDepth 100000 in
set_option maxHeartbeats 4000000 in
theorem ckR (v : Va) (t : Ty) (k : Int) (n : Nat) (hbd : -1 ≤ k ∧ k ≤ 7) (hk0 : ¬ k < 0) (hsz : k = 1 ∨ k = 2 ∨ k = 3 ∨ k = 4 → n = 1 ∨ n = 2 ∨ n = 4 ∨ n = 8) (hF : evT X 32 [.agg v.w.pay, .int .u8 (t.t : Nat)] [some (vaO v), some (tyO t)] = some (.bool (fin v.w t.t), [some (vaO v), some (tyO t)])) (k1 : ¬ v.k = 1) (k234 : ¬ (v.k = 2 ∨ v.k = 3 ∨ v.k = 4)) : ∃ code, ckO = some code ∧
    Tells (Goes (ckP v t k n)) X (evT X) 19 0 code (ckFr k (v.k == k) (8 * n)) [some (vaO v), some (tyO t)] := by
  refine ⟨_, rfl, ?_⟩
  unfold ckP okVk
  have k1b : (v.k == 1) = false := by simpa using k1
  rw [if_neg k1]
  have k2b : (v.k == 2) = false := by simp; omega
  have k3b : (v.k == 3) = false := by simp; omega
  have k4b : (v.k == 4) = false := by simp; omega
  rw [if_neg k234]
  generalize 8 * n = n8 at *
  by_cases k56 : v.k = 5 ∨ v.k = 6
  · rw [if_pos k56]
    by_cases hk1 : k = v.k
    case neg =>
      have hkb : (v.k == k) = false := by simp; omega
      rw [decide_eq_false hk1]
      refine Tells.of (o := ⟨.normal, [(6, .bool false)], [some (vaO v), some (tyO t)]⟩) ⟨0, ?_⟩ ⟨rfl, rfl, .inl rfl⟩
      rcases k56 with kv | kv
      · rw [kv] at hkb
        simp (maxSteps := 2000000) -implicitDefEqProofs [-getElem?_pos, List.getElem?_cons_zero, List.getElem?_cons_succ, go_sem, eqV, plen, loadV, storeV, vaO, tyO, Va.pay, ckFr, kv, hkb]
      · rw [kv] at hkb
        simp (maxSteps := 2000000) -implicitDefEqProofs [-getElem?_pos, List.getElem?_cons_zero, List.getElem?_cons_succ, go_sem, eqV, plen, loadV, storeV, vaO, tyO, Va.pay, ckFr, kv, hkb]
    subst hk1
    have hEq := fun H xo yo => eqVa v { k := v.k, w := v.w } H xo yo
    have hbi := bdVw v.k v.w
    generalize hpz : (({ k := v.k, w := v.w } : Va).pay) = pz at *
    generalize decide (v = { k := v.k, w := v.w }) = e at *
    clear hpz
    simp only [Va.pay] at hEq
    simp only [Wh.pay] at hbi
    cases e with
    | false =>
      refine Tells.of (o := ⟨.normal, [(6, .bool false)], [some (vaO v), some (tyO t)]⟩) ⟨0, ?_⟩ ⟨rfl, rfl, .inl (by simp)⟩
      rcases k56 with kv | kv
      · rw [kv] at hEq hbi
        simp (maxSteps := 2000000) -implicitDefEqProofs [-getElem?_pos, List.getElem?_cons_zero, List.getElem?_cons_succ, go_sem, eqV, plen, loadV, storeV, -eqV, vaO, tyO, Va.pay, ckFr, kv, mkVa, mkWh, hbi, hEq]
      · rw [kv] at hEq hbi
        simp (maxSteps := 2000000) -implicitDefEqProofs [-getElem?_pos, List.getElem?_cons_zero, List.getElem?_cons_succ, go_sem, eqV, plen, loadV, storeV, -eqV, vaO, tyO, Va.pay, ckFr, kv, mkVa, mkWh, hbi, hEq]
    | true =>
    refine Tells.of (o := ⟨.normal, [(6, .bool (fin v.w t.t))], [some (vaO v), some (tyO t)]⟩) ⟨0, ?_⟩ ⟨rfl, rfl, .inl (by simp)⟩
    simp only [vaO, tyO, Va.pay, Ty.pay, Wh.pay] at hF
    generalize fin v.w t.t = fb at *
    rcases k56 with kv | kv
    · rw [kv] at hEq hbi hF
      simp (maxSteps := 2000000) -implicitDefEqProofs [-getElem?_pos, List.getElem?_cons_zero, List.getElem?_cons_succ, go_sem, eqV, plen, loadV, storeV, -eqV, vaO, tyO, Va.pay, Ty.pay, ckFr, kv, mkVa, mkWh, hbi, hEq, hF]
    · rw [kv] at hEq hbi hF
      simp (maxSteps := 2000000) -implicitDefEqProofs [-getElem?_pos, List.getElem?_cons_zero, List.getElem?_cons_succ, go_sem, eqV, plen, loadV, storeV, -eqV, vaO, tyO, Va.pay, Ty.pay, ckFr, kv, mkVa, mkWh, hbi, hEq, hF]
  have k5b : (v.k == 5) = false := by simp; omega
  have k6b : (v.k == 6) = false := by simp; omega
  rw [if_neg k56]
  by_cases k7 : v.k = 7
  · rw [if_pos k7]
    by_cases hk1 : k = 7
    case neg =>
      have hkb : ((7 : Int) == k) = false := by simp; omega
      rw [decide_eq_false hk1]
      refine Tells.of (o := ⟨.normal, [(6, .bool false)], [some (vaO v), some (tyO t)]⟩) ⟨0, ?_⟩ ⟨rfl, rfl, .inl rfl⟩
      simp (maxSteps := 2000000) -implicitDefEqProofs [-getElem?_pos, List.getElem?_cons_zero, List.getElem?_cons_succ, go_sem, eqV, plen, loadV, storeV, vaO, tyO, Va.pay, ckFr, k7, hkb]
    subst hk1
    have hEq := fun H xo yo => eqVa v { k := 7, t := v.t } H xo yo
    have hbi := bdVt 7 v.t
    generalize hpz : (({ k := 7, t := v.t } : Va).pay) = pz at *
    generalize decide (v = { k := 7, t := v.t }) = e at *
    clear hpz
    simp only [Va.pay] at hEq
    rw [k7] at hEq
    cases e with
    | false =>
      refine Tells.of (o := ⟨.normal, [(6, .bool false)], [some (vaO v), some (tyO t)]⟩) ⟨0, ?_⟩ ⟨rfl, rfl, .inl (by simp)⟩
      simp (maxSteps := 2000000) -implicitDefEqProofs [-getElem?_pos, List.getElem?_cons_zero, List.getElem?_cons_succ, go_sem, eqV, plen, loadV, storeV, -eqV, vaO, tyO, Va.pay, ckFr, k7, mkVa, hbi, hEq]
    | true =>
    have hl : decide ((v.t.length : Int) ≤ 16777216) = decide (v.t.length ≤ 16777216) := by rw [decide_eq_decide]; omega
    generalize decide (v.t.length ≤ 16777216) = lb at *
    refine Tells.of (o := ⟨.normal, [(6, .bool lb)], [some (vaO v), some (tyO t)]⟩) ⟨0, ?_⟩ ⟨rfl, rfl, .inl (by simp)⟩
    simp (maxSteps := 2000000) -implicitDefEqProofs [-getElem?_pos, List.getElem?_cons_zero, List.getElem?_cons_succ, go_sem, eqV, plen, loadV, storeV, -eqV, vaO, tyO, Va.pay, ckFr, k7, mkVa, hbi, hEq, hl]
  have k7b : (v.k == 7) = false := by simpa using k7
  rw [if_neg k7]
  by_cases k0 : v.k = 0
  · refine Tells.of (o := ⟨.normal, [(6, .bool false)], [some (vaO v), some (tyO t)]⟩) ⟨0, ?_⟩ ⟨rfl, rfl, .inl rfl⟩
    simp (maxSteps := 2000000) -implicitDefEqProofs [-getElem?_pos, List.getElem?_cons_zero, List.getElem?_cons_succ, go_sem, eqV, plen, loadV, storeV, vaO, tyO, Va.pay, ckFr, k0]
  have k0b : (v.k == 0) = false := by simpa using k0
  have hkb : (v.k == k) = false := by simp; omega
  refine Tells.of (o := ⟨.normal, [(2, .ptr 0 0 0 0), (5, .int .i64 k), (6, .bool false), (103, .bool false)], [some (vaO v), some (tyO t)]⟩) ⟨0, ?_⟩ ⟨rfl, rfl, .inr rfl⟩
  simp (maxSteps := 2000000) -implicitDefEqProofs [-getElem?_pos, List.getElem?_cons_zero, List.getElem?_cons_succ, go_sem, eqV, plen, loadV, storeV, vaO, tyO, Va.pay, ckFr, hkb, k0b, k1b, k2b, k3b, k4b, k5b, k6b, k7b]

end Go.Proofs.YtafdnpcamepbmaaDoor

/- Walks: the check of a value, whole. -/
namespace Go.Proofs.YtafdnpcamepbmaaDoor
open Go.AM
set_option linter.unusedSimpArgs false
set_option linter.unusedVariables false

theorem pieceT {O : Option Code} {P : Code → Prop} (h : ∃ code, O = some code ∧ P code) (code' : Code) (h' : O = some code') : P code' := by
  obtain ⟨c, h1, h2⟩ := h
  rw [h'] at h1
  exact (Option.some.inj h1) ▸ h2

section
variable (v : Va) (t : Ty)

set_option maxRecDepth 100000 in
set_option maxHeartbeats 4000000 in
theorem check_code (ht : t.t < 256) (hb : v.b < 18446744073709551616) (hi : -9223372036854775808 ≤ v.i ∧ v.i < 9223372036854775808) : ∃ code, Tryd.f19.body = some code ∧
    Tells (Rets fun fr H => getF fr 4 = .int .i64 (chkV v t)) X (evT X) 19 0 code [(0, .agg v.pay), (1, .agg t.pay)] [] := by
  refine ⟨_, rfl, ?_⟩
  have hK := kind_ev ht [some (vaO v), some (tyO t)]
  have hS := size_ev' ht [some (vaO v), some (tyO t)]
  have hF := fin_ev v.w ht [some (vaO v), some (tyO t)]
  have hbd := kind_bd t.t t.u
  have hsz := size_num (t := t.t) (u := t.u)
  have hn8 : sizeN t.t ≤ 8 := by unfold sizeN; repeat' split
                                 all_goals omega
  unfold chkV okVa
  apply Tells.seq (fr' := [(2, .ptr 0 0 0 0), (3, .ptr 1 0 0 0)]) (H' := [some (vaO v), some (tyO t)])
  · (refine ⟨0, ?_⟩; simp (maxSteps := 2000000) -implicitDefEqProofs [-getElem?_pos, List.getElem?_cons_zero, List.getElem?_cons_succ, go_sem, eqV, plen, loadV, storeV, vaO, tyO, Va.pay, Ty.pay])
  apply Tells.seq (fr' := [(2, .ptr 0 0 0 0), (3, .ptr 1 0 0 0), (5, .int .i64 (kindN t.t t.u))]) (H' := [some (vaO v), some (tyO t)])
  · clear hS hF
    simp only [vaO, tyO, Va.pay, Ty.pay] at hK
    generalize kindN t.t t.u = k at *
    (refine ⟨0, ?_⟩; simp (maxSteps := 2000000) -implicitDefEqProofs [-getElem?_pos, List.getElem?_cons_zero, List.getElem?_cons_succ, go_sem, eqV, plen, loadV, storeV, vaO, tyO, Va.pay, Ty.pay, mkTy, hK])
  clear hK
  generalize kindN t.t t.u = k at *
  by_cases hk0 : k < 0
  · rw [if_pos hk0]
    refine Tells.of (o := ⟨.ret, [(4, .int .i64 2)], [some (vaO v), some (tyO t)]⟩) ?_ ⟨rfl, rfl⟩
    apply Run.seq_out (hne := by simp)
    refine ⟨0, ?_⟩
    simp (maxSteps := 2000000) -implicitDefEqProofs [-getElem?_pos, List.getElem?_cons_zero, List.getElem?_cons_succ, go_sem, eqV, plen, loadV, storeV, hk0]
  rw [if_neg hk0]
  apply Tells.seq (fr' := [(2, .ptr 0 0 0 0), (3, .ptr 1 0 0 0), (5, .int .i64 k), (11, .bool false)]) (H' := [some (vaO v), some (tyO t)])
  · (refine ⟨0, ?_⟩; simp (maxSteps := 2000000) -implicitDefEqProofs [-getElem?_pos, List.getElem?_cons_zero, List.getElem?_cons_succ, go_sem, eqV, plen, loadV, storeV, hk0])
  have hE0 := fun H xo yo => eqVa v {} H xo yo
  by_cases hz : v = {}
  · rw [if_pos hz]
    rw [decide_eq_true hz] at hE0
    refine Tells.of (o := ⟨.ret, [(4, .int .i64 0)], [some (vaO v), some (tyO t)]⟩) ?_ ⟨rfl, rfl⟩
    apply Run.seq_out (hne := by simp)
    apply Run.seq (fr' := [(2, .ptr 0 0 0 0), (3, .ptr 1 0 0 0), (5, .int .i64 k), (14, .bool true)]) (H' := [some (vaO v), some (tyO t)])
    · have hb0 := bdV0
      have hE := hE0
      generalize hpz : (({} : Va).pay) = pz at *
      simp only [Va.pay] at hE
      (refine ⟨0, ?_⟩; simp (maxSteps := 2000000) -implicitDefEqProofs [-getElem?_pos, List.getElem?_cons_zero, List.getElem?_cons_succ, go_sem, eqV, plen, loadV, storeV, -eqV, vaO, tyO, Va.pay, mkVa, hb0, hE])
    refine ⟨0, ?_⟩
    simp (maxSteps := 2000000) -implicitDefEqProofs [-getElem?_pos, List.getElem?_cons_zero, List.getElem?_cons_succ, go_sem, eqV, plen, loadV, storeV]
  rw [if_neg hz]
  rw [decide_eq_false hz] at hE0
  apply Tells.seq (fr' := [(2, .ptr 0 0 0 0), (3, .ptr 1 0 0 0), (5, .int .i64 k), (14, .bool false)]) (H' := [some (vaO v), some (tyO t)])
  · have hb0 := bdV0
    have hE := hE0
    generalize hpz : (({} : Va).pay) = pz at *
    simp only [Va.pay] at hE
    (refine ⟨0, ?_⟩; simp (maxSteps := 2000000) -implicitDefEqProofs [-getElem?_pos, List.getElem?_cons_zero, List.getElem?_cons_succ, go_sem, eqV, plen, loadV, storeV, -eqV, vaO, tyO, Va.pay, mkVa, hb0, hE])
  clear hE0
  apply Tells.seq (fr' := [(2, .ptr 0 0 0 0), (3, .ptr 1 0 0 0), (5, .int .i64 k), (6, .bool (v.k == k))]) (H' := [some (vaO v), some (tyO t)])
  · (refine ⟨0, ?_⟩; simp (maxSteps := 2000000) -implicitDefEqProofs [-getElem?_pos, List.getElem?_cons_zero, List.getElem?_cons_succ, go_sem, eqV, plen, loadV, storeV, vaO, tyO, Va.pay])
  generalize hsn : sizeN t.t = n at *
  have w8 : IntKind.i64.wrap (8 * (n : Int)) = ((8 * n : Nat) : Int) := by rw [wrap_i64 (by omega) (by omega)]; omega
  apply Tells.seq (fr' := ckFr k (v.k == k) (8 * n)) (H' := [some (vaO v), some (tyO t)])
  · simp only [vaO, tyO, Va.pay, Ty.pay] at hS
    generalize 8 * n = n8 at *
    (refine ⟨0, ?_⟩; simp (maxSteps := 2000000) -implicitDefEqProofs [-getElem?_pos, List.getElem?_cons_zero, List.getElem?_cons_succ, go_sem, eqV, plen, loadV, storeV, vaO, tyO, Va.pay, Ty.pay, hS, w8, ckFr])
  clear hS
  have main : ∃ code, ckO = some code ∧ Tells (Goes (ckP v t k n)) X (evT X) 19 0 code (ckFr k (v.k == k) (8 * n)) [some (vaO v), some (tyO t)] := by
    by_cases k1 : v.k = 1
    · exact ck1 v t k n hbd hk0 hsz hF k1
    by_cases k234 : v.k = 2 ∨ v.k = 3 ∨ v.k = 4
    · exact ck234 v t k n hbd hk0 hsz hF k234
    exact ckR v t k n hbd hk0 hsz hF k1 k234
  apply Tells.andThen (P := ckP v t k n)
  · exact pieceT main _ rfl
  rintro fr H ⟨rfl, hfr⟩
  generalize okVk v k n t.t = ok at *
  cases ok with
  | true =>
    refine Tells.of (o := ⟨.ret, [(4, .int .i64 0)], [some (vaO v), some (tyO t)]⟩) ⟨0, ?_⟩ ⟨rfl, rfl⟩
    rcases hfr with rfl | rfl
    · simp (maxSteps := 2000000) -implicitDefEqProofs [-getElem?_pos, List.getElem?_cons_zero, List.getElem?_cons_succ, go_sem, eqV, plen, loadV, storeV, unV]
    · simp (maxSteps := 2000000) -implicitDefEqProofs [-getElem?_pos, List.getElem?_cons_zero, List.getElem?_cons_succ, go_sem, eqV, plen, loadV, storeV, unV]
  | false =>
    refine Tells.of (o := ⟨.ret, [(4, .int .i64 2)], [some (vaO v), some (tyO t)]⟩) ⟨0, ?_⟩ ⟨rfl, rfl⟩
    rcases hfr with rfl | rfl
    · simp (maxSteps := 2000000) -implicitDefEqProofs [-getElem?_pos, List.getElem?_cons_zero, List.getElem?_cons_succ, go_sem, eqV, plen, loadV, storeV, unV]
    · simp (maxSteps := 2000000) -implicitDefEqProofs [-getElem?_pos, List.getElem?_cons_zero, List.getElem?_cons_succ, go_sem, eqV, plen, loadV, storeV, unV]

end

theorem check_ev {v : Va} {t : Ty} (ht : t.t < 256) (hb : v.b < 18446744073709551616) (hi : -9223372036854775808 ≤ v.i ∧ v.i < 9223372036854775808) (H : AM.Heap) : evT X 19 [.agg v.pay, .agg t.pay] H = some (.int .i64 (chkV v t), H) := by
  obtain ⟨code, hcode, o, ⟨he, h4⟩, hr⟩ := check_code v t ht hb hi
  exact evT_eq (Ev1.toldP (l := [.int .i64 (chkV v t)]) (evT_below X) Tryd.func19 hcode (args_va (i := 0) (args_ty (i := 1) (args_nil 2))) (by simp [Va.pay, Ty.pay, idsL, ids]) (by simp [gtag]) rfl rfl rfl ⟨o, ⟨he, by show some [getF o.fr 4] = _; rw [h4]⟩, hr⟩)

end Go.Proofs.YtafdnpcamepbmaaDoor

/- Walks: a value appended. -/
namespace Go.Proofs.YtafdnpcamepbmaaDoor
open Go.AM
set_option linter.unusedSimpArgs false
set_option linter.unusedVariables false

theorem when_ev {H : AM.Heap} {o g tg t : Nat} {ob : AM.Obj} {l : List UInt8} {w : Wh} (ho : H[o]? = some (some ob)) (hw : RwT (.pb l) g tg ob) (hl : l.length ≤ 80000000) (ht : t < 256) (hf : fin w t = true) :
    ∃ ob', RwT (.pb (l ++ whB w t)) (g + 1) tg ob' ∧ evT X 34 [.sl o 0 l.length g, .agg w.pay, .int .u8 (t : Nat)] H = some (.sl o 0 (l ++ whB w t).length (g + 1), upd H o (some ob')) := by
  obtain ⟨code, hcode, ⟨out, ⟨he, ob', g', R, q1, q2, q3, q4⟩, hrun⟩⟩ := when_code l w 4 t { ob with g := 0, tg := 4 } ⟨hw.p, rfl, hw.row, hw.ids, rfl⟩ hl ht hf
  refine ⟨{ ob' with g := g + 1, tg := tg }, ⟨q3.p, rfl, q3.row, q3.ids, rfl⟩, evT_eq ?_⟩
  have := Ev1.rwB (C := X) (f := 34) (H := H) (o := o) (off := 0) (len := l.length) (g := g) (ob := ob) (ob1 := ob') (xs := [.agg w.pay, .int .u8 (t : Nat)]) (ys := [.agg w.pay, .int .u8 (t : Nat)]) (n := 4) (rest := []) (restH := R) (off1 := 0) (n1 := (l ++ whB w t).length) (g1 := g')
    (evT_below X) Tryd.func34 hcode rfl ho hw.g hw.ids (by rw [hw.p]; rfl) (args_wh (i := 1) (args_flat rfl rfl (args_nil 3))) (by simp [Wh.pay, idsL, ids]) rfl rfl (by simp [gtag])
    (by rw [par34]; simpa [coerce, numbered] using hrun) (.inr he) (by show some [getF out.fr 6] = _; rw [q1]) q2 q3.g q3.ids (by rw [q3.p]; rfl) (.inr q3.tg) rfl rfl rfl
  rw [if_neg (by omega), q3.tg, hw.tg] at this
  exact this

/-- a number as it is written -/
def ui (i : Int) : Nat := (IntKind.u64.wrap i).toNat
theorem ui_eq (i : Int) : ((ui i : Nat) : Int) = IntKind.u64.wrap i := by
  unfold ui
  have : 0 ≤ IntKind.u64.wrap i := by
    unfold IntKind.wrap
    simp [IntKind.signed, IntKind.bits]
    exact Int.emod_nonneg _ (by decide)
  omega

/-- a value's bytes -/
def enV (v : Va) (t : Ty) : List UInt8 :=
  if v.k = 1 then leB (sizeN t.t) (ui v.i) else if v.k = 2 ∨ v.k = 3 ∨ v.k = 4 then leB (sizeN t.t) v.b else if v.k = 5 ∨ v.k = 6 then whB v.w t.t else if v.k = 7 then aT v.t else []
/-- may it be written? -/
def apOk (v : Va) (t : Ty) : Bool := decide (chkV v t = 0) && !(decide (v.k = 0) && decide (t.t ≠ 6))
def apV (b : List UInt8) (v : Va) (t : Ty) : List UInt8 × Int := if apOk v t then (b ++ enV v t, 0) else ([], 2)

theorem chk_ok {v : Va} {t : Ty} (h : chkV v t = 0) : v = {} ∨ okVa v t = true := by
  unfold chkV at h
  by_cases h1 : kindN t.t t.u < 0
  · rw [if_pos h1] at h; cases h
  rw [if_neg h1] at h
  by_cases h2 : v = {}
  · exact .inl h2
  rw [if_neg h2] at h
  cases h3 : okVa v t with
  | true => exact .inr rfl
  | false => rw [h3] at h; cases h

/-- what a value that may be holds -/
theorem ok_facts {v : Va} {t : Ty} (h : chkV v t = 0) : ((v.k = 1 ∨ v.k = 2 ∨ v.k = 3 ∨ v.k = 4) → 1 ≤ sizeN t.t ∧ sizeN t.t ≤ 8) ∧ ((v.k = 5 ∨ v.k = 6) → fin v.w t.t = true) ∧ (v.k = 7 → v.t.length ≤ 16777216) ∧ (v.k = 0 ∨ v.k = 1 ∨ v.k = 2 ∨ v.k = 3 ∨ v.k = 4 ∨ v.k = 5 ∨ v.k = 6 ∨ v.k = 7) := by
  rcases chk_ok h with rfl | h
  · refine ⟨fun h => ?_, fun h => ?_, fun h => ?_, .inl rfl⟩
    · exact absurd h (by decide)
    · exact absurd h (by decide)
    · exact absurd h (by decide)
  unfold okVa okVk at h
  by_cases k1 : v.k = 1
  · rw [if_pos k1] at h
    simp only [Bool.and_eq_true, decide_eq_true_eq] at h
    have := size_num (t := t.t) (u := t.u) (.inl h.1)
    exact ⟨fun _ => by omega, fun h => by omega, fun h => by omega, by omega⟩
  rw [if_neg k1] at h
  by_cases k2 : v.k = 2 ∨ v.k = 3 ∨ v.k = 4
  · rw [if_pos k2] at h
    simp only [Bool.and_eq_true, decide_eq_true_eq] at h
    have := size_num (t := t.t) (u := t.u) (by omega)
    exact ⟨fun _ => by omega, fun h => by omega, fun h => by omega, by omega⟩
  rw [if_neg k2] at h
  by_cases k5 : v.k = 5 ∨ v.k = 6
  · rw [if_pos k5] at h
    simp only [Bool.and_eq_true, decide_eq_true_eq] at h
    exact ⟨fun h => by omega, fun _ => h.2.2, fun h => by omega, by omega⟩
  rw [if_neg k5] at h
  by_cases k7 : v.k = 7
  · rw [if_pos k7] at h
    simp only [Bool.and_eq_true, decide_eq_true_eq] at h
    exact ⟨fun h => by omega, fun h => by omega, fun _ => h.2.2, by omega⟩
  rw [if_neg k7] at h
  cases h

section
variable (c : Nat) (b : List UInt8) (v : Va) (t : Ty)

set_option maxRecDepth 100000 in
set_option maxHeartbeats 4000000 in
theorem vappend_code (hc : c = 0 → b = []) (hb : b.length ≤ 30000000) (ht : t.t < 256) (hvb : v.b < 18446744073709551616) (hi : -9223372036854775808 ≤ v.i ∧ v.i < 9223372036854775808) : ∃ code, Tryd.f21.body = some code ∧
    Tells (Rets fun fr H => ∃ o g ob, getF fr 6 = .sl o 0 (apV b v t).1.length g ∧ getF fr 7 = .int .i64 (apV b v t).2 ∧ H[o]? = some (some ob) ∧ Rw (.pb (apV b v t).1) g ob) X (evT X) 21 0 code [(0, .ro c (.pb b) 1), (1, .agg v.pay), (2, .agg t.pay)] [] := by
  refine ⟨_, rfl, ?_⟩
  have hC := check_ev (v := v) (t := t) ht hvb hi [some (vaO v), some (tyO t), some nilB]
  apply Tells.seq (fr' := [(0, .ro c (.pb b) 1), (4, .ptr 0 0 0 0), (5, .ptr 1 0 0 0)]) (H' := [some (vaO v), some (tyO t), some nilB])
  · (refine ⟨0, ?_⟩; simp (maxSteps := 2000000) -implicitDefEqProofs [-getElem?_pos, List.getElem?_cons_zero, List.getElem?_cons_succ, go_sem, eqV, plen, loadV, storeV, vaO, tyO, Va.pay, Ty.pay, assignV, emB])
  apply Tells.assoc
  apply Tells.seq (fr' := [(0, .ro c (.pb b) 1), (4, .ptr 0 0 0 0), (5, .ptr 1 0 0 0), (8, .int .i64 (chkV v t))]) (H' := [some (vaO v), some (tyO t), some nilB])
  · simp only [vaO, tyO, Va.pay, Ty.pay] at hC
    generalize chkV v t = ck at *
    (refine ⟨0, ?_⟩; simp (maxSteps := 2000000) -implicitDefEqProofs [-getElem?_pos, List.getElem?_cons_zero, List.getElem?_cons_succ, go_sem, eqV, plen, loadV, storeV, vaO, tyO, Va.pay, Ty.pay, mkVa, mkTy, hC])
  clear hC
  unfold apV
  cases hok : apOk v t with
  | false =>
    rw [if_neg (by simp)]
    refine Tells.of (o := ⟨.ret, [(6, .sl 3 0 0 0), (7, .int .i64 2)], [some (vaO v), some (tyO t), some nilB, some nilB]⟩) ?_ ⟨rfl, 3, 0, nilB, rfl, rfl, rfl, nilB_rw⟩
    apply Run.seq_out (hne := by simp)
    apply Run.seq (fr' := [(0, .ro c (.pb b) 1), (4, .ptr 0 0 0 0), (5, .ptr 1 0 0 0), (24, .bool true)]) (H' := [some (vaO v), some (tyO t), some nilB])
    · unfold apOk at hok
      by_cases h0 : chkV v t = 0
      · rw [h0] at hok ⊢
        simp only [decide_true, Bool.true_and, Bool.not_eq_false', Bool.and_eq_true, decide_eq_true_eq] at hok
        obtain ⟨hk, h6⟩ := hok
        have h6b : ((t.t : Int) != 6) = true := by simp; omega
        (refine ⟨0, ?_⟩; simp (maxSteps := 2000000) -implicitDefEqProofs [-getElem?_pos, List.getElem?_cons_zero, List.getElem?_cons_succ, go_sem, eqV, plen, loadV, storeV, vaO, tyO, Va.pay, Ty.pay, hk, h6b])
      · have h0b : (chkV v t != 0) = true := by simpa using h0
        generalize chkV v t = ck at *
        (refine ⟨0, ?_⟩; simp (maxSteps := 2000000) -implicitDefEqProofs [-getElem?_pos, List.getElem?_cons_zero, List.getElem?_cons_succ, go_sem, eqV, plen, loadV, storeV, vaO, tyO, Va.pay, Ty.pay, h0b])
    refine ⟨0, ?_⟩
    simp (maxSteps := 2000000) -implicitDefEqProofs [-getElem?_pos, List.getElem?_cons_zero, List.getElem?_cons_succ, go_sem, eqV, plen, loadV, storeV, assignV, emB]
  | true =>
  rw [if_pos rfl]
  unfold apOk at hok
  simp only [Bool.and_eq_true, decide_eq_true_eq, Bool.not_eq_true', Bool.and_eq_false_iff, decide_eq_false_iff_not] at hok
  obtain ⟨h0, h06⟩ := hok
  obtain ⟨fs, ff, fl, fk⟩ := ok_facts h0
  rw [h0]
  apply Tells.seq (fr' := [(0, .ro c (.pb b) 1), (4, .ptr 0 0 0 0), (5, .ptr 1 0 0 0), (24, .bool false)]) (H' := [some (vaO v), some (tyO t), some nilB])
  · by_cases hk : v.k = 0
    · have h6 : t.t = 6 := by
        rcases h06 with h | h
        · exact absurd hk h
        · omega
      (refine ⟨0, ?_⟩; simp (maxSteps := 2000000) -implicitDefEqProofs [-getElem?_pos, List.getElem?_cons_zero, List.getElem?_cons_succ, go_sem, eqV, plen, loadV, storeV, vaO, tyO, Va.pay, Ty.pay, hk, h6])
    · have hkb : (v.k == 0) = false := by simpa using hk
      (refine ⟨0, ?_⟩; simp (maxSteps := 2000000) -implicitDefEqProofs [-getElem?_pos, List.getElem?_cons_zero, List.getElem?_cons_succ, go_sem, eqV, plen, loadV, storeV, vaO, tyO, Va.pay, Ty.pay, hkb])
  obtain ⟨ob0, hw0, hA0⟩ := clone_ev (H := [some (vaO v), some (tyO t), some nilB]) (a := .ro c (.pb b) 1) (b := b) (Byt.ro (.inl rfl) hc) (by omega)
  apply Tells.seq (fr' := [(4, .ptr 0 0 0 0), (5, .ptr 1 0 0 0), (9, .sl 3 0 b.length 0)]) (H' := [some (vaO v), some (tyO t), some nilB, some ob0])
  · simp only [vaO, tyO, Va.pay, Ty.pay] at hA0
    (refine ⟨0, ?_⟩; simp (maxSteps := 2000000) -implicitDefEqProofs [-getElem?_pos, List.getElem?_cons_zero, List.getElem?_cons_succ, go_sem, eqV, plen, loadV, storeV, vaO, tyO, Va.pay, Ty.pay, hA0, assignV])
  clear hA0
  have hS := size_ev' ht [some (vaO v), some (tyO t), some nilB, some ob0]
  have hre : reach [some (vaO v), some (tyO t), some nilB, some ob0] reachFuel [3] [] = [3] := reach_box rfl (by rw [hw0.p]; rfl)
  have hg0 := hw0.g
  have hp0 := hw0.p
  have hi0 := hw0.ids
  unfold enV
  rcases fk with kv | kv | kv | kv | kv | kv | kv | kv
  · -- nothing
    rw [if_neg (by omega), if_neg (by omega), if_neg (by omega), if_neg (by omega), List.append_nil]
    refine Tells.of (o := ⟨.ret, [(6, .sl 3 0 b.length 0), (7, .int .i64 0)], [some (vaO v), some (tyO t), some nilB, some ob0]⟩) ⟨0, ?_⟩ ⟨rfl, 3, 0, ob0, rfl, rfl, rfl, hw0⟩
    simp (maxSteps := 2000000) -implicitDefEqProofs [-getElem?_pos, List.getElem?_cons_zero, List.getElem?_cons_succ, go_sem, eqV, plen, loadV, storeV, vaO, Va.pay, kv, assignV]
  · -- a number with a sign
    rw [if_pos kv]
    obtain ⟨s1, s8⟩ := fs (.inl kv)
    generalize hsn : sizeN t.t = n at *
    obtain ⟨ob1, hw1, hF⟩ := vfixed_ev (H := [some (vaO v), some (tyO t), some nilB, some ob0]) (o := 3) (x := ui v.i) (n := n) (N := n) rfl hw0.rwt rfl (by omega) s1 s8
    have wu := (ui_eq v.i).symm
    refine Tells.of (o := ⟨.ret, [(6, .sl 3 0 (b.length + n) 1), (7, .int .i64 0)], [some (vaO v), some (tyO t), some nilB, some ob1]⟩) ?_ ⟨rfl, 3, 1, ob1, by simp [getF, leB_len], rfl, rfl, hw1.rw⟩
    apply Run.seq_out (hne := by simp)
    apply Run.seq (fr' := [(4, .ptr 0 0 0 0), (5, .ptr 1 0 0 0), (9, .sl 3 0 b.length 0), (28, .int .i64 1)]) (H' := [some (vaO v), some (tyO t), some nilB, some ob0])
    · (refine ⟨0, ?_⟩; simp (maxSteps := 2000000) -implicitDefEqProofs [-getElem?_pos, List.getElem?_cons_zero, List.getElem?_cons_succ, go_sem, eqV, plen, loadV, storeV, vaO, Va.pay, kv])
    refine Run.block ?_ (by simp)
    apply Run.seq (fr' := [(4, .ptr 0 0 0 0), (5, .ptr 1 0 0 0), (9, .sl 3 0 b.length 0), (28, .int .i64 1), (29, .bool true)]) (H' := [some (vaO v), some (tyO t), some nilB, some ob0])
    · (refine ⟨0, ?_⟩; simp (maxSteps := 2000000) -implicitDefEqProofs [-getElem?_pos, List.getElem?_cons_zero, List.getElem?_cons_succ, go_sem, eqV, plen, loadV, storeV])
    refine condT (by simp [evalO, getF]) ?_
    apply Run.seq (fr' := [(6, .sl 3 0 (b.length + n) 1), (7, .int .i64 0)]) (H' := [some (vaO v), some (tyO t), some nilB, some ob1])
    · simp only [vaO, tyO, Va.pay, Ty.pay] at hS hF hre
      apply Run.dy (by simp) keep21_7 (by simp)
      · (conv => lhs; simp (maxSteps := 2000000) -implicitDefEqProofs [-getElem?_pos, List.getElem?_cons_zero, List.getElem?_cons_succ, go_sem, eqV, plen, loadV, storeV, runD, out1, markOf, freeO, quietO, pushes, isAssign, calledV, touched, mentioned, opVals, touchCall, mentionCall, idsAt, Op.operands, ids, idsL, lendArgs, lendV, lend1, lendL, eqH_self, vaO, tyO, Va.pay, Ty.pay, wu, hS, hF, upd, assignV, reach_none, hre, hg0, hi0, hp0])
        rfl
      · kernel_rfl
      · rfl
    exact ⟨0, rfl⟩
  · -- bits
    rw [if_neg (by omega), if_pos (by omega)]
    obtain ⟨s1, s8⟩ := fs (by omega)
    generalize hsn : sizeN t.t = n at *
    obtain ⟨ob1, hw1, hF⟩ := vfixed_ev (H := [some (vaO v), some (tyO t), some nilB, some ob0]) (o := 3) (x := v.b) (n := n) (N := n) rfl hw0.rwt rfl (by omega) s1 s8
    refine Tells.of (o := ⟨.ret, [(6, .sl 3 0 (b.length + n) 1), (7, .int .i64 0)], [some (vaO v), some (tyO t), some nilB, some ob1]⟩) ?_ ⟨rfl, 3, 1, ob1, by simp [getF, leB_len], rfl, rfl, hw1.rw⟩
    apply Run.seq_out (hne := by simp)
    apply Run.seq (fr' := [(4, .ptr 0 0 0 0), (5, .ptr 1 0 0 0), (9, .sl 3 0 b.length 0), (28, .int .i64 2)]) (H' := [some (vaO v), some (tyO t), some nilB, some ob0])
    · (refine ⟨0, ?_⟩; simp (maxSteps := 2000000) -implicitDefEqProofs [-getElem?_pos, List.getElem?_cons_zero, List.getElem?_cons_succ, go_sem, eqV, plen, loadV, storeV, vaO, Va.pay, kv])
    refine Run.block ?_ (by simp)
    apply Run.seq (fr' := [(4, .ptr 0 0 0 0), (5, .ptr 1 0 0 0), (9, .sl 3 0 b.length 0), (28, .int .i64 2), (29, .bool false)]) (H' := [some (vaO v), some (tyO t), some nilB, some ob0])
    · (refine ⟨0, ?_⟩; simp (maxSteps := 2000000) -implicitDefEqProofs [-getElem?_pos, List.getElem?_cons_zero, List.getElem?_cons_succ, go_sem, eqV, plen, loadV, storeV])
    refine condF (by simp [evalO, getF]) ?_
    apply Run.seq (fr' := [(4, .ptr 0 0 0 0), (5, .ptr 1 0 0 0), (9, .sl 3 0 b.length 0), (28, .int .i64 2), (39, .bool true)]) (H' := [some (vaO v), some (tyO t), some nilB, some ob0])
    · (refine ⟨0, ?_⟩; simp (maxSteps := 2000000) -implicitDefEqProofs [-getElem?_pos, List.getElem?_cons_zero, List.getElem?_cons_succ, go_sem, eqV, plen, loadV, storeV])
    refine condT (by simp [evalO, getF]) ?_
    apply Run.seq (fr' := [(6, .sl 3 0 (b.length + n) 1), (7, .int .i64 0)]) (H' := [some (vaO v), some (tyO t), some nilB, some ob1])
    · simp only [vaO, tyO, Va.pay, Ty.pay] at hS hF hre
      apply Run.dy (by simp) keep21_11 (by simp)
      · (conv => lhs; simp (maxSteps := 2000000) -implicitDefEqProofs [-getElem?_pos, List.getElem?_cons_zero, List.getElem?_cons_succ, go_sem, eqV, plen, loadV, storeV, runD, out1, markOf, freeO, quietO, pushes, isAssign, calledV, touched, mentioned, opVals, touchCall, mentionCall, idsAt, Op.operands, ids, idsL, lendArgs, lendV, lend1, lendL, eqH_self, vaO, tyO, Va.pay, Ty.pay, hS, hF, upd, assignV, reach_none, hre, hg0, hi0, hp0])
        rfl
      · kernel_rfl
      · rfl
    exact ⟨0, rfl⟩
  · -- bits
    rw [if_neg (by omega), if_pos (by omega)]
    obtain ⟨s1, s8⟩ := fs (by omega)
    generalize hsn : sizeN t.t = n at *
    obtain ⟨ob1, hw1, hF⟩ := vfixed_ev (H := [some (vaO v), some (tyO t), some nilB, some ob0]) (o := 3) (x := v.b) (n := n) (N := n) rfl hw0.rwt rfl (by omega) s1 s8
    refine Tells.of (o := ⟨.ret, [(6, .sl 3 0 (b.length + n) 1), (7, .int .i64 0)], [some (vaO v), some (tyO t), some nilB, some ob1]⟩) ?_ ⟨rfl, 3, 1, ob1, by simp [getF, leB_len], rfl, rfl, hw1.rw⟩
    apply Run.seq_out (hne := by simp)
    apply Run.seq (fr' := [(4, .ptr 0 0 0 0), (5, .ptr 1 0 0 0), (9, .sl 3 0 b.length 0), (28, .int .i64 3)]) (H' := [some (vaO v), some (tyO t), some nilB, some ob0])
    · (refine ⟨0, ?_⟩; simp (maxSteps := 2000000) -implicitDefEqProofs [-getElem?_pos, List.getElem?_cons_zero, List.getElem?_cons_succ, go_sem, eqV, plen, loadV, storeV, vaO, Va.pay, kv])
    refine Run.block ?_ (by simp)
    apply Run.seq (fr' := [(4, .ptr 0 0 0 0), (5, .ptr 1 0 0 0), (9, .sl 3 0 b.length 0), (28, .int .i64 3), (29, .bool false)]) (H' := [some (vaO v), some (tyO t), some nilB, some ob0])
    · (refine ⟨0, ?_⟩; simp (maxSteps := 2000000) -implicitDefEqProofs [-getElem?_pos, List.getElem?_cons_zero, List.getElem?_cons_succ, go_sem, eqV, plen, loadV, storeV])
    refine condF (by simp [evalO, getF]) ?_
    apply Run.seq (fr' := [(4, .ptr 0 0 0 0), (5, .ptr 1 0 0 0), (9, .sl 3 0 b.length 0), (28, .int .i64 3), (39, .bool true)]) (H' := [some (vaO v), some (tyO t), some nilB, some ob0])
    · (refine ⟨0, ?_⟩; simp (maxSteps := 2000000) -implicitDefEqProofs [-getElem?_pos, List.getElem?_cons_zero, List.getElem?_cons_succ, go_sem, eqV, plen, loadV, storeV])
    refine condT (by simp [evalO, getF]) ?_
    apply Run.seq (fr' := [(6, .sl 3 0 (b.length + n) 1), (7, .int .i64 0)]) (H' := [some (vaO v), some (tyO t), some nilB, some ob1])
    · simp only [vaO, tyO, Va.pay, Ty.pay] at hS hF hre
      apply Run.dy (by simp) keep21_11 (by simp)
      · (conv => lhs; simp (maxSteps := 2000000) -implicitDefEqProofs [-getElem?_pos, List.getElem?_cons_zero, List.getElem?_cons_succ, go_sem, eqV, plen, loadV, storeV, runD, out1, markOf, freeO, quietO, pushes, isAssign, calledV, touched, mentioned, opVals, touchCall, mentionCall, idsAt, Op.operands, ids, idsL, lendArgs, lendV, lend1, lendL, eqH_self, vaO, tyO, Va.pay, Ty.pay, hS, hF, upd, assignV, reach_none, hre, hg0, hi0, hp0])
        rfl
      · kernel_rfl
      · rfl
    exact ⟨0, rfl⟩
  · -- bits
    rw [if_neg (by omega), if_pos (by omega)]
    obtain ⟨s1, s8⟩ := fs (by omega)
    generalize hsn : sizeN t.t = n at *
    obtain ⟨ob1, hw1, hF⟩ := vfixed_ev (H := [some (vaO v), some (tyO t), some nilB, some ob0]) (o := 3) (x := v.b) (n := n) (N := n) rfl hw0.rwt rfl (by omega) s1 s8
    refine Tells.of (o := ⟨.ret, [(6, .sl 3 0 (b.length + n) 1), (7, .int .i64 0)], [some (vaO v), some (tyO t), some nilB, some ob1]⟩) ?_ ⟨rfl, 3, 1, ob1, by simp [getF, leB_len], rfl, rfl, hw1.rw⟩
    apply Run.seq_out (hne := by simp)
    apply Run.seq (fr' := [(4, .ptr 0 0 0 0), (5, .ptr 1 0 0 0), (9, .sl 3 0 b.length 0), (28, .int .i64 4)]) (H' := [some (vaO v), some (tyO t), some nilB, some ob0])
    · (refine ⟨0, ?_⟩; simp (maxSteps := 2000000) -implicitDefEqProofs [-getElem?_pos, List.getElem?_cons_zero, List.getElem?_cons_succ, go_sem, eqV, plen, loadV, storeV, vaO, Va.pay, kv])
    refine Run.block ?_ (by simp)
    apply Run.seq (fr' := [(4, .ptr 0 0 0 0), (5, .ptr 1 0 0 0), (9, .sl 3 0 b.length 0), (28, .int .i64 4), (29, .bool false)]) (H' := [some (vaO v), some (tyO t), some nilB, some ob0])
    · (refine ⟨0, ?_⟩; simp (maxSteps := 2000000) -implicitDefEqProofs [-getElem?_pos, List.getElem?_cons_zero, List.getElem?_cons_succ, go_sem, eqV, plen, loadV, storeV])
    refine condF (by simp [evalO, getF]) ?_
    apply Run.seq (fr' := [(4, .ptr 0 0 0 0), (5, .ptr 1 0 0 0), (9, .sl 3 0 b.length 0), (28, .int .i64 4), (39, .bool true)]) (H' := [some (vaO v), some (tyO t), some nilB, some ob0])
    · (refine ⟨0, ?_⟩; simp (maxSteps := 2000000) -implicitDefEqProofs [-getElem?_pos, List.getElem?_cons_zero, List.getElem?_cons_succ, go_sem, eqV, plen, loadV, storeV])
    refine condT (by simp [evalO, getF]) ?_
    apply Run.seq (fr' := [(6, .sl 3 0 (b.length + n) 1), (7, .int .i64 0)]) (H' := [some (vaO v), some (tyO t), some nilB, some ob1])
    · simp only [vaO, tyO, Va.pay, Ty.pay] at hS hF hre
      apply Run.dy (by simp) keep21_11 (by simp)
      · (conv => lhs; simp (maxSteps := 2000000) -implicitDefEqProofs [-getElem?_pos, List.getElem?_cons_zero, List.getElem?_cons_succ, go_sem, eqV, plen, loadV, storeV, runD, out1, markOf, freeO, quietO, pushes, isAssign, calledV, touched, mentioned, opVals, touchCall, mentionCall, idsAt, Op.operands, ids, idsL, lendArgs, lendV, lend1, lendL, eqH_self, vaO, tyO, Va.pay, Ty.pay, hS, hF, upd, assignV, reach_none, hre, hg0, hi0, hp0])
        rfl
      · kernel_rfl
      · rfl
    exact ⟨0, rfl⟩
  · -- a moment, a span
    rw [if_neg (by omega), if_neg (by omega), if_pos (by omega)]
    obtain ⟨ob1, hw1, hF⟩ := when_ev (H := [some (vaO v), some (tyO t), some nilB, some ob0]) (o := 3) rfl hw0.rwt (by omega) ht (ff (by omega))
    refine Tells.of (o := ⟨.ret, [(6, .sl 3 0 (b ++ whB v.w t.t).length 1), (7, .int .i64 0)], [some (vaO v), some (tyO t), some nilB, some ob1]⟩) ?_ ⟨rfl, 3, 1, ob1, rfl, rfl, rfl, hw1.rw⟩
    apply Run.seq_out (hne := by simp)
    simp only [vaO, tyO, Va.pay, Ty.pay, Wh.pay] at hF
    rw [kv] at hF
    generalize (b ++ whB v.w t.t).length = n at *
    refine ⟨0, ?_⟩
    simp (maxSteps := 2000000) -implicitDefEqProofs [-getElem?_pos, List.getElem?_cons_zero, List.getElem?_cons_succ, go_sem, eqV, plen, loadV, storeV, vaO, tyO, Va.pay, Ty.pay, kv, mkWh, hF, upd, assignV]
  · -- a moment, a span
    rw [if_neg (by omega), if_neg (by omega), if_pos (by omega)]
    obtain ⟨ob1, hw1, hF⟩ := when_ev (H := [some (vaO v), some (tyO t), some nilB, some ob0]) (o := 3) rfl hw0.rwt (by omega) ht (ff (by omega))
    refine Tells.of (o := ⟨.ret, [(6, .sl 3 0 (b ++ whB v.w t.t).length 1), (7, .int .i64 0)], [some (vaO v), some (tyO t), some nilB, some ob1]⟩) ?_ ⟨rfl, 3, 1, ob1, rfl, rfl, rfl, hw1.rw⟩
    apply Run.seq_out (hne := by simp)
    simp only [vaO, tyO, Va.pay, Ty.pay, Wh.pay] at hF
    rw [kv] at hF
    generalize (b ++ whB v.w t.t).length = n at *
    refine ⟨0, ?_⟩
    simp (maxSteps := 2000000) -implicitDefEqProofs [-getElem?_pos, List.getElem?_cons_zero, List.getElem?_cons_succ, go_sem, eqV, plen, loadV, storeV, vaO, tyO, Va.pay, Ty.pay, kv, mkWh, hF, upd, assignV]
  · -- a text
    rw [if_neg (by omega), if_neg (by omega), if_neg (by omega), if_pos kv]
    obtain ⟨ob1, hw1, hA⟩ := appendText_ev (H := [some (vaO v), some (tyO t), some nilB, some ob0]) (a := .sl 3 0 b.length 0) (b := b) (s := v.t) (Byt.whole rfl hw0) (by omega) (by have := fl kv; omega)
    refine Tells.of (o := ⟨.ret, [(6, .sl 4 0 (b ++ aT v.t).length 0), (7, .int .i64 0)], [some (vaO v), some (tyO t), some nilB, some ob0, some ob1]⟩) ?_ ⟨rfl, 4, 0, ob1, rfl, rfl, rfl, hw1⟩
    apply Run.seq_out (hne := by simp)
    simp only [vaO, tyO, Va.pay, Ty.pay] at hA
    rw [kv] at hA
    generalize (b ++ aT v.t).length = n at *
    refine ⟨0, ?_⟩
    simp (maxSteps := 2000000) -implicitDefEqProofs [-getElem?_pos, List.getElem?_cons_zero, List.getElem?_cons_succ, go_sem, eqV, plen, loadV, storeV, vaO, tyO, Va.pay, Ty.pay, kv, hA, assignV]

end

theorem vappend_ev {H : AM.Heap} {a : AV} {b : List UInt8} {v : Va} {t : Ty} (h : Byt H a b) (hb : b.length ≤ 30000000) (ht : t.t < 256) (hvb : v.b < 18446744073709551616) (hi : -9223372036854775808 ≤ v.i ∧ v.i < 9223372036854775808) :
    ∃ ob, Rw (.pb (apV b v t).1) 0 ob ∧ evT X 21 [a, .agg v.pay, .agg t.pay] H = some (.tup [.sl H.length 0 (apV b v t).1.length 0, .int .i64 (apV b v t).2], H ++ [some ob]) := by
  obtain ⟨c, p, xl, hp, hc, hx'⟩ := args_byt (C := X) (f := 21) (i := 0) rfl h (args_va (f := 21) (i := 1) (v := v) (args_ty (i := 2) (t := t) (args_nil 3)))
  obtain ⟨code, hcode, hr⟩ := vappend_code c b v t hc hb ht hvb hi
  obtain ⟨ob, q1, q2⟩ := Ev1.newB (H := H) (n := (apV b v t).1.length) (l := (apV b v t).1) (rest := [.int .i64 (apV b v t).2]) (evT_below X) Tryd.func21 hcode hx' (by simp [Va.pay, Ty.pay, idsL, ids, hp.ids]) (by simp [gtag]) rfl rfl rfl (by
    obtain ⟨o, ⟨he, o1, g, ob, q1, q2, q3, q4⟩, hrun⟩ := hr
    exact ⟨o, ⟨he, o1, g, ob, by show some [getF o.fr 6, getF o.fr 7] = _; rw [q1, q2], q3, q4⟩, by rw [par21, coB hp]; exact hrun⟩)
  exact ⟨ob, q1, evT_eq q2⟩

end Go.Proofs.YtafdnpcamepbmaaDoor

/- Plain: a counted text that is written is read back; less is too short. -/
namespace Go.Proofs.YtafdnpcamepbmaaDoor
open Go.AM
set_option linter.unusedSimpArgs false
set_option linter.unusedVariables false

theorem lvB (n x : Nat) (r : List UInt8) : (leB n x ++ r).take n = leB n x := by
  have := List.take_left (l₁ := leB n x) (l₂ := r)
  rw [leB_len] at this; exact this
theorem aI_small {n : Nat} (h : n ≤ 250) : aI n = [UInt8.ofNat n] := by
  unfold aI frm; rw [if_pos h]; simp only [leB, if_true, List.nil_append]; rw [Nat.mod_eq_of_lt (by omega)]
theorem aI_large {x : Nat} (hx : x < 18446744073709551616) (h1 : ¬ x ≤ 250) : ∃ q n, aI x = UInt8.ofNat q :: leB n x ∧ szI x = n + 1 ∧ 252 ≤ q ∧ q ≤ 254 ∧ bsz q = n ∧ x < 256 ^ n := by
  obtain ⟨h2, h3, h4, h5⟩ := frm_ok hx
  have key : ∃ q n, frm x = (q, n) ∧ szI x = n + 1 ∧ 252 ≤ q ∧ q ≤ 254 ∧ bsz q = n := by
    unfold frm szI
    rw [if_neg h1, if_neg h1]
    by_cases h6 : x < 65536
    · rw [if_pos h6, if_pos h6]; exact ⟨252, 2, rfl, rfl, by omega, by omega, rfl⟩
    · rw [if_neg h6, if_neg h6]
      by_cases h7 : x < 16777216
      · rw [if_pos h7, if_pos h7]; exact ⟨253, 3, rfl, rfl, by omega, by omega, rfl⟩
      · rw [if_neg h7, if_neg h7]; exact ⟨254, 8, rfl, rfl, by omega, by omega, rfl⟩
  obtain ⟨q, n, hf, hs, q1, q2, hb⟩ := key
  rw [hf] at h4
  exact ⟨q, n, by unfold aI; rw [hf]; simp only; rw [if_neg (by omega)]; rfl, hs, q1, q2, hb, h4⟩
/-- a counted number's reading -/
theorem rdI_back {x : Nat} (hx : x < 18446744073709551616) (r : List UInt8) : rdI (aI x ++ r) = (x, szI x, 0) := by
  by_cases h1 : x ≤ 250
  · rw [aI_small h1]
    have e : (UInt8.ofNat x).toNat = x := by simp; omega
    have hs : szI x = 1 := by unfold szI; rw [if_pos h1]
    simp only [List.cons_append, List.nil_append, rdI_cons, e]
    rw [if_neg (by omega), if_pos h1, hs]
  · obtain ⟨q, n, hai, hs, q1, q2, hb, h4⟩ := aI_large hx h1
    have e : (UInt8.ofNat q).toNat = q := by simp; omega
    rw [hai, List.cons_append, rdI_cons, e, if_neg (by omega), if_neg (by omega), hb]
    unfold rdN'
    rw [if_neg (by simp [leB_len]), hs, lvB, leV_leB, Nat.mod_eq_of_lt h4]
/-- cut within -/
theorem rdI_less {x k : Nat} (hx : x < 18446744073709551616) (hk : k < szI x) : rdI ((aI x).take k) = (0, 0, 4) := by
  by_cases h1 : x ≤ 250
  · have hs : szI x = 1 := by unfold szI; rw [if_pos h1]
    obtain rfl : k = 0 := by omega
    rfl
  · obtain ⟨q, n, hai, hs, q1, q2, hb, h4⟩ := aI_large hx h1
    have e : (UInt8.ofNat q).toNat = q := by simp; omega
    rw [hai]
    match k with
    | 0 => rfl
    | k + 1 =>
      rw [List.take_succ_cons, rdI_cons, e, if_neg (by omega), if_neg (by omega), hb]
      unfold rdN'
      rw [if_pos (by rw [List.length_take, leB_len]; omega)]
theorem aT_size (s : List UInt8) : (aT s).length = szI s.length + s.length := by simp [aT, aI_len]
theorem rdT_back {s : List UInt8} (hs : s.length < 18446744073709551616) (r : List UInt8) : rdT (aT s ++ r) = (s, (aT s).length, 0) := by
  unfold rdT aT
  rw [List.append_assoc, rdI_back hs]
  have hl := aI_len s.length
  simp only [ne_eq, not_true_eq_false, if_false]
  rw [if_neg (by simp [hl])]
  have e : (aI s.length ++ (s ++ r)).drop (szI s.length) = s ++ r := by rw [← hl, List.drop_left]
  rw [e, List.take_left]
  simp [hl]
theorem rdT_less {s : List UInt8} {k : Nat} (hs : s.length < 18446744073709551616) (hk : k < (aT s).length) : rdT ((aT s).take k) = ([], 0, 4) := by
  rw [aT_size] at hk
  by_cases h1 : k < szI s.length
  · unfold rdT aT
    rw [List.take_append_of_le_length (by rw [aI_len]; omega), rdI_less hs h1]
    rfl
  · have hI : rdI ((aT s).take k) = (s.length, szI s.length, 0) := by
      unfold aT
      rw [List.take_append, List.take_of_length_le (by rw [aI_len]; omega)]
      exact rdI_back hs _
    unfold rdT
    rw [hI]
    simp only [ne_eq, not_true_eq_false, if_false]
    rw [if_pos (by rw [List.length_take, aT_size]; omega)]

end Go.Proofs.YtafdnpcamepbmaaDoor

/- Plain: numbers, moments and spans that are written are read back; less is too short. -/
namespace Go.Proofs.YtafdnpcamepbmaaDoor
open Go.AM
set_option linter.unusedSimpArgs false
set_option linter.unusedVariables false

theorem rfR_back {n : Nat} (x : Nat) (E : List UInt8) (h1 : 1 ≤ n) (h8 : n ≤ 8) : rfR (leB n x ++ E) (n : Nat) = (((x % 256 ^ n : Nat) : Int), 0) := by
  unfold rfR
  rw [if_neg (by omega), if_neg (by rw [List.length_append, leB_len]; omega), Int.toNat_natCast, lvB, leV_leB]
theorem rfR_less {n k : Nat} (x : Nat) (h1 : 1 ≤ n) (h8 : n ≤ 8) (hk : k < n) : rfR ((leB n x).take k) (n : Nat) = (0, 4) := by
  unfold rfR
  rw [if_neg (by omega), if_pos (by rw [List.length_take, leB_len]; omega)]

theorem sg_back {i : Int} {n : Nat} (hn : n = 1 ∨ n = 2 ∨ n = 4 ∨ n = 8) (h1 : -9223372036854775808 ≤ i) (h2 : i < 9223372036854775808) (ok : okI i n = true) : sgV (((ui i % 256 ^ n : Nat) : Nat) : Int) n = i := by
  have hu := ui_eq i
  unfold okI at ok
  simp only [Bool.or_eq_true, decide_eq_true_eq] at ok
  have hw : IntKind.u64.wrap i = i % 18446744073709551616 := by simp [IntKind.wrap, IntKind.signed, IntKind.bits]
  rw [hw] at hu
  generalize ui i = u at *
  have hb : ∀ x : Int, IntKind.u64.wrap x = x % 18446744073709551616 := fun x => by simp [IntKind.wrap, IntKind.signed, IntKind.bits]
  have hi : ∀ x : Int, 0 ≤ x → x < 18446744073709551616 → IntKind.i64.wrap x = if x < 9223372036854775808 then x else x - 18446744073709551616 := by
    intro x h0 h1
    have e : x % 18446744073709551616 = x := by omega
    by_cases hx : x < 9223372036854775808
    · rw [if_pos hx]
      simp [IntKind.wrap, IntKind.signed, IntKind.bits, e]
      omega
    · rw [if_neg hx]
      simp [IntKind.wrap, IntKind.signed, IntKind.bits, e]
      omega
  unfold sgV
  rcases hn with rfl | rfl | rfl | rfl
  · simp only [Nat.reduceSub, Nat.reduceMul, Nat.reducePow, Int.reducePow] at ok ⊢
    rw [hb, hi _ (by omega) (by omega), Int.fdiv_eq_ediv_of_nonneg _ (by omega)]
    split <;> omega
  · simp only [Nat.reduceSub, Nat.reduceMul, Nat.reducePow, Int.reducePow] at ok ⊢
    rw [hb, hi _ (by omega) (by omega), Int.fdiv_eq_ediv_of_nonneg _ (by omega)]
    split <;> omega
  · simp only [Nat.reduceSub, Nat.reduceMul, Nat.reducePow, Int.reducePow] at ok ⊢
    rw [hb, hi _ (by omega) (by omega), Int.fdiv_eq_ediv_of_nonneg _ (by omega)]
    split <;> omega
  · simp only [Nat.reduceSub, Nat.reduceMul, Nat.reducePow, Int.reducePow] at ok ⊢
    rw [hb, hi _ (by omega) (by omega), Int.fdiv_eq_ediv_of_nonneg _ (by omega)]
    split <;> omega

end Go.Proofs.YtafdnpcamepbmaaDoor

/- Plain: moments and spans that are written are read back; less is too short. -/
namespace Go.Proofs.YtafdnpcamepbmaaDoor
open Go.AM
set_option linter.unusedSimpArgs false
set_option linter.unusedVariables false

/-- the body behind a length -/
theorem cW_of {L : UInt8} {body E : List UInt8} {n : Nat} (hL : L.toNat = n) (hb : body.length = n) : cW (L :: (body ++ E)) = body ++ List.replicate (13 - n) 0 := by
  unfold cW
  simp only [List.headD_cons, List.drop_succ_cons, List.drop_zero, hL]
  rw [← hb, List.take_left]

theorem b1 {x : Int} (h0 : 0 ≤ x) (h1 : x < 256) : ((UInt8.ofNat x.toNat).toNat : Int) = x := by
  rw [UInt8.toNat_ofNat', Nat.mod_eq_of_lt (by omega)]; omega
theorem drB (n x j : Nat) (r : List UInt8) : (leB n x ++ r).drop (n + j) = r.drop j := by
  have h := List.drop_append (l₁ := leB n x) (l₂ := r) (i := n + j)
  rw [h, leB_len, List.drop_eq_nil_of_le (by rw [leB_len]; omega), List.nil_append, show n + j - n = j by omega]
theorem leVB {x : Int} {n : Nat} (h0 : 0 ≤ x) (h1 : x.toNat < 256 ^ n) : ((leV (leB n x.toNat) : Nat) : Int) = x := by
  rw [leV_leB, Nat.mod_eq_of_lt h1]; omega
theorem leV1 (y : UInt8) : leV [y] = y.toNat := by simp [leV]
/-- parts of a second, with nothing behind them -/
theorem us_back {w : Wh} {k : Nat} (h0 : 0 ≤ w.us) (h1 : w.us < 4294967296) (hk : w.us = 0 → 4 ≤ k) : ((leV ((usB w ++ List.replicate k 0).take 4) : Nat) : Int) = w.us := by
  by_cases hz : w.us = 0
  · have e : usB w = [] := if_pos hz
    have hk := hk hz
    rw [e, hz, List.nil_append, List.take_replicate, leV_zeros]; rfl
  · have e : usB w = leB 4 w.us.toNat := if_neg hz
    rw [e, lvB]
    exact leVB h0 (by rw [show 256 ^ 4 = 4294967296 from rfl]; omega)

theorem sp_back {w : Wh} (hf : fin w 11 = true) {U : List UInt8} (hU : ((leV (U.take 4) : Nat) : Int) = w.us) : spW ((if w.neg then 1 else 0) :: (leB 4 w.d.toNat ++ (UInt8.ofNat w.h.toNat :: UInt8.ofNat w.mi.toNat :: UInt8.ofNat w.s.toNat :: U))) = w := by
  obtain ⟨y0, y1, m0, m1, d0, d1, h0, h1, i0, i1, s0, s1, u0, u1⟩ := fin_nn hf
  have hz : w.y = 0 ∧ w.mo = 0 := by
    unfold fin at hf
    simp only [if_true, Bool.and_eq_true, decide_eq_true_eq] at hf
    exact ⟨hf.2.1, hf.2.2.1⟩
  have hd := leVB (n := 4) d0 (by rw [show 256 ^ 4 = 4294967296 from rfl]; omega)
  have hh := b1 h0 h1
  have hi := b1 i0 i1
  have hs := b1 s0 s1
  have hn : (((if w.neg then 1 else 0) : UInt8).toNat == 1) = w.neg := by cases w.neg <;> rfl
  generalize hX : (UInt8.ofNat w.h.toNat :: UInt8.ofNat w.mi.toNat :: UInt8.ofNat w.s.toNat :: U) = X
  have e0 : (leB 4 w.d.toNat ++ X).take 4 = leB 4 w.d.toNat := lvB 4 _ X
  have e4 : (leB 4 w.d.toNat ++ X).drop 4 = X := drB 4 w.d.toNat 0 X
  have e5 : (leB 4 w.d.toNat ++ X).drop 5 = X.drop 1 := drB 4 w.d.toNat 1 X
  have e6 : (leB 4 w.d.toNat ++ X).drop 6 = X.drop 2 := drB 4 w.d.toNat 2 X
  have e7 : (leB 4 w.d.toNat ++ X).drop 7 = X.drop 3 := drB 4 w.d.toNat 3 X
  unfold spW nb
  simp only [List.headD_cons, List.drop_succ_cons, List.drop_zero, e0, e4, e5, e6, e7, hn, hd]
  subst hX
  simp only [List.drop_succ_cons, List.drop_zero, List.take_succ_cons, List.take_zero, leV1, hU, hh, hi, hs]
  obtain ⟨q1, q2⟩ := hz
  cases w
  simp only at q1 q2
  subst q1 q2
  rfl

theorem mo_back {w : Wh} {t : Nat} (h11 : t ≠ 11) (hf : fin w t = true) {K U : List UInt8} (hK : K = clB w ++ U) (hU : ((leV (U.take 4) : Nat) : Int) = w.us) : moW (leB 2 w.y.toNat ++ (UInt8.ofNat w.mo.toNat :: UInt8.ofNat w.d.toNat :: K)) = w := by
  obtain ⟨y0, y1, m0, m1, d0, d1, h0, h1, i0, i1, s0, s1, u0, u1⟩ := fin_nn hf
  have hng : w.neg = false := by
    unfold fin at hf
    rw [if_neg h11] at hf
    simp only [Bool.and_eq_true, Bool.not_eq_true'] at hf
    exact hf.2.1
  have hy := leVB (n := 2) y0 (by rw [show 256 ^ 2 = 65536 from rfl]; omega)
  have hm := b1 m0 m1
  have hd := b1 d0 d1
  have hh := b1 h0 h1
  have hi := b1 i0 i1
  have hs := b1 s0 s1
  subst hK
  generalize hX : (UInt8.ofNat w.mo.toNat :: UInt8.ofNat w.d.toNat :: (clB w ++ U)) = X
  have e0 : (leB 2 w.y.toNat ++ X).take 2 = leB 2 w.y.toNat := lvB 2 _ X
  have e2 : (leB 2 w.y.toNat ++ X).drop 2 = X := drB 2 w.y.toNat 0 X
  have e3 : (leB 2 w.y.toNat ++ X).drop 3 = X.drop 1 := drB 2 w.y.toNat 1 X
  have e4 : (leB 2 w.y.toNat ++ X).drop 4 = X.drop 2 := drB 2 w.y.toNat 2 X
  have e5 : (leB 2 w.y.toNat ++ X).drop 5 = X.drop 3 := drB 2 w.y.toNat 3 X
  have e6 : (leB 2 w.y.toNat ++ X).drop 6 = X.drop 4 := drB 2 w.y.toNat 4 X
  have e7 : (leB 2 w.y.toNat ++ X).drop 7 = X.drop 5 := drB 2 w.y.toNat 5 X
  unfold moW nb
  simp only [List.drop_zero, e0, e2, e3, e4, e5, e6, e7, hy]
  subst hX
  simp only [clB, List.cons_append, List.nil_append, List.drop_succ_cons, List.drop_zero, List.take_succ_cons, List.take_zero, leV1, hU, hm, hd, hh, hi, hs]
  cases w
  simp only at hng
  subst hng
  rfl

end Go.Proofs.YtafdnpcamepbmaaDoor

/- Plain: a value that is written is read back; less is too short. -/
namespace Go.Proofs.YtafdnpcamepbmaaDoor
open Go.AM
set_option linter.unusedSimpArgs false
set_option linter.unusedVariables false

/-- what a moment's, a span's bytes are -/
theorem wh_form {w : Wh} {t : Nat} (hf : fin w t = true) : ∃ L body, whB w t = L :: body ∧ L.toNat = body.length ∧ knW body.length t = true ∧ (t = 11 → spW (body ++ List.replicate (13 - body.length) 0) = w ∧ ¬ 1 < ((body ++ List.replicate (13 - body.length) 0).headD 0).toNat) ∧ (t ≠ 11 → moW (body ++ List.replicate (13 - body.length) 0) = w) := by
  obtain ⟨y0, y1, m0, m1, d0, d1, h0, h1, i0, i1, s0, s1, u0, u1⟩ := fin_nn hf
  by_cases h11 : t = 11
  · subst h11
    by_cases hz : w = {}
    · subst hz
      exact ⟨0, [], rfl, rfl, rfl, fun _ => ⟨by decide, by decide⟩, fun h => absurd rfl h⟩
    · have hB : whB w 11 = (if w.us = 0 then 8 else 12) :: ((if w.neg then 1 else 0) :: (leB 4 w.d.toNat ++ (UInt8.ofNat w.h.toNat :: UInt8.ofNat w.mi.toNat :: UInt8.ofNat w.s.toNat :: usB w))) := by
        unfold whB
        rw [if_pos rfl]
        unfold spB
        rw [if_neg hz]
        simp [clB]
      have hul : (usB w).length = if w.us = 0 then 0 else 4 := by unfold usB; split <;> simp [leB_len]
      have hlen : ((if w.neg then 1 else 0) :: (leB 4 w.d.toNat ++ (UInt8.ofNat w.h.toNat :: UInt8.ofNat w.mi.toNat :: UInt8.ofNat w.s.toNat :: usB w))).length = if w.us = 0 then 8 else 12 := by
        simp only [List.length_cons, List.length_append, leB_len, hul]
        split <;> rfl
      refine ⟨_, _, hB, ?_, ?_, fun _ => ⟨?_, ?_⟩, fun h => absurd rfl h⟩
      · rw [hlen]; split <;> rfl
      · rw [hlen]; split <;> rfl
      · rw [hlen]
        have hb := sp_back hf (U := usB w ++ List.replicate (13 - if w.us = 0 then 8 else 12) 0) (us_back u0 u1 (fun h => by rw [if_pos h]; decide))
        simpa using hb
      · simp only [List.cons_append, List.headD_cons]
        cases w.neg <;> decide
  · by_cases hz : w = {}
    · subst hz
      refine ⟨0, [], ?_, rfl, ?_, fun h => absurd h h11, fun _ => by decide⟩
      · unfold whB; rw [if_neg h11]; rfl
      · unfold knW szL; rw [if_neg h11]; rfl
    · have hul : (usB w).length = if w.us = 0 then 0 else 4 := by unfold usB; split <;> simp [leB_len]
      by_cases hd : w = { y := w.y, mo := w.mo, d := w.d }
      · have hus : w.us = 0 := by rw [hd]
        have hh : w.h = 0 ∧ w.mi = 0 ∧ w.s = 0 := by
          refine ⟨?_, ?_, ?_⟩ <;> rw [hd]
        have hue : usB w = [] := if_pos hus
        have hB : whB w t = 4 :: (leB 2 w.y.toNat ++ (UInt8.ofNat w.mo.toNat :: UInt8.ofNat w.d.toNat :: [])) := by
          unfold whB
          rw [if_neg h11]
          unfold moB moN
          rw [if_neg hz, if_pos hd, if_pos hd, hue]
          simp
        have hlen : (leB 2 w.y.toNat ++ (UInt8.ofNat w.mo.toNat :: UInt8.ofNat w.d.toNat :: [])).length = 4 := by simp [leB_len]
        refine ⟨_, _, hB, by rw [hlen]; rfl, ?_, fun h => absurd h h11, fun _ => ?_⟩
        · rw [hlen]; unfold knW szL; rw [if_neg h11]; rfl
        · rw [hlen]
          have hc : clB w = [0, 0, 0] := by unfold clB; rw [hh.1, hh.2.1, hh.2.2]; rfl
          have hb := mo_back h11 hf (K := List.replicate 9 0) (U := List.replicate 6 0) (by rw [hc]; rfl) (by rw [hus]; decide)
          simpa using hb
      · have hB : whB w t = (if w.us = 0 then 7 else 11) :: (leB 2 w.y.toNat ++ (UInt8.ofNat w.mo.toNat :: UInt8.ofNat w.d.toNat :: (clB w ++ usB w))) := by
          unfold whB
          rw [if_neg h11]
          unfold moB moN
          rw [if_neg hz, if_neg hd, if_neg hd]
          simp
        have hlen : (leB 2 w.y.toNat ++ (UInt8.ofNat w.mo.toNat :: UInt8.ofNat w.d.toNat :: (clB w ++ usB w))).length = if w.us = 0 then 7 else 11 := by
          simp only [List.length_cons, List.length_append, leB_len, hul, clB, List.length_nil]
          split <;> rfl
        refine ⟨_, _, hB, by rw [hlen]; split <;> rfl, ?_, fun h => absurd h h11, fun _ => ?_⟩
        · rw [hlen]; unfold knW szL; rw [if_neg h11]; split <;> rfl
        · rw [hlen]
          have hb := mo_back h11 hf (K := clB w ++ (usB w ++ List.replicate (13 - if w.us = 0 then 7 else 11) 0)) (U := usB w ++ List.replicate (13 - if w.us = 0 then 7 else 11) 0) rfl (us_back u0 u1 (fun h => by rw [if_pos h]; decide))
          simpa using hb

theorem rdW_back {w : Wh} {t : Nat} (hf : fin w t = true) (E : List UInt8) : rdW (whB w t ++ E) t = (w, (whB w t).length, 0) := by
  obtain ⟨L, body, hB, hL, hk, h1, h2⟩ := wh_form hf
  rw [hB, List.cons_append]
  unfold rdW
  rw [if_neg (by simp), cW_of hL rfl]
  simp only [List.headD_cons, hL]
  rw [if_neg (by rw [hk]; simp), if_neg (by simp; omega)]
  by_cases h11 : t = 11
  · obtain ⟨q1, q2⟩ := h1 h11
    rw [if_pos h11, if_neg q2, q1, if_neg (by rw [hf]; simp), List.length_cons, Nat.add_comm]
  · have q1 := h2 h11
    rw [if_neg h11, q1, if_neg (by rw [hf]; simp), List.length_cons, Nat.add_comm]
theorem rdW_less {w : Wh} {t k : Nat} (hf : fin w t = true) (hk : k < (whB w t).length) : rdW ((whB w t).take k) t = ({}, 0, 4) := by
  obtain ⟨L, body, hB, hL, hk', h1, h2⟩ := wh_form hf
  rw [hB] at hk ⊢
  match k with
  | 0 => rfl
  | k + 1 =>
    rw [List.take_succ_cons]
    unfold rdW
    simp only [List.headD_cons, hL]
    rw [if_neg (by simp), if_neg (by rw [hk']; simp), if_pos]
    rw [List.length_cons] at hk ⊢
    rw [List.length_take]
    omega

theorem val_back {v : Va} {t : Ty} (h : chkV v t = 0) (hk : v.k ≠ 0) (hv : v.b < 18446744073709551616) (hi : -9223372036854775808 ≤ v.i ∧ v.i < 9223372036854775808) (E : List UInt8) : rdV (enV v t ++ E) t = (v, (enV v t).length, 0) := by
  have hok : okVa v t = true := by
    rcases chk_ok h with h | h
    · subst h; exact absurd rfl hk
    · exact h
  unfold okVa okVk at hok
  unfold rdV enV
  by_cases k1 : v.k = 1
  · rw [if_pos k1] at hok
    simp only [Bool.and_eq_true, decide_eq_true_eq] at hok
    obtain ⟨q1, q2, q3⟩ := hok
    have hs := size_num (t := t.t) (u := t.u) (.inl q1)
    rw [q1, if_neg (by decide), if_neg (by decide), if_neg (by decide), if_neg (by decide), if_pos k1, rfR_back _ E (by omega) (by omega)]
    simp only [ne_eq, not_true_eq_false, if_false, if_true, leB_len]
    rw [sg_back hs hi.1 hi.2 q3, ← q2]
  rw [if_neg k1] at hok ⊢
  by_cases k2 : v.k = 2 ∨ v.k = 3 ∨ v.k = 4
  · rw [if_pos k2] at hok ⊢
    simp only [Bool.and_eq_true, decide_eq_true_eq] at hok
    obtain ⟨q1, q2, q3⟩ := hok
    have hs := size_num (t := t.t) (u := t.u) (by rw [q1]; omega)
    have hb : v.b < 256 ^ sizeN t.t := by
      unfold okB at q3
      simp only [Bool.or_eq_true, decide_eq_true_eq] at q3
      rcases hs with h | h | h | h <;> rw [h] at q3 ⊢ <;> simp only [Nat.reducePow, Nat.reduceMul] at q3 ⊢ <;> omega
    rw [q1, if_neg (by omega), if_neg (by omega), if_neg (by omega), if_neg (by omega), rfR_back _ E (by omega) (by omega)]
    simp only [ne_eq, not_true_eq_false, if_false, leB_len]
    rw [if_neg k1, Nat.mod_eq_of_lt hb, Int.toNat_natCast, ← q2]
  rw [if_neg k2] at hok ⊢
  by_cases k5 : v.k = 5 ∨ v.k = 6
  · rw [if_pos k5] at hok ⊢
    simp only [Bool.and_eq_true, decide_eq_true_eq] at hok
    obtain ⟨q1, q2, q3⟩ := hok
    rw [q1, if_neg (by omega), if_neg (by omega), if_pos k5, rdW_back q3]
    simp only [ne_eq, not_true_eq_false, if_false]
    rw [← q2]
  rw [if_neg k5] at hok ⊢
  by_cases k7 : v.k = 7
  · rw [if_pos k7] at hok ⊢
    simp only [Bool.and_eq_true, decide_eq_true_eq] at hok
    obtain ⟨q1, q2, q3⟩ := hok
    rw [q1, if_neg (by decide), if_neg (by decide), if_neg (by decide), if_pos rfl, rdT_back (by omega)]
    simp only [ne_eq, not_true_eq_false, if_false]
    rw [if_neg (by omega), ← q2]
  · rw [if_neg k7] at hok; cases hok

end Go.Proofs.YtafdnpcamepbmaaDoor

/- Plain: a text row that is written is read back; less is too short. -/
namespace Go.Proofs.YtafdnpcamepbmaaDoor
open Go.AM
set_option linter.unusedSimpArgs false
set_option linter.unusedVariables false

/-- a text row's bytes -/
def txV (v : Va) : List UInt8 := if v.k = 0 then [251] else aT v.t
def txR (l : List Va) : List UInt8 := l.flatMap txV
/-- a text row read -/
def rdTx : Nat → List Va → List UInt8 → List Va × List UInt8 × Int
  | 0, a, r => (a, r, 0)
  | k + 1, a, r => if r.head? = some 251 then rdTx k (a ++ [{}]) (r.drop 1)
    else if (rdT r).2.2 ≠ 0 then ([], [], (rdT r).2.2) else if 16777216 < (rdT r).1.length then ([], [], 5)
    else rdTx k (a ++ [{ k := 7, t := (rdT r).1 }]) (r.drop (rdT r).2.1)
/-- a value of a text row -/
def okTx (v : Va) : Prop := v = {} ∨ (v = { k := 7, t := v.t } ∧ v.t.length ≤ 16777216)

theorem aT_head (s : List UInt8) (hs : s.length < 18446744073709551616) : ∃ y r, aT s = y :: r ∧ y ≠ 251 := by
  unfold aT
  by_cases h1 : s.length ≤ 250
  · rw [aI_small h1]
    refine ⟨_, _, rfl, fun h => ?_⟩
    have := congrArg UInt8.toNat h
    rw [UInt8.toNat_ofNat', Nat.mod_eq_of_lt (by omega)] at this
    have h2 : (251 : UInt8).toNat = 251 := rfl
    omega
  · obtain ⟨q, n, hai, hz, q1, q2, hb, h4⟩ := aI_large hs h1
    rw [hai]
    refine ⟨_, _, rfl, fun h => ?_⟩
    have := congrArg UInt8.toNat h
    rw [UInt8.toNat_ofNat', Nat.mod_eq_of_lt (by omega)] at this
    have h2 : (251 : UInt8).toNat = 251 := rfl
    omega

theorem tx_back (E : List UInt8) : ∀ (l a : List Va), (∀ v ∈ l, okTx v) → rdTx l.length a (txR l ++ E) = (a ++ l, E, 0)
  | [], a, _ => by simp [rdTx, txR]
  | v :: l, a, h => by
    have ih := fun a => tx_back E l a (fun v hv => h v (List.mem_cons_of_mem _ hv))
    have e : txR (v :: l) ++ E = txV v ++ (txR l ++ E) := by simp [txR]
    rw [List.length_cons, rdTx, e]
    rcases h v (List.mem_cons_self ..) with hv | ⟨hv, hl⟩
    · subst hv
      have e2 : txV {} = [251] := rfl
      rw [e2, if_pos (by simp)]
      simp only [List.cons_append, List.nil_append, List.drop_succ_cons, List.drop_zero]
      rw [ih]; simp
    · have e2 : txV v = aT v.t := by unfold txV; rw [if_neg (by rw [hv]; simp)]
      obtain ⟨y, r, hy, hn⟩ := aT_head v.t (by omega)
      rw [e2, if_neg (by rw [hy]; simp [hn]), rdT_back (by omega), if_neg (by simp), if_neg (by simp only; omega)]
      simp only [List.drop_left]
      rw [ih, ← hv]; simp

end Go.Proofs.YtafdnpcamepbmaaDoor

/- Walks: what an execute says, behind its checks: bits, types, values. -/
namespace Go.Proofs.YtafdnpcamepbmaaDoor
open Go.AM
set_option linter.unusedSimpArgs false
set_option linter.unusedVariables false

/-- a type's sign -/
def sgn (p : Pm) : Nat := if p.t.u then 128 else 0
def tyB (p : Pm) : List UInt8 := [UInt8.ofNat p.t.t, UInt8.ofNat (sgn p)]
def tysB (l : List Pm) : List UInt8 := l.flatMap tyB
def paE (p : Pm) : List UInt8 := if p.lg = true ∨ p.v.k = 0 then [] else enV p.v p.t
def restB (l : List Pm) : List UInt8 := l.flatMap paE
/-- is the parameter nothing? -/
def nulP (l : List Pm) (i : Nat) : Bool := match l[i]? with | some p => !p.lg && decide (p.v.k = 0) | none => false

theorem restB_le (l : List Pm) (i : Nat) : (restB (l.take i)).length ≤ (restB l).length := by
  conv => rhs; rw [← List.take_append_drop i l]
  unfold restB
  rw [List.flatMap_append, List.length_append]
  omega

section
variable (b : List UInt8) (d : Nat) (l : List Pm) (bd : Bool) (K m8 : Nat)

def bitO (x : List UInt8) : AM.Obj := ⟨.pb x, 0, some m8, 1, true, false, 0⟩
def zer : List UInt8 := List.replicate m8 0

/-- a round's frame -/
def p2Fr (i o : Nat) : AM.Frame := [(2, .bool bd), (10, .sl K 0 b.length 0), (11, .sl (K + 1) 0 m8 0), (12, .sl (K + 2) 0 (tysB (l.take i)).length i), (13, .sl o 0 (restB (l.take i)).length 0), (54, .ro d (.pr 15 (l.map Pm.pay)) 2), (55, .int .i64 (l.length : Nat)), (56, .int .i64 (i : Nat))]
def p2Hp (ob0 : AM.Obj) (i o j : Nat) (H : AM.Heap) : Prop :=
  ∃ obT obr, H[K]? = some (some ob0) ∧ H[K + 1]? = some (some (bitO m8 (bitN (nulP l) 0 (zer m8) j))) ∧ H[K + 2]? = some (some obT) ∧ Rw (.pb (tysB (l.take i))) i obT ∧ K + 3 ≤ o ∧ H[o]? = some (some obr) ∧ Rw (.pb (restB (l.take i))) 0 obr

/-- a frame within a round -/
def p2Fb (i o : Nat) (x15 : AV) (t : Nat) (T : AV) : AM.Frame := [(2, .bool bd), (10, .sl K 0 b.length 0), (11, .sl (K + 1) 0 m8 0), (12, T), (13, .sl o 0 (restB (l.take i)).length 0), (14, .int .i64 (i : Nat)), (15, x15)] ++ (if t = 0 then [] else [(16, .int .u8 ((t - 1 : Nat) : Int))]) ++ [(54, .ro d (.pr 15 (l.map Pm.pay)) 2), (55, .int .i64 (l.length : Nat)), (56, .int .i64 (i : Nat))]

/-- behind a round's choice -/
def p2Fc (i o : Nat) (m : AM.Frame) (tl : AM.Frame) : AM.Frame := [(2, .bool bd), (10, .sl K 0 b.length 0), (11, .sl (K + 1) 0 m8 0), (12, .sl (K + 2) 0 (tysB (l.take (i + 1))).length (i + 1)), (13, .sl o 0 (restB (l.take (i + 1))).length 0)] ++ m ++ [(54, .ro d (.pr 15 (l.map Pm.pay)) 2), (55, .int .i64 (l.length : Nat)), (56, .int .i64 (i : Nat))] ++ tl

end

/-- an execute's bytes -/
def paB (l : List Pm) (bd : Bool) : List UInt8 := bitN (nulP l) 0 (zer ((l.length + 7) / 8)) l.length ++ (if bd then 1 :: tysB l else [0]) ++ restB l

theorem srcW {H : AM.Heap} {o g n : Nat} {ob : AM.Obj} {l : List UInt8} (ho : H[o]? = some (some ob)) (h : Rw (.pb l) g ob) (hn : n = l.length) : srcV H (.sl o 0 n g) = some (.pb l, 0) := by
  subst hn
  simp [srcV, live, ho, h.g, h.ids, h.p, psub, payB, ptag]

section
variable (b : List UInt8) (d : Nat) (l : List Pm) (bd : Bool) (K : Nat)

end
end Go.Proofs.YtafdnpcamepbmaaDoor

/- Plain: bits of bytes; a row's values with their types. -/
namespace Go.Proofs.YtafdnpcamepbmaaDoor
open Go.AM
set_option linter.unusedSimpArgs false
set_option linter.unusedVariables false

/-- the bit of bytes -/
def bitB (b : List UInt8) (i : Nat) : Bool := ((b.getD (i / 8) 0).toNat / 2 ^ (i % 8)) % 2 == 1

theorem and1 {y j : Nat} (hy : y < 256) : IntKind.u8.wrap ((AM.bits .u8 ((y / 2 ^ j : Nat) : Int) &&& AM.bits .u8 1).toNat : Nat) = (((y / 2 ^ j) % 2 : Nat) : Int) := by
  have hd : y / 2 ^ j < 256 := Nat.lt_of_le_of_lt (Nat.div_le_self _ _) hy
  have hb : ∀ v : Nat, v < 256 → (AM.bits .u8 (v : Int)).toNat = v := by
    intro v hv
    unfold AM.bits
    simp [IntKind.bits]
    omega
  have e : (AM.bits .u8 ((y / 2 ^ j : Nat) : Int) &&& AM.bits .u8 1).toNat = (y / 2 ^ j) % 2 := by
    rw [show (AM.bits .u8 ((y / 2 ^ j : Nat) : Int) &&& AM.bits .u8 1).toNat = (AM.bits .u8 ((y / 2 ^ j : Nat) : Int)).toNat &&& (AM.bits .u8 1).toNat by simp]
    rw [hb _ hd, show (AM.bits .u8 1).toNat = 1 from rfl, Nat.and_one_is_mod]
  rw [e]
  have : (y / 2 ^ j) % 2 < 2 := Nat.mod_lt _ (by omega)
  exact wrap_u8 (by omega) (by omega)

theorem shr8 {y j : Nat} (hj : j < 8) : Int.fdiv (y : Int) (2 ^ (min j 8)) = ((y / 2 ^ j : Nat) : Int) := by
  rw [Nat.min_eq_left (by omega)]
  rw [show ((2 : Int) ^ j) = ((2 ^ j : Nat) : Int) by simp]
  rw [Int.fdiv_eq_ediv_of_nonneg _ (Int.natCast_nonneg _)]
  exact (Int.natCast_ediv _ _).symm

theorem bitB_test (b : List UInt8) (i : Nat) : bitB b i = (b.getD (i / 8) 0).toNat.testBit (i % 8) := by
  unfold bitB
  rw [Nat.testBit_eq_decide_div_mod_eq]
  by_cases h : (b.getD (i / 8) 0).toNat / 2 ^ (i % 8) % 2 = 1
  · rw [h]; rfl
  · rw [decide_eq_false h]; exact beq_eq_false_iff_ne.2 h

theorem bit_set {x : List UInt8} {n i : Nat} (hn : n / 8 < x.length) : bitB (x.set (n / 8) (orB (x.getD (n / 8) 0) (n % 8))) i = (decide (i = n) || bitB x i) := by
  rw [bitB_test, bitB_test]
  by_cases hq : i / 8 = n / 8
  · rw [hq]
    have : (x.set (n / 8) (orB (x.getD (n / 8) 0) (n % 8))).getD (n / 8) 0 = orB (x.getD (n / 8) 0) (n % 8) := by
      rw [List.getD, List.getElem?_set_self hn]; rfl
    rw [this, orB_toNat (Nat.mod_lt _ (by omega)), Nat.testBit_or, Nat.testBit_two_pow, Bool.or_comm]
    congr 1
    by_cases h : n % 8 = i % 8
    · rw [decide_eq_true h, decide_eq_true (by omega)]
    · rw [decide_eq_false h, decide_eq_false (by omega)]
  · have : (x.set (n / 8) (orB (x.getD (n / 8) 0) (n % 8))).getD (i / 8) 0 = x.getD (i / 8) 0 := by
      rw [List.getD, List.getElem?_set_ne (by omega)]; rfl
    rw [this, decide_eq_false (by omega), Bool.false_or]

theorem bit_zer (m i : Nat) : bitB (zer m) i = false := by
  rw [bitB_test]
  have : (zer m).getD (i / 8) 0 = 0 := by
    unfold zer
    rw [List.getD, List.getElem?_replicate]
    split <;> rfl
  rw [this]; simp

theorem bit_bitN (f : Nat → Bool) {m w : Nat} : ∀ (n i : Nat), n + w ≤ 8 * m → bitB (bitN f w (zer m) n) i = (decide (w ≤ i) && decide (i < n + w) && f (i - w))
  | 0, i, _ => by
    rw [bitN, bit_zer]
    by_cases h : w ≤ i
    · rw [decide_eq_false (p := i < 0 + w) (by omega), Bool.and_false, Bool.false_and]
    · rw [decide_eq_false h, Bool.false_and, Bool.false_and]
  | n + 1, i, h => by
    have ih := bit_bitN f (m := m) (w := w) n i (by omega)
    have hl := bitN_len f w (zer m) n
    have hz : (zer m).length = m := by simp [zer]
    rw [bitN]
    cases hf : f n with
    | false =>
      rw [if_neg (by simp), ih]
      by_cases hi : i = n + w
      · subst hi; rw [Nat.add_sub_cancel, hf]; simp
      · by_cases h1 : i < n + w
        · rw [decide_eq_true h1, decide_eq_true (p := i < n + 1 + w) (by omega)]
        · rw [decide_eq_false h1, decide_eq_false (p := i < n + 1 + w) (by omega)]
    | true =>
      rw [if_pos rfl, bit_set (by omega), ih]
      by_cases hi : i = n + w
      · subst hi; rw [Nat.add_sub_cancel, hf]; simp
      · rw [decide_eq_false hi, Bool.false_or]
        by_cases h1 : i < n + w
        · rw [decide_eq_true h1, decide_eq_true (p := i < n + 1 + w) (by omega)]
        · rw [decide_eq_false h1, decide_eq_false (p := i < n + 1 + w) (by omega)]

/-- what the i-th type is -/
def tyI (ts : List Ty) (i : Nat) : Ty := ts.getD i ⟨0, false⟩
theorem tyI_at {ts : List Ty} {i : Nat} {t : Ty} (h : ts[i]? = some t) : tyI ts i = t := by unfold tyI; rw [List.getD, h]; rfl

/-- a row's values with their types -/
def zr (l : List Va) (ts : List Ty) : List Pm := List.zipWith (fun v t => (⟨t, false, v⟩ : Pm)) l ts
theorem zr_at {l : List Va} {ts : List Ty} {i : Nat} {v : Va} {t : Ty} (h1 : l[i]? = some v) (h2 : ts[i]? = some t) : (zr l ts)[i]? = some ⟨t, false, v⟩ := by
  unfold zr; rw [List.getElem?_zipWith, h1, h2]
theorem zr_len {l : List Va} {ts : List Ty} (h : l.length = ts.length) : (zr l ts).length = l.length := by
  unfold zr; rw [List.length_zipWith]; omega
theorem zr_mem {l : List Va} {ts : List Ty} {p : Pm} (h : p ∈ zr l ts) : p.v ∈ l ∧ p.t ∈ ts ∧ p.lg = false := by
  obtain ⟨i, hi⟩ := List.mem_iff_getElem?.1 h
  unfold zr at hi
  rw [List.getElem?_zipWith] at hi
  split at hi
  · rename_i v t h1 h2
    obtain rfl := Option.some.inj hi
    exact ⟨List.mem_of_getElem? h1, List.mem_of_getElem? h2, rfl⟩
  · cases hi
theorem zr_v : ∀ {l : List Va} {ts : List Ty}, l.length = ts.length → (zr l ts).map (·.v) = l
  | [], [], _ => rfl
  | v :: l, t :: ts, h => by
    have := zr_v (l := l) (ts := ts) (by simpa using h)
    unfold zr at this ⊢
    rw [List.zipWith_cons_cons, List.map_cons, this]

end Go.Proofs.YtafdnpcamepbmaaDoor

/- Plain: a binary row that is written is read back; less is too short, more is wrong. -/
namespace Go.Proofs.YtafdnpcamepbmaaDoor
open Go.AM
set_option linter.unusedSimpArgs false
set_option linter.unusedVariables false

/-- the bits of what is nothing -/
def bitsR (l : List Pm) : List UInt8 := bitN (nulP l) 2 (zer ((l.length + 9) / 8)) l.length
theorem bitsR_len (l : List Pm) : (bitsR l).length = (l.length + 9) / 8 := by unfold bitsR; rw [bitN_len]; simp [zer]
/-- a binary row's bytes -/
def bnB (l : List Pm) : List UInt8 := 0 :: (bitsR l ++ restB l)
/-- what AppendBinary tells -/
def bnApp (b : List UInt8) (l : List Va) (ts : List Ty) : List UInt8 × Int :=
  if 4096 < ts.length then ([], 3) else if l.length ≠ ts.length then ([], 2) else if (zr l ts).any Pm.bad then ([], 2) else (b ++ bnB (zr l ts), 0)

/-- values read one behind the other, from the i-th on; those of which f holds are nothing -/
def rbF (f : Nat → Bool) (ts : List Ty) : Nat → Nat → List Va → List UInt8 → List Va × List UInt8 × Int
  | 0, _, a, r => (a, r, 0)
  | k + 1, i, a, r =>
    if f i = true then rbF f ts k (i + 1) (a ++ [{}]) r
    else if (rdV r (tyI ts i)).2.2 ≠ 0 then ([], [], (rdV r (tyI ts i)).2.2)
    else rbF f ts k (i + 1) (a ++ [(rdV r (tyI ts i)).1]) (r.drop (rdV r (tyI ts i)).2.1)
/-- the end of a reading -/
def rwZ (x : List Va × List UInt8 × Int) : List Va × Int := if x.2.2 ≠ 0 then ([], x.2.2) else if x.2.1.length > 0 then ([], 5) else (x.1, 0)
/-- a bit that must not be -/
def bzB (b : List UInt8) (n i : Nat) : Bool := bitB b i && (decide (i < 2) || decide (n + 2 ≤ i))
/-- a type of nothing whose bit is none -/
def nzB (b : List UInt8) (ts : List Ty) (i : Nat) : Bool := decide ((tyI ts i).t = 6) && !bitB b (i + 2)
/-- what ReadBinary tells, its bits looked at -/
def rdBm (b r : List UInt8) (ts : List Ty) : List Va × Int :=
  if (List.range (8 * b.length)).any (bzB b ts.length) then ([], 5) else if (List.range ts.length).any (nzB b ts) then ([], 5) else
  rwZ (rbF (fun i => bitB b (i + 2)) ts ts.length 0 [] r)
/-- what ReadBinary tells -/
def rdBin (b : List UInt8) (ts : List Ty) : List Va × Int :=
  if 4096 < ts.length then ([], 3) else if ts.any (fun t => decide (kindN t.t t.u < 0)) then ([], 2) else
  match b with
  | [] => ([], 4)
  | y :: r => if y ≠ 0 then ([], 5) else if r.length < (ts.length + 9) / 8 then ([], 4) else rdBm (r.take ((ts.length + 9) / 8)) (r.drop ((ts.length + 9) / 8)) ts

theorem okVk_k {v : Va} {k : Int} {n tt : Nat} (h : okVk v k n tt = true) : k = v.k ∧ 1 ≤ v.k := by
  unfold okVk at h
  by_cases k1 : v.k = 1
  · rw [if_pos k1] at h
    simp only [Bool.and_eq_true, decide_eq_true_eq] at h
    omega
  rw [if_neg k1] at h
  by_cases k2 : v.k = 2 ∨ v.k = 3 ∨ v.k = 4
  · rw [if_pos k2] at h
    simp only [Bool.and_eq_true, decide_eq_true_eq] at h
    omega
  rw [if_neg k2] at h
  by_cases k5 : v.k = 5 ∨ v.k = 6
  · rw [if_pos k5] at h
    simp only [Bool.and_eq_true, decide_eq_true_eq] at h
    omega
  rw [if_neg k5] at h
  by_cases k7 : v.k = 7
  · rw [if_pos k7] at h
    simp only [Bool.and_eq_true, decide_eq_true_eq] at h
    omega
  rw [if_neg k7] at h
  cases h
/-- a value that may be is nothing, or none of a type of nothing -/
theorem chk_kn {v : Va} {t : Ty} (h : chkV v t = 0) : 0 ≤ kindN t.t t.u := by
  unfold chkV at h
  by_cases hk : kindN t.t t.u < 0
  · rw [if_pos hk] at h; cases h
  · omega
theorem chk_nil {v : Va} {t : Ty} (h : chkV v t = 0) (hk : v.k = 0) : v = {} := by
  rcases chk_ok h with h | h
  · exact h
  · unfold okVa okVk at h
    rw [hk] at h
    simp at h
theorem chk_no6 {v : Va} {t : Ty} (h : chkV v t = 0) (hk : v.k ≠ 0) : t.t ≠ 6 := by
  intro h6
  rcases chk_ok h with h2 | h2
  · rw [h2] at hk; exact hk rfl
  · have hkn : kindN t.t t.u = 0 ∨ kindN t.t t.u = -1 := by
      rw [h6]; unfold kindN; split
      · exact .inr rfl
      · left; simp
    have := okVk_k h2
    omega
/-- values that may be, of types -/
def OkR (l : List Pm) : Prop := ∀ p ∈ l, p.lg = false ∧ chkV p.v p.t = 0 ∧ p.v.b < 18446744073709551616 ∧ -9223372036854775808 ≤ p.v.i ∧ p.v.i < 9223372036854775808
def tyR (l : List Pm) : List Ty := l.map (·.t)
def vaR (l : List Pm) : List Va := l.map (·.v)
theorem tyR_at {l : List Pm} {i : Nat} {p : Pm} (h : l[i]? = some p) : tyI (tyR l) i = p.t := by
  unfold tyI tyR; rw [List.getD, List.getElem?_map, h]; rfl
theorem nul_at {l : List Pm} {i : Nat} {p : Pm} (h : l[i]? = some p) (hl : p.lg = false) : nulP l i = decide (p.v.k = 0) := by
  unfold nulP; rw [h]; simp only [hl]; rfl
theorem bitsR_at {l : List Pm} (i : Nat) : bitB (bitsR l) i = (decide (2 ≤ i) && decide (i < l.length + 2) && nulP l (i - 2)) :=
  bit_bitN (nulP l) l.length i (by omega)
theorem bitsR_2 {l : List Pm} {i : Nat} (h : i < l.length) : bitB (bitsR l) (i + 2) = nulP l i := by
  rw [bitsR_at, decide_eq_true (by omega), decide_eq_true (by omega)]; simp

theorem getsufR {α : Type} (pre : List α) (p : α) (suf : List α) : (pre ++ p :: suf)[pre.length]? = some p := by
  rw [List.getElem?_append_right (Nat.le_refl _), Nat.sub_self]; rfl

theorem rb_back {l : List Pm} (hok : OkR l) (E : List UInt8) :
    ∀ (suf pre : List Pm), l = pre ++ suf → rbF (fun i => bitB (bitsR l) (i + 2)) (tyR l) suf.length pre.length (vaR pre) (restB suf ++ E) = (vaR l, E, 0)
  | [], pre, h => by
    rw [h, List.append_nil]; rfl
  | p :: suf, pre, h => by
    have hp : l[pre.length]? = some p := by rw [h]; exact getsufR pre p suf
    have hm : p ∈ l := List.mem_of_getElem? hp
    obtain ⟨q0, q1, q2⟩ := hok p hm
    have hlt := at_lt hp
    have hrest : restB (p :: suf) = paE p ++ restB suf := rfl
    rw [List.length_cons, rbF, bitsR_2 hlt, nul_at hp q0, tyR_at hp, hrest]
    have ih := rb_back hok E suf (pre ++ [p]) (by rw [h]; simp)
    rw [List.length_append, show vaR (pre ++ [p]) = vaR pre ++ [p.v] by simp [vaR]] at ih
    by_cases hk : p.v.k = 0
    · rw [decide_eq_true hk, if_pos rfl]
      have he : paE p = [] := if_pos (.inr hk)
      rw [he, ← chk_nil q1 hk]
      exact ih
    · rw [decide_eq_false hk, if_neg (by simp)]
      have he : paE p = enV p.v p.t := if_neg (by rw [q0]; simp [hk])
      have hr := val_back q1 hk q2.1 q2.2 (restB suf ++ E)
      rw [he, List.append_assoc, hr, if_neg (by simp)]
      simp only [List.drop_left]
      exact ih

theorem bits_fine {l : List Pm} (hok : OkR l) : (List.range (8 * (bitsR l).length)).any (bzB (bitsR l) (tyR l).length) = false := by
  rw [List.any_eq_false]
  intro i hi
  have hl : (tyR l).length = l.length := by simp [tyR]
  unfold bzB
  rw [bitsR_at, hl]
  by_cases h1 : 2 ≤ i
  · by_cases h2 : i < l.length + 2
    · rw [decide_eq_false (p := i < 2) (by omega), decide_eq_false (p := l.length + 2 ≤ i) (by omega)]; simp
    · rw [decide_eq_false h2]; simp
  · rw [decide_eq_false h1]; simp
theorem none_fine {l : List Pm} (hok : OkR l) : (List.range (tyR l).length).any (nzB (bitsR l) (tyR l)) = false := by
  rw [List.any_eq_false]
  intro i hi
  have hl : (tyR l).length = l.length := by simp [tyR]
  have hi := List.mem_range.1 hi
  rw [hl] at hi
  obtain ⟨p, hp⟩ : ∃ p, l[i]? = some p := ⟨_, List.getElem?_eq_getElem hi⟩
  obtain ⟨q0, q1, q2⟩ := hok p (List.mem_of_getElem? hp)
  unfold nzB
  rw [tyR_at hp, bitsR_2 hi, nul_at hp q0]
  by_cases hk : p.v.k = 0
  · rw [decide_eq_true hk]; simp
  · rw [decide_eq_false (p := p.t.t = 6) (chk_no6 q1 hk)]; simp

theorem kinds_fine {l : List Pm} (hok : OkR l) : (tyR l).any (fun t => decide (kindN t.t t.u < 0)) = false := by
  rw [List.any_eq_false]
  intro t ht
  obtain ⟨p, hp, rfl⟩ := List.mem_map.1 ht
  have := chk_kn (hok p hp).2.1
  rw [decide_eq_false (by omega)]; simp

theorem bn_back {l : List Pm} (h1 : l.length ≤ 4096) (hok : OkR l) (E : List UInt8) : rdBin (bnB l ++ E) (tyR l) = if E = [] then (vaR l, 0) else ([], 5) := by
  have hl : (tyR l).length = l.length := by simp [tyR]
  have hb := bitsR_len l
  unfold rdBin bnB
  rw [if_neg (by omega), kinds_fine hok, if_neg (by simp), List.cons_append]
  simp only
  rw [if_neg (by simp), hl, ← hb, if_neg (by simp only [List.length_append]; omega), List.append_assoc, List.take_left, List.drop_left]
  unfold rdBm
  rw [bits_fine hok, none_fine hok, if_neg (by simp), if_neg (by simp), hl]
  have := rb_back hok E l [] rfl
  rw [show vaR [] = [] from rfl, List.length_nil] at this
  rw [this]
  unfold rwZ
  rw [if_neg (by simp)]
  cases E with
  | nil => simp
  | cons a r => simp

end Go.Proofs.YtafdnpcamepbmaaDoor

/- Plain: a text row that is written is read back, whole; less is too short, more is wrong. -/
namespace Go.Proofs.YtafdnpcamepbmaaDoor
open Go.AM
set_option linter.unusedSimpArgs false
set_option linter.unusedVariables false

/-- the type of all that a text row holds -/
def tyVS : Ty := ⟨253, false⟩
/-- what AppendText tells -/
def txApp (b : List UInt8) (l : List Va) : List UInt8 × Int :=
  if 4096 < l.length then ([], 3) else if l.any (fun v => decide (chkV v tyVS ≠ 0)) then ([], 2) else (b ++ txR l, 0)
/-- what ReadText tells -/
def rdTxt (b : List UInt8) (n : Int) : List Va × Int := if n < 0 ∨ 4096 < n then ([], 2) else rwZ (rdTx n.toNat [] b)

theorem ok_tx {v : Va} (h : chkV v tyVS = 0) : okTx v := by
  rcases chk_ok h with h | h
  · exact .inl h
  · right
    unfold okVa at h
    have hk : kindN tyVS.t tyVS.u = 7 := by decide
    have hk2 := okVk_k h
    rw [hk] at h hk2
    unfold okVk at h
    rw [if_neg (by omega), if_neg (by omega), if_neg (by omega), if_pos hk2.1.symm] at h
    simp only [Bool.and_eq_true, decide_eq_true_eq] at h
    exact ⟨h.2.1, h.2.2⟩

theorem txt_back {l : List Va} (h1 : l.length ≤ 4096) (hok : ∀ v ∈ l, okTx v) (E : List UInt8) : rdTxt (txR l ++ E) (l.length : Nat) = if E = [] then (l, 0) else ([], 5) := by
  unfold rdTxt
  rw [if_neg (by omega), Int.toNat_natCast, tx_back E l [] hok]
  unfold rwZ
  rw [if_neg (by simp)]
  cases E with
  | nil => simp
  | cons a r => simp

end Go.Proofs.YtafdnpcamepbmaaDoor

/- Walks: the document's check of a value, its first part. -/
namespace Go.Proofs.YtafdnpcamepbmaaDoor
open Go.AM
set_option linter.unusedSimpArgs false
set_option linter.unusedVariables false

/-- does a value hold what its kind has not? -/
def c81 (v : Va) : Bool := (((v.k != 1 && v.i != 0) || (((v.k != 2 && v.k != 3) && v.k != 4) && ((v.b : Int) != 0))) || (v.k != 7 && !(v.t == []))) || ((v.k != 5 && v.k != 6) && !(decide (v.w = {})))

def rcFr (f : Bool) (n : Nat) : AM.Frame := [(2, .ptr 0 0 0 0), (3, .ptr 1 0 0 0), (6, .bool f), (7, .int .u64 (n : Nat))]

end Go.Proofs.YtafdnpcamepbmaaDoor

/- Walks: the document's check of a value; it is the same. -/
namespace Go.Proofs.YtafdnpcamepbmaaDoor
open Go.AM
set_option linter.unusedSimpArgs false
set_option linter.unusedVariables false

/-- is a value wrong, that has just what its kind has? -/
def rbk (v : Va) (n tt : Nat) : Bool :=
  if v.k = 1 then !(okI v.i n) else if v.k = 2 ∨ v.k = 3 ∨ v.k = 4 then !(okB v.b n) else if v.k = 5 ∨ v.k = 6 then !(fin v.w tt) else if v.k = 7 then decide (16777216 < v.t.length) else false
def bad0 (v : Va) (k : Int) : Bool := decide (k < 0) || ((v.k != 0) && (v.k != k))
def rchkV (v : Va) (t : Ty) : Int := if bad0 v (kindN t.t t.u) || c81 v then 2 else if rbk v (rsizeN t.t) t.t then 2 else 0

def r8Fr (n : Nat) : AM.Frame := [(2, .ptr 0 0 0 0), (3, .ptr 1 0 0 0), (6, .bool false), (7, .int .u64 (n : Nat)), (82, .bool false)]
def rckP (v : Va) (t : Ty) (n : Nat) (fr : AM.Frame) (H : AM.Heap) : Prop := H = [some (vaO v), some (tyO t)] ∧ getF fr 6 = .bool (rbk v n t.t) ∧ ∃ f, fr = [(6, .bool f)] ∨ fr = [(2, .ptr 0 0 0 0), (6, .bool f), (127, .bool false)]

end Go.Proofs.YtafdnpcamepbmaaDoor

/- Walks: the document's check of a value, whole; plain: both checks agree. -/
namespace Go.Proofs.YtafdnpcamepbmaaDoor
open Go.AM
set_option linter.unusedSimpArgs false
set_option linter.unusedVariables false

section
variable (v : Va) (t : Ty)

end

end Go.Proofs.YtafdnpcamepbmaaDoor

/- Walks: the document's moment, appended: its end. -/
namespace Go.Proofs.YtafdnpcamepbmaaDoor
open Go.AM
set_option linter.unusedSimpArgs false
set_option linter.unusedVariables false

section
variable (c : Nat) (b own : List UInt8) (w : Wh)

end

end Go.Proofs.YtafdnpcamepbmaaDoor
