/- Walks: the document's check of a value, its first part. -/
import Derived.Test.YtbmddnokokoofaaV3d
namespace Go.Proofs.Ytbmddnokokoofaa
open Go.AM
set_option linter.unusedSimpArgs false
set_option linter.unusedVariables false

/-- does a value hold what its kind has not? -/
def c81 (v : Va) : Bool := (((v.k != 1 && v.i != 0) || (((v.k != 2 && v.k != 3) && v.k != 4) && ((v.b : Int) != 0))) || (v.k != 7 && !(v.t == []))) || ((v.k != 5 && v.k != 6) && !(decide (v.w = {})))

/-- the document's check, its fourth region -/
noncomputable def rcO : Option Code := ((((((Try.f27.body).bind cR).bind cR).bind cR).bind cR).bind cL).bind cL
def rcFr (f : Bool) (n : Nat) : AM.Frame := [(2, .ptr 0 0 0 0), (3, .ptr 1 0 0 0), (6, .bool f), (7, .int .u64 (n : Nat))]

set_option maxRecDepth 100000 in
set_option maxHeartbeats 4000000 in
theorem c81_1 (v : Va) (t : Ty) (f : Bool) (n : Nat) (kv : v.k = 1) : ∃ code, rcO = some code ∧
    Run X (evT X) 27 0 code (rcFr f n) [some (vaO v), some (tyO t)] ⟨.normal, rcFr f n ++ [(81, .bool (c81 v))], [some (vaO v), some (tyO t)]⟩ := by
  refine ⟨_, rfl, ?_⟩
  unfold c81
  have hW := fun H xo yo => eqWh v.w {} H xo yo
  have hb0 := bdW0
  generalize decide (v.w = {}) = wz at *
  simp only [Wh.pay, Int.cast_ofNat_Int] at hW
  by_cases a0 : v.b = 0
  case neg =>
    have e0 : ((v.b : Int) != 0) = true := by simpa using a0
    (refine ⟨0, ?_⟩; simp (maxSteps := 2000000) -implicitDefEqProofs [-getElem?_pos, List.getElem?_cons_zero, List.getElem?_cons_succ, go_sem, eqV, plen, loadV, storeV, -eqV, rcFr, vaO, tyO, Va.pay, mkWh, hb0, hW, strOp, kv, e0])
  by_cases a1 : v.t = []
  case neg =>
    have e1 : (v.t == []) = false := by simpa using a1
    (refine ⟨0, ?_⟩; simp (maxSteps := 2000000) -implicitDefEqProofs [-getElem?_pos, List.getElem?_cons_zero, List.getElem?_cons_succ, go_sem, eqV, plen, loadV, storeV, -eqV, rcFr, vaO, tyO, Va.pay, mkWh, hb0, hW, strOp, kv, a0, e1])
  (refine ⟨0, ?_⟩; simp (maxSteps := 2000000) -implicitDefEqProofs [-getElem?_pos, List.getElem?_cons_zero, List.getElem?_cons_succ, go_sem, eqV, plen, loadV, storeV, -eqV, rcFr, vaO, tyO, Va.pay, mkWh, hb0, hW, strOp, kv, a0, a1])

set_option maxRecDepth 100000 in
set_option maxHeartbeats 4000000 in
theorem c81_2 (v : Va) (t : Ty) (f : Bool) (n : Nat) (kv : v.k = 2) : ∃ code, rcO = some code ∧
    Run X (evT X) 27 0 code (rcFr f n) [some (vaO v), some (tyO t)] ⟨.normal, rcFr f n ++ [(81, .bool (c81 v))], [some (vaO v), some (tyO t)]⟩ := by
  refine ⟨_, rfl, ?_⟩
  unfold c81
  have hW := fun H xo yo => eqWh v.w {} H xo yo
  have hb0 := bdW0
  generalize decide (v.w = {}) = wz at *
  simp only [Wh.pay, Int.cast_ofNat_Int] at hW
  by_cases a0 : v.i = 0
  case neg =>
    have e0 : (v.i != 0) = true := by simpa using a0
    (refine ⟨0, ?_⟩; simp (maxSteps := 2000000) -implicitDefEqProofs [-getElem?_pos, List.getElem?_cons_zero, List.getElem?_cons_succ, go_sem, eqV, plen, loadV, storeV, -eqV, rcFr, vaO, tyO, Va.pay, mkWh, hb0, hW, strOp, kv, e0])
  by_cases a1 : v.t = []
  case neg =>
    have e1 : (v.t == []) = false := by simpa using a1
    (refine ⟨0, ?_⟩; simp (maxSteps := 2000000) -implicitDefEqProofs [-getElem?_pos, List.getElem?_cons_zero, List.getElem?_cons_succ, go_sem, eqV, plen, loadV, storeV, -eqV, rcFr, vaO, tyO, Va.pay, mkWh, hb0, hW, strOp, kv, a0, e1])
  (refine ⟨0, ?_⟩; simp (maxSteps := 2000000) -implicitDefEqProofs [-getElem?_pos, List.getElem?_cons_zero, List.getElem?_cons_succ, go_sem, eqV, plen, loadV, storeV, -eqV, rcFr, vaO, tyO, Va.pay, mkWh, hb0, hW, strOp, kv, a0, a1])

set_option maxRecDepth 100000 in
set_option maxHeartbeats 4000000 in
theorem c81_3 (v : Va) (t : Ty) (f : Bool) (n : Nat) (kv : v.k = 3) : ∃ code, rcO = some code ∧
    Run X (evT X) 27 0 code (rcFr f n) [some (vaO v), some (tyO t)] ⟨.normal, rcFr f n ++ [(81, .bool (c81 v))], [some (vaO v), some (tyO t)]⟩ := by
  refine ⟨_, rfl, ?_⟩
  unfold c81
  have hW := fun H xo yo => eqWh v.w {} H xo yo
  have hb0 := bdW0
  generalize decide (v.w = {}) = wz at *
  simp only [Wh.pay, Int.cast_ofNat_Int] at hW
  by_cases a0 : v.i = 0
  case neg =>
    have e0 : (v.i != 0) = true := by simpa using a0
    (refine ⟨0, ?_⟩; simp (maxSteps := 2000000) -implicitDefEqProofs [-getElem?_pos, List.getElem?_cons_zero, List.getElem?_cons_succ, go_sem, eqV, plen, loadV, storeV, -eqV, rcFr, vaO, tyO, Va.pay, mkWh, hb0, hW, strOp, kv, e0])
  by_cases a1 : v.t = []
  case neg =>
    have e1 : (v.t == []) = false := by simpa using a1
    (refine ⟨0, ?_⟩; simp (maxSteps := 2000000) -implicitDefEqProofs [-getElem?_pos, List.getElem?_cons_zero, List.getElem?_cons_succ, go_sem, eqV, plen, loadV, storeV, -eqV, rcFr, vaO, tyO, Va.pay, mkWh, hb0, hW, strOp, kv, a0, e1])
  (refine ⟨0, ?_⟩; simp (maxSteps := 2000000) -implicitDefEqProofs [-getElem?_pos, List.getElem?_cons_zero, List.getElem?_cons_succ, go_sem, eqV, plen, loadV, storeV, -eqV, rcFr, vaO, tyO, Va.pay, mkWh, hb0, hW, strOp, kv, a0, a1])

set_option maxRecDepth 100000 in
set_option maxHeartbeats 4000000 in
theorem c81_4 (v : Va) (t : Ty) (f : Bool) (n : Nat) (kv : v.k = 4) : ∃ code, rcO = some code ∧
    Run X (evT X) 27 0 code (rcFr f n) [some (vaO v), some (tyO t)] ⟨.normal, rcFr f n ++ [(81, .bool (c81 v))], [some (vaO v), some (tyO t)]⟩ := by
  refine ⟨_, rfl, ?_⟩
  unfold c81
  have hW := fun H xo yo => eqWh v.w {} H xo yo
  have hb0 := bdW0
  generalize decide (v.w = {}) = wz at *
  simp only [Wh.pay, Int.cast_ofNat_Int] at hW
  by_cases a0 : v.i = 0
  case neg =>
    have e0 : (v.i != 0) = true := by simpa using a0
    (refine ⟨0, ?_⟩; simp (maxSteps := 2000000) -implicitDefEqProofs [-getElem?_pos, List.getElem?_cons_zero, List.getElem?_cons_succ, go_sem, eqV, plen, loadV, storeV, -eqV, rcFr, vaO, tyO, Va.pay, mkWh, hb0, hW, strOp, kv, e0])
  by_cases a1 : v.t = []
  case neg =>
    have e1 : (v.t == []) = false := by simpa using a1
    (refine ⟨0, ?_⟩; simp (maxSteps := 2000000) -implicitDefEqProofs [-getElem?_pos, List.getElem?_cons_zero, List.getElem?_cons_succ, go_sem, eqV, plen, loadV, storeV, -eqV, rcFr, vaO, tyO, Va.pay, mkWh, hb0, hW, strOp, kv, a0, e1])
  (refine ⟨0, ?_⟩; simp (maxSteps := 2000000) -implicitDefEqProofs [-getElem?_pos, List.getElem?_cons_zero, List.getElem?_cons_succ, go_sem, eqV, plen, loadV, storeV, -eqV, rcFr, vaO, tyO, Va.pay, mkWh, hb0, hW, strOp, kv, a0, a1])

set_option maxRecDepth 100000 in
set_option maxHeartbeats 4000000 in
theorem c81_5 (v : Va) (t : Ty) (f : Bool) (n : Nat) (kv : v.k = 5) : ∃ code, rcO = some code ∧
    Run X (evT X) 27 0 code (rcFr f n) [some (vaO v), some (tyO t)] ⟨.normal, rcFr f n ++ [(81, .bool (c81 v))], [some (vaO v), some (tyO t)]⟩ := by
  refine ⟨_, rfl, ?_⟩
  unfold c81
  have hW := fun H xo yo => eqWh v.w {} H xo yo
  have hb0 := bdW0
  generalize decide (v.w = {}) = wz at *
  simp only [Wh.pay, Int.cast_ofNat_Int] at hW
  by_cases a0 : v.i = 0
  case neg =>
    have e0 : (v.i != 0) = true := by simpa using a0
    (refine ⟨0, ?_⟩; simp (maxSteps := 2000000) -implicitDefEqProofs [-getElem?_pos, List.getElem?_cons_zero, List.getElem?_cons_succ, go_sem, eqV, plen, loadV, storeV, -eqV, rcFr, vaO, tyO, Va.pay, mkWh, hb0, hW, strOp, kv, e0])
  by_cases a1 : v.b = 0
  case neg =>
    have e1 : ((v.b : Int) != 0) = true := by simpa using a1
    (refine ⟨0, ?_⟩; simp (maxSteps := 2000000) -implicitDefEqProofs [-getElem?_pos, List.getElem?_cons_zero, List.getElem?_cons_succ, go_sem, eqV, plen, loadV, storeV, -eqV, rcFr, vaO, tyO, Va.pay, mkWh, hb0, hW, strOp, kv, a0, e1])
  by_cases a2 : v.t = []
  case neg =>
    have e2 : (v.t == []) = false := by simpa using a2
    (refine ⟨0, ?_⟩; simp (maxSteps := 2000000) -implicitDefEqProofs [-getElem?_pos, List.getElem?_cons_zero, List.getElem?_cons_succ, go_sem, eqV, plen, loadV, storeV, -eqV, rcFr, vaO, tyO, Va.pay, mkWh, hb0, hW, strOp, kv, a0, a1, e2])
  (refine ⟨0, ?_⟩; simp (maxSteps := 2000000) -implicitDefEqProofs [-getElem?_pos, List.getElem?_cons_zero, List.getElem?_cons_succ, go_sem, eqV, plen, loadV, storeV, -eqV, rcFr, vaO, tyO, Va.pay, mkWh, hb0, hW, strOp, kv, a0, a1, a2])

set_option maxRecDepth 100000 in
set_option maxHeartbeats 4000000 in
theorem c81_6 (v : Va) (t : Ty) (f : Bool) (n : Nat) (kv : v.k = 6) : ∃ code, rcO = some code ∧
    Run X (evT X) 27 0 code (rcFr f n) [some (vaO v), some (tyO t)] ⟨.normal, rcFr f n ++ [(81, .bool (c81 v))], [some (vaO v), some (tyO t)]⟩ := by
  refine ⟨_, rfl, ?_⟩
  unfold c81
  have hW := fun H xo yo => eqWh v.w {} H xo yo
  have hb0 := bdW0
  generalize decide (v.w = {}) = wz at *
  simp only [Wh.pay, Int.cast_ofNat_Int] at hW
  by_cases a0 : v.i = 0
  case neg =>
    have e0 : (v.i != 0) = true := by simpa using a0
    (refine ⟨0, ?_⟩; simp (maxSteps := 2000000) -implicitDefEqProofs [-getElem?_pos, List.getElem?_cons_zero, List.getElem?_cons_succ, go_sem, eqV, plen, loadV, storeV, -eqV, rcFr, vaO, tyO, Va.pay, mkWh, hb0, hW, strOp, kv, e0])
  by_cases a1 : v.b = 0
  case neg =>
    have e1 : ((v.b : Int) != 0) = true := by simpa using a1
    (refine ⟨0, ?_⟩; simp (maxSteps := 2000000) -implicitDefEqProofs [-getElem?_pos, List.getElem?_cons_zero, List.getElem?_cons_succ, go_sem, eqV, plen, loadV, storeV, -eqV, rcFr, vaO, tyO, Va.pay, mkWh, hb0, hW, strOp, kv, a0, e1])
  by_cases a2 : v.t = []
  case neg =>
    have e2 : (v.t == []) = false := by simpa using a2
    (refine ⟨0, ?_⟩; simp (maxSteps := 2000000) -implicitDefEqProofs [-getElem?_pos, List.getElem?_cons_zero, List.getElem?_cons_succ, go_sem, eqV, plen, loadV, storeV, -eqV, rcFr, vaO, tyO, Va.pay, mkWh, hb0, hW, strOp, kv, a0, a1, e2])
  (refine ⟨0, ?_⟩; simp (maxSteps := 2000000) -implicitDefEqProofs [-getElem?_pos, List.getElem?_cons_zero, List.getElem?_cons_succ, go_sem, eqV, plen, loadV, storeV, -eqV, rcFr, vaO, tyO, Va.pay, mkWh, hb0, hW, strOp, kv, a0, a1, a2])

set_option maxRecDepth 100000 in
set_option maxHeartbeats 4000000 in
theorem c81_7 (v : Va) (t : Ty) (f : Bool) (n : Nat) (kv : v.k = 7) : ∃ code, rcO = some code ∧
    Run X (evT X) 27 0 code (rcFr f n) [some (vaO v), some (tyO t)] ⟨.normal, rcFr f n ++ [(81, .bool (c81 v))], [some (vaO v), some (tyO t)]⟩ := by
  refine ⟨_, rfl, ?_⟩
  unfold c81
  have hW := fun H xo yo => eqWh v.w {} H xo yo
  have hb0 := bdW0
  generalize decide (v.w = {}) = wz at *
  simp only [Wh.pay, Int.cast_ofNat_Int] at hW
  by_cases a0 : v.i = 0
  case neg =>
    have e0 : (v.i != 0) = true := by simpa using a0
    (refine ⟨0, ?_⟩; simp (maxSteps := 2000000) -implicitDefEqProofs [-getElem?_pos, List.getElem?_cons_zero, List.getElem?_cons_succ, go_sem, eqV, plen, loadV, storeV, -eqV, rcFr, vaO, tyO, Va.pay, mkWh, hb0, hW, strOp, kv, e0])
  by_cases a1 : v.b = 0
  case neg =>
    have e1 : ((v.b : Int) != 0) = true := by simpa using a1
    (refine ⟨0, ?_⟩; simp (maxSteps := 2000000) -implicitDefEqProofs [-getElem?_pos, List.getElem?_cons_zero, List.getElem?_cons_succ, go_sem, eqV, plen, loadV, storeV, -eqV, rcFr, vaO, tyO, Va.pay, mkWh, hb0, hW, strOp, kv, a0, e1])
  (refine ⟨0, ?_⟩; simp (maxSteps := 2000000) -implicitDefEqProofs [-getElem?_pos, List.getElem?_cons_zero, List.getElem?_cons_succ, go_sem, eqV, plen, loadV, storeV, -eqV, rcFr, vaO, tyO, Va.pay, mkWh, hb0, hW, strOp, kv, a0, a1])

set_option maxRecDepth 100000 in
set_option maxHeartbeats 4000000 in
theorem c81_o (v : Va) (t : Ty) (f : Bool) (n : Nat) (k1 : (v.k != 1) = true) (k2 : (v.k != 2) = true) (k3 : (v.k != 3) = true) (k4 : (v.k != 4) = true) (k5 : (v.k != 5) = true) (k6 : (v.k != 6) = true) (k7 : (v.k != 7) = true) : ∃ code, rcO = some code ∧
    Run X (evT X) 27 0 code (rcFr f n) [some (vaO v), some (tyO t)] ⟨.normal, rcFr f n ++ [(81, .bool (c81 v))], [some (vaO v), some (tyO t)]⟩ := by
  refine ⟨_, rfl, ?_⟩
  unfold c81
  have hW := fun H xo yo => eqWh v.w {} H xo yo
  have hb0 := bdW0
  generalize decide (v.w = {}) = wz at *
  simp only [Wh.pay, Int.cast_ofNat_Int] at hW
  by_cases a0 : v.i = 0
  case neg =>
    have e0 : (v.i != 0) = true := by simpa using a0
    (refine ⟨0, ?_⟩; simp (maxSteps := 2000000) -implicitDefEqProofs [-getElem?_pos, List.getElem?_cons_zero, List.getElem?_cons_succ, go_sem, eqV, plen, loadV, storeV, -eqV, rcFr, vaO, tyO, Va.pay, mkWh, hb0, hW, strOp, k1, k2, k3, k4, k5, k6, k7, e0])
  by_cases a1 : v.b = 0
  case neg =>
    have e1 : ((v.b : Int) != 0) = true := by simpa using a1
    (refine ⟨0, ?_⟩; simp (maxSteps := 2000000) -implicitDefEqProofs [-getElem?_pos, List.getElem?_cons_zero, List.getElem?_cons_succ, go_sem, eqV, plen, loadV, storeV, -eqV, rcFr, vaO, tyO, Va.pay, mkWh, hb0, hW, strOp, k1, k2, k3, k4, k5, k6, k7, a0, e1])
  by_cases a2 : v.t = []
  case neg =>
    have e2 : (v.t == []) = false := by simpa using a2
    (refine ⟨0, ?_⟩; simp (maxSteps := 2000000) -implicitDefEqProofs [-getElem?_pos, List.getElem?_cons_zero, List.getElem?_cons_succ, go_sem, eqV, plen, loadV, storeV, -eqV, rcFr, vaO, tyO, Va.pay, mkWh, hb0, hW, strOp, k1, k2, k3, k4, k5, k6, k7, a0, a1, e2])
  (refine ⟨0, ?_⟩; simp (maxSteps := 2000000) -implicitDefEqProofs [-getElem?_pos, List.getElem?_cons_zero, List.getElem?_cons_succ, go_sem, eqV, plen, loadV, storeV, -eqV, rcFr, vaO, tyO, Va.pay, mkWh, hb0, hW, strOp, k1, k2, k3, k4, k5, k6, k7, a0, a1, a2])

theorem c81_code (v : Va) (t : Ty) (f : Bool) (n : Nat) : ∃ code, rcO = some code ∧
    Run X (evT X) 27 0 code (rcFr f n) [some (vaO v), some (tyO t)] ⟨.normal, rcFr f n ++ [(81, .bool (c81 v))], [some (vaO v), some (tyO t)]⟩ := by
  by_cases k1 : v.k = 1
  · exact c81_1 v t f n k1
  by_cases k2 : v.k = 2
  · exact c81_2 v t f n k2
  by_cases k3 : v.k = 3
  · exact c81_3 v t f n k3
  by_cases k4 : v.k = 4
  · exact c81_4 v t f n k4
  by_cases k5 : v.k = 5
  · exact c81_5 v t f n k5
  by_cases k6 : v.k = 6
  · exact c81_6 v t f n k6
  by_cases k7 : v.k = 7
  · exact c81_7 v t f n k7
  exact c81_o v t f n (by simpa using k1) (by simpa using k2) (by simpa using k3) (by simpa using k4) (by simpa using k5) (by simpa using k6) (by simpa using k7)

end Go.Proofs.Ytbmddnokokoofaa
