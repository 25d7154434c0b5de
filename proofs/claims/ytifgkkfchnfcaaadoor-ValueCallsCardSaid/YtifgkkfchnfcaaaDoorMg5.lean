/- V4 to VA: texts of this claim, one behind the other; what each shows stands at its head. -/
import Derived.Test.YtifgkkfchnfcaaaDoorMg4
/- Walks: the document's check of a value, its first part. -/
namespace Go.Proofs.YtifgkkfchnfcaaaDoor
open Go.AM
set_option linter.unusedSimpArgs false
set_option linter.unusedVariables false

/-- does a value hold what its kind has not? -/
def c81 (v : Va) : Bool := (((v.k != 1 && v.i != 0) || (((v.k != 2 && v.k != 3) && v.k != 4) && ((v.b : Int) != 0))) || (v.k != 7 && !(v.t == []))) || ((v.k != 5 && v.k != 6) && !(decide (v.w = {})))

/-- the document's check, its fourth region -/
noncomputable def rcO : Option Code := ((((((Tryd.f16.body).bind cR).bind cR).bind cR).bind cR).bind cL).bind cL
def rcFr (f : Bool) (n : Nat) : AM.Frame := [(2, .ptr 0 0 0 0), (3, .ptr 1 0 0 0), (6, .bool f), (7, .int .u64 (n : Nat))]

set_option maxRecDepth 100000 in
set_option maxHeartbeats 4000000 in
theorem c81_1 (v : Va) (t : Ty) (f : Bool) (n : Nat) (kv : v.k = 1) : ∃ code, rcO = some code ∧
    Run X (evT X) 16 0 code (rcFr f n) [some (vaO v), some (tyO t)] ⟨.normal, rcFr f n ++ [(81, .bool (c81 v))], [some (vaO v), some (tyO t)]⟩ := by
  refine ⟨_, rfl, ?_⟩
  unfold c81
  have hW := fun H xo yo => eqWh v.w {} H xo yo
  have hb0 := bdW0
  generalize decide (v.w = {}) = wz at *
  simp only [Wh.pay, Int.cast_ofNat_Int] at hW
  by_cases a0 : v.b = 0
  case neg =>
    have e0 : ((v.b : Int) != 0) = true := by simpa using a0
    (refine ⟨0, ?_⟩; simp (maxSteps := 2000000) -implicitDefEqProofs [-getElem?_pos, List.getElem?_cons_zero, List.getElem?_cons_succ, go_sem, eqV, plen, loadV, storeV, -eqV, rcFr, vaO, tyO, Va.pay, mkWh, hb0, hW, strOp, kv, e0])
  by_cases a1 : v.t = []
  case neg =>
    have e1 : (v.t == []) = false := by simpa using a1
    (refine ⟨0, ?_⟩; simp (maxSteps := 2000000) -implicitDefEqProofs [-getElem?_pos, List.getElem?_cons_zero, List.getElem?_cons_succ, go_sem, eqV, plen, loadV, storeV, -eqV, rcFr, vaO, tyO, Va.pay, mkWh, hb0, hW, strOp, kv, a0, e1])
  (refine ⟨0, ?_⟩; simp (maxSteps := 2000000) -implicitDefEqProofs [-getElem?_pos, List.getElem?_cons_zero, List.getElem?_cons_succ, go_sem, eqV, plen, loadV, storeV, -eqV, rcFr, vaO, tyO, Va.pay, mkWh, hb0, hW, strOp, kv, a0, a1])

set_option maxRecDepth 100000 in
set_option maxHeartbeats 4000000 in
theorem c81_2 (v : Va) (t : Ty) (f : Bool) (n : Nat) (kv : v.k = 2) : ∃ code, rcO = some code ∧
    Run X (evT X) 16 0 code (rcFr f n) [some (vaO v), some (tyO t)] ⟨.normal, rcFr f n ++ [(81, .bool (c81 v))], [some (vaO v), some (tyO t)]⟩ := by
  refine ⟨_, rfl, ?_⟩
  unfold c81
  have hW := fun H xo yo => eqWh v.w {} H xo yo
  have hb0 := bdW0
  generalize decide (v.w = {}) = wz at *
  simp only [Wh.pay, Int.cast_ofNat_Int] at hW
  by_cases a0 : v.i = 0
  case neg =>
    have e0 : (v.i != 0) = true := by simpa using a0
    (refine ⟨0, ?_⟩; simp (maxSteps := 2000000) -implicitDefEqProofs [-getElem?_pos, List.getElem?_cons_zero, List.getElem?_cons_succ, go_sem, eqV, plen, loadV, storeV, -eqV, rcFr, vaO, tyO, Va.pay, mkWh, hb0, hW, strOp, kv, e0])
  by_cases a1 : v.t = []
  case neg =>
    have e1 : (v.t == []) = false := by simpa using a1
    (refine ⟨0, ?_⟩; simp (maxSteps := 2000000) -implicitDefEqProofs [-getElem?_pos, List.getElem?_cons_zero, List.getElem?_cons_succ, go_sem, eqV, plen, loadV, storeV, -eqV, rcFr, vaO, tyO, Va.pay, mkWh, hb0, hW, strOp, kv, a0, e1])
  (refine ⟨0, ?_⟩; simp (maxSteps := 2000000) -implicitDefEqProofs [-getElem?_pos, List.getElem?_cons_zero, List.getElem?_cons_succ, go_sem, eqV, plen, loadV, storeV, -eqV, rcFr, vaO, tyO, Va.pay, mkWh, hb0, hW, strOp, kv, a0, a1])

set_option maxRecDepth 100000 in
set_option maxHeartbeats 4000000 in
theorem c81_3 (v : Va) (t : Ty) (f : Bool) (n : Nat) (kv : v.k = 3) : ∃ code, rcO = some code ∧
    Run X (evT X) 16 0 code (rcFr f n) [some (vaO v), some (tyO t)] ⟨.normal, rcFr f n ++ [(81, .bool (c81 v))], [some (vaO v), some (tyO t)]⟩ := by
  refine ⟨_, rfl, ?_⟩
  unfold c81
  have hW := fun H xo yo => eqWh v.w {} H xo yo
  have hb0 := bdW0
  generalize decide (v.w = {}) = wz at *
  simp only [Wh.pay, Int.cast_ofNat_Int] at hW
  by_cases a0 : v.i = 0
  case neg =>
    have e0 : (v.i != 0) = true := by simpa using a0
    (refine ⟨0, ?_⟩; simp (maxSteps := 2000000) -implicitDefEqProofs [-getElem?_pos, List.getElem?_cons_zero, List.getElem?_cons_succ, go_sem, eqV, plen, loadV, storeV, -eqV, rcFr, vaO, tyO, Va.pay, mkWh, hb0, hW, strOp, kv, e0])
  by_cases a1 : v.t = []
  case neg =>
    have e1 : (v.t == []) = false := by simpa using a1
    (refine ⟨0, ?_⟩; simp (maxSteps := 2000000) -implicitDefEqProofs [-getElem?_pos, List.getElem?_cons_zero, List.getElem?_cons_succ, go_sem, eqV, plen, loadV, storeV, -eqV, rcFr, vaO, tyO, Va.pay, mkWh, hb0, hW, strOp, kv, a0, e1])
  (refine ⟨0, ?_⟩; simp (maxSteps := 2000000) -implicitDefEqProofs [-getElem?_pos, List.getElem?_cons_zero, List.getElem?_cons_succ, go_sem, eqV, plen, loadV, storeV, -eqV, rcFr, vaO, tyO, Va.pay, mkWh, hb0, hW, strOp, kv, a0, a1])

set_option maxRecDepth 100000 in
set_option maxHeartbeats 4000000 in
theorem c81_4 (v : Va) (t : Ty) (f : Bool) (n : Nat) (kv : v.k = 4) : ∃ code, rcO = some code ∧
    Run X (evT X) 16 0 code (rcFr f n) [some (vaO v), some (tyO t)] ⟨.normal, rcFr f n ++ [(81, .bool (c81 v))], [some (vaO v), some (tyO t)]⟩ := by
  refine ⟨_, rfl, ?_⟩
  unfold c81
  have hW := fun H xo yo => eqWh v.w {} H xo yo
  have hb0 := bdW0
  generalize decide (v.w = {}) = wz at *
  simp only [Wh.pay, Int.cast_ofNat_Int] at hW
  by_cases a0 : v.i = 0
  case neg =>
    have e0 : (v.i != 0) = true := by simpa using a0
    (refine ⟨0, ?_⟩; simp (maxSteps := 2000000) -implicitDefEqProofs [-getElem?_pos, List.getElem?_cons_zero, List.getElem?_cons_succ, go_sem, eqV, plen, loadV, storeV, -eqV, rcFr, vaO, tyO, Va.pay, mkWh, hb0, hW, strOp, kv, e0])
  by_cases a1 : v.t = []
  case neg =>
    have e1 : (v.t == []) = false := by simpa using a1
    (refine ⟨0, ?_⟩; simp (maxSteps := 2000000) -implicitDefEqProofs [-getElem?_pos, List.getElem?_cons_zero, List.getElem?_cons_succ, go_sem, eqV, plen, loadV, storeV, -eqV, rcFr, vaO, tyO, Va.pay, mkWh, hb0, hW, strOp, kv, a0, e1])
  (refine ⟨0, ?_⟩; simp (maxSteps := 2000000) -implicitDefEqProofs [-getElem?_pos, List.getElem?_cons_zero, List.getElem?_cons_succ, go_sem, eqV, plen, loadV, storeV, -eqV, rcFr, vaO, tyO, Va.pay, mkWh, hb0, hW, strOp, kv, a0, a1])

set_option maxRecDepth 100000 in
set_option maxHeartbeats 4000000 in
theorem c81_5 (v : Va) (t : Ty) (f : Bool) (n : Nat) (kv : v.k = 5) : ∃ code, rcO = some code ∧
    Run X (evT X) 16 0 code (rcFr f n) [some (vaO v), some (tyO t)] ⟨.normal, rcFr f n ++ [(81, .bool (c81 v))], [some (vaO v), some (tyO t)]⟩ := by
  refine ⟨_, rfl, ?_⟩
  unfold c81
  have hW := fun H xo yo => eqWh v.w {} H xo yo
  have hb0 := bdW0
  generalize decide (v.w = {}) = wz at *
  simp only [Wh.pay, Int.cast_ofNat_Int] at hW
  by_cases a0 : v.i = 0
  case neg =>
    have e0 : (v.i != 0) = true := by simpa using a0
    (refine ⟨0, ?_⟩; simp (maxSteps := 2000000) -implicitDefEqProofs [-getElem?_pos, List.getElem?_cons_zero, List.getElem?_cons_succ, go_sem, eqV, plen, loadV, storeV, -eqV, rcFr, vaO, tyO, Va.pay, mkWh, hb0, hW, strOp, kv, e0])
  by_cases a1 : v.b = 0
  case neg =>
    have e1 : ((v.b : Int) != 0) = true := by simpa using a1
    (refine ⟨0, ?_⟩; simp (maxSteps := 2000000) -implicitDefEqProofs [-getElem?_pos, List.getElem?_cons_zero, List.getElem?_cons_succ, go_sem, eqV, plen, loadV, storeV, -eqV, rcFr, vaO, tyO, Va.pay, mkWh, hb0, hW, strOp, kv, a0, e1])
  by_cases a2 : v.t = []
  case neg =>
    have e2 : (v.t == []) = false := by simpa using a2
    (refine ⟨0, ?_⟩; simp (maxSteps := 2000000) -implicitDefEqProofs [-getElem?_pos, List.getElem?_cons_zero, List.getElem?_cons_succ, go_sem, eqV, plen, loadV, storeV, -eqV, rcFr, vaO, tyO, Va.pay, mkWh, hb0, hW, strOp, kv, a0, a1, e2])
  (refine ⟨0, ?_⟩; simp (maxSteps := 2000000) -implicitDefEqProofs [-getElem?_pos, List.getElem?_cons_zero, List.getElem?_cons_succ, go_sem, eqV, plen, loadV, storeV, -eqV, rcFr, vaO, tyO, Va.pay, mkWh, hb0, hW, strOp, kv, a0, a1, a2])

set_option maxRecDepth 100000 in
set_option maxHeartbeats 4000000 in
theorem c81_6 (v : Va) (t : Ty) (f : Bool) (n : Nat) (kv : v.k = 6) : ∃ code, rcO = some code ∧
    Run X (evT X) 16 0 code (rcFr f n) [some (vaO v), some (tyO t)] ⟨.normal, rcFr f n ++ [(81, .bool (c81 v))], [some (vaO v), some (tyO t)]⟩ := by
  refine ⟨_, rfl, ?_⟩
  unfold c81
  have hW := fun H xo yo => eqWh v.w {} H xo yo
  have hb0 := bdW0
  generalize decide (v.w = {}) = wz at *
  simp only [Wh.pay, Int.cast_ofNat_Int] at hW
  by_cases a0 : v.i = 0
  case neg =>
    have e0 : (v.i != 0) = true := by simpa using a0
    (refine ⟨0, ?_⟩; simp (maxSteps := 2000000) -implicitDefEqProofs [-getElem?_pos, List.getElem?_cons_zero, List.getElem?_cons_succ, go_sem, eqV, plen, loadV, storeV, -eqV, rcFr, vaO, tyO, Va.pay, mkWh, hb0, hW, strOp, kv, e0])
  by_cases a1 : v.b = 0
  case neg =>
    have e1 : ((v.b : Int) != 0) = true := by simpa using a1
    (refine ⟨0, ?_⟩; simp (maxSteps := 2000000) -implicitDefEqProofs [-getElem?_pos, List.getElem?_cons_zero, List.getElem?_cons_succ, go_sem, eqV, plen, loadV, storeV, -eqV, rcFr, vaO, tyO, Va.pay, mkWh, hb0, hW, strOp, kv, a0, e1])
  by_cases a2 : v.t = []
  case neg =>
    have e2 : (v.t == []) = false := by simpa using a2
    (refine ⟨0, ?_⟩; simp (maxSteps := 2000000) -implicitDefEqProofs [-getElem?_pos, List.getElem?_cons_zero, List.getElem?_cons_succ, go_sem, eqV, plen, loadV, storeV, -eqV, rcFr, vaO, tyO, Va.pay, mkWh, hb0, hW, strOp, kv, a0, a1, e2])
  (refine ⟨0, ?_⟩; simp (maxSteps := 2000000) -implicitDefEqProofs [-getElem?_pos, List.getElem?_cons_zero, List.getElem?_cons_succ, go_sem, eqV, plen, loadV, storeV, -eqV, rcFr, vaO, tyO, Va.pay, mkWh, hb0, hW, strOp, kv, a0, a1, a2])

set_option maxRecDepth 100000 in
set_option maxHeartbeats 4000000 in
theorem c81_7 (v : Va) (t : Ty) (f : Bool) (n : Nat) (kv : v.k = 7) : ∃ code, rcO = some code ∧
    Run X (evT X) 16 0 code (rcFr f n) [some (vaO v), some (tyO t)] ⟨.normal, rcFr f n ++ [(81, .bool (c81 v))], [some (vaO v), some (tyO t)]⟩ := by
  refine ⟨_, rfl, ?_⟩
  unfold c81
  have hW := fun H xo yo => eqWh v.w {} H xo yo
  have hb0 := bdW0
  generalize decide (v.w = {}) = wz at *
  simp only [Wh.pay, Int.cast_ofNat_Int] at hW
  by_cases a0 : v.i = 0
  case neg =>
    have e0 : (v.i != 0) = true := by simpa using a0
    (refine ⟨0, ?_⟩; simp (maxSteps := 2000000) -implicitDefEqProofs [-getElem?_pos, List.getElem?_cons_zero, List.getElem?_cons_succ, go_sem, eqV, plen, loadV, storeV, -eqV, rcFr, vaO, tyO, Va.pay, mkWh, hb0, hW, strOp, kv, e0])
  by_cases a1 : v.b = 0
  case neg =>
    have e1 : ((v.b : Int) != 0) = true := by simpa using a1
    (refine ⟨0, ?_⟩; simp (maxSteps := 2000000) -implicitDefEqProofs [-getElem?_pos, List.getElem?_cons_zero, List.getElem?_cons_succ, go_sem, eqV, plen, loadV, storeV, -eqV, rcFr, vaO, tyO, Va.pay, mkWh, hb0, hW, strOp, kv, a0, e1])
  (refine ⟨0, ?_⟩; simp (maxSteps := 2000000) -implicitDefEqProofs [-getElem?_pos, List.getElem?_cons_zero, List.getElem?_cons_succ, go_sem, eqV, plen, loadV, storeV, -eqV, rcFr, vaO, tyO, Va.pay, mkWh, hb0, hW, strOp, kv, a0, a1])

set_option maxRecDepth 100000 in
set_option maxHeartbeats 4000000 in
theorem c81_o (v : Va) (t : Ty) (f : Bool) (n : Nat) (k1 : (v.k != 1) = true) (k2 : (v.k != 2) = true) (k3 : (v.k != 3) = true) (k4 : (v.k != 4) = true) (k5 : (v.k != 5) = true) (k6 : (v.k != 6) = true) (k7 : (v.k != 7) = true) : ∃ code, rcO = some code ∧
    Run X (evT X) 16 0 code (rcFr f n) [some (vaO v), some (tyO t)] ⟨.normal, rcFr f n ++ [(81, .bool (c81 v))], [some (vaO v), some (tyO t)]⟩ := by
  refine ⟨_, rfl, ?_⟩
  unfold c81
  have hW := fun H xo yo => eqWh v.w {} H xo yo
  have hb0 := bdW0
  generalize decide (v.w = {}) = wz at *
  simp only [Wh.pay, Int.cast_ofNat_Int] at hW
  by_cases a0 : v.i = 0
  case neg =>
    have e0 : (v.i != 0) = true := by simpa using a0
    (refine ⟨0, ?_⟩; simp (maxSteps := 2000000) -implicitDefEqProofs [-getElem?_pos, List.getElem?_cons_zero, List.getElem?_cons_succ, go_sem, eqV, plen, loadV, storeV, -eqV, rcFr, vaO, tyO, Va.pay, mkWh, hb0, hW, strOp, k1, k2, k3, k4, k5, k6, k7, e0])
  by_cases a1 : v.b = 0
  case neg =>
    have e1 : ((v.b : Int) != 0) = true := by simpa using a1
    (refine ⟨0, ?_⟩; simp (maxSteps := 2000000) -implicitDefEqProofs [-getElem?_pos, List.getElem?_cons_zero, List.getElem?_cons_succ, go_sem, eqV, plen, loadV, storeV, -eqV, rcFr, vaO, tyO, Va.pay, mkWh, hb0, hW, strOp, k1, k2, k3, k4, k5, k6, k7, a0, e1])
  by_cases a2 : v.t = []
  case neg =>
    have e2 : (v.t == []) = false := by simpa using a2
    (refine ⟨0, ?_⟩; simp (maxSteps := 2000000) -implicitDefEqProofs [-getElem?_pos, List.getElem?_cons_zero, List.getElem?_cons_succ, go_sem, eqV, plen, loadV, storeV, -eqV, rcFr, vaO, tyO, Va.pay, mkWh, hb0, hW, strOp, k1, k2, k3, k4, k5, k6, k7, a0, a1, e2])
  (refine ⟨0, ?_⟩; simp (maxSteps := 2000000) -implicitDefEqProofs [-getElem?_pos, List.getElem?_cons_zero, List.getElem?_cons_succ, go_sem, eqV, plen, loadV, storeV, -eqV, rcFr, vaO, tyO, Va.pay, mkWh, hb0, hW, strOp, k1, k2, k3, k4, k5, k6, k7, a0, a1, a2])

theorem c81_code (v : Va) (t : Ty) (f : Bool) (n : Nat) : ∃ code, rcO = some code ∧
    Run X (evT X) 16 0 code (rcFr f n) [some (vaO v), some (tyO t)] ⟨.normal, rcFr f n ++ [(81, .bool (c81 v))], [some (vaO v), some (tyO t)]⟩ := by
  by_cases k1 : v.k = 1
  · exact c81_1 v t f n k1
  by_cases k2 : v.k = 2
  · exact c81_2 v t f n k2
  by_cases k3 : v.k = 3
  · exact c81_3 v t f n k3
  by_cases k4 : v.k = 4
  · exact c81_4 v t f n k4
  by_cases k5 : v.k = 5
  · exact c81_5 v t f n k5
  by_cases k6 : v.k = 6
  · exact c81_6 v t f n k6
  by_cases k7 : v.k = 7
  · exact c81_7 v t f n k7
  exact c81_o v t f n (by simpa using k1) (by simpa using k2) (by simpa using k3) (by simpa using k4) (by simpa using k5) (by simpa using k6) (by simpa using k7)

end Go.Proofs.YtifgkkfchnfcaaaDoor

/- Walks: the document's check of a value; it is the same. -/
namespace Go.Proofs.YtifgkkfchnfcaaaDoor
open Go.AM
set_option linter.unusedSimpArgs false
set_option linter.unusedVariables false

/-- is a value wrong, that has just what its kind has? -/
def rbk (v : Va) (n tt : Nat) : Bool :=
  if v.k = 1 then !(okI v.i n) else if v.k = 2 ∨ v.k = 3 ∨ v.k = 4 then !(okB v.b n) else if v.k = 5 ∨ v.k = 6 then !(fin v.w tt) else if v.k = 7 then decide (16777216 < v.t.length) else false
def bad0 (v : Va) (k : Int) : Bool := decide (k < 0) || ((v.k != 0) && (v.k != k))
def rchkV (v : Va) (t : Ty) : Int := if bad0 v (kindN t.t t.u) || c81 v then 2 else if rbk v (rsizeN t.t) t.t then 2 else 0

noncomputable def rckO : Option Code := (((((((Tryd.f16.body).bind cR).bind cR).bind cR).bind cR).bind cR).bind cR).bind cL
def r8Fr (n : Nat) : AM.Frame := [(2, .ptr 0 0 0 0), (3, .ptr 1 0 0 0), (6, .bool false), (7, .int .u64 (n : Nat)), (82, .bool false)]
def rckP (v : Va) (t : Ty) (n : Nat) (fr : AM.Frame) (H : AM.Heap) : Prop := H = [some (vaO v), some (tyO t)] ∧ getF fr 6 = .bool (rbk v n t.t) ∧ ∃ f, fr = [(6, .bool f)] ∨ fr = [(2, .ptr 0 0 0 0), (6, .bool f), (127, .bool false)]

set_option maxRecDepth 100000 in
set_option maxHeartbeats 4000000 in
theorem rck1 (v : Va) (t : Ty) (n : Nat) (hn : n = 1 ∨ n = 2 ∨ n = 4 ∨ n = 8) (k1 : v.k = 1) : ∃ code, rckO = some code ∧
    Tells (Goes (rckP v t n)) X (evT X) 16 0 code (r8Fr (8 * n)) [some (vaO v), some (tyO t)] := by
  refine ⟨_, rfl, ?_⟩
  unfold rckP rbk
  rw [if_pos k1]
  unfold okI
  rcases hn with rfl | rfl | rfl | rfl
  · by_cases a : v.i < -128
    · refine Tells.of (o := ⟨.normal, [(6, .bool true)], [some (vaO v), some (tyO t)]⟩) ⟨0, ?_⟩ ⟨rfl, rfl, by simp [getF]; omega, _, .inl rfl⟩
      simp (maxSteps := 2000000) -implicitDefEqProofs [-getElem?_pos, List.getElem?_cons_zero, List.getElem?_cons_succ, go_sem, eqV, plen, loadV, storeV, vaO, tyO, Va.pay, r8Fr, k1, a, show IntKind.u64.bits = 64 from rfl, show IntKind.i64.bits = 64 from rfl, show IntKind.u64.wrap 7 = 7 from rfl, show IntKind.i64.wrap (-128) = -128 from rfl, show IntKind.i64.wrap 128 = 128 from rfl]
    by_cases b : 128 ≤ v.i
    · refine Tells.of (o := ⟨.normal, [(6, .bool true)], [some (vaO v), some (tyO t)]⟩) ⟨0, ?_⟩ ⟨rfl, rfl, by simp [getF]; omega, _, .inl rfl⟩
      simp (maxSteps := 2000000) -implicitDefEqProofs [-getElem?_pos, List.getElem?_cons_zero, List.getElem?_cons_succ, go_sem, eqV, plen, loadV, storeV, vaO, tyO, Va.pay, r8Fr, k1, a, b, show IntKind.u64.bits = 64 from rfl, show IntKind.i64.bits = 64 from rfl, show IntKind.u64.wrap 7 = 7 from rfl, show IntKind.i64.wrap (-128) = -128 from rfl, show IntKind.i64.wrap 128 = 128 from rfl]
    refine Tells.of (o := ⟨.normal, [(6, .bool false)], [some (vaO v), some (tyO t)]⟩) ⟨0, ?_⟩ ⟨rfl, rfl, by simp [getF]; omega, _, .inl rfl⟩
    simp (maxSteps := 2000000) -implicitDefEqProofs [-getElem?_pos, List.getElem?_cons_zero, List.getElem?_cons_succ, go_sem, eqV, plen, loadV, storeV, vaO, tyO, Va.pay, r8Fr, k1, a, b, show IntKind.u64.bits = 64 from rfl, show IntKind.i64.bits = 64 from rfl, show IntKind.u64.wrap 7 = 7 from rfl, show IntKind.i64.wrap (-128) = -128 from rfl, show IntKind.i64.wrap 128 = 128 from rfl]
  · by_cases a : v.i < -32768
    · refine Tells.of (o := ⟨.normal, [(6, .bool true)], [some (vaO v), some (tyO t)]⟩) ⟨0, ?_⟩ ⟨rfl, rfl, by simp [getF]; omega, _, .inl rfl⟩
      simp (maxSteps := 2000000) -implicitDefEqProofs [-getElem?_pos, List.getElem?_cons_zero, List.getElem?_cons_succ, go_sem, eqV, plen, loadV, storeV, vaO, tyO, Va.pay, r8Fr, k1, a, show IntKind.u64.bits = 64 from rfl, show IntKind.i64.bits = 64 from rfl, show IntKind.u64.wrap 15 = 15 from rfl, show IntKind.i64.wrap (-32768) = -32768 from rfl, show IntKind.i64.wrap 32768 = 32768 from rfl]
    by_cases b : 32768 ≤ v.i
    · refine Tells.of (o := ⟨.normal, [(6, .bool true)], [some (vaO v), some (tyO t)]⟩) ⟨0, ?_⟩ ⟨rfl, rfl, by simp [getF]; omega, _, .inl rfl⟩
      simp (maxSteps := 2000000) -implicitDefEqProofs [-getElem?_pos, List.getElem?_cons_zero, List.getElem?_cons_succ, go_sem, eqV, plen, loadV, storeV, vaO, tyO, Va.pay, r8Fr, k1, a, b, show IntKind.u64.bits = 64 from rfl, show IntKind.i64.bits = 64 from rfl, show IntKind.u64.wrap 15 = 15 from rfl, show IntKind.i64.wrap (-32768) = -32768 from rfl, show IntKind.i64.wrap 32768 = 32768 from rfl]
    refine Tells.of (o := ⟨.normal, [(6, .bool false)], [some (vaO v), some (tyO t)]⟩) ⟨0, ?_⟩ ⟨rfl, rfl, by simp [getF]; omega, _, .inl rfl⟩
    simp (maxSteps := 2000000) -implicitDefEqProofs [-getElem?_pos, List.getElem?_cons_zero, List.getElem?_cons_succ, go_sem, eqV, plen, loadV, storeV, vaO, tyO, Va.pay, r8Fr, k1, a, b, show IntKind.u64.bits = 64 from rfl, show IntKind.i64.bits = 64 from rfl, show IntKind.u64.wrap 15 = 15 from rfl, show IntKind.i64.wrap (-32768) = -32768 from rfl, show IntKind.i64.wrap 32768 = 32768 from rfl]
  · by_cases a : v.i < -2147483648
    · refine Tells.of (o := ⟨.normal, [(6, .bool true)], [some (vaO v), some (tyO t)]⟩) ⟨0, ?_⟩ ⟨rfl, rfl, by simp [getF]; omega, _, .inl rfl⟩
      simp (maxSteps := 2000000) -implicitDefEqProofs [-getElem?_pos, List.getElem?_cons_zero, List.getElem?_cons_succ, go_sem, eqV, plen, loadV, storeV, vaO, tyO, Va.pay, r8Fr, k1, a, show IntKind.u64.bits = 64 from rfl, show IntKind.i64.bits = 64 from rfl, show IntKind.u64.wrap 31 = 31 from rfl, show IntKind.i64.wrap (-2147483648) = -2147483648 from rfl, show IntKind.i64.wrap 2147483648 = 2147483648 from rfl]
    by_cases b : 2147483648 ≤ v.i
    · refine Tells.of (o := ⟨.normal, [(6, .bool true)], [some (vaO v), some (tyO t)]⟩) ⟨0, ?_⟩ ⟨rfl, rfl, by simp [getF]; omega, _, .inl rfl⟩
      simp (maxSteps := 2000000) -implicitDefEqProofs [-getElem?_pos, List.getElem?_cons_zero, List.getElem?_cons_succ, go_sem, eqV, plen, loadV, storeV, vaO, tyO, Va.pay, r8Fr, k1, a, b, show IntKind.u64.bits = 64 from rfl, show IntKind.i64.bits = 64 from rfl, show IntKind.u64.wrap 31 = 31 from rfl, show IntKind.i64.wrap (-2147483648) = -2147483648 from rfl, show IntKind.i64.wrap 2147483648 = 2147483648 from rfl]
    refine Tells.of (o := ⟨.normal, [(6, .bool false)], [some (vaO v), some (tyO t)]⟩) ⟨0, ?_⟩ ⟨rfl, rfl, by simp [getF]; omega, _, .inl rfl⟩
    simp (maxSteps := 2000000) -implicitDefEqProofs [-getElem?_pos, List.getElem?_cons_zero, List.getElem?_cons_succ, go_sem, eqV, plen, loadV, storeV, vaO, tyO, Va.pay, r8Fr, k1, a, b, show IntKind.u64.bits = 64 from rfl, show IntKind.i64.bits = 64 from rfl, show IntKind.u64.wrap 31 = 31 from rfl, show IntKind.i64.wrap (-2147483648) = -2147483648 from rfl, show IntKind.i64.wrap 2147483648 = 2147483648 from rfl]
  · refine Tells.of (o := ⟨.normal, [(6, .bool false)], [some (vaO v), some (tyO t)]⟩) ⟨0, ?_⟩ ⟨rfl, rfl, by simp [getF], _, .inl rfl⟩
    simp (maxSteps := 2000000) -implicitDefEqProofs [-getElem?_pos, List.getElem?_cons_zero, List.getElem?_cons_succ, go_sem, eqV, plen, loadV, storeV, vaO, tyO, Va.pay, r8Fr, k1]

set_option maxRecDepth 100000 in
set_option maxHeartbeats 4000000 in
theorem rckB (v : Va) (t : Ty) (n : Nat) (kk : Int) (hkk : kk = 2 ∨ kk = 3 ∨ kk = 4) (hn : n = 1 ∨ n = 2 ∨ n = 4 ∨ n = 8) (kv : v.k = kk) : ∃ code, rckO = some code ∧
    Tells (Goes (rckP v t n)) X (evT X) 16 0 code (r8Fr (8 * n)) [some (vaO v), some (tyO t)] := by
  refine ⟨_, rfl, ?_⟩
  unfold rckP rbk
  rw [if_neg (by omega), if_pos (by omega)]
  unfold okB
  have hd : ∀ B : Nat, Int.fdiv (v.b : Int) (B : Int) = ((v.b / B : Nat) : Int) := fun B => by
    rw [Int.fdiv_eq_ediv_of_nonneg _ (Int.natCast_nonneg _)]; exact (Int.natCast_ediv _ _).symm
  rcases hn with rfl | rfl | rfl | rfl
  · have hd := hd 256
    have e1 : (!(decide (8 ≤ 1) || decide (v.b < 2 ^ (8 * 1)))) = (((v.b / 256 : Nat) : Int) != 0) := by rw [Bool.eq_iff_iff]; simp; omega
    generalize (((v.b / 256 : Nat) : Int)) = q at *
    generalize hq : (q != 0) = qb at *
    refine Tells.of (o := ⟨.normal, [(6, .bool qb)], [some (vaO v), some (tyO t)]⟩) ⟨0, ?_⟩ ⟨rfl, rfl, by rw [e1]; rfl, _, .inl rfl⟩
    simp only [Int.cast_ofNat_Int] at hd
    rcases hkk with rfl | rfl | rfl
    · simp (maxSteps := 2000000) -implicitDefEqProofs [-getElem?_pos, List.getElem?_cons_zero, List.getElem?_cons_succ, go_sem, eqV, plen, loadV, storeV, vaO, tyO, Va.pay, r8Fr, kv, hd, hq, show IntKind.u64.bits = 64 from rfl]
    · simp (maxSteps := 2000000) -implicitDefEqProofs [-getElem?_pos, List.getElem?_cons_zero, List.getElem?_cons_succ, go_sem, eqV, plen, loadV, storeV, vaO, tyO, Va.pay, r8Fr, kv, hd, hq, show IntKind.u64.bits = 64 from rfl]
    · simp (maxSteps := 2000000) -implicitDefEqProofs [-getElem?_pos, List.getElem?_cons_zero, List.getElem?_cons_succ, go_sem, eqV, plen, loadV, storeV, vaO, tyO, Va.pay, r8Fr, kv, hd, hq, show IntKind.u64.bits = 64 from rfl]
  · have hd := hd 65536
    have e1 : (!(decide (8 ≤ 2) || decide (v.b < 2 ^ (8 * 2)))) = (((v.b / 65536 : Nat) : Int) != 0) := by rw [Bool.eq_iff_iff]; simp; omega
    generalize (((v.b / 65536 : Nat) : Int)) = q at *
    generalize hq : (q != 0) = qb at *
    refine Tells.of (o := ⟨.normal, [(6, .bool qb)], [some (vaO v), some (tyO t)]⟩) ⟨0, ?_⟩ ⟨rfl, rfl, by rw [e1]; rfl, _, .inl rfl⟩
    simp only [Int.cast_ofNat_Int] at hd
    rcases hkk with rfl | rfl | rfl
    · simp (maxSteps := 2000000) -implicitDefEqProofs [-getElem?_pos, List.getElem?_cons_zero, List.getElem?_cons_succ, go_sem, eqV, plen, loadV, storeV, vaO, tyO, Va.pay, r8Fr, kv, hd, hq, show IntKind.u64.bits = 64 from rfl]
    · simp (maxSteps := 2000000) -implicitDefEqProofs [-getElem?_pos, List.getElem?_cons_zero, List.getElem?_cons_succ, go_sem, eqV, plen, loadV, storeV, vaO, tyO, Va.pay, r8Fr, kv, hd, hq, show IntKind.u64.bits = 64 from rfl]
    · simp (maxSteps := 2000000) -implicitDefEqProofs [-getElem?_pos, List.getElem?_cons_zero, List.getElem?_cons_succ, go_sem, eqV, plen, loadV, storeV, vaO, tyO, Va.pay, r8Fr, kv, hd, hq, show IntKind.u64.bits = 64 from rfl]
  · have hd := hd 4294967296
    have e1 : (!(decide (8 ≤ 4) || decide (v.b < 2 ^ (8 * 4)))) = (((v.b / 4294967296 : Nat) : Int) != 0) := by rw [Bool.eq_iff_iff]; simp; omega
    generalize (((v.b / 4294967296 : Nat) : Int)) = q at *
    generalize hq : (q != 0) = qb at *
    refine Tells.of (o := ⟨.normal, [(6, .bool qb)], [some (vaO v), some (tyO t)]⟩) ⟨0, ?_⟩ ⟨rfl, rfl, by rw [e1]; rfl, _, .inl rfl⟩
    simp only [Int.cast_ofNat_Int] at hd
    rcases hkk with rfl | rfl | rfl
    · simp (maxSteps := 2000000) -implicitDefEqProofs [-getElem?_pos, List.getElem?_cons_zero, List.getElem?_cons_succ, go_sem, eqV, plen, loadV, storeV, vaO, tyO, Va.pay, r8Fr, kv, hd, hq, show IntKind.u64.bits = 64 from rfl]
    · simp (maxSteps := 2000000) -implicitDefEqProofs [-getElem?_pos, List.getElem?_cons_zero, List.getElem?_cons_succ, go_sem, eqV, plen, loadV, storeV, vaO, tyO, Va.pay, r8Fr, kv, hd, hq, show IntKind.u64.bits = 64 from rfl]
    · simp (maxSteps := 2000000) -implicitDefEqProofs [-getElem?_pos, List.getElem?_cons_zero, List.getElem?_cons_succ, go_sem, eqV, plen, loadV, storeV, vaO, tyO, Va.pay, r8Fr, kv, hd, hq, show IntKind.u64.bits = 64 from rfl]
  · refine Tells.of (o := ⟨.normal, [(6, .bool false)], [some (vaO v), some (tyO t)]⟩) ⟨0, ?_⟩ ⟨rfl, rfl, by simp [getF], _, .inl rfl⟩
    rcases hkk with rfl | rfl | rfl
    · simp (maxSteps := 2000000) -implicitDefEqProofs [-getElem?_pos, List.getElem?_cons_zero, List.getElem?_cons_succ, go_sem, eqV, plen, loadV, storeV, vaO, tyO, Va.pay, r8Fr, kv]
    · simp (maxSteps := 2000000) -implicitDefEqProofs [-getElem?_pos, List.getElem?_cons_zero, List.getElem?_cons_succ, go_sem, eqV, plen, loadV, storeV, vaO, tyO, Va.pay, r8Fr, kv]
    · simp (maxSteps := 2000000) -implicitDefEqProofs [-getElem?_pos, List.getElem?_cons_zero, List.getElem?_cons_succ, go_sem, eqV, plen, loadV, storeV, vaO, tyO, Va.pay, r8Fr, kv]

set_option maxRecDepth 100000 in
set_option maxHeartbeats 4000000 in
theorem rckR (v : Va) (t : Ty) (n : Nat) (hF : evT X 35 [.agg v.w.pay, .int .u8 (t.t : Nat)] [some (vaO v), some (tyO t)] = some (.bool (fin v.w t.t), [some (vaO v), some (tyO t)])) (h : v.k = 0 ∨ v.k = 5 ∨ v.k = 6 ∨ v.k = 7) : ∃ code, rckO = some code ∧
    Tells (Goes (rckP v t n)) X (evT X) 16 0 code (r8Fr (8 * n)) [some (vaO v), some (tyO t)] := by
  refine ⟨_, rfl, ?_⟩
  unfold rckP rbk
  rw [if_neg (by omega), if_neg (by omega)]
  generalize 8 * n = n8 at *
  rcases h with kv | kv | kv | kv
  · rw [if_neg (by omega), if_neg (by omega)]
    refine Tells.of (o := ⟨.normal, [(2, .ptr 0 0 0 0), (6, .bool false), (127, .bool false)], [some (vaO v), some (tyO t)]⟩) ⟨0, ?_⟩ ⟨rfl, rfl, rfl, _, .inr rfl⟩
    simp (maxSteps := 2000000) -implicitDefEqProofs [-getElem?_pos, List.getElem?_cons_zero, List.getElem?_cons_succ, go_sem, eqV, plen, loadV, storeV, vaO, tyO, Va.pay, r8Fr, kv]
  · rw [if_pos (by omega)]
    simp only [vaO, tyO, Va.pay, Ty.pay, Wh.pay] at hF
    rw [kv] at hF
    generalize fin v.w t.t = fb at *
    refine Tells.of (o := ⟨.normal, [(6, .bool (!fb))], [some (vaO v), some (tyO t)]⟩) ⟨0, ?_⟩ ⟨rfl, rfl, rfl, _, .inl rfl⟩
    simp (maxSteps := 2000000) -implicitDefEqProofs [-getElem?_pos, List.getElem?_cons_zero, List.getElem?_cons_succ, go_sem, eqV, plen, loadV, storeV, vaO, tyO, Va.pay, Ty.pay, r8Fr, kv, mkWh, hF, unV]
  · rw [if_pos (by omega)]
    simp only [vaO, tyO, Va.pay, Ty.pay, Wh.pay] at hF
    rw [kv] at hF
    generalize fin v.w t.t = fb at *
    refine Tells.of (o := ⟨.normal, [(6, .bool (!fb))], [some (vaO v), some (tyO t)]⟩) ⟨0, ?_⟩ ⟨rfl, rfl, rfl, _, .inl rfl⟩
    simp (maxSteps := 2000000) -implicitDefEqProofs [-getElem?_pos, List.getElem?_cons_zero, List.getElem?_cons_succ, go_sem, eqV, plen, loadV, storeV, vaO, tyO, Va.pay, Ty.pay, r8Fr, kv, mkWh, hF, unV]
  · rw [if_neg (by omega), if_pos kv]
    have hl : decide ((16777216 : Int) < (v.t.length : Int)) = decide (16777216 < v.t.length) := by rw [decide_eq_decide]; omega
    generalize decide (16777216 < v.t.length) = lb at *
    refine Tells.of (o := ⟨.normal, [(6, .bool lb)], [some (vaO v), some (tyO t)]⟩) ⟨0, ?_⟩ ⟨rfl, rfl, rfl, _, .inl rfl⟩
    simp (maxSteps := 2000000) -implicitDefEqProofs [-getElem?_pos, List.getElem?_cons_zero, List.getElem?_cons_succ, go_sem, eqV, plen, loadV, storeV, vaO, tyO, Va.pay, r8Fr, kv, hl]

end Go.Proofs.YtifgkkfchnfcaaaDoor

/- Walks: the document's check of a value, whole; plain: both checks agree. -/
namespace Go.Proofs.YtifgkkfchnfcaaaDoor
open Go.AM
set_option linter.unusedSimpArgs false
set_option linter.unusedVariables false

section
variable (v : Va) (t : Ty)

set_option maxRecDepth 100000 in
set_option maxHeartbeats 4000000 in
theorem rcheck_code (ht : t.t < 256) : ∃ code, Tryd.f16.body = some code ∧
    Tells (Rets fun fr H => getF fr 4 = .int .i64 (rchkV v t)) X (evT X) 16 0 code [(0, .agg v.pay), (1, .agg t.pay)] [] := by
  refine ⟨_, rfl, ?_⟩
  have hK := rkind_ev ht [some (vaO v), some (tyO t)]
  have hS := rsize_ev' ht [some (vaO v), some (tyO t)]
  have hF := rfin_ev v.w ht [some (vaO v), some (tyO t)]
  have hbd := kind_bd t.t t.u
  have hn := rsz t.t
  unfold rchkV
  apply Tells.seq (fr' := [(2, .ptr 0 0 0 0), (3, .ptr 1 0 0 0)]) (H' := [some (vaO v), some (tyO t)])
  · (refine ⟨0, ?_⟩; simp (maxSteps := 2000000) -implicitDefEqProofs [-getElem?_pos, List.getElem?_cons_zero, List.getElem?_cons_succ, go_sem, eqV, plen, loadV, storeV, vaO, tyO, Va.pay, Ty.pay])
  apply Tells.seq (fr' := [(2, .ptr 0 0 0 0), (3, .ptr 1 0 0 0), (5, .int .i64 (kindN t.t t.u))]) (H' := [some (vaO v), some (tyO t)])
  · clear hS hF
    simp only [vaO, tyO, Va.pay, Ty.pay] at hK
    generalize kindN t.t t.u = k at *
    (refine ⟨0, ?_⟩; simp (maxSteps := 2000000) -implicitDefEqProofs [-getElem?_pos, List.getElem?_cons_zero, List.getElem?_cons_succ, go_sem, eqV, plen, loadV, storeV, vaO, tyO, Va.pay, Ty.pay, mkTy, hK])
  clear hK
  generalize kindN t.t t.u = k at *
  apply Tells.seq (fr' := [(2, .ptr 0 0 0 0), (3, .ptr 1 0 0 0), (6, .bool (bad0 v k))]) (H' := [some (vaO v), some (tyO t)])
  · unfold bad0
    by_cases h1 : k < 0
    · (refine ⟨0, ?_⟩; simp (maxSteps := 2000000) -implicitDefEqProofs [-getElem?_pos, List.getElem?_cons_zero, List.getElem?_cons_succ, go_sem, eqV, plen, loadV, storeV, vaO, tyO, Va.pay, h1])
    by_cases h2 : v.k = 0
    · (refine ⟨0, ?_⟩; simp (maxSteps := 2000000) -implicitDefEqProofs [-getElem?_pos, List.getElem?_cons_zero, List.getElem?_cons_succ, go_sem, eqV, plen, loadV, storeV, vaO, tyO, Va.pay, h1, h2])
    have h2b : (v.k != 0) = true := by simpa using h2
    generalize hq : (v.k != k) = q at *
    (refine ⟨0, ?_⟩; simp (maxSteps := 2000000) -implicitDefEqProofs [-getElem?_pos, List.getElem?_cons_zero, List.getElem?_cons_succ, go_sem, eqV, plen, loadV, storeV, vaO, tyO, Va.pay, h1, h2b, hq])
  have hq : bad0 v k = false → v.k = 0 ∨ v.k = 1 ∨ v.k = 2 ∨ v.k = 3 ∨ v.k = 4 ∨ v.k = 5 ∨ v.k = 6 ∨ v.k = 7 := by
    unfold bad0
    intro h
    simp only [Bool.or_eq_false_iff, Bool.and_eq_false_iff, bne_eq_false_iff_eq, decide_eq_false_iff_not] at h
    omega
  generalize bad0 v k = bd at *
  generalize rsizeN t.t = n at *
  have w8 : IntKind.i64.wrap (8 * (n : Int)) = ((8 * n : Nat) : Int) := by rw [wrap_i64 (by omega) (by omega)]; omega
  have w9 : IntKind.u64.wrap ((8 * n : Nat) : Int) = ((8 * n : Nat) : Int) := wrap_u64 (by omega) (by omega)
  apply Tells.seq (fr' := rcFr bd (8 * n)) (H' := [some (vaO v), some (tyO t)])
  · simp only [vaO, tyO, Va.pay, Ty.pay] at hS
    generalize 8 * n = n8 at *
    (refine ⟨0, ?_⟩; simp (maxSteps := 2000000) -implicitDefEqProofs [-getElem?_pos, List.getElem?_cons_zero, List.getElem?_cons_succ, go_sem, eqV, plen, loadV, storeV, vaO, tyO, Va.pay, Ty.pay, hS, w8, w9, rcFr])
  clear hS
  apply Tells.assoc
  apply Tells.seq (fr' := rcFr bd (8 * n) ++ [(81, .bool (c81 v))]) (H' := [some (vaO v), some (tyO t)])
  · exact pieceT (c81_code v t bd (8 * n)) _ rfl
  generalize c81 v = cc at *
  apply Tells.andThen (P := fun fr H => H = [some (vaO v), some (tyO t)] ∧ ∃ tl, fr = rcFr (bd || cc) (8 * n) ++ tl)
  · generalize 8 * n = n8 at *
    cases cc with
    | true =>
      refine Tells.of (o := ⟨.normal, rcFr true n8, [some (vaO v), some (tyO t)]⟩) ⟨0, ?_⟩ ⟨rfl, rfl, [], by simp [rcFr]⟩
      simp (maxSteps := 2000000) -implicitDefEqProofs [-getElem?_pos, List.getElem?_cons_zero, List.getElem?_cons_succ, go_sem, eqV, plen, loadV, storeV, rcFr]
    | false =>
      refine Tells.of (o := ⟨.normal, rcFr bd n8 ++ [(81, .bool false)], [some (vaO v), some (tyO t)]⟩) ⟨0, ?_⟩ ⟨rfl, rfl, [(81, .bool false)], by simp⟩
      simp (maxSteps := 2000000) -implicitDefEqProofs [-getElem?_pos, List.getElem?_cons_zero, List.getElem?_cons_succ, go_sem, eqV, plen, loadV, storeV, rcFr]
  rintro fr H ⟨rfl, tl, rfl⟩
  generalize hbc : (bd || cc) = b1 at *
  cases b1 with
  | true =>
    generalize 8 * n = n8 at *
    refine Tells.of (o := ⟨.ret, [(4, .int .i64 2)], [some (vaO v), some (tyO t)]⟩) ?_ ⟨rfl, rfl⟩
    apply Run.seq_out (hne := by simp)
    refine ⟨0, ?_⟩
    simp (maxSteps := 2000000) -implicitDefEqProofs [-getElem?_pos, List.getElem?_cons_zero, List.getElem?_cons_succ, go_sem, eqV, plen, loadV, storeV, rcFr]
  | false =>
  apply Tells.seq (fr' := r8Fr (8 * n)) (H' := [some (vaO v), some (tyO t)])
  · generalize 8 * n = n8 at *
    (refine ⟨0, ?_⟩; simp (maxSteps := 2000000) -implicitDefEqProofs [-getElem?_pos, List.getElem?_cons_zero, List.getElem?_cons_succ, go_sem, eqV, plen, loadV, storeV, rcFr, r8Fr])
  have hbd0 : bd = false := by
    cases bd with
    | false => rfl
    | true => simp at hbc
  have hv := hq hbd0
  have main : ∃ code, rckO = some code ∧ Tells (Goes (rckP v t n)) X (evT X) 16 0 code (r8Fr (8 * n)) [some (vaO v), some (tyO t)] := by
    rcases hv with h | h | h | h | h | h | h | h
    · exact rckR v t n hF (.inl h)
    · exact rck1 v t n hn h
    · exact rckB v t n 2 (.inl rfl) hn h
    · exact rckB v t n 3 (.inr (.inl rfl)) hn h
    · exact rckB v t n 4 (.inr (.inr rfl)) hn h
    · exact rckR v t n hF (.inr (.inl h))
    · exact rckR v t n hF (.inr (.inr (.inl h)))
    · exact rckR v t n hF (.inr (.inr (.inr h)))
  apply Tells.andThen (P := rckP v t n)
  · exact pieceT main _ rfl
  rintro fr H ⟨rfl, h6, f, hfr⟩
  have hf : f = rbk v n t.t := by
    rcases hfr with rfl | rfl
    · simpa [getF] using h6
    · simpa [getF] using h6
  subst hf
  generalize rbk v n t.t = f at *
  cases f with
  | true =>
    refine Tells.of (o := ⟨.ret, [(4, .int .i64 2)], [some (vaO v), some (tyO t)]⟩) ⟨0, ?_⟩ ⟨rfl, rfl⟩
    rcases hfr with rfl | rfl
    · simp (maxSteps := 2000000) -implicitDefEqProofs [-getElem?_pos, List.getElem?_cons_zero, List.getElem?_cons_succ, go_sem, eqV, plen, loadV, storeV]
    · simp (maxSteps := 2000000) -implicitDefEqProofs [-getElem?_pos, List.getElem?_cons_zero, List.getElem?_cons_succ, go_sem, eqV, plen, loadV, storeV]
  | false =>
    refine Tells.of (o := ⟨.ret, [(4, .int .i64 0)], [some (vaO v), some (tyO t)]⟩) ⟨0, ?_⟩ ⟨rfl, rfl⟩
    rcases hfr with rfl | rfl
    · simp (maxSteps := 2000000) -implicitDefEqProofs [-getElem?_pos, List.getElem?_cons_zero, List.getElem?_cons_succ, go_sem, eqV, plen, loadV, storeV]
    · simp (maxSteps := 2000000) -implicitDefEqProofs [-getElem?_pos, List.getElem?_cons_zero, List.getElem?_cons_succ, go_sem, eqV, plen, loadV, storeV]

end

theorem c81_iff (v : Va) : c81 v = false ↔ (v.k = 1 ∨ v.i = 0) ∧ (v.k = 2 ∨ v.k = 3 ∨ v.k = 4 ∨ v.b = 0) ∧ (v.k = 7 ∨ v.t = []) ∧ (v.k = 5 ∨ v.k = 6 ∨ v.w = {}) := by
  unfold c81
  simp only [Bool.or_eq_false_iff, Bool.and_eq_false_iff, bne_eq_false_iff_eq, Bool.not_eq_false', beq_iff_eq, decide_eq_true_eq]
  constructor
  · rintro ⟨⟨⟨h1, h2⟩, h3⟩, h4⟩
    refine ⟨h1, ?_, h3, ?_⟩
    · rcases h2 with h2 | h2
      · rcases h2 with (h2 | h2) | h2
        · exact .inl h2
        · exact .inr (.inl h2)
        · exact .inr (.inr (.inl h2))
      · exact .inr (.inr (.inr (by omega)))
    · rcases h4 with h4 | h4
      · rcases h4 with h4 | h4
        · exact .inl h4
        · exact .inr (.inl h4)
      · exact .inr (.inr h4)
  · rintro ⟨h1, h2, h3, h4⟩
    refine ⟨⟨⟨h1, ?_⟩, h3⟩, ?_⟩
    · rcases h2 with h2 | h2 | h2 | h2
      · exact .inl (.inl (.inl h2))
      · exact .inl (.inl (.inr h2))
      · exact .inl (.inr h2)
      · exact .inr (by rw [h2]; rfl)
    · rcases h4 with h4 | h4 | h4
      · exact .inl (.inl h4)
      · exact .inl (.inr h4)
      · exact .inr h4

theorem both_chk (v : Va) (t : Ty) : rchkV v t = chkV v t := by
  unfold rchkV chkV okVa
  have hbd := kind_bd t.t t.u
  have hsz := size_num (t := t.t) (u := t.u)
  have hrs := rsize_eq (t := t.t)
  generalize kindN t.t t.u = k at *
  by_cases hk : k < 0
  · have : bad0 v k = true := by unfold bad0; simp [hk]
    rw [this, if_pos hk, if_pos (by simp)]
  rw [if_neg hk]
  have hb0 : bad0 v k = decide (v.k ≠ 0 ∧ v.k ≠ k) := by
    unfold bad0
    rw [Bool.eq_iff_iff]; simp; omega
  rw [hb0]
  by_cases hz : v = {}
  · subst hz
    rw [if_pos rfl]
    have h1 : c81 ({} : Va) = false := by decide
    have h2 : ∀ n tt, rbk ({} : Va) n tt = false := fun n tt => by unfold rbk; simp
    rw [h1, h2]
    simp
  rw [if_neg hz]
  cases hc : c81 v with
  | true =>
    rw [if_pos (by simp)]
    -- something stands where nothing may
    have hno : ∀ p, c81 v ≠ false → ¬ p → p = p → okVk v k (sizeN t.t) t.t = okVk v k (sizeN t.t) t.t := fun _ _ _ _ => rfl
    clear hno
    have hok : okVk v k (sizeN t.t) t.t = false := by
      have hne : ¬ c81 v = false := by rw [hc]; simp
      rw [c81_iff] at hne
      unfold okVk
      by_cases k1 : v.k = 1
      · rw [if_pos k1]
        have : decide (v = { k := 1, i := v.i }) = false := by
          rw [decide_eq_false_iff_not]
          intro h
          apply hne
          rw [h]
          exact ⟨.inl rfl, .inr (.inr (.inr rfl)), .inr rfl, .inr (.inr rfl)⟩
        rw [this]; simp
      rw [if_neg k1]
      by_cases k2 : v.k = 2 ∨ v.k = 3 ∨ v.k = 4
      · rw [if_pos k2]
        have : decide (v = { k := v.k, b := v.b }) = false := by
          rw [decide_eq_false_iff_not]
          intro h
          apply hne
          have h3 : v.i = 0 := by rw [h]
          have h4 : v.t = [] := by rw [h]
          have h5 : v.w = {} := by rw [h]
          refine ⟨.inr h3, ?_, .inr h4, .inr (.inr h5)⟩
          rcases k2 with k2 | k2 | k2
          · exact .inl k2
          · exact .inr (.inl k2)
          · exact .inr (.inr (.inl k2))
        rw [this]; simp
      rw [if_neg k2]
      by_cases k5 : v.k = 5 ∨ v.k = 6
      · rw [if_pos k5]
        have : decide (v = { k := v.k, w := v.w }) = false := by
          rw [decide_eq_false_iff_not]
          intro h
          apply hne
          have h3 : v.i = 0 := by rw [h]
          have h4 : v.t = [] := by rw [h]
          have h5 : v.b = 0 := by rw [h]
          refine ⟨.inr h3, .inr (.inr (.inr h5)), .inr h4, ?_⟩
          rcases k5 with k5 | k5
          · exact .inl k5
          · exact .inr (.inl k5)
        rw [this]; simp
      rw [if_neg k5]
      by_cases k7 : v.k = 7
      · rw [if_pos k7]
        have : decide (v = { k := 7, t := v.t }) = false := by
          rw [decide_eq_false_iff_not]
          intro h
          apply hne
          have h3 : v.i = 0 := by rw [h]
          have h4 : v.b = 0 := by rw [h]
          have h5 : v.w = {} := by rw [h]
          exact ⟨.inr h3, .inr (.inr (.inr h4)), .inl k7, .inr (.inr h5)⟩
        rw [this]; simp
      rw [if_neg k7]
    rw [hok]; rfl
  | false =>
    obtain ⟨c1, c2, c3, c4⟩ := (c81_iff v).1 hc
    obtain ⟨vk, vi, vb, vt, vw⟩ := v
    simp only at *
    unfold okVk rbk
    simp only
    by_cases k1 : vk = 1
    · subst k1
      have e1 : vb = 0 := by omega
      have e2 : vt = [] := by rcases c3 with h | h; exact absurd h (by decide); exact h
      have e3 : vw = {} := by rcases c4 with h | h | h; exact absurd h (by decide); exact absurd h (by decide); exact h
      subst e1 e2 e3
      by_cases hk1 : k = 1
      · subst hk1
        rw [hrs (by have := hsz (.inl rfl); omega)]
        cases okI vi (sizeN t.t) <;> simp
      · have : ¬ (1 : Int) = k := by omega
        simp [hk1, this]
    by_cases k2 : vk = 2 ∨ vk = 3 ∨ vk = 4
    · have e1 : vi = 0 := by rcases c1 with h | h; exact absurd h k1; exact h
      have e2 : vt = [] := by rcases c3 with h | h; omega; exact h
      have e3 : vw = {} := by rcases c4 with h | h | h; omega; omega; exact h
      subst e1 e2 e3
      have k0 : vk ≠ 0 := by omega
      by_cases hk1 : k = vk
      · subst hk1
        rw [hrs (by have := hsz (by omega); omega)]
        cases okB vb (sizeN t.t) <;> simp [k1, k2]
      · have : ¬ vk = k := by omega
        simp [hk1, this, k1, k2, k0]
    by_cases k5 : vk = 5 ∨ vk = 6
    · have e1 : vi = 0 := by rcases c1 with h | h; exact absurd h k1; exact h
      have e2 : vt = [] := by rcases c3 with h | h; omega; exact h
      have e3 : vb = 0 := by omega
      subst e1 e2 e3
      have k0 : vk ≠ 0 := by omega
      by_cases hk1 : k = vk
      · subst hk1
        cases fin vw t.t <;> simp [k1, k2, k5]
      · have : ¬ vk = k := by omega
        simp [hk1, this, k1, k2, k5, k0]
    by_cases k7 : vk = 7
    · subst k7
      have e1 : vi = 0 := by rcases c1 with h | h; exact absurd h k1; exact h
      have e2 : vb = 0 := by omega
      have e3 : vw = {} := by rcases c4 with h | h | h; omega; omega; exact h
      subst e1 e2 e3
      by_cases hk1 : k = 7
      · subst hk1
        by_cases hl : vt.length ≤ 16777216
        · have : ¬ 16777216 < vt.length := by omega
          simp [hl, this]
        · have : 16777216 < vt.length := by omega
          simp [hl, this]
      · have : ¬ (7 : Int) = k := by omega
        simp [hk1, this]
    have e1 : vi = 0 := by rcases c1 with h | h; exact absurd h k1; exact h
    have e2 : vt = [] := by rcases c3 with h | h; exact absurd h k7; exact h
    have e3 : vb = 0 := by omega
    have e4 : vw = {} := by rcases c4 with h | h | h; omega; omega; exact h
    subst e1 e2 e3 e4
    have k0 : vk ≠ 0 := by
      intro h; subst h; exact hz rfl
    have hkk : ¬ vk = k := by omega
    simp [k0, hkk, k1, k2, k5, k7]

theorem rcheck_ev {v : Va} {t : Ty} (ht : t.t < 256) (H : AM.Heap) : evT X 16 [.agg v.pay, .agg t.pay] H = some (.int .i64 (chkV v t), H) := by
  obtain ⟨code, hcode, o, ⟨he, h4⟩, hr⟩ := rcheck_code v t ht
  rw [both_chk] at h4
  exact evT_eq (Ev1.toldP (l := [.int .i64 (chkV v t)]) (evT_below X) Tryd.func16 hcode (args_va (i := 0) (args_ty (i := 1) (args_nil 2))) (by simp [Va.pay, Ty.pay, idsL, ids]) (by simp [gtag]) rfl rfl rfl ⟨o, ⟨he, by show some [getF o.fr 4] = _; rw [h4]⟩, hr⟩)

end Go.Proofs.YtifgkkfchnfcaaaDoor

/- Walks: the document's Text. -/
namespace Go.Proofs.YtifgkkfchnfcaaaDoor
open Go.AM
set_option linter.unusedSimpArgs false
set_option linter.unusedVariables false

theorem padB_one (x : Nat) : padB x 1 = decB x := by
  rw [padB_eq, show 1 - ndN x = 0 by have := ndN_pos x; omega]; rfl

section
variable (w : Wh)

set_option maxRecDepth 100000 in
set_option maxHeartbeats 4000000 in
theorem ct_r1 (hw : WOk w) : ∃ code, ((Tryd.f31.body).bind (codeAt [1, 0])) = some code ∧ Run X (evT X) 31 0 code [(1, .ptr 0 0 0 0)] [some (whO w)] ⟨.normal, [(1, .ptr 0 0 0 0), (3, .str (58 :: (padB w.mi.toNat 2 ++ 58 :: padB w.s.toNat 2)))], [some (whO w)]⟩ := by
  refine ⟨_, rfl, ?_⟩
  obtain ⟨m, hm⟩ : ∃ m : Nat, w.mi = (m : Int) := ⟨w.mi.toNat, by have := hw.mi; omega⟩
  obtain ⟨s, hs⟩ : ∃ m : Nat, w.s = (m : Int) := ⟨w.s.toNat, by have := hw.s; omega⟩
  have b1 := hw.mi; have b2 := hw.s
  rw [hm] at b1; rw [hs] at b2
  have e1 := rdig_ev (H := [some (whO w)]) (x := m) (n := 2) (by omega) (by omega) (by omega)
  have e2 := rdig_ev (H := [some (whO w)]) (x := s) (n := 2) (by omega) (by omega) (by omega)
  have w1 : IntKind.u64.wrap (m : Int) = (m : Int) := wu64 (by omega)
  have w2 : IntKind.u64.wrap (s : Int) = (s : Int) := wu64 (by omega)
  have l1 := padB_len (x := m) (n := 2) (by omega) (by omega)
  have l2 := padB_len (x := s) (n := 2) (by omega) (by omega)
  rw [hm, hs]
  simp only [Int.toNat_natCast, Int.cast_ofNat_Int] at e1 e2 ⊢
  generalize padB m 2 = A at *
  generalize padB s 2 = B at *
  have c1 : strOp .add [58] A = some (.str (58 :: A)) := catS (by simp; omega) rfl
  have c2 : strOp .add (58 :: A) [58] = some (.str (58 :: (A ++ [58]))) := catS (by simp; omega) rfl
  have c3 : strOp .add (58 :: (A ++ [58])) B = some (.str (58 :: (A ++ 58 :: B))) := catS (by simp; omega) (by simp)
  apply Run.dy (by simp) keep31_1 (by simp)
  · simp only [whO, Wh.pay, hm, hs] at e1 e2 ⊢
    (conv => lhs; simp (maxSteps := 2000000) -implicitDefEqProofs [-getElem?_pos, List.getElem?_cons_zero, List.getElem?_cons_succ, go_sem, eqV, plen, loadV, storeV, runD, out1, markOf, freeO, quietO, pushes, isAssign, calledV, touched, mentioned, opVals, touchCall, mentionCall, idsAt, Op.operands, ids, idsL, lendArgs, lendV, lend1, lendL, eqH_self, e1, e2, w1, w2, c1, c2, c3, reach_none])
  · kernel_rfl
  · rfl

set_option maxRecDepth 100000 in
set_option maxHeartbeats 4000000 in
theorem ct_code (hw : WOk w) : ∃ code, Tryd.f31.body = some code ∧
    Tells (Rets fun fr H => getF fr 2 = .str (ckT w)) X (evT X) 31 0 code [(0, .agg w.pay)] [] := by
  refine ⟨_, rfl, ?_⟩
  apply Tells.seq (fr' := [(1, .ptr 0 0 0 0)]) (H' := [some (whO w)])
  · unfold whO
    simp only [Wh.pay]
    (refine ⟨0, ?_⟩; simp (maxSteps := 2000000) -implicitDefEqProofs [-getElem?_pos, List.getElem?_cons_zero, List.getElem?_cons_succ, go_sem, eqV, plen, loadV, storeV])
  apply Tells.seq (piece (ct_r1 w hw) _ rfl)
  obtain ⟨u, hu⟩ : ∃ m : Nat, w.us = (m : Int) := ⟨w.us.toNat, by have := hw.us; omega⟩
  have b3 := hw.us
  rw [hu] at b3
  have l3 := padB_len (x := u) (n := 6) (by omega) (by omega)
  have e3 := rdig_ev (H := [some (whO w)]) (x := u) (n := 6) (by omega) (by omega) (by omega)
  have w3 : IntKind.u64.wrap (u : Int) = (u : Int) := wu64 (by omega)
  have hk : ckT w = (58 :: (padB w.mi.toNat 2 ++ 58 :: padB w.s.toNat 2)) ++ usT u := by unfold ckT; rw [hu]; simp
  have l1 : (58 :: (padB w.mi.toNat 2 ++ 58 :: padB w.s.toNat 2)).length ≤ 50 := by
    have h1 := hw.mi; have h2 := hw.s
    have q1 := padB_len (x := w.mi.toNat) (n := 2) (by omega) (by omega)
    have q2 := padB_len (x := w.s.toNat) (n := 2) (by omega) (by omega)
    simp only [List.length_cons, List.length_append]
    omega
  rw [hk]
  generalize (58 :: (padB w.mi.toNat 2 ++ 58 :: padB w.s.toNat 2)) = K at *
  by_cases h0 : u = 0
  · subst h0
    have hz : w.us = 0 := by omega
    refine Tells.of (o := ⟨.ret, [(2, .str (K ++ usT 0))], [some (whO w)]⟩) ⟨0, ?_⟩ ⟨rfl, rfl⟩
    rw [show usT 0 = [] from rfl, List.append_nil]
    simp (maxSteps := 2000000) -implicitDefEqProofs [-getElem?_pos, List.getElem?_cons_zero, List.getElem?_cons_succ, go_sem, eqV, plen, loadV, storeV, whO, Wh.pay, hz]
  · have hz : ((u : Int) != 0) = true := by simp; omega
    refine Tells.of (o := ⟨.ret, [(2, .str (K ++ usT u))], [some (whO w)]⟩) ⟨0, ?_⟩ ⟨rfl, rfl⟩
    rw [show usT u = 46 :: padB u 6 by unfold usT; rw [if_neg h0]]
    simp only [Int.cast_ofNat_Int] at e3
    generalize padB u 6 = A at *
    have c1 : strOp .add K [46] = some (.str (K ++ [46])) := catS (by simp; omega) rfl
    have c2 : strOp .add (K ++ [46]) A = some (.str (K ++ 46 :: A)) := catS (by simp; omega) (by simp)
    simp only [whO, Wh.pay, hu] at e3 ⊢
    simp (maxSteps := 2000000) -implicitDefEqProofs [-getElem?_pos, List.getElem?_cons_zero, List.getElem?_cons_succ, go_sem, eqV, plen, loadV, storeV, hz, h0, e3, w3, c1, c2]

end

theorem ct_ev {H : AM.Heap} {w : Wh} (hw : WOk w) : evT X 31 [.agg w.pay] H = some (.str (ckT w), H) := by
  obtain ⟨code, hcode, o, ⟨he, h4⟩, hr⟩ := ct_code w hw
  exact evT_eq (Ev1.toldP (l := [.str (ckT w)]) (evT_below X) Tryd.func31 hcode (args_wh (args_nil 1)) rfl (by simp [gtag]) rfl rfl rfl ⟨o, ⟨he, by show some [getF o.fr 2] = _; rw [h4]⟩, hr⟩)

section
variable (v : Va) (t : Ty)

theorem vw_cells : [v.w.neg] = [v.w.neg] := rfl

set_option maxRecDepth 100000 in
set_option maxHeartbeats 4000000 in
/-- a day -/
theorem rt_r11 (k : AV) (hw : WOk v.w) : ∃ code, ((Tryd.f11.body).bind (codeAt [1, 1, 0, 1, 0, 1, 1, 1, 1, 1, 0, 0])) = some code ∧ Run X (evT X) 11 0 code [(2, .ptr 0 0 0 0), (3, .ptr 1 0 0 0), (13, k), (36, .bool true)] [some (vaO v), some (tyO t)] ⟨.normal, [(2, .ptr 0 0 0 0), (3, .ptr 1 0 0 0), (6, .str (dyT v.w))], [some (vaO v), some (tyO t)]⟩ := by
  refine ⟨_, rfl, ?_⟩
  obtain ⟨y, hy⟩ : ∃ m : Nat, v.w.y = (m : Int) := ⟨v.w.y.toNat, by have := hw.y; omega⟩
  obtain ⟨mo, hmo⟩ : ∃ m : Nat, v.w.mo = (m : Int) := ⟨v.w.mo.toNat, by have := hw.mo; omega⟩
  obtain ⟨d, hd⟩ : ∃ m : Nat, v.w.d = (m : Int) := ⟨v.w.d.toNat, by have := hw.d; omega⟩
  have b1 := hw.y; have b2 := hw.mo; have b3 := hw.d
  rw [hy] at b1; rw [hmo] at b2; rw [hd] at b3
  have e1 := rdig_ev (H := [some (vaO v), some (tyO t)]) (x := y) (n := 4) (by omega) (by omega) (by omega)
  have e2 := rdig_ev (H := [some (vaO v), some (tyO t)]) (x := mo) (n := 2) (by omega) (by omega) (by omega)
  have e3 := rdig_ev (H := [some (vaO v), some (tyO t)]) (x := d) (n := 2) (by omega) (by omega) (by omega)
  have w1 : IntKind.u64.wrap (y : Int) = (y : Int) := wu64 (by omega)
  have w2 : IntKind.u64.wrap (mo : Int) = (mo : Int) := wu64 (by omega)
  have w3 : IntKind.u64.wrap (d : Int) = (d : Int) := wu64 (by omega)
  have l1 := padB_len (x := y) (n := 4) (by omega) (by omega)
  have l2 := padB_len (x := mo) (n := 2) (by omega) (by omega)
  have l3 := padB_len (x := d) (n := 2) (by omega) (by omega)
  unfold dyT
  rw [hy, hmo, hd]
  simp only [Int.toNat_natCast, Int.cast_ofNat_Int] at e1 e2 e3 ⊢
  generalize padB y 4 = A at *
  generalize padB mo 2 = B at *
  generalize padB d 2 = D at *
  have c1 : strOp .add A [45] = some (.str (A ++ [45])) := catS (by simp; omega) rfl
  have c2 : strOp .add (A ++ [45]) B = some (.str (A ++ 45 :: B)) := catS (by simp; omega) (by simp)
  have c3 : strOp .add (A ++ 45 :: B) [45] = some (.str (A ++ 45 :: (B ++ [45]))) := catS (by simp; omega) (by simp)
  have c4 : strOp .add (A ++ 45 :: (B ++ [45])) D = some (.str (A ++ 45 :: (B ++ 45 :: D))) := catS (by simp; omega) (by simp)
  apply Run.dy (by simp) keep11_11 (by simp)
  · simp only [vaO, tyO, Va.pay, Ty.pay, hy, hmo, hd] at e1 e2 e3 ⊢
    (conv => lhs; simp (maxSteps := 2000000) -implicitDefEqProofs [-getElem?_pos, List.getElem?_cons_zero, List.getElem?_cons_succ, go_sem, eqV, plen, loadV, storeV, runD, out1, markOf, freeO, quietO, pushes, isAssign, calledV, touched, mentioned, opVals, touchCall, mentionCall, idsAt, Op.operands, ids, idsL, lendArgs, lendV, lend1, lendL, eqH_self, e1, e2, e3, w1, w2, w3, c1, c2, c3, c4, reach_none])
  · kernel_rfl
  · rfl

set_option maxRecDepth 100000 in
set_option maxHeartbeats 4000000 in
/-- a day's time -/
theorem rt_r13 (D : List UInt8) (tl : AM.Frame) (hD : D.length ≤ 100) (hw : WOk v.w) : ∃ code, ((Tryd.f11.body).bind (codeAt [1, 1, 0, 1, 0, 1, 1, 1, 1, 1, 0, 1, 0, 1, 0])) = some code ∧ Run X (evT X) 11 0 code ([(2, .ptr 0 0 0 0), (6, .str D)] ++ tl) [some (vaO v), some (tyO t)] ⟨.normal, [(6, .str (D ++ 32 :: (padB v.w.h.toNat 2 ++ ckT v.w)))], [some (vaO v), some (tyO t)]⟩ := by
  refine ⟨_, rfl, ?_⟩
  obtain ⟨h, hh⟩ : ∃ m : Nat, v.w.h = (m : Int) := ⟨v.w.h.toNat, by have := hw.h; omega⟩
  have b1 := hw.h
  rw [hh] at b1
  have e1 := rdig_ev (H := [some (vaO v), some (tyO t)]) (x := h) (n := 2) (by omega) (by omega) (by omega)
  have e2 := ct_ev (H := [some (vaO v), some (tyO t)]) hw
  have w1 : IntKind.u64.wrap (h : Int) = (h : Int) := wu64 (by omega)
  have l1 := padB_len (x := h) (n := 2) (by omega) (by omega)
  have l2 : (ckT v.w).length ≤ 100 := by
    unfold ckT
    have h1 := hw.mi; have h2 := hw.s; have h3 := hw.us
    have q1 := padB_len (x := v.w.mi.toNat) (n := 2) (by omega) (by omega)
    have q2 := padB_len (x := v.w.s.toNat) (n := 2) (by omega) (by omega)
    have q3 := usT_len (x := v.w.us.toNat) (by omega)
    simp only [List.length_cons, List.length_append]
    omega
  rw [show v.w.h.toNat = h by omega]
  simp only [Int.cast_ofNat_Int] at e1
  generalize padB h 2 = A at *
  generalize ckT v.w = K at *
  have c1 : strOp .add D [32] = some (.str (D ++ [32])) := catS (by simp; omega) rfl
  have c2 : strOp .add (D ++ [32]) A = some (.str (D ++ 32 :: A)) := catS (by simp; omega) (by simp)
  have c3 : strOp .add (D ++ 32 :: A) K = some (.str (D ++ 32 :: (A ++ K))) := catS (by simp; omega) (by simp)
  apply Run.dy (by simp) keep11_13 (by simp)
  · simp only [vaO, tyO, Va.pay, Ty.pay, Wh.pay, hh] at e1 e2 ⊢
    (conv => lhs; simp (maxSteps := 2000000) -implicitDefEqProofs [-getElem?_pos, List.getElem?_cons_zero, List.getElem?_cons_succ, go_sem, eqV, plen, loadV, storeV, runD, out1, markOf, freeO, quietO, pushes, isAssign, calledV, touched, mentioned, opVals, touchCall, mentionCall, idsAt, Op.operands, ids, idsL, lendArgs, lendV, lend1, lendL, eqH_self, e1, e2, w1, c1, c2, c3, mkWh, reach_none])
  · kernel_rfl
  · rfl

set_option maxRecDepth 100000 in
set_option maxHeartbeats 4000000 in
/-- a span -/
theorem rt_r16 (k : AV) (hw : WOk v.w) : ∃ code, ((Tryd.f11.body).bind (codeAt [1, 1, 0, 1, 0, 1, 1, 1, 1, 1, 1, 1, 0, 0])) = some code ∧ Run X (evT X) 11 0 code [(2, .ptr 0 0 0 0), (13, k), (73, .bool true)] [some (vaO v), some (tyO t)] ⟨.normal, [(2, .ptr 0 0 0 0), (7, .str (padB (24 * v.w.d.toNat + v.w.h.toNat) 2 ++ ckT v.w))], [some (vaO v), some (tyO t)]⟩ := by
  refine ⟨_, rfl, ?_⟩
  obtain ⟨h, hh⟩ : ∃ m : Nat, v.w.h = (m : Int) := ⟨v.w.h.toNat, by have := hw.h; omega⟩
  obtain ⟨d, hd⟩ : ∃ m : Nat, v.w.d = (m : Int) := ⟨v.w.d.toNat, by have := hw.d; omega⟩
  have b1 := hw.h; have b2 := hw.d
  rw [hh] at b1; rw [hd] at b2
  have e1 := rdig_ev (H := [some (vaO v), some (tyO t)]) (x := 24 * d + h) (n := 2) (by omega) (by omega) (by omega)
  have e2 := ct_ev (H := [some (vaO v), some (tyO t)]) hw
  have w1 : IntKind.i64.wrap (24 * (d : Int)) = 24 * (d : Int) := wrap_i64 (by omega) (by omega)
  have w2 : IntKind.i64.wrap (24 * (d : Int) + (h : Int)) = ((24 * d + h : Nat) : Int) := by rw [wrap_i64 (by omega) (by omega)]; omega
  have w3 : IntKind.u64.wrap ((24 * d + h : Nat) : Int) = ((24 * d + h : Nat) : Int) := wu64 (by omega)
  have l1 := padB_len (x := 24 * d + h) (n := 2) (by omega) (by omega)
  have l2 : (ckT v.w).length ≤ 100 := by
    unfold ckT
    have h1 := hw.mi; have h2 := hw.s; have h3 := hw.us
    have q1 := padB_len (x := v.w.mi.toNat) (n := 2) (by omega) (by omega)
    have q2 := padB_len (x := v.w.s.toNat) (n := 2) (by omega) (by omega)
    have q3 := usT_len (x := v.w.us.toNat) (by omega)
    simp only [List.length_cons, List.length_append]
    omega
  rw [show 24 * v.w.d.toNat + v.w.h.toNat = 24 * d + h by omega]
  simp only [Int.cast_ofNat_Int] at e1
  generalize hz : 24 * d + h = z at *
  generalize padB z 2 = A at *
  generalize ckT v.w = K at *
  have c1 : strOp .add A K = some (.str (A ++ K)) := catS (by omega) rfl
  apply Run.dy (by simp) keep11_16 (by simp)
  · simp only [vaO, tyO, Va.pay, Ty.pay, Wh.pay, hh, hd] at e1 e2 ⊢
    (conv => lhs; simp (maxSteps := 2000000) -implicitDefEqProofs [-getElem?_pos, List.getElem?_cons_zero, List.getElem?_cons_succ, go_sem, eqV, plen, loadV, storeV, runD, out1, markOf, freeO, quietO, pushes, isAssign, calledV, touched, mentioned, opVals, touchCall, mentionCall, idsAt, Op.operands, ids, idsL, lendArgs, lendV, lend1, lendL, eqH_self, e1, e2, w1, w2, w3, c1, mkWh, reach_none])
  · kernel_rfl
  · rfl

end

end Go.Proofs.YtifgkkfchnfcaaaDoor

/- Walks: the document's Text, whole. -/
namespace Go.Proofs.YtifgkkfchnfcaaaDoor
open Go.AM
set_option linter.unusedSimpArgs false
set_option linter.unusedVariables false

section
variable (v : Va) (t : Ty)

set_option maxRecDepth 100000 in
set_option maxHeartbeats 8000000 in
theorem rtext_code (ht : t.t < 256) (hb : v.b < 18446744073709551616) (hi : -9223372036854775808 ≤ v.i ∧ v.i < 9223372036854775808) : ∃ code, Tryd.f11.body = some code ∧
    Tells (Rets fun fr H => getF fr 4 = .str (txV v t).1 ∧ getF fr 5 = .int .i64 (txV v t).2) X (evT X) 11 0 code [(0, .agg v.pay), (1, .agg t.pay)] [] := by
  refine ⟨_, rfl, ?_⟩
  have hC := fun H => rcheck_ev (v := v) (t := t) ht H
  apply Tells.seq (fr' := [(2, .ptr 0 0 0 0), (3, .ptr 1 0 0 0)]) (H' := [some (vaO v), some (tyO t)])
  · unfold vaO tyO
    simp only [Va.pay, Ty.pay]
    (refine ⟨0, ?_⟩; simp (maxSteps := 2000000) -implicitDefEqProofs [-getElem?_pos, List.getElem?_cons_zero, List.getElem?_cons_succ, go_sem, eqV, plen, loadV, storeV])
  apply Tells.assoc
  by_cases hc : chkV v t ≠ 0
  · rw [show txV v t = ([], 2) by unfold txV; rw [if_pos hc]]
    have hc2 := chk_two hc
    rw [hc2] at hC
    refine Tells.of (o := ⟨.ret, [(4, .str []), (5, .int .i64 2)], [some (vaO v), some (tyO t)]⟩) ⟨0, ?_⟩ ⟨rfl, rfl, rfl⟩
    simp only [Va.pay, Ty.pay] at hC
    simp (maxSteps := 2000000) -implicitDefEqProofs [-getElem?_pos, List.getElem?_cons_zero, List.getElem?_cons_succ, go_sem, eqV, plen, loadV, storeV, vaO, tyO, Va.pay, Ty.pay, mkVa, mkTy, hC]
  have hc0 : chkV v t = 0 := by simpa using hc
  have htx : txV v t = if v.k = 1 then (intB v.i, 0) else if v.k = 2 then (decB v.b, 0) else if v.k = 5 ∨ v.k = 6 then (wtB v.w t.t, 0) else if v.k = 7 then (v.t, 0) else ([], 2) := by unfold txV; rw [if_neg hc]
  obtain ⟨_, ff, _, fk⟩ := ok_facts hc0
  have hkd := fun h => ok_kd hc0 h
  rw [hc0] at hC
  rw [htx]
  apply Tells.seq (fr' := [(2, .ptr 0 0 0 0), (3, .ptr 1 0 0 0), (11, .bool false)]) (H' := [some (vaO v), some (tyO t)])
  · simp only [Va.pay, Ty.pay] at hC
    (refine ⟨0, ?_⟩; simp (maxSteps := 2000000) -implicitDefEqProofs [-getElem?_pos, List.getElem?_cons_zero, List.getElem?_cons_succ, go_sem, eqV, plen, loadV, storeV, vaO, tyO, Va.pay, Ty.pay, mkVa, mkTy, hC])
  apply Tells.seq (fr' := [(2, .ptr 0 0 0 0), (3, .ptr 1 0 0 0), (11, .bool false)]) (H' := [some (vaO v), some (tyO t)])
  · exact Run.cond (d := false) rfl ⟨0, rfl⟩
  clear hC
  by_cases k1 : v.k = 1
  · rw [if_pos k1]
    by_cases hn : v.i < 0
    · obtain ⟨u, hu⟩ : ∃ u : Nat, u = (-v.i).toNat := ⟨_, rfl⟩
      have hib : intB v.i = 45 :: decB u := by unfold intB; rw [if_pos hn, hu]
      have hF := fun H => rdig_ev (H := H) (x := u) (n := 1) (by omega) (by omega) (by omega)
      simp only [padB_one, Int.cast_ofNat_Int] at hF
      have w1 : IntKind.i64.wrap (v.i + 1) = v.i + 1 := wrap_i64 (by omega) (by omega)
      have w2 : IntKind.i64.wrap (0 - (v.i + 1)) = -(v.i + 1) := by rw [wrap_i64 (by omega) (by omega)]; omega
      have w2' : IntKind.i64.wrap (-(v.i + 1)) = -(v.i + 1) := by rw [wrap_i64 (by omega) (by omega)]
      have w3 : IntKind.u64.wrap (-(v.i + 1)) = -(v.i + 1) := by
        have := wu64 (n := (-(v.i + 1)).toNat) (by omega)
        rw [show (((-(v.i + 1)).toNat : Nat) : Int) = -(v.i + 1) by omega] at this
        exact this
      have w4 : IntKind.u64.wrap (-(v.i + 1) + 1) = (u : Int) := by
        rw [show -(v.i + 1) + 1 = (u : Int) by omega]; exact wu64 (by omega)
      have hl : (decB u).length ≤ 30 := by rw [← padB_one]; have := padB_len_big (x := u) (by omega); omega
      have c1 : strOp .add [45] (decB u) = some (.str (45 :: decB u)) := catS (by simp; omega) rfl
      rw [hib]
      refine Tells.of (o := ⟨.ret, [(4, .str (45 :: decB u)), (5, .int .i64 0)], [some (vaO v), some (tyO t)]⟩) ⟨0, ?_⟩ ⟨rfl, rfl, rfl⟩
      generalize decB u = D at *
      generalize hz : -(v.i + 1) = z at *
      generalize hz1 : v.i + 1 = z1 at *
      simp (maxSteps := 2000000) -implicitDefEqProofs [-getElem?_pos, List.getElem?_cons_zero, List.getElem?_cons_succ, go_sem, eqV, plen, loadV, storeV, vaO, tyO, Va.pay, Ty.pay, k1, hn, hz, hz1, w1, w2, w2', w3, w4, hF, c1, unV]
    · obtain ⟨u, hu⟩ : ∃ u : Nat, v.i = (u : Int) := ⟨v.i.toNat, by omega⟩
      have hib : intB v.i = decB u := by unfold intB; rw [if_neg hn, hu]; rfl
      have hF := fun H => rdig_ev (H := H) (x := u) (n := 1) (by omega) (by omega) (by omega)
      simp only [padB_one, Int.cast_ofNat_Int] at hF
      have w1 : IntKind.u64.wrap (u : Int) = (u : Int) := wu64 (by omega)
      rw [hib]
      refine Tells.of (o := ⟨.ret, [(4, .str (decB u)), (5, .int .i64 0)], [some (vaO v), some (tyO t)]⟩) ⟨0, ?_⟩ ⟨rfl, rfl, rfl⟩
      generalize decB u = D at *
      have hnu : ¬ (u : Int) < 0 := by omega
      simp (maxSteps := 2000000) -implicitDefEqProofs [-getElem?_pos, List.getElem?_cons_zero, List.getElem?_cons_succ, go_sem, eqV, plen, loadV, storeV, vaO, tyO, Va.pay, Ty.pay, k1, hu, hnu, w1, hF]
  rw [if_neg k1]
  by_cases k2 : v.k = 2
  · rw [if_pos k2]
    have hF := fun H => rdig_ev (H := H) (x := v.b) (n := 1) hb (by omega) (by omega)
    simp only [padB_one, Int.cast_ofNat_Int] at hF
    refine Tells.of (o := ⟨.ret, [(4, .str (decB v.b)), (5, .int .i64 0)], [some (vaO v), some (tyO t)]⟩) ⟨0, ?_⟩ ⟨rfl, rfl, rfl⟩
    simp (maxSteps := 2000000) -implicitDefEqProofs [-getElem?_pos, List.getElem?_cons_zero, List.getElem?_cons_succ, go_sem, eqV, plen, loadV, storeV, vaO, tyO, Va.pay, Ty.pay, k2, hF]
  rw [if_neg k2]
  by_cases k5 : v.k = 5
  · rw [if_pos (.inl k5)]
    have hw := fin_wok (ff (.inl k5))
    have h11 : t.t ≠ 11 := kd_date (by rw [← hkd (by omega), k5])
    apply Tells.assoc
    apply Tells.seq (fr' := [(2, .ptr 0 0 0 0), (3, .ptr 1 0 0 0), (13, .int .i64 5)]) (H' := [some (vaO v), some (tyO t)])
    · (refine ⟨0, ?_⟩; simp (maxSteps := 2000000) -implicitDefEqProofs [-getElem?_pos, List.getElem?_cons_zero, List.getElem?_cons_succ, go_sem, eqV, plen, loadV, storeV, vaO, tyO, Va.pay, Ty.pay, k5])
    refine Tells.seqOut (Tells.blk ?_ (fun o h => by rw [h.1]; simp)) (fun o h => by rw [h.1]; simp)
    apply Tells.seq (fr' := [(2, .ptr 0 0 0 0), (3, .ptr 1 0 0 0), (13, .int .i64 5), (14, .bool false)]) (H' := [some (vaO v), some (tyO t)])
    · generalize [some (vaO v), some (tyO t)] = HH at *
      (refine ⟨0, ?_⟩; simp (maxSteps := 2000000) -implicitDefEqProofs [-getElem?_pos, List.getElem?_cons_zero, List.getElem?_cons_succ, go_sem, eqV, plen, loadV, storeV])
    refine Tells.condF rfl ?_
    apply Tells.seq (fr' := [(2, .ptr 0 0 0 0), (3, .ptr 1 0 0 0), (13, .int .i64 5), (31, .bool false)]) (H' := [some (vaO v), some (tyO t)])
    · generalize [some (vaO v), some (tyO t)] = HH at *
      (refine ⟨0, ?_⟩; simp (maxSteps := 2000000) -implicitDefEqProofs [-getElem?_pos, List.getElem?_cons_zero, List.getElem?_cons_succ, go_sem, eqV, plen, loadV, storeV])
    refine Tells.condF rfl ?_
    apply Tells.seq (fr' := [(2, .ptr 0 0 0 0), (3, .ptr 1 0 0 0), (13, .int .i64 5), (36, .bool true)]) (H' := [some (vaO v), some (tyO t)])
    · generalize [some (vaO v), some (tyO t)] = HH at *
      (refine ⟨0, ?_⟩; simp (maxSteps := 2000000) -implicitDefEqProofs [-getElem?_pos, List.getElem?_cons_zero, List.getElem?_cons_succ, go_sem, eqV, plen, loadV, storeV])
    refine Tells.condT rfl ?_
    apply Tells.seq (piece (rt_r11 v t (.int .i64 5) hw) _ rfl)
    apply Tells.assoc
    by_cases h10 : t.t = 10
    · refine Tells.of (o := ⟨.ret, [(4, .str (wtB v.w t.t)), (5, .int .i64 0)], [some (vaO v), some (tyO t)]⟩) ⟨0, ?_⟩ ⟨rfl, rfl, rfl⟩
      rw [h10, show wtB v.w 10 = dyT v.w from rfl]
      simp (maxSteps := 2000000) -implicitDefEqProofs [-getElem?_pos, List.getElem?_cons_zero, List.getElem?_cons_succ, go_sem, eqV, plen, loadV, storeV, vaO, tyO, Va.pay, Ty.pay, h10]
    · have t10 : ((t.t : Int) != 10) = true := by simp; omega
      have l3 : (dyT v.w).length ≤ 100 := by
        unfold dyT
        have h1 := hw.y; have h2 := hw.mo; have h3 := hw.d
        have q1 := padB_len (x := v.w.y.toNat) (n := 4) (by omega) (by omega)
        have q2 := padB_len (x := v.w.mo.toNat) (n := 2) (by omega) (by omega)
        have q3 := padB_len (x := v.w.d.toNat) (n := 2) (by omega) (by omega)
        simp only [List.length_cons, List.length_append]
        omega
      have hwt : wtB v.w t.t = dyT v.w ++ 32 :: (padB v.w.h.toNat 2 ++ ckT v.w) := by unfold wtB; rw [if_neg h11, if_neg h10]
      rw [hwt]
      apply Tells.seq (fr' := [(2, .ptr 0 0 0 0), (6, .str (dyT v.w)), (59, .bool true)]) (H' := [some (vaO v), some (tyO t)])
      · generalize dyT v.w = D at *
        (refine ⟨0, ?_⟩; simp (maxSteps := 2000000) -implicitDefEqProofs [-getElem?_pos, List.getElem?_cons_zero, List.getElem?_cons_succ, go_sem, eqV, plen, loadV, storeV, vaO, tyO, Va.pay, Ty.pay, t10, h10])
      apply Tells.seq (fr' := [(6, .str (dyT v.w ++ 32 :: (padB v.w.h.toNat 2 ++ ckT v.w)))]) (H' := [some (vaO v), some (tyO t)])
      · exact Run.cond (d := true) rfl (piece (rt_r13 v t (dyT v.w) [(59, .bool true)] l3 hw) _ rfl)
      refine Tells.of (o := ⟨.ret, [(4, .str (dyT v.w ++ 32 :: (padB v.w.h.toNat 2 ++ ckT v.w))), (5, .int .i64 0)], [some (vaO v), some (tyO t)]⟩) ⟨0, ?_⟩ ⟨rfl, rfl, rfl⟩
      generalize dyT v.w ++ 32 :: (padB v.w.h.toNat 2 ++ ckT v.w) = D at *
      simp (maxSteps := 2000000) -implicitDefEqProofs [-getElem?_pos, List.getElem?_cons_zero, List.getElem?_cons_succ, go_sem, eqV, plen, loadV, storeV]
  by_cases k6 : v.k = 6
  · rw [if_pos (.inr k6)]
    have hw := fin_wok (ff (.inr k6))
    have h11 : t.t = 11 := kd_time (by rw [← hkd (by omega), k6])
    apply Tells.assoc
    apply Tells.seq (fr' := [(2, .ptr 0 0 0 0), (3, .ptr 1 0 0 0), (13, .int .i64 6)]) (H' := [some (vaO v), some (tyO t)])
    · (refine ⟨0, ?_⟩; simp (maxSteps := 2000000) -implicitDefEqProofs [-getElem?_pos, List.getElem?_cons_zero, List.getElem?_cons_succ, go_sem, eqV, plen, loadV, storeV, vaO, tyO, Va.pay, Ty.pay, k6])
    refine Tells.seqOut (Tells.blk ?_ (fun o h => by rw [h.1]; simp)) (fun o h => by rw [h.1]; simp)
    apply Tells.seq (fr' := [(2, .ptr 0 0 0 0), (3, .ptr 1 0 0 0), (13, .int .i64 6), (14, .bool false)]) (H' := [some (vaO v), some (tyO t)])
    · generalize [some (vaO v), some (tyO t)] = HH at *
      (refine ⟨0, ?_⟩; simp (maxSteps := 2000000) -implicitDefEqProofs [-getElem?_pos, List.getElem?_cons_zero, List.getElem?_cons_succ, go_sem, eqV, plen, loadV, storeV])
    refine Tells.condF rfl ?_
    apply Tells.seq (fr' := [(2, .ptr 0 0 0 0), (3, .ptr 1 0 0 0), (13, .int .i64 6), (31, .bool false)]) (H' := [some (vaO v), some (tyO t)])
    · generalize [some (vaO v), some (tyO t)] = HH at *
      (refine ⟨0, ?_⟩; simp (maxSteps := 2000000) -implicitDefEqProofs [-getElem?_pos, List.getElem?_cons_zero, List.getElem?_cons_succ, go_sem, eqV, plen, loadV, storeV])
    refine Tells.condF rfl ?_
    apply Tells.seq (fr' := [(2, .ptr 0 0 0 0), (3, .ptr 1 0 0 0), (13, .int .i64 6), (36, .bool false)]) (H' := [some (vaO v), some (tyO t)])
    · generalize [some (vaO v), some (tyO t)] = HH at *
      (refine ⟨0, ?_⟩; simp (maxSteps := 2000000) -implicitDefEqProofs [-getElem?_pos, List.getElem?_cons_zero, List.getElem?_cons_succ, go_sem, eqV, plen, loadV, storeV])
    refine Tells.condF rfl ?_
    apply Tells.seq (fr' := [(2, .ptr 0 0 0 0), (13, .int .i64 6), (73, .bool true)]) (H' := [some (vaO v), some (tyO t)])
    · generalize [some (vaO v), some (tyO t)] = HH at *
      (refine ⟨0, ?_⟩; simp (maxSteps := 2000000) -implicitDefEqProofs [-getElem?_pos, List.getElem?_cons_zero, List.getElem?_cons_succ, go_sem, eqV, plen, loadV, storeV])
    refine Tells.condT rfl ?_
    apply Tells.seq (piece (rt_r16 v t (.int .i64 6) hw) _ rfl)
    have hwt : wtB v.w t.t = (if v.w.neg then [45] else []) ++ (padB (24 * v.w.d.toNat + v.w.h.toNat) 2 ++ ckT v.w) := by unfold wtB; rw [if_pos h11]
    rw [hwt]
    have l2 : (padB (24 * v.w.d.toNat + v.w.h.toNat) 2 ++ ckT v.w).length ≤ 200 := by
      unfold ckT
      have h1 := hw.mi; have h2 := hw.s; have h3 := hw.us; have h4 := hw.d; have h5 := hw.h
      have q1 := padB_len (x := v.w.mi.toNat) (n := 2) (by omega) (by omega)
      have q2 := padB_len (x := v.w.s.toNat) (n := 2) (by omega) (by omega)
      have q3 := usT_len (x := v.w.us.toNat) (by omega)
      have q4 := padB_len (x := 24 * v.w.d.toNat + v.w.h.toNat) (n := 2) (by omega) (by omega)
      simp only [List.length_cons, List.length_append]
      omega
    generalize padB (24 * v.w.d.toNat + v.w.h.toNat) 2 ++ ckT v.w = K at *
    cases hn : v.w.neg
    · refine Tells.of (o := ⟨.ret, [(4, .str K), (5, .int .i64 0)], [some (vaO v), some (tyO t)]⟩) ⟨0, ?_⟩ ⟨rfl, by simp [getF], rfl⟩
      simp (maxSteps := 2000000) -implicitDefEqProofs [-getElem?_pos, List.getElem?_cons_zero, List.getElem?_cons_succ, go_sem, eqV, plen, loadV, storeV, vaO, tyO, Va.pay, Ty.pay, hn]
    · have c1 : strOp .add [45] K = some (.str (45 :: K)) := catS (by simp; omega) rfl
      refine Tells.of (o := ⟨.ret, [(4, .str (45 :: K)), (5, .int .i64 0)], [some (vaO v), some (tyO t)]⟩) ⟨0, ?_⟩ ⟨rfl, by simp [getF], rfl⟩
      simp (maxSteps := 2000000) -implicitDefEqProofs [-getElem?_pos, List.getElem?_cons_zero, List.getElem?_cons_succ, go_sem, eqV, plen, loadV, storeV, vaO, tyO, Va.pay, Ty.pay, hn, c1]
  rw [if_neg (by omega)]
  have b1 : (v.k == 1) = false := by simpa using k1
  have b2 : (v.k == 2) = false := by simpa using k2
  have b5 : (v.k == 5) = false := by simpa using k5
  have b6 : (v.k == 6) = false := by simpa using k6
  by_cases k7 : v.k = 7
  · rw [if_pos k7]
    refine Tells.of (o := ⟨.ret, [(4, .str v.t), (5, .int .i64 0)], [some (vaO v), some (tyO t)]⟩) ⟨0, ?_⟩ ⟨rfl, rfl, rfl⟩
    simp (maxSteps := 2000000) -implicitDefEqProofs [-getElem?_pos, List.getElem?_cons_zero, List.getElem?_cons_succ, go_sem, eqV, plen, loadV, storeV, vaO, tyO, Va.pay, Ty.pay, k7]
  rw [if_neg k7]
  have b7 : (v.k == 7) = false := by simpa using k7
  refine Tells.of (o := ⟨.ret, [(4, .str []), (5, .int .i64 2)], [some (vaO v), some (tyO t)]⟩) ⟨0, ?_⟩ ⟨rfl, rfl, rfl⟩
  simp (maxSteps := 2000000) -implicitDefEqProofs [-getElem?_pos, List.getElem?_cons_zero, List.getElem?_cons_succ, go_sem, eqV, plen, loadV, storeV, vaO, tyO, Va.pay, Ty.pay, k1, k2, k5, k6, k7, b1, b2, b5, b6, b7]

end

theorem rtext_ev {H : AM.Heap} {v : Va} {t : Ty} (ht : t.t < 256) (hb : v.b < 18446744073709551616) (hi : -9223372036854775808 ≤ v.i ∧ v.i < 9223372036854775808) :
    evT X 11 [.agg v.pay, .agg t.pay] H = some (.tup [.str (txV v t).1, .int .i64 (txV v t).2], H) := by
  obtain ⟨code, hcode, o, ⟨he, h4, h5⟩, hr⟩ := rtext_code v t ht hb hi
  exact evT_eq (Ev1.toldP (l := [.str (txV v t).1, .int .i64 (txV v t).2]) (evT_below X) Tryd.func11 hcode (args_va (i := 0) (args_ty (i := 1) (args_nil 2))) (by simp [Va.pay, Ty.pay, idsL, ids]) (by simp [gtag]) rfl rfl rfl ⟨o, ⟨he, by show some [getF o.fr 4, getF o.fr 5] = _; rw [h4, h5]⟩, hr⟩)

end Go.Proofs.YtifgkkfchnfcaaaDoor

/- Walks: the document's moment, appended: its end. -/
namespace Go.Proofs.YtifgkkfchnfcaaaDoor
open Go.AM
set_option linter.unusedSimpArgs false
set_option linter.unusedVariables false

theorem rfx_code (c : Nat) (b : List UInt8) (x n : Nat) (hc : c = 0 → b = []) (hb : b.length ≤ 1000000) (h1 : 1 ≤ n) (h8 : n ≤ 8) (hx : x < 256 ^ n) : ∃ code, Tryd.f24.body = some code ∧
    Tells (Rets fun fr H => ∃ o g ob, getF fr 6 = .sl o 0 (b.length + n) g ∧ H[o]? = some (some ob) ∧ Rw (.pb (b ++ leB n x)) g ob) X (evT X) 24 0 code [(0, .ro c (.pb b) 1), (1, .int .u64 (x : Nat)), (2, .int .i64 (n : Nat))] [] := by
  refine ⟨_, rfl, ?_⟩
  obtain ⟨ob1, hw1, hA⟩ := raf_ev (H := [some nilB]) (a := .ro c (.pb b) 1) (b := b) (x := x) (n := n) (Byt.ro (.inl rfl) hc) (by omega) h1 h8 hx
  refine Tells.of (o := ⟨.ret, [(6, .sl 1 0 (b.length + n) 0)], [some nilB, some ob1]⟩) ⟨0, ?_⟩ ⟨rfl, 1, 0, ob1, rfl, rfl, hw1⟩
  simp (maxSteps := 2000000) -implicitDefEqProofs [-getElem?_pos, List.getElem?_cons_zero, List.getElem?_cons_succ, go_sem, eqV, plen, loadV, storeV, assignV, emB, hA]

theorem rfx_ev {H : AM.Heap} {a : AV} {b : List UInt8} {x n : Nat} {N : Int} (h : Byt H a b) (hN : N = (n : Nat)) (hb : b.length ≤ 1000000) (h1 : 1 ≤ n) (h8 : n ≤ 8) (hx : x < 256 ^ n) :
    ∃ ob, Rw (.pb (b ++ leB n x)) 0 ob ∧ evT X 24 [a, .int .u64 (x : Nat), .int .i64 N] H = some (.sl H.length 0 (b.length + n) 0, H ++ [some ob]) := by
  subst hN
  obtain ⟨c, p, xl, hp, hc, hx'⟩ := args_byt (C := X) (f := 24) (i := 0) rfl h (args_flat (i := 1) (a := .int .u64 (x : Nat)) rfl rfl (args_flat (i := 2) (a := .int .i64 (n : Nat)) rfl rfl (args_nil 3)))
  obtain ⟨code, hcode, hr⟩ := rfx_code c b x n hc hb h1 h8 hx
  obtain ⟨ob, q1, q2⟩ := Ev1.newB (H := H) (n := b.length + n) (l := b ++ leB n x) (rest := []) (evT_below X) Tryd.func24 hcode hx' (by simp [idsL, ids, hp.ids]) (by simp [gtag]) rfl rfl rfl (by
    obtain ⟨o, ⟨he, o1, g, ob, q1, q3, q4⟩, hrun⟩ := hr
    exact ⟨o, ⟨he, o1, g, ob, by show some [getF o.fr 6] = _; rw [q1], q3, q4⟩, by rw [par24, coB hp]; exact hrun⟩)
  exact ⟨ob, q1, evT_eq q2⟩

noncomputable def mtE : Option Code := ((((Tryd.f25.body).bind cR).bind cR).bind cR)

theorem Byt.whole' {H : AM.Heap} {o g : Nat} {ob : AM.Obj} {l : List UInt8} (ho : H[o]? = some (some ob)) (h : Rw (.pb l) g ob) : Byt H (.sl o 0 l.length g) l := Byt.whole ho h

section
variable (c : Nat) (b own : List UInt8) (w : Wh)

set_option maxRecDepth 100000 in
set_option maxHeartbeats 4000000 in
theorem mt_end (H : AM.Heap) (o g : Nat) (ob : AM.Obj) (fr : AM.Frame) (hc : c = 0 → b = []) (hb : b.length ≤ 100000) (how : own.length ≤ 100) (h0 : H[0]? = some (some (whO w))) (ho : H[o]? = some (some ob)) (hw : Rw (.pb own) g ob) (hu : 0 ≤ w.us ∧ w.us < 4294967296) : ∃ code, mtE = some code ∧
    Tells (Rets fun fr H => ∃ o g ob, getF fr 6 = .sl o 0 (b ++ (UInt8.ofNat (own ++ usB w).length :: (own ++ usB w))).length g ∧ H[o]? = some (some ob) ∧ Rw (.pb (b ++ (UInt8.ofNat (own ++ usB w).length :: (own ++ usB w)))) g ob)
      X (evT X) 25 0 code ([(0, .ro c (.pb b) 1), (4, .ptr 0 0 0 0), (7, .sl o 0 own.length g)] ++ fr) H := by
  refine ⟨_, rfl, ?_⟩
  have fin0 : ∀ (H : AM.Heap) (o g : Nat) (ob : AM.Obj) (own : List UInt8) (fr0 : AM.Frame), getF fr0 0 = .ro c (.pb b) 1 → getF fr0 7 = .sl o 0 own.length g → own.length ≤ 120 → H[o]? = some (some ob) → Rw (.pb own) g ob → ∀ code, ((mtE.bind cR)) = some code →
      Tells (Rets fun fr H => ∃ o g ob, getF fr 6 = .sl o 0 (b ++ (UInt8.ofNat own.length :: own)).length g ∧ H[o]? = some (some ob) ∧ Rw (.pb (b ++ (UInt8.ofNat own.length :: own))) g ob)
      X (evT X) 25 0 code fr0 H := by
    intro H o g ob own fr0 hf0 hf7 how ho hw code hcode
    have gen : ∃ code, (mtE.bind cR) = some code ∧ Tells (Rets fun fr H => ∃ o g ob, getF fr 6 = .sl o 0 (b ++ (UInt8.ofNat own.length :: own)).length g ∧ H[o]? = some (some ob) ∧ Rw (.pb (b ++ (UInt8.ofNat own.length :: own))) g ob)
      X (evT X) 25 0 code fr0 H := by
      refine ⟨_, rfl, ?_⟩
      have hb0 := fun H => bs0 H
      have hlt : o < H.length := (List.getElem?_eq_some_iff.1 ho).1
      have hA0 := app_lit (H := H) (m := b) (src := .ro c (.pb b) 1) (srcB (.inl rfl)) (by omega)
      have hw0 : Rw (.pb b) 0 ⟨.pb b, 0, .none, 1, true, false, 0⟩ := ⟨rfl, rfl, rfl, rfl, rfl⟩
      generalize (⟨.pb b, 0, .none, 1, true, false, 0⟩ : AM.Obj) = ob0 at *
      have hg := hw.g
      have hp := hw.p
      have hi := hw.ids
      have ht := hw.tg
      obtain ⟨ob1, hw1, hA1⟩ := app_b (H := H ++ [some ob0]) (o := H.length) (m := [UInt8.ofNat own.length]) (src := .ro 1 (.pb [UInt8.ofNat own.length]) 0) (cat_at H _) hw0 (.inl rfl) (by simp; omega)
      rw [show upd (H ++ [some ob0]) H.length (some ob1) = H ++ [some ob1] from cat_set H _ _] at hA1
      have ho1 : (H ++ [some ob1])[o]? = some (some ob) := by rw [List.getElem?_append_left hlt]; exact ho
      obtain ⟨ob2, hw2, hA2⟩ := app_b (H := H ++ [some ob1]) (o := H.length) (m := own) (src := .sl o 0 own.length g) (cat_at H _) hw1 (.inl (by simp [srcV, live, ho1, hg, hi, hp, psub, payB, ptag])) (by simp; omega)
      rw [show upd (H ++ [some ob1]) H.length (some ob2) = H ++ [some ob2] from cat_set H _ _] at hA2
      have wl : IntKind.u8.wrap (own.length : Int) = (own.length : Int) := wrap_u8 (by omega) (by omega)
      have hbl := fun H => bsK H (UInt8.ofNat own.length) (own.length : Int) (by simp; omega)
      have ho0 : (H ++ [some ob0])[o]? = some (some ob) := by rw [List.getElem?_append_left hlt]; exact ho
      refine Tells.of (o := ⟨.ret, [(6, .sl H.length 0 (b.length + 1 + own.length) 2)], H ++ [some ob2]⟩) ⟨0, ?_⟩ ⟨rfl, H.length, 2, ob2, by simp [getF]; omega, cat_at H _, by simpa using hw2⟩
      simp only [List.length_append, List.length_cons, List.length_nil, Nat.zero_add] at hA1 hA2
      generalize UInt8.ofNat own.length = ol at *
      generalize own.length = n at *
      generalize H.length = hl at *
      simp (maxSteps := 2000000) -implicitDefEqProofs [-getElem?_pos, List.getElem?_cons_zero, List.getElem?_cons_succ, go_sem, eqV, plen, loadV, storeV, hf0, hf7, hb0, hA0, ho0, ho1, hg, wl, hbl, hA1, hA2, assignV]
    obtain ⟨code', h1, h2⟩ := gen
    rw [hcode] at h1
    exact (Option.some.inj h1) ▸ h2
  have fin := fun (H : AM.Heap) (o g : Nat) (ob : AM.Obj) (own : List UInt8) (tl : AM.Frame) (how : own.length ≤ 120) (ho : H[o]? = some (some ob)) (hw : Rw (.pb own) g ob) (code : Code) (hcode : (mtE.bind cR) = some code) => fin0 H o g ob own ([(0, .ro c (.pb b) 1), (4, .ptr 0 0 0 0), (7, .sl o 0 own.length g)] ++ tl) rfl rfl how ho hw code hcode
  have fin2 := fun (H : AM.Heap) (o g : Nat) (ob : AM.Obj) (own : List UInt8) (how : own.length ≤ 120) (ho : H[o]? = some (some ob)) (hw : Rw (.pb own) g ob) (code : Code) (hcode : (mtE.bind cR) = some code) => fin0 H o g ob own [(0, .ro c (.pb b) 1), (7, .sl o 0 own.length g)] rfl rfl how ho hw code hcode
  unfold usB
  have hg := hw.g
  by_cases hus : w.us = 0
  · rw [if_pos hus, List.append_nil]
    apply Tells.seq (fr' := [(0, .ro c (.pb b) 1), (4, .ptr 0 0 0 0), (7, .sl o 0 own.length g)] ++ [(69, .bool false)]) (H' := H)
    · generalize own.length = n at *
      (refine ⟨0, ?_⟩; simp (maxSteps := 2000000) -implicitDefEqProofs [-getElem?_pos, List.getElem?_cons_zero, List.getElem?_cons_succ, go_sem, eqV, plen, loadV, storeV, h0, whO, Wh.pay, hus])
    exact fin H o g ob own _ (by omega) ho hw _ rfl
  · rw [if_neg hus]
    have husb : (w.us != 0) = true := by simpa using hus
    obtain ⟨un, hun⟩ : ∃ n : Nat, w.us = (n : Int) := ⟨w.us.toNat, by omega⟩
    have eu : w.us.toNat = un := by rw [hun]; simp
    rw [eu]
    have wd : IntKind.u64.wrap w.us = (un : Int) := by rw [hun]; exact wrap_u64 (by omega) (by omega)
    obtain ⟨ob2, hw2, hF⟩ := rfx_ev (H := H) (a := .sl o 0 own.length g) (b := own) (x := un) (n := 4) (N := 4) (Byt.whole' ho hw) rfl (by omega) (by omega) (by omega) (by omega)
    apply Tells.seq (fr' := [(0, .ro c (.pb b) 1), (7, .sl H.length 0 (own.length + 4) 0)]) (H' := H ++ [some ob2])
    · generalize own.length = n at *
      generalize hHl : H.length = hl at *
      (refine ⟨0, ?_⟩; simp (maxSteps := 2000000) -implicitDefEqProofs [-getElem?_pos, List.getElem?_cons_zero, List.getElem?_cons_succ, go_sem, eqV, plen, loadV, storeV, h0, whO, Wh.pay, husb, wd, hF, assignV])
    have := fin2 (H ++ [some ob2]) H.length 0 ob2 (own ++ leB 4 un) (by simp [leB_len]; omega) (cat_at H _) hw2 _ rfl
    rw [show (own ++ leB 4 un).length = own.length + 4 by simp [leB_len]] at this ⊢
    exact this

end

end Go.Proofs.YtifgkkfchnfcaaaDoor
