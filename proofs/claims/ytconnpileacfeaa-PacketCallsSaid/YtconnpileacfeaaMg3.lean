/- RC to RI: texts of this claim, one behind the other; what each shows stands at its head. -/
import Derived.Test.YtconnpileacfeaaAm4
import Derived.Test.YtconnpileacfeaaMg2
/- Walks: the document's reader fed: its regions. -/
namespace Go.Proofs.Ytconnpileacfeaa
open Go.AM
set_option linter.unusedSimpArgs false
set_option linter.unusedVariables false

section
variable {H : AM.Heap} {s : Rd} {a : Nat} {oc : Option Nat}

set_option maxRecDepth 100000 in
set_option maxHeartbeats 4000000 in
theorem rf_r5 (O N g : Nat) (tl : AM.Frame) (htl : tl = [] ∨ tl = [(142, .bool false)]) (h : RdI 3 H s a oc) :
    ∃ code, ((Try.f27.body).bind (codeAt [1, 1, 1, 1, 0, 0, 0, 0, 0])) = some code ∧ Run X (evT X) 27 1 code (fdFr O N g tl) H ⟨.normal, fdFr O N g [(29, .bool (decide (4 ≤ s.rest.length)))], H⟩ := by
  refine ⟨_, rfl, ?_⟩
  obtain ⟨⟨vr, vb, τ, hτ, h0, ⟨off, ga, τ1, oa, L, hτ1, rfl, ha, hwa, hl, hle, hLb⟩, hvb⟩, a0⟩ := h
  have hg := hwa.g
  have hd : decide ((4 : Int) ≤ (s.rest.length : Int)) = decide (4 ≤ s.rest.length) := by
    rw [decide_eq_decide]; omega
  unfold fdFr
  simp only [rdBx, Rd.pay] at h0
  generalize s.rest.length = rl at *
  rcases htl with rfl | rfl
  · by_cases h4 : 4 ≤ rl
    · have h4I : (4 : Int) ≤ (rl : Int) := by omega
      (refine ⟨0, ?_⟩; simp (maxSteps := 2000000) -implicitDefEqProofs [-getElem?_pos, List.getElem?_cons_zero, List.getElem?_cons_succ, go_sem, eqV, plen, loadV, storeV, h0, ha, hg, h4, h4I])
    · have h4I : ¬ (4 : Int) ≤ (rl : Int) := by omega
      (refine ⟨0, ?_⟩; simp (maxSteps := 2000000) -implicitDefEqProofs [-getElem?_pos, List.getElem?_cons_zero, List.getElem?_cons_succ, go_sem, eqV, plen, loadV, storeV, h0, ha, hg, h4, h4I])
  · by_cases h4 : 4 ≤ rl
    · have h4I : (4 : Int) ≤ (rl : Int) := by omega
      (refine ⟨0, ?_⟩; simp (maxSteps := 2000000) -implicitDefEqProofs [-getElem?_pos, List.getElem?_cons_zero, List.getElem?_cons_succ, go_sem, eqV, plen, loadV, storeV, h0, ha, hg, h4, h4I])
    · have h4I : ¬ (4 : Int) ≤ (rl : Int) := by omega
      (refine ⟨0, ?_⟩; simp (maxSteps := 2000000) -implicitDefEqProofs [-getElem?_pos, List.getElem?_cons_zero, List.getElem?_cons_succ, go_sem, eqV, plen, loadV, storeV, h0, ha, hg, h4, h4I])

set_option maxRecDepth 100000 in
set_option maxHeartbeats 4000000 in
theorem rf_r6 {H1 : AM.Heap} (O N g : Nat) (e : Int) (vr vb : AV) (τ : Nat) (hc : evT X 32 [.ptr 0 0 0 0] H = some (.int .i64 e, H1)) (h0 : H1[0]? = some (some (rdBx s vr vb τ))) :
    ∃ code, ((Try.f27.body).bind (codeAt [1, 1, 1, 1, 0, 0, 0, 1, 0, 0])) = some code ∧ Run X (evT X) 27 1 code (fdFr O N g [(29, .bool true)]) H ⟨.normal, fdFr O N g [], upd H1 0 (some (rdBx { s with st := e } vr vb τ))⟩ := by
  refine ⟨_, rfl, ?_⟩
  unfold fdFr
  simp only [rdBx, Rd.pay] at h0
  (refine ⟨0, ?_⟩; simp (maxSteps := 2000000) -implicitDefEqProofs [-getElem?_pos, List.getElem?_cons_zero, List.getElem?_cons_succ, go_sem, eqV, plen, loadV, storeV, hc, h0, rdBx, Rd.pay])

set_option maxRecDepth 100000 in
set_option maxHeartbeats 4000000 in
theorem rf_r7 (O N g : Nat) (vr vb : AV) (τ : Nat) (h0 : H[0]? = some (some (rdBx s vr vb τ))) :
    ∃ code, ((Try.f27.body).bind (codeAt [1, 1, 1, 1, 0, 0, 0, 1, 0, 1, 0, 0])) = some code ∧ Run X (evT X) 27 1 code (fdFr O N g []) H ⟨.normal, fdFr O N g [(39, .bool (s.st != 0))], H⟩ := by
  refine ⟨_, rfl, ?_⟩
  unfold fdFr
  simp only [rdBx, Rd.pay] at h0
  generalize s.st = e at *
  by_cases he : e = 0
  · have h1 : (e == 0) = true := by simp [he]
    (refine ⟨0, ?_⟩; simp (maxSteps := 2000000) -implicitDefEqProofs [-getElem?_pos, List.getElem?_cons_zero, List.getElem?_cons_succ, go_sem, eqV, plen, loadV, storeV, h0, h1])
  · have h1 : (e == 0) = false := by simp [he]
    (refine ⟨0, ?_⟩; simp (maxSteps := 2000000) -implicitDefEqProofs [-getElem?_pos, List.getElem?_cons_zero, List.getElem?_cons_succ, go_sem, eqV, plen, loadV, storeV, h0, h1])

set_option maxRecDepth 100000 in
set_option maxHeartbeats 4000000 in
theorem rf_r8 (O N g : Nat) (vr vb : AV) (τ : Nat) (h0 : H[0]? = some (some (rdBx s vr vb τ))) :
    ∃ code, ((Try.f27.body).bind (codeAt [1, 1, 1, 1, 0, 0, 0, 1, 0, 1, 0, 1, 0, 0])) = some code ∧ Run X (evT X) 27 1 code (fdFr O N g [(39, .bool true)]) H ⟨.normal, fdFr O N g [], upd H 0 (some (rdBx s (.ro 0 .pn 0) (.ro 0 .pn 0) τ))⟩ := by
  refine ⟨_, rfl, ?_⟩
  have h1 : (upd H 0 (some (rdBx s (.ro 0 .pn 0) vb τ)))[0]? = some (some (rdBx s (.ro 0 .pn 0) vb τ)) := at_set h0
  have hs : (upd H 0 (some (rdBx s (.ro 0 .pn 0) vb τ))).set 0 (some (rdBx s (.ro 0 .pn 0) (.ro 0 .pn 0) τ)) = upd H 0 (some (rdBx s (.ro 0 .pn 0) (.ro 0 .pn 0) τ)) := by unfold upd; simp
  unfold fdFr
  simp only [rdBx, Rd.pay, upd] at h0 h1 hs
  (refine ⟨0, ?_⟩; simp (maxSteps := 2000000) -implicitDefEqProofs [-getElem?_pos, List.getElem?_cons_zero, List.getElem?_cons_succ, go_sem, eqV, plen, loadV, storeV, h0, h1, hs, rdBx, Rd.pay])

set_option maxRecDepth 100000 in
set_option maxHeartbeats 4000000 in
theorem rf_r9 (O N g : Nat) (vr vb : AV) (τ : Nat) (h0 : H[0]? = some (some (rdBx s vr vb τ))) :
    ∃ code, ((Try.f27.body).bind (codeAt [1, 1, 1, 1, 0, 0, 0, 1, 0, 1, 0, 1, 0, 1, 0])) = some code ∧ Run X (evT X) 27 1 code (fdFr O N g []) H ⟨.normal, [(4, .sl O 0 N g), (5, .int .i64 s.st)], H⟩ := by
  refine ⟨_, rfl, ?_⟩
  unfold fdFr
  simp only [rdBx, Rd.pay] at h0
  apply Run.dy (by simp) keep27_9 (by simp)
  · (conv => lhs; simp (maxSteps := 2000000) -implicitDefEqProofs [-getElem?_pos, List.getElem?_cons_zero, List.getElem?_cons_succ, go_sem, eqV, plen, loadV, storeV, runD, out1, markOf, freeO, quietO, pushes, isAssign, calledV, touched, mentioned, opVals, touchCall, mentionCall, idsAt, Op.operands, ids, idsL, lendArgs, lendV, lend1, lendL, eqH_self, h0, assignV])
  · refine marksOk_of (ps := [(0, 1), (0, 2), (0, 3), (0, 4), (1, 5), (2, 5), (3, 5), (4, 5)]) (by kernel_rfl) ?_
    simp [bearP, bear, disjoint, lookOk, Call.operands, evalO, getF, idsL, ids]
  · rfl

set_option maxRecDepth 100000 in
set_option maxHeartbeats 4000000 in
theorem rf_r11 (O N g n : Nat) (h : RdI 3 H s a oc) (hn : n ≤ 16777216) :
    ∃ code, ((Try.f27.body).bind (codeAt [1, 1, 1, 1, 0, 0, 0, 1, 0, 1, 1, 1, 0, 0])) = some code ∧ Run X (evT X) 27 1 code (fdFr O N g [(7, .int .i64 (n : Nat))]) H ⟨.normal, fdFr O N g [(7, .int .i64 (n : Nat)), (83, .bool (decide (s.rest.length < 4 + n)))], H⟩ := by
  refine ⟨_, rfl, ?_⟩
  obtain ⟨⟨vr, vb, τ, hτ, h0, ⟨off, ga, τ1, oa, L, hτ1, rfl, ha, hwa, hl, hle, hLb⟩, hvb⟩, a0⟩ := h
  have hg := hwa.g
  have w4 : IntKind.i64.wrap (4 + (n : Int)) = ((4 + n : Nat) : Int) := by rw [wrap_i64 (by omega) (by omega)]; omega
  unfold fdFr
  simp only [rdBx, Rd.pay] at h0
  generalize s.rest.length = rl at *
  generalize 4 + n = n4 at *
  by_cases h4 : rl < n4
  · have h4I : (rl : Int) < (n4 : Int) := by omega
    (refine ⟨0, ?_⟩; simp (maxSteps := 2000000) -implicitDefEqProofs [-getElem?_pos, List.getElem?_cons_zero, List.getElem?_cons_succ, go_sem, eqV, plen, loadV, storeV, h0, ha, hg, h4, h4I, w4])
  · have h4I : ¬ (rl : Int) < (n4 : Int) := by omega
    (refine ⟨0, ?_⟩; simp (maxSteps := 2000000) -implicitDefEqProofs [-getElem?_pos, List.getElem?_cons_zero, List.getElem?_cons_succ, go_sem, eqV, plen, loadV, storeV, h0, ha, hg, h4, h4I, w4])

set_option maxRecDepth 100000 in
set_option maxHeartbeats 4000000 in
theorem rf_r13 (O N g n : Nat) (h : RdI 3 H s a oc) :
    ∃ code, ((Try.f27.body).bind (codeAt [1, 1, 1, 1, 0, 0, 0, 1, 0, 1, 1, 1, 1, 0, 0])) = some code ∧ Run X (evT X) 27 1 code (fdFr O N g [(7, .int .i64 (n : Nat)), (83, .bool false)]) H ⟨.normal, fdFr O N g [(7, .int .i64 (n : Nat)), (89, .bool (!s.wi))], H⟩ := by
  refine ⟨_, rfl, ?_⟩
  obtain ⟨⟨vr, vb, τ, hτ, h0, hvr, hvb⟩, a0⟩ := h
  unfold fdFr
  simp only [rdBx, Rd.pay] at h0
  cases hw : s.wi
  · rw [hw] at h0
    (refine ⟨0, ?_⟩; simp (maxSteps := 2000000) -implicitDefEqProofs [-getElem?_pos, List.getElem?_cons_zero, List.getElem?_cons_succ, go_sem, eqV, plen, loadV, storeV, h0, unV])
  · rw [hw] at h0
    (refine ⟨0, ?_⟩; simp (maxSteps := 2000000) -implicitDefEqProofs [-getElem?_pos, List.getElem?_cons_zero, List.getElem?_cons_succ, go_sem, eqV, plen, loadV, storeV, h0, unV])

set_option maxRecDepth 100000 in
set_option maxHeartbeats 4000000 in
theorem rf_r14 (O N g n : Nat) (vr vb : AV) (τ : Nat) (h0 : H[0]? = some (some (rdBx s vr vb τ))) :
    ∃ code, ((Try.f27.body).bind (codeAt [1, 1, 1, 1, 0, 0, 0, 1, 0, 1, 1, 1, 1, 0, 1, 0])) = some code ∧ Run X (evT X) 27 1 code (fdFr O N g [(7, .int .i64 (n : Nat)), (89, .bool true)]) H ⟨.normal, fdFr O N g [(7, .int .i64 (n : Nat))], upd H 0 (some (rdBx { s with sq := s.nx } vr vb τ))⟩ := by
  refine ⟨_, rfl, ?_⟩
  unfold fdFr
  simp only [rdBx, Rd.pay] at h0
  (refine ⟨0, ?_⟩; simp (maxSteps := 2000000) -implicitDefEqProofs [-getElem?_pos, List.getElem?_cons_zero, List.getElem?_cons_succ, go_sem, eqV, plen, loadV, storeV, h0, rdBx, Rd.pay])

set_option maxRecDepth 100000 in
set_option maxHeartbeats 4000000 in
theorem rf_r18 (O N g n : Nat) (vr vb : AV) (τ : Nat) (h0 : H[0]? = some (some (rdBx s vr vb τ))) :
    ∃ code, ((Try.f27.body).bind (codeAt [1, 1, 1, 1, 0, 0, 0, 1, 0, 1, 1, 1, 1, 1, 1, 1, 1, 0])) = some code ∧ Run X (evT X) 27 1 code (fdFr O N g [(7, .int .i64 (n : Nat))]) H ⟨.normal, fdFr O N g [], upd H 0 (some (rdBx { s with wi := decide (n = s.m) } vr vb τ))⟩ := by
  refine ⟨_, rfl, ?_⟩
  unfold fdFr
  simp only [rdBx, Rd.pay] at h0
  by_cases h4 : n = s.m
  · have h4I : ((n : Int) == (s.m : Int)) = true := by simp; omega
    (refine ⟨0, ?_⟩; simp (maxSteps := 2000000) -implicitDefEqProofs [-getElem?_pos, List.getElem?_cons_zero, List.getElem?_cons_succ, go_sem, eqV, plen, loadV, storeV, h0, h4, h4I, rdBx, Rd.pay])
  · have h4I : ((n : Int) == (s.m : Int)) = false := by simp; omega
    (refine ⟨0, ?_⟩; simp (maxSteps := 2000000) -implicitDefEqProofs [-getElem?_pos, List.getElem?_cons_zero, List.getElem?_cons_succ, go_sem, eqV, plen, loadV, storeV, h0, h4, h4I, rdBx, Rd.pay])

set_option maxRecDepth 100000 in
set_option maxHeartbeats 4000000 in
theorem rf_r19 (O N g : Nat) (vr vb : AV) (τ : Nat) (h0 : H[0]? = some (some (rdBx s vr vb τ))) :
    ∃ code, ((Try.f27.body).bind (codeAt [1, 1, 1, 1, 0, 0, 0, 1, 0, 1, 1, 1, 1, 1, 1, 1, 1, 1, 0])) = some code ∧ Run X (evT X) 27 1 code (fdFr O N g []) H ⟨.normal, fdFr O N g [(142, .bool (!s.wi))], H⟩ := by
  refine ⟨_, rfl, ?_⟩
  unfold fdFr
  simp only [rdBx, Rd.pay] at h0
  cases hw : s.wi
  · rw [hw] at h0
    (refine ⟨0, ?_⟩; simp (maxSteps := 2000000) -implicitDefEqProofs [-getElem?_pos, List.getElem?_cons_zero, List.getElem?_cons_succ, go_sem, eqV, plen, loadV, storeV, h0, unV])
  · rw [hw] at h0
    (refine ⟨0, ?_⟩; simp (maxSteps := 2000000) -implicitDefEqProofs [-getElem?_pos, List.getElem?_cons_zero, List.getElem?_cons_succ, go_sem, eqV, plen, loadV, storeV, h0, unV])

set_option maxRecDepth 100000 in
set_option maxHeartbeats 4000000 in
theorem rf_r21 (O N g : Nat) (vr vb : AV) (τ : Nat) (h0 : H[0]? = some (some (rdBx s vr vb τ))) :
    ∃ code, ((Try.f27.body).bind (codeAt [1, 1, 1, 1, 0, 0, 0, 1, 0, 1, 1, 1, 1, 1, 1, 1, 1, 1, 1, 0, 1])) = some code ∧ Run X (evT X) 27 1 code (fdFr O N g []) H ⟨.normal, fdFr O N g [], upd H 0 (some (rdBx s vr (.ro 0 .pn 0) τ))⟩ := by
  refine ⟨_, rfl, ?_⟩
  unfold fdFr
  simp only [rdBx, Rd.pay] at h0
  (refine ⟨0, ?_⟩; simp (maxSteps := 2000000) -implicitDefEqProofs [-getElem?_pos, List.getElem?_cons_zero, List.getElem?_cons_succ, go_sem, eqV, plen, loadV, storeV, h0, rdBx, Rd.pay])

set_option maxRecDepth 100000 in
set_option maxHeartbeats 4000000 in
/-- a frame's length -/
theorem rf_r10 (O N g : Nat) (h : RdI 3 H s a oc) (h4 : 4 ≤ s.rest.length) :
    ∃ code, ((Try.f27.body).bind (codeAt [1, 1, 1, 1, 0, 0, 0, 1, 0, 1, 1, 0])) = some code ∧ Run X (evT X) 27 1 code (fdFr O N g [(39, .bool false)]) H ⟨.normal, fdFr O N g [(7, .int .i64 (leV (s.rest.take 3) : Nat))], H⟩ := by
  refine ⟨_, rfl, ?_⟩
  obtain ⟨⟨vr, vb, τ, hτ, h0, ⟨off, ga, τ1, oa, L, hτ1, rfl, ha, hwa, hl, hle, hLb⟩, hvb⟩, a0⟩ := h
  obtain ⟨y0, y1, y2, z1, z2, z3, L3⟩ := le3 (b := s.rest) (by omega)
  have hlen : s.rest.length = L.length - off := by rw [← hl, List.length_drop]
  have h0L : L[off]? = some y0 := by have := L3.h0; rw [← hl, List.getElem?_drop] at this; exact this
  have h1L : L[off + 1]? = some y1 := by have := L3.h1; rw [← hl, List.getElem?_drop] at this; exact this
  have h2L : L[off + 2]? = some y2 := by have := L3.h2; rw [← hl, List.getElem?_drop] at this; exact this
  have h0i : off < L.length := by omega
  have h1i : off + 1 < L.length := by omega
  have h2i : off + 2 < L.length := by omega
  have h0I : (0 : Int) < (s.rest.length : Int) := by omega
  have h1I : (1 : Int) < (s.rest.length : Int) := by omega
  have h2I : (2 : Int) < (s.rest.length : Int) := by omega
  have h0n : 0 < s.rest.length := by omega
  have h1n : 1 < s.rest.length := by omega
  have h2n : 2 < s.rest.length := by omega
  have w0 := L3.w0
  have w1 := L3.w1
  have w2 := L3.w2
  have s1 := L3.s1
  have s2 := L3.s2
  have cc : IntKind.i64.wrap ((AM.bits .i64 (IntKind.i64.wrap ((AM.bits .i64 (y0.toNat : Int) ||| AM.bits .i64 (z1 : Int)).toNat : Nat)) ||| AM.bits .i64 (z3 : Int)).toNat : Nat) = ((leV (s.rest.take 3) : Nat) : Int) := by rw [L3.o1]; exact L3.o2
  obtain ⟨p, gg, cap, zz, row, ids', tg⟩ := oa
  obtain ⟨q1, q2, q3, q4, q5⟩ := hwa
  simp only at q1 q2 q3 q4 q5
  subst q1 q2 q3 q4 q5
  generalize leV (s.rest.take 3) = x at *
  clear hvb hl L3 hlen
  unfold fdFr
  simp only [rdBx, Rd.pay] at h0
  generalize s.rest.length = rl at *
  (refine ⟨0, ?_⟩; simp (maxSteps := 2000000) -implicitDefEqProofs [-getElem?_pos, List.getElem?_cons_zero, List.getElem?_cons_succ, go_sem, eqV, plen, loadV, storeV, h0, ha, h0L, h1L, h2L, h0i, h1i, h2i, h0I, h1I, h2I, h0n, h1n, h2n, w0, w1, w2, s1, s2, assignV])
  exact cc

end

end Go.Proofs.Ytconnpileacfeaa

/- Walks: the document's reader fed: a frame taken. -/
namespace Go.Proofs.Ytconnpileacfeaa
open Go.AM
set_option linter.unusedSimpArgs false
set_option linter.unusedVariables false

section
variable {H : AM.Heap} {s : Rd} {vr vb : AV} {τ : Nat}

set_option maxRecDepth 100000 in
set_option maxHeartbeats 4000000 in
/-- the rest cut -/
theorem rf_r16 (O N g n : Nat) (a off rl ga : Nat) (oa : AM.Obj) (L : List UInt8) (h0 : H[0]? = some (some (rdBx s (.sl a off rl ga) vb τ))) (ha : H[a]? = some (some oa)) (hw : oa.p = .pb L) (hg : oa.g = ga) (hn : 4 + n ≤ rl) (hL : off + rl = L.length) (hrl : rl ≤ 100000000) :
    ∃ code, ((Try.f27.body).bind (codeAt [1, 1, 1, 1, 0, 0, 0, 1, 0, 1, 1, 1, 1, 1, 1, 0])) = some code ∧ Run X (evT X) 27 1 code (fdFr O N g [(7, .int .i64 (n : Nat))]) H ⟨.normal, fdFr O N g [(7, .int .i64 (n : Nat))], upd H 0 (some (rdBx s (.sl a (off + (4 + n)) (rl - (4 + n)) ga) vb τ))⟩ := by
  refine ⟨_, rfl, ?_⟩
  have w4 : IntKind.i64.wrap (4 + (n : Int)) = ((4 + n : Nat) : Int) := by rw [wrap_i64 (by omega) (by omega)]; omega
  have hsl : sliceV X H 22 (.sl a off rl ga) (some (.int .i64 ((4 + n : Nat) : Int))) none = some (.sl a (off + (4 + n)) (rl - (4 + n)) ga) := by
    have h1 : ((4 + n : Nat) : Int) ≤ (rl : Int) := by omega
    have h2 : 4 + n ≤ rl := hn
    have h3 : (4 : Int) + (n : Int) ≤ (rl : Int) := by omega
    have h4 : 0 ≤ (4 : Int) + (n : Int) := by omega
    have h5 : ((4 : Int) + (n : Int)).toNat = 4 + n := by omega
    simp [sliceV, bound, live, ha, hg, hw, pesz, h1, h2, h3, h4, h5]
  unfold fdFr
  simp only [rdBx, Rd.pay] at h0
  generalize 4 + n = n4 at *
  (refine ⟨0, ?_⟩; simp (maxSteps := 2000000) -implicitDefEqProofs [-getElem?_pos, List.getElem?_cons_zero, List.getElem?_cons_succ, go_sem, eqV, plen, loadV, storeV, h0, rdBx, Rd.pay, w4, hsl])

set_option maxRecDepth 100000 in
set_option maxHeartbeats 4000000 in
/-- the next number -/
theorem rf_r17 (O N g n : Nat) (hx : s.nx < 256) (h0 : H[0]? = some (some (rdBx s vr vb τ))) :
    ∃ code, ((Try.f27.body).bind (codeAt [1, 1, 1, 1, 0, 0, 0, 1, 0, 1, 1, 1, 1, 1, 1, 1, 0])) = some code ∧ Run X (evT X) 27 1 code (fdFr O N g [(7, .int .i64 (n : Nat))]) H ⟨.normal, fdFr O N g [(7, .int .i64 (n : Nat))], upd H 0 (some (rdBx { s with nx := (s.nx + 1) % 256 } vr vb τ))⟩ := by
  refine ⟨_, rfl, ?_⟩
  have w8 := wrap8 hx
  unfold fdFr
  simp only [rdBx, Rd.pay] at h0
  (refine ⟨0, ?_⟩; simp (maxSteps := 2000000) -implicitDefEqProofs [-getElem?_pos, List.getElem?_cons_zero, List.getElem?_cons_succ, go_sem, eqV, plen, loadV, storeV, h0, rdBx, Rd.pay, w8])

set_option maxRecDepth 100000 in
set_option maxHeartbeats 4000000 in
/-- the body, behind nothing -/
theorem rf_r15n (O N g n : Nat) (tl : AM.Frame) (htl : tl = [] ∨ tl = [(89, .bool false)]) (a off rl ga τ2 : Nat) (oa : AM.Obj) (L : List UInt8) (h0 : H[0]? = some (some (rdBx s (.sl a off rl ga) (.ro 0 .pn τ2) τ))) (ha : H[a]? = some (some oa)) (hw : oa.p = .pb L) (hg : oa.g = ga) (hi : oa.ids = false) (hn : 4 + n ≤ rl) (hL : off + rl = L.length) (hrl : rl ≤ 10000000) :
    ∃ code, ((Try.f27.body).bind (codeAt [1, 1, 1, 1, 0, 0, 0, 1, 0, 1, 1, 1, 1, 1, 0])) = some code ∧ Run X (evT X) 27 1 code (fdFr O N g ((7, .int .i64 (n : Nat)) :: tl)) H ⟨.normal, fdFr O N g [(7, .int .i64 (n : Nat))], upd (H ++ [some ⟨.pb (((L.drop off).drop 4).take n), 0, .none, 0, true, false, 0⟩]) 0 (some (rdBx s (.sl a off rl ga) (.sl H.length 0 n 0) τ))⟩ := by
  refine ⟨_, rfl, ?_⟩
  have w4 : IntKind.i64.wrap (4 + (n : Int)) = ((4 + n : Nat) : Int) := by rw [wrap_i64 (by omega) (by omega)]; omega
  have hsl : sliceV X H 22 (.sl a off rl ga) (some (.int .i64 4)) (some (.int .i64 ((4 + n : Nat) : Int))) = some (.sl a (off + 4) n ga) := by
    have h1 : ((4 + n : Nat) : Int) ≤ (rl : Int) := by omega
    have h2 : 4 + n ≤ rl := hn
    have h3 : (4 : Int) + (n : Int) ≤ (rl : Int) := by omega
    have h4 : 0 ≤ (4 : Int) + (n : Int) := by omega
    have h5 : ((4 : Int) + (n : Int)).toNat = 4 + n := by omega
    have h6 : 4 ≤ 4 + n := by omega
    have h7 : L.length - off = rl := by omega
    have h8 : (4 : Int) ≤ (4 : Int) + (n : Int) := by omega
    simp [sliceV, bound, live, ha, hg, hw, pesz, plen, h7, h1, h2, h3, h4, h5, h6, h8]
  have hlen : (((L.drop off).drop 4).take n).length = n := by rw [List.length_take, List.length_drop, List.length_drop]; omega
  have hsrc : srcV H (.sl a (off + 4) n ga) = some (.pb (((L.drop off).drop 4).take n), 0) := by
    have h1 : off + 4 + n ≤ L.length := by omega
    simp [srcV, live, ha, hg, hi, hw, psub, h1, payB, ptag, List.drop_drop]
  have hA : appendV X H 22 (.ro 0 .pn τ2) (.sl a (off + 4) n ga) = some (.sl H.length 0 n 0, H ++ [some ⟨.pb (((L.drop off).drop 4).take n), 0, .none, 0, true, false, 0⟩]) := by
    have hroom : roomOk X 5 n = true := by simp [roomOk]; omega
    generalize ((L.drop off).drop 4).take n = pc at *
    simp only [appendV, und22, size5, zok5, hsrc]
    simp [payB, plen, hlen, hroom, papp, emptyRow, pesz]
  generalize ((L.drop off).drop 4).take n = pc at *
  have h0' : (H ++ [some (⟨.pb pc, 0, .none, 0, true, false, 0⟩ : AM.Obj)])[0]? = some (some (rdBx s (.sl a off rl ga) (.ro 0 .pn τ2) τ)) := at_cat h0
  unfold fdFr
  simp only [rdBx, Rd.pay] at h0 h0'
  generalize H ++ [some (⟨.pb pc, 0, .none, 0, true, false, 0⟩ : AM.Obj)] = HV at *
  generalize 4 + n = n4 at *
  rcases htl with rfl | rfl
  · (refine ⟨0, ?_⟩; simp (maxSteps := 2000000) -implicitDefEqProofs [-getElem?_pos, List.getElem?_cons_zero, List.getElem?_cons_succ, go_sem, eqV, plen, loadV, storeV, h0, h0', rdBx, Rd.pay, w4, hsl, hA])
  · (refine ⟨0, ?_⟩; simp (maxSteps := 2000000) -implicitDefEqProofs [-getElem?_pos, List.getElem?_cons_zero, List.getElem?_cons_succ, go_sem, eqV, plen, loadV, storeV, h0, h0', rdBx, Rd.pay, w4, hsl, hA])

set_option maxRecDepth 100000 in
set_option maxHeartbeats 4000000 in
/-- the body, behind what there is -/
theorem rf_r15s (O N g n : Nat) (tl : AM.Frame) (htl : tl = [] ∨ tl = [(89, .bool false)]) (a off rl ga c off2 bl gc τ2 : Nat) (oa ob : AM.Obj) (L L2 : List UInt8) (h0 : H[0]? = some (some (rdBx s (.sl a off rl ga) (.sl c off2 bl gc) τ))) (ha : H[a]? = some (some oa)) (hw : oa.p = .pb L) (hg : oa.g = ga) (hi : oa.ids = false) (hn : 4 + n ≤ rl) (hL : off + rl = L.length) (hrl : rl ≤ 10000000)
    (hc : H[c]? = some (some ob)) (hwc : RwT (.pb L2) gc τ2 ob) (hb : bl = (L2.drop off2).length) (hoff : off2 ≤ L2.length) (hLL : L2.length ≤ 10000000) (c0 : 0 < c) :
    ∃ ob', RwT (.pb (L2.drop off2 ++ ((L.drop off).drop 4).take n)) (gc + 1) τ2 ob' ∧ ∃ code, ((Try.f27.body).bind (codeAt [1, 1, 1, 1, 0, 0, 0, 1, 0, 1, 1, 1, 1, 1, 0])) = some code ∧ Run X (evT X) 27 1 code (fdFr O N g ((7, .int .i64 (n : Nat)) :: tl)) H ⟨.normal, fdFr O N g [(7, .int .i64 (n : Nat))], upd (upd H c (some ob')) 0 (some (rdBx s (.sl a off rl ga) (.sl c 0 (bl + n) (gc + 1)) τ))⟩ := by
  have w4 : IntKind.i64.wrap (4 + (n : Int)) = ((4 + n : Nat) : Int) := by rw [wrap_i64 (by omega) (by omega)]; omega
  have hsl : sliceV X H 22 (.sl a off rl ga) (some (.int .i64 4)) (some (.int .i64 ((4 + n : Nat) : Int))) = some (.sl a (off + 4) n ga) := by
    have h1 : ((4 + n : Nat) : Int) ≤ (rl : Int) := by omega
    have h2 : 4 + n ≤ rl := hn
    have h3 : (4 : Int) + (n : Int) ≤ (rl : Int) := by omega
    have h4 : 0 ≤ (4 : Int) + (n : Int) := by omega
    have h5 : ((4 : Int) + (n : Int)).toNat = 4 + n := by omega
    have h6 : 4 ≤ 4 + n := by omega
    have h7 : L.length - off = rl := by omega
    have h8 : (4 : Int) ≤ (4 : Int) + (n : Int) := by omega
    simp [sliceV, bound, live, ha, hg, hw, pesz, plen, h7, h1, h2, h3, h4, h5, h6, h8]
  have hlen : (((L.drop off).drop 4).take n).length = n := by rw [List.length_take, List.length_drop, List.length_drop]; omega
  have hsrc : srcV H (.sl a (off + 4) n ga) = some (.pb (((L.drop off).drop 4).take n), 0) := by
    have h1 : off + 4 + n ≤ L.length := by omega
    simp [srcV, live, ha, hg, hi, hw, psub, h1, payB, ptag, List.drop_drop]
  obtain ⟨ob', hw', hA⟩ := app_off (C := X) (T := 22) (e := 5) (by simp) (und5) (by simp) (by simp) (by simp) hc hwc hoff (.inl hsrc) (by rw [hlen]; omega)
  rw [← hb, hlen] at hA
  refine ⟨ob', hw', _, rfl, ?_⟩
  have h0' : (upd H c (some ob'))[0]? = some (some (rdBx s (.sl a off rl ga) (.sl c off2 bl gc) τ)) := at_ne h0 (by omega)
  generalize ((L.drop off).drop 4).take n = pc at *
  unfold fdFr
  simp only [rdBx, Rd.pay] at h0 h0'
  generalize upd H c (some ob') = HV at *
  generalize 4 + n = n4 at *
  rcases htl with rfl | rfl
  · (refine ⟨0, ?_⟩; simp (maxSteps := 2000000) -implicitDefEqProofs [-getElem?_pos, List.getElem?_cons_zero, List.getElem?_cons_succ, go_sem, eqV, plen, loadV, storeV, h0, h0', rdBx, Rd.pay, w4, hsl, hA])
  · (refine ⟨0, ?_⟩; simp (maxSteps := 2000000) -implicitDefEqProofs [-getElem?_pos, List.getElem?_cons_zero, List.getElem?_cons_succ, go_sem, eqV, plen, loadV, storeV, h0, h0', rdBx, Rd.pay, w4, hsl, hA])

end

section
variable {H : AM.Heap} {s : Rd} {a : Nat} {oc : Option Nat}

set_option maxRecDepth 100000 in
set_option maxHeartbeats 8000000 in
/-- a frame's bytes taken -/
theorem rf_take (O N g n : Nat) (tl : AM.Frame) (htl : tl = [] ∨ tl = [(89, .bool false)]) (out : List Pk) (h : RdI 3 H s a oc) (hout : PkR 3 H O N g out) (hoff : Off O a oc) (hn : 4 + n ≤ s.rest.length) (hrl : s.rest.length ≤ 1000000) (hbl : s.body.length ≤ 1000000) (hnx : s.nx < 256) :
    ∃ H' c, RdI 3 H' { s with body := s.body ++ (s.rest.drop 4).take n, rest := s.rest.drop (4 + n), nx := (s.nx + 1) % 256 } a (some c) ∧ PkR 3 H' O N g out ∧ Off O a (some c) ∧ H.length ≤ H'.length ∧
      ∀ (cd15 cd16 cd17 : Code), ((Try.f27.body).bind (codeAt [1, 1, 1, 1, 0, 0, 0, 1, 0, 1, 1, 1, 1, 1, 0])) = some cd15 → ((Try.f27.body).bind (codeAt [1, 1, 1, 1, 0, 0, 0, 1, 0, 1, 1, 1, 1, 1, 1, 0])) = some cd16 → ((Try.f27.body).bind (codeAt [1, 1, 1, 1, 0, 0, 0, 1, 0, 1, 1, 1, 1, 1, 1, 1, 0])) = some cd17 → ∀ Q rest, Tells Q X (evT X) 27 1 rest (fdFr O N g [(7, .int .i64 (n : Nat))]) H' → Tells Q X (evT X) 27 1 (.seq cd15 (.seq cd16 (.seq cd17 rest))) (fdFr O N g ((7, .int .i64 (n : Nat)) :: tl)) H := by
  obtain ⟨⟨vr, vb, τ, hτ, h0, ⟨off, ga, τ1, oa, L, hτ1, rfl, ha, hwa, hl, hle, hLle⟩, hb⟩, a0⟩ := h
  have hrlen : s.rest.length = (L.drop off).length := by rw [hl]
  have hL : off + s.rest.length = L.length := by rw [hrlen, List.length_drop]; omega
  obtain ⟨O0, Oa, Oc⟩ := hoff
  have hOl := hout.lt
  have hpc : ((L.drop off).drop 4).take n = (s.rest.drop 4).take n := by rw [hl]
  have hdr : L.drop (off + (4 + n)) = s.rest.drop (4 + n) := by rw [← hl, List.drop_drop]
  have hrl2 : (s.rest.drop (4 + n)).length = s.rest.length - (4 + n) := by rw [List.length_drop]
  cases oc with
  | none =>
    obtain ⟨τ2, hτ2, rfl, hbody⟩ := hb
    have r15 := rf_r15n (s := s) (τ := τ) O N g n tl htl a off s.rest.length ga τ2 oa L h0 ha hwa.p hwa.g hwa.ids hn hL (by omega)
    rw [hpc] at r15
    have hHl : 0 < H.length := at_lt h0
    have hal := at_lt ha
    have k0 : (upd (H ++ [some (⟨.pb ((s.rest.drop 4).take n), 0, .none, 0, true, false, 0⟩ : AM.Obj)]) 0 (some (rdBx s (.sl a off s.rest.length ga) (.sl H.length 0 n 0) τ)))[0]? = some (some (rdBx s (.sl a off s.rest.length ga) (.sl H.length 0 n 0) τ)) := at_set (at_cat h0)
    have ka : (upd (H ++ [some (⟨.pb ((s.rest.drop 4).take n), 0, .none, 0, true, false, 0⟩ : AM.Obj)]) 0 (some (rdBx s (.sl a off s.rest.length ga) (.sl H.length 0 n 0) τ)))[a]? = some (some oa) := at_ne (at_cat ha) (by omega)
    have kc : (upd (H ++ [some (⟨.pb ((s.rest.drop 4).take n), 0, .none, 0, true, false, 0⟩ : AM.Obj)]) 0 (some (rdBx s (.sl a off s.rest.length ga) (.sl H.length 0 n 0) τ)))[H.length]? = some (some ⟨.pb ((s.rest.drop 4).take n), 0, .none, 0, true, false, 0⟩) := at_ne (by simp) (by omega)
    have kO : (upd (H ++ [some (⟨.pb ((s.rest.drop 4).take n), 0, .none, 0, true, false, 0⟩ : AM.Obj)]) 0 (some (rdBx s (.sl a off s.rest.length ga) (.sl H.length 0 n 0) τ)))[O]? = H[O]? := by
      unfold upd
      rw [List.getElem?_set_ne (by omega), List.getElem?_append_left hOl]
    have kl : (upd (H ++ [some (⟨.pb ((s.rest.drop 4).take n), 0, .none, 0, true, false, 0⟩ : AM.Obj)]) 0 (some (rdBx s (.sl a off s.rest.length ga) (.sl H.length 0 n 0) τ))).length = H.length + 1 := by simp [upd]
    generalize upd (H ++ [some (⟨.pb ((s.rest.drop 4).take n), 0, .none, 0, true, false, 0⟩ : AM.Obj)]) 0 (some (rdBx s (.sl a off s.rest.length ga) (.sl H.length 0 n 0) τ)) = H1 at *
    have r16 := rf_r16 (s := s) (vb := .sl H.length 0 n 0) (τ := τ) O N g n a off s.rest.length ga oa L k0 ka hwa.p hwa.g hn hL (by omega)
    have m0 : (upd H1 0 (some (rdBx s (.sl a (off + (4 + n)) (s.rest.length - (4 + n)) ga) (.sl H.length 0 n 0) τ)))[0]? = _ := at_set k0
    have r17 := rf_r17 (s := s) (τ := τ) O N g n hnx m0
    have hup : upd (upd H1 0 (some (rdBx s (.sl a (off + (4 + n)) (s.rest.length - (4 + n)) ga) (.sl H.length 0 n 0) τ))) 0 (some (rdBx { s with nx := (s.nx + 1) % 256 } (.sl a (off + (4 + n)) (s.rest.length - (4 + n)) ga) (.sl H.length 0 n 0) τ)) = upd H1 0 (some (rdBx { s with nx := (s.nx + 1) % 256 } (.sl a (off + (4 + n)) (s.rest.length - (4 + n)) ga) (.sl H.length 0 n 0) τ)) := by unfold upd; simp
    rw [hup] at r17
    have hpl : ((s.rest.drop 4).take n).length = n := by rw [List.length_take, List.length_drop]; omega
    refine ⟨upd H1 0 (some (rdBx { s with nx := (s.nx + 1) % 256 } (.sl a (off + (4 + n)) (s.rest.length - (4 + n)) ga) (.sl H.length 0 n 0) τ)), H.length, ⟨⟨.sl a (off + (4 + n)) (s.rest.length - (4 + n)) ga, .sl H.length 0 n 0, τ, hτ, at_set k0, ⟨off + (4 + n), ga, τ1, oa, L, hτ1, by rw [hrl2], at_ne ka (by omega), hwa, hdr, by omega, hLle⟩, ⟨0, 0, 0, _, (s.rest.drop 4).take n, .inl rfl, by rw [hbody, List.nil_append, hpl], at_ne kc (by omega), ⟨rfl, rfl, rfl, rfl, rfl⟩, by rw [hbody]; simp, by omega, by rw [hpl]; omega⟩, by omega, by omega⟩, a0⟩, hout.keep (by unfold upd; rw [List.getElem?_set_ne (by omega), kO]), ⟨O0, Oa, fun c hc => by cases hc; omega⟩, by simp [upd, kl], ?_⟩
    intro cd15 cd16 cd17 e15 e16 e17 Q rest ht
    apply Tells.seq (piece r15 _ e15)
    apply Tells.seq (piece r16 _ e16)
    apply Tells.seq (piece r17 _ e17)
    exact ht
  | some c =>
    obtain ⟨⟨off2, gc, τ2, ob, L2, hτ2, rfl, hc, hwc, hl2, hle2, hLle2⟩, c0, ca⟩ := hb
    have hOc := Oc c rfl
    obtain ⟨ob', hw', r15⟩ := rf_r15s (s := s) (τ := τ) O N g n tl htl a off s.rest.length ga c off2 s.body.length gc τ2 oa ob L L2 h0 ha hwa.p hwa.g hwa.ids hn hL (by omega) hc hwc (by rw [hl2]) hle2 (by omega) c0
    rw [hpc, hl2] at hw'
    have k0 : (upd (upd H c (some ob')) 0 (some (rdBx s (.sl a off s.rest.length ga) (.sl c 0 (s.body.length + n) (gc + 1)) τ)))[0]? = some (some (rdBx s (.sl a off s.rest.length ga) (.sl c 0 (s.body.length + n) (gc + 1)) τ)) := at_set (at_ne h0 (by omega))
    have ka : (upd (upd H c (some ob')) 0 (some (rdBx s (.sl a off s.rest.length ga) (.sl c 0 (s.body.length + n) (gc + 1)) τ)))[a]? = some (some oa) := at_ne (at_ne ha ca) (by omega)
    have kc : (upd (upd H c (some ob')) 0 (some (rdBx s (.sl a off s.rest.length ga) (.sl c 0 (s.body.length + n) (gc + 1)) τ)))[c]? = some (some ob') := at_ne (at_set hc) (by omega)
    have kO : (upd (upd H c (some ob')) 0 (some (rdBx s (.sl a off s.rest.length ga) (.sl c 0 (s.body.length + n) (gc + 1)) τ)))[O]? = H[O]? := by
      unfold upd
      rw [List.getElem?_set_ne (by omega), List.getElem?_set_ne hOc]
    have kl : (upd (upd H c (some ob')) 0 (some (rdBx s (.sl a off s.rest.length ga) (.sl c 0 (s.body.length + n) (gc + 1)) τ))).length = H.length := by simp [upd]
    generalize upd (upd H c (some ob')) 0 (some (rdBx s (.sl a off s.rest.length ga) (.sl c 0 (s.body.length + n) (gc + 1)) τ)) = H1 at *
    have r16 := rf_r16 (s := s) (vb := .sl c 0 (s.body.length + n) (gc + 1)) (τ := τ) O N g n a off s.rest.length ga oa L k0 ka hwa.p hwa.g hn hL (by omega)
    have m0 : (upd H1 0 (some (rdBx s (.sl a (off + (4 + n)) (s.rest.length - (4 + n)) ga) (.sl c 0 (s.body.length + n) (gc + 1)) τ)))[0]? = _ := at_set k0
    have r17 := rf_r17 (s := s) (τ := τ) O N g n hnx m0
    have hup : upd (upd H1 0 (some (rdBx s (.sl a (off + (4 + n)) (s.rest.length - (4 + n)) ga) (.sl c 0 (s.body.length + n) (gc + 1)) τ))) 0 (some (rdBx { s with nx := (s.nx + 1) % 256 } (.sl a (off + (4 + n)) (s.rest.length - (4 + n)) ga) (.sl c 0 (s.body.length + n) (gc + 1)) τ)) = upd H1 0 (some (rdBx { s with nx := (s.nx + 1) % 256 } (.sl a (off + (4 + n)) (s.rest.length - (4 + n)) ga) (.sl c 0 (s.body.length + n) (gc + 1)) τ)) := by unfold upd; simp
    rw [hup] at r17
    have hpl : (s.body ++ (s.rest.drop 4).take n).length = s.body.length + n := by rw [List.length_append, List.length_take, List.length_drop]; omega
    refine ⟨upd H1 0 (some (rdBx { s with nx := (s.nx + 1) % 256 } (.sl a (off + (4 + n)) (s.rest.length - (4 + n)) ga) (.sl c 0 (s.body.length + n) (gc + 1)) τ)), c, ⟨⟨.sl a (off + (4 + n)) (s.rest.length - (4 + n)) ga, .sl c 0 (s.body.length + n) (gc + 1), τ, hτ, at_set k0, ⟨off + (4 + n), ga, τ1, oa, L, hτ1, by rw [hrl2], at_ne ka (by omega), hwa, hdr, by omega, hLle⟩, ⟨0, gc + 1, τ2, ob', s.body ++ (s.rest.drop 4).take n, hτ2, by rw [hpl], at_ne kc (by omega), hw', by simp, by omega, by rw [hpl]; omega⟩, c0, ca⟩, a0⟩, hout.keep (by unfold upd; rw [List.getElem?_set_ne (by omega), kO]), ⟨O0, Oa, Oc⟩, by simp [upd, kl], ?_⟩
    intro cd15 cd16 cd17 e15 e16 e17 Q rest ht
    apply Tells.seq (piece r15 _ e15)
    apply Tells.seq (piece r16 _ e16)
    apply Tells.seq (piece r17 _ e17)
    exact ht

end

end Go.Proofs.Ytconnpileacfeaa

/- Walks: the document's reader fed: a payload told. -/
namespace Go.Proofs.Ytconnpileacfeaa
open Go.AM
set_option linter.unusedSimpArgs false
set_option linter.unusedVariables false

section
variable {H : AM.Heap} {s : Rd} {vr : AV} {τ : Nat}

set_option maxRecDepth 100000 in
set_option maxHeartbeats 4000000 in
theorem rf_r20 (O N g : Nat) (out : List Pk) (c off2 bl gc τ2 : Nat) (ob : AM.Obj) (L2 : List UInt8) (h0 : H[0]? = some (some (rdBx s vr (.sl c off2 bl gc) τ))) (hc : H[c]? = some (some ob)) (hw : RwT (.pb L2) gc τ2 ob) (hτ2 : τ2 = 0 ∨ τ2 = 3) (hoff : off2 + bl ≤ L2.length) (hbl : bl = ((L2.drop off2).take bl).length) (hout : PkR 3 H O N g out) (hN : N ≤ 1000000) (c0 : 0 < c) (hcO : c ≠ O) (hO : 0 < O) :
    ∃ H', PkR 3 H' O (N + 1) (g + 1) (out ++ [⟨s.sq, s.nx, (L2.drop off2).take bl⟩]) ∧ (∀ j, j ≠ O → j ≠ c → H'[j]? = H[j]?) ∧ H'.length = H.length ∧ ∃ code, ((Try.f27.body).bind (codeAt [1, 1, 1, 1, 0, 0, 0, 1, 0, 1, 1, 1, 1, 1, 1, 1, 1, 1, 1, 0, 0])) = some code ∧ Run X (evT X) 27 1 code (fdFr O N g [(142, .bool true)]) H ⟨.normal, fdFr O (N + 1) (g + 1) [], H'⟩ := by
  obtain ⟨cb, hcb, hcb2, hbs⟩ := bsPk (s.sq : Nat) (s.nx : Nat) hc hw hoff hτ2
  have hout2 : PkR 3 (upd H c none) O N g out := by
    obtain ⟨l, ob, τ, h1, h2, h3, h4, h5⟩ := hout
    exact ⟨l, ob, τ, h1, h2, h3, at_ne h4 hcO, h5⟩
  obtain ⟨H', q1, q2, q3, hA⟩ := app_pk (p := ⟨s.sq, s.nx, (L2.drop off2).take bl⟩) (v := .pc [.int .u8 (s.sq : Nat), .int .u8 (s.nx : Nat), .ro cb (.pb ((L2.drop off2).take bl)) τ2]) (src := .ro 1 (.pr 3 [.pc [.int .u8 (s.sq : Nat), .int .u8 (s.nx : Nat), .ro cb (.pb ((L2.drop off2).take bl)) τ2]]) τ2) hout2 ⟨cb, τ2, hτ2, fun h => by rw [hcb h]; simp, hcb2, rfl⟩ hτ2 (by simp [srcV, payB, ptag]) hN
  refine ⟨H', q1, fun j h1 h2 => by rw [q2 j h1]; unfold upd; rw [List.getElem?_set_ne (Ne.symm h2)], by rw [q3]; simp [upd], _, rfl, ?_⟩
  have hbv := bdPk (s.sq : Nat) (s.nx : Nat) c off2 bl gc
  unfold fdFr
  simp only [rdBx, Rd.pay] at h0
  simp only [upd] at hbs hA
  (refine ⟨0, ?_⟩; simp (maxSteps := 2000000) -implicitDefEqProofs [-getElem?_pos, List.getElem?_cons_zero, List.getElem?_cons_succ, go_sem, eqV, plen, loadV, storeV, h0, rdBx, Rd.pay, hbv, hbs, hA, assignV])

end

section
variable {H : AM.Heap} {s : Rd} {a : Nat} {oc : Option Nat}

set_option maxRecDepth 100000 in
set_option maxHeartbeats 4000000 in
/-- a payload told -/
theorem rf_tell (O N g c : Nat) (out : List Pk) (h : RdI 3 H s a (some c)) (hout : PkR 3 H O N g out) (hoff : Off O a (some c)) (hN : N ≤ 1000000) :
    ∃ H', RdI 3 H' { s with body := [] } a none ∧ PkR 3 H' O (N + 1) (g + 1) (out ++ [⟨s.sq, s.nx, s.body⟩]) ∧ Off O a none ∧ H'.length = H.length ∧
      ∀ (cd19 cd20 : Code), ((Try.f27.body).bind (codeAt [1, 1, 1, 1, 0, 0, 0, 1, 0, 1, 1, 1, 1, 1, 1, 1, 1, 1, 1, 0, 0])) = some cd19 → ((Try.f27.body).bind (codeAt [1, 1, 1, 1, 0, 0, 0, 1, 0, 1, 1, 1, 1, 1, 1, 1, 1, 1, 1, 0, 1])) = some cd20 → Run X (evT X) 27 1 (.seq cd19 cd20) (fdFr O N g [(142, .bool true)]) H ⟨.normal, fdFr O (N + 1) (g + 1) [], H'⟩ := by
  obtain ⟨⟨vr, vb, τ, hτ, h0, hvr, ⟨⟨off2, gc, τ2, ob, L2, hτ2, rfl, hc, hwc, hl2, hle2, hLb2⟩, c0, ca⟩⟩, a0⟩ := h
  obtain ⟨O0, Oa, Oc⟩ := hoff
  have hcO := Oc c rfl
  have hbl : s.body.length + off2 = L2.length := by rw [← hl2, List.length_drop]; omega
  have htk : (L2.drop off2).take s.body.length = s.body := by rw [hl2, List.take_length]
  obtain ⟨H', q1, q2, q3, r19⟩ := rf_r20 (s := s) (vr := vr) (τ := τ) O N g out c off2 s.body.length gc τ2 ob L2 h0 hc hwc hτ2 (by omega) (by rw [htk]) hout hN c0 hcO O0
  rw [htk] at q1
  have k0 : H'[0]? = some (some (rdBx s vr (.sl c off2 s.body.length gc) τ)) := by rw [q2 0 (by omega) (by omega)]; exact h0
  have r20 := rf_r21 (s := s) O (N + 1) (g + 1) vr (.sl c off2 s.body.length gc) τ k0
  refine ⟨upd H' 0 (some (rdBx s vr (.ro 0 .pn 0) τ)), ⟨⟨vr, .ro 0 .pn 0, τ, hτ, at_set k0, ?_, 0, .inl rfl, rfl, rfl⟩, a0⟩, q1.keep (by unfold upd; rw [List.getElem?_set_ne (by omega)]), ⟨O0, Oa, fun c hc => by cases hc⟩, by simp [upd, q3], ?_⟩
  · obtain ⟨off, ga, τ1, oa, L, hτ1, e1, ha, hr⟩ := hvr
    exact ⟨off, ga, τ1, oa, L, hτ1, e1, at_ne (by rw [q2 a (Ne.symm Oa) (Ne.symm ca)]; exact ha) (by omega), hr⟩
  · intro cd19 cd20 e19 e20
    exact Run.seq (piece r19 _ e19) (piece r20 _ e20)

end

end Go.Proofs.Ytconnpileacfeaa

/- Walks: the document's reader fed. -/
namespace Go.Proofs.Ytconnpileacfeaa
open Go.AM
set_option linter.unusedSimpArgs false
set_option linter.unusedVariables false

/-- how the document's rounds end -/
def rfP (x : List Pk × Int) (fr : AM.Frame) (H : AM.Heap) : Prop := ∃ O g, fr = fdFr O x.1.length g [(29, .bool false)] ∧ x.2 = 0 ∧ PkR 3 H O x.1.length g x.1 ∧ 0 < O ∧ NewOk H O

def rfS1 (s : Rd) : Rd := if s.wi then s else { s with sq := s.nx }
theorem rfS1_rest (s : Rd) : (rfS1 s).rest = s.rest := by unfold rfS1; split <;> rfl
theorem rfS1_body (s : Rd) : (rfS1 s).body = s.body := by unfold rfS1; split <;> rfl
theorem rfS1_nx (s : Rd) : (rfS1 s).nx = s.nx := by unfold rfS1; split <;> rfl
theorem rfS2_eq (s : Rd) (n : Nat) (w : Bool) : ({ rfS1 s with body := (rfS1 s).body ++ ((rfS1 s).rest.drop 4).take n, rest := (rfS1 s).rest.drop (4 + n), nx := ((rfS1 s).nx + 1) % 256, wi := w } : Rd) = { fdS2 s n with wi := w } := by
  rw [rfS1_rest, rfS1_body, rfS1_nx]
  unfold fdS2 rfS1 fdS1
  split <;> rfl
theorem rfS2_m (s : Rd) : (rfS1 s).m = s.m := by unfold rfS1; split <;> rfl
theorem fdS2_wi (s : Rd) (n : Nat) : ({ fdS2 s n with wi := true } : Rd) = fdS2 s n := by
  have h : (fdS2 s n).wi = true := fdS1_wi s
  rw [← h]
theorem st_same {s : Rd} {e : Int} (hs : s.st = 0) (he : e = 0) : ({ s with st := e } : Rd) = s := by rw [he, ← hs]

set_option maxRecDepth 100000 in
set_option maxHeartbeats 8000000 in
theorem rf_loop {H0 : AM.Heap} (s0 : Rd) (a0 O0 g0 : Nat) (oc0 : Option Nat) (out0 : List Pk) (f0 : Nat) (h0 : RdI 3 H0 s0 a0 oc0) (hout0 : PkR 3 H0 O0 out0.length g0 out0) (hoff0 : Off O0 a0 oc0) (hB0 : FdB s0 out0) (hf0 : s0.rest.length < f0) (hst0 : s0.st = 0) :
    ∃ code, ((Try.f27.body).bind (codeAt [1, 1, 1, 1, 0])) = some code ∧
      Tells (Or2 (rfP (fdL f0 s0 out0).2) (fun o => o.ex = .ret ∧ rfQ (fdL f0 s0 out0).2 o.fr o.H)) X (evT X) 27 1 code (fdFr O0 out0.length g0 []) H0 := by
  refine ⟨_, rfl, ?_⟩
  refine (Tells.blockOr (Q := fun o => o.ex = .ret ∧ rfQ (fdL f0 s0 out0).2 o.fr o.H) (P := rfP (fdL f0 s0 out0).2) ?_)
  refine Tells.loopP (fun k fr H => ∃ s O g a oc out f tl, k = s.rest.length ∧ fr = fdFr O out.length g tl ∧ (tl = [] ∨ tl = [(142, .bool false)]) ∧ RdI 3 H s a oc ∧ PkR 3 H O out.length g out ∧ Off O a oc ∧ FdB s out ∧ s.rest.length < f ∧ s.st = 0 ∧ fdL f0 s0 out0 = fdL f s out) ?_ (k := s0.rest.length) ⟨s0, O0, g0, a0, oc0, out0, f0, [], rfl, rfl, .inl rfl, h0, hout0, hoff0, hB0, hf0, hst0, rfl⟩
  rintro k fr H ⟨s, O, g, a, oc, out, f, tl, rfl, rfl, htl, h, hout, hoff, hB, hf, hst, hX⟩
  rw [hX]
  obtain ⟨f, rfl⟩ : ∃ f', f = f' + 1 := ⟨f - 1, by omega⟩
  obtain ⟨hBn, hBs⟩ := hB
  apply Tells.assoc
  apply Tells.seq (piece (rf_r5 O out.length g tl htl h) _ rfl)
  by_cases h4 : 4 ≤ s.rest.length
  · rw [show decide (4 ≤ s.rest.length) = true from decide_eq_true h4]
    apply Tells.seq (fr' := fdFr O out.length g [(29, .bool true)]) (H' := H)
    · exact Run.cond (d := true) rfl ⟨0, rfl⟩
    refine Tells.blk ?_ (by
      rintro o (⟨h, _⟩ | ⟨_, ⟨h, _⟩ | ⟨h, _⟩⟩)
      · rw [h]; simp
      · rw [h]; simp
      · rw [h]; simp)
    obtain ⟨H1, hev, h1, hlen1, hk1⟩ := wr_ev h h4 (by omega) (by omega) hBn
    have hout1 := hoff.keep hout hk1
    obtain ⟨vr, vb, τ, k0, hb⟩ := h1.box (s' := { s with st := ckE s }) rfl rfl
    have hτ : τ = 0 ∨ τ = 3 := by
      obtain ⟨⟨vr', vb', τ', hτ', h0', _⟩, _⟩ := h1
      rw [k0] at h0'
      have := congrArg (fun (x : Option (Option AM.Obj)) => (x.map fun y => y.map fun z => z.tg)) h0'
      simp only [Option.map_some, rdBx, Option.some.injEq] at this
      rw [this]; exact hτ'
    apply Tells.seq (piece (rf_r6 (s := s) O out.length g (ckE s) vr vb τ hev k0) _ rfl)
    have m0 : (upd H1 0 (some (rdBx { s with st := ckE s } vr vb τ)))[0]? = some (some (rdBx { s with st := ckE s } vr vb τ)) := at_set k0
    have houtU : PkR 3 (upd H1 0 (some (rdBx { s with st := ckE s } vr vb τ))) O out.length g out := hoff.upd0 hout1
    generalize hHU : upd H1 0 (some (rdBx { s with st := ckE s } vr vb τ)) = HU at *
    apply Tells.assoc
    apply Tells.seq (piece (rf_r7 (s := { s with st := ckE s }) O out.length g vr vb τ m0) _ rfl)
    by_cases he : ckE s = 0
    · have hlv : leV (s.rest.take 3) < 16777216 := by
        have := leV_lt (s.rest.take 3)
        rw [List.length_take, Nat.min_eq_left (by omega)] at this
        simpa using this
      have hle : leV (s.rest.take 3) ≤ s.m := by
        by_cases hc : s.m < leV (s.rest.take 3)
        · unfold ckE at he; rw [if_pos hc] at he; omega
        · omega
      rw [st_same hst he] at hb
      show Tells _ X (evT X) _ 1 _ (fdFr O out.length g [(39, .bool (ckE s != 0))]) HU
      rw [show (ckE s != 0) = false by rw [he]; rfl]
      apply Tells.seq (fr' := fdFr O out.length g [(39, .bool false)]) (H' := HU)
      · exact Run.cond (d := false) rfl ⟨0, rfl⟩
      apply Tells.seq (piece (rf_r10 O out.length g hb h4) _ rfl)
      obtain ⟨n, hnn⟩ : ∃ n, n = leV (s.rest.take 3) := ⟨_, rfl⟩
      rw [← hnn] at hlv hle ⊢
      apply Tells.assoc
      apply Tells.seq (piece (rf_r11 O out.length g n hb (by omega)) _ rfl)
      by_cases hsh : s.rest.length < 4 + n
      · rw [show decide (s.rest.length < 4 + n) = true from decide_eq_true hsh]
        have hR : fdL (f + 1) s out = (s, out, 0) := by
          rw [fdL, if_neg (by omega), if_neg (by simpa using he), ← hnn, if_pos hsh]
        rw [hR]
        refine Tells.of (o := ⟨.ret, [(4, .sl O 0 out.length g), (5, .int .i64 0)], HU⟩) (Run.seq_out (Run.cond (d := true) rfl ⟨0, ?_⟩) (by simp)) (.inr ⟨by simp, .inr ⟨rfl, rfl, O, g, rfl, rfl, houtU, hoff.1, hb.new houtU hoff⟩⟩)
        unfold fdFr
        simp (maxSteps := 2000000) -implicitDefEqProofs [-getElem?_pos, List.getElem?_cons_zero, List.getElem?_cons_succ, go_sem, eqV, plen, loadV, storeV, assignV]
      rw [show decide (s.rest.length < 4 + n) = false from decide_eq_false hsh]
      apply Tells.seq (fr' := fdFr O out.length g [(7, .int .i64 (n : Nat)), (83, .bool false)]) (H' := HU)
      · exact Run.cond (d := false) rfl ⟨0, rfl⟩
      apply Tells.assoc
      apply Tells.seq (piece (rf_r13 O out.length g n hb) _ rfl)
      obtain ⟨H2, tl2, htl2, h2, hout2, hr2⟩ : ∃ H2 tl2, (tl2 = [] ∨ tl2 = [(89, .bool false)]) ∧ RdI 3 H2 (rfS1 s) a oc ∧ PkR 3 H2 O out.length g out ∧ ∀ cd14, ((Try.f27.body).bind (codeAt [1, 1, 1, 1, 0, 0, 0, 1, 0, 1, 1, 1, 1, 0, 1, 0])) = some cd14 → Run X (evT X) 27 1 (.cond (.tmp 89) cd14 .skip) (fdFr O out.length g [(7, .int .i64 (n : Nat)), (89, .bool (!s.wi))]) HU ⟨.normal, fdFr O out.length g ((7, .int .i64 (n : Nat)) :: tl2), H2⟩ := by
        cases hw : s.wi with
        | true =>
          have e1 : rfS1 s = s := by unfold rfS1; rw [if_pos hw]
          refine ⟨HU, [(89, .bool false)], .inr rfl, by rw [e1]; exact hb, houtU, fun cd14 e14 => Run.cond (d := false) rfl ⟨0, rfl⟩⟩
        | false =>
          have e1 : rfS1 s = { s with sq := s.nx } := by unfold rfS1; rw [if_neg (by simp [hw])]
          obtain ⟨vr, vb, τ, k0, hb⟩ := hb.box (s' := { s with sq := s.nx }) rfl rfl
          refine ⟨_, [], .inl rfl, by rw [e1]; exact hb, hoff.upd0 houtU, fun cd14 e14 => Run.cond (d := true) rfl (piece (rf_r14 O out.length g n vr vb τ k0) _ e14)⟩
      apply Tells.seq (hr2 _ rfl)
      obtain ⟨H3, c, h3, hout3, hoff3, hlen3, hr3⟩ := rf_take O out.length g n tl2 htl2 out h2 hout2 hoff (by rw [rfS1_rest]; omega) (by rw [rfS1_rest]; omega) (by rw [rfS1_body]; omega) (by rw [rfS1_nx]; exact hBn)
      refine hr3 _ _ _ rfl rfl rfl _ _ ?_
      have hb2 : (fdS2 s n).body = s.body ++ (s.rest.drop 4).take n := rfl
      have hrr : (fdS2 s n).rest = s.rest.drop (4 + n) := rfl
      have hrl : (fdS2 s n).rest.length = s.rest.length - (4 + n) := by rw [hrr, List.length_drop]
      have hbl : (fdS2 s n).body.length = s.body.length + n := by rw [hb2, List.length_append, List.length_take, List.length_drop]; omega
      have hnx2 : (fdS2 s n).nx < 256 := Nat.mod_lt _ (by omega)
      have hst2 : (fdS2 s n).st = 0 := by
        show (fdS1 s).st = 0
        unfold fdS1
        split
        · exact hst
        · exact hst
      obtain ⟨vr3, vb3, τ3, k3, hb3⟩ := h3.box (s' := { fdS2 s n with wi := decide (n = s.m) }) (by rw [← rfS2_eq]) (by rw [← rfS2_eq])
      have r18 := rf_r18 (s := { rfS1 s with body := (rfS1 s).body ++ ((rfS1 s).rest.drop 4).take n, rest := (rfS1 s).rest.drop (4 + n), nx := ((rfS1 s).nx + 1) % 256 }) O out.length g n vr3 vb3 τ3 k3
      have e18 : (rdBx { ({ rfS1 s with body := (rfS1 s).body ++ ((rfS1 s).rest.drop 4).take n, rest := (rfS1 s).rest.drop (4 + n), nx := ((rfS1 s).nx + 1) % 256 } : Rd) with wi := decide (n = ({ rfS1 s with body := (rfS1 s).body ++ ((rfS1 s).rest.drop 4).take n, rest := (rfS1 s).rest.drop (4 + n), nx := ((rfS1 s).nx + 1) % 256 } : Rd).m) } vr3 vb3 τ3) = rdBx { fdS2 s n with wi := decide (n = s.m) } vr3 vb3 τ3 := by
        rw [← rfS2_eq, ← rfS2_m s]
      rw [e18] at r18
      apply Tells.seq (piece r18 _ rfl)
      have hout4 : PkR 3 (upd H3 0 (some (rdBx { fdS2 s n with wi := decide (n = s.m) } vr3 vb3 τ3))) O out.length g out := hoff3.upd0 hout3
      have k4 : (upd H3 0 (some (rdBx { fdS2 s n with wi := decide (n = s.m) } vr3 vb3 τ3)))[0]? = some (some (rdBx { fdS2 s n with wi := decide (n = s.m) } vr3 vb3 τ3)) := at_set k3
      generalize upd H3 0 (some (rdBx { fdS2 s n with wi := decide (n = s.m) } vr3 vb3 τ3)) = H4 at *
      apply Tells.seq (piece (rf_r19 (s := { fdS2 s n with wi := decide (n = s.m) }) O out.length g vr3 vb3 τ3 k4) _ rfl)
      by_cases hm : n < s.m
      · have hne : decide (n = s.m) = false := decide_eq_false (by omega)
        rw [hne] at hb3 ⊢
        obtain ⟨H5, h5, hout5, hoff5, hlen5, hr5⟩ := rf_tell O out.length g c out hb3 hout4 hoff3 (by omega)
        have hR : fdL (f + 1) s out = fdL f { fdS2 s n with body := [], wi := false } (out ++ [⟨(fdS2 s n).sq, (fdS2 s n).nx, (fdS2 s n).body⟩]) := by
          rw [fdL, if_neg (by omega), if_neg (by simpa using he), ← hnn, if_neg hsh, if_pos hm]
        rw [hR]
        have hol : (out ++ [(⟨(fdS2 s n).sq, (fdS2 s n).nx, (fdS2 s n).body⟩ : Pk)]).length = out.length + 1 := by simp
        refine Tells.of (Run.cond (d := true) rfl (hr5 _ _ rfl rfl)) (.inl ⟨rfl, (fdS2 s n).rest.length, by rw [hrl]; omega, { fdS2 s n with body := [], wi := false }, O, g + 1, a, none, _, f, [], rfl, by rw [hol], .inl rfl, h5, by rw [hol]; exact hout5, hoff5, ⟨hnx2, ?_⟩, ?_, hst2, rfl⟩)
        · rw [hol]
          simp only [List.length_nil]
          rw [hrl]; omega
        · show (fdS2 s n).rest.length < f
          rw [hrl]; omega
      · have hne : decide (n = s.m) = true := decide_eq_true (by omega)
        rw [hne, fdS2_wi] at hb3
        rw [hne]
        have hR : fdL (f + 1) s out = fdL f (fdS2 s n) out := by
          rw [fdL, if_neg (by omega), if_neg (by simpa using he), ← hnn, if_neg hsh, if_neg hm]
        rw [hR]
        refine Tells.of (o := ⟨.normal, fdFr O out.length g [(142, .bool false)], H4⟩) (Run.cond (d := false) rfl ⟨0, rfl⟩) (.inl ⟨rfl, (fdS2 s n).rest.length, by rw [hrl]; omega, fdS2 s n, O, g, a, some c, out, f, _, rfl, rfl, .inr rfl, hb3, hout4, hoff3, ⟨hnx2, by rw [hrl, hbl]; omega⟩, by rw [hrl]; omega, hst2, rfl⟩)
    · have hR : fdL (f + 1) s out = ({ s with st := ckE s }, out, ckE s) := by
        rw [fdL, if_neg (by omega), if_pos (by simpa using he)]
      rw [hR]
      show Tells _ X (evT X) _ 1 _ (fdFr O out.length g [(39, .bool (ckE s != 0))]) HU
      rw [show (ckE s != 0) = true by simpa using he]
      have r8 := rf_r8 (s := { s with st := ckE s }) O out.length g vr vb τ m0
      have m8 : (upd HU 0 (some (rdBx { s with st := ckE s } (.ro 0 .pn 0) (.ro 0 .pn 0) τ)))[0]? = some (some (rdBx { s with st := ckE s } (.ro 0 .pn 0) (.ro 0 .pn 0) τ)) := at_set m0
      have hout8 : PkR 3 (upd HU 0 (some (rdBx { s with st := ckE s } (.ro 0 .pn 0) (.ro 0 .pn 0) τ))) O out.length g out := hoff.upd0 houtU
      generalize upd HU 0 (some (rdBx { s with st := ckE s } (.ro 0 .pn 0) (.ro 0 .pn 0) τ)) = H8 at *
      have r9 := rf_r9 (s := { s with st := ckE s }) O out.length g _ _ τ m8
      refine Tells.of (o := ⟨.ret, [(4, .sl O 0 out.length g), (5, .int .i64 (ckE s))], H8⟩) (Run.seq_out (Run.cond (d := true) rfl ?_) (by simp)) (.inr ⟨by simp, .inr ⟨rfl, rfl, O, g, rfl, rfl, hout8, hoff.1, emptyNew hτ m8 hout8 hoff.1⟩⟩)
      exact Run.seq (piece r8 _ rfl) (Run.seq (piece r9 _ rfl) ⟨0, rfl⟩)
  · rw [show decide (4 ≤ s.rest.length) = false from decide_eq_false h4]
    have hR : fdL (f + 1) s out = (s, out, 0) := by rw [fdL, if_pos (by omega)]
    rw [hR]
    refine Tells.of (o := ⟨.exit 0, fdFr O out.length g [(29, .bool false)], H⟩) (Run.seq_out (Run.cond (d := false) rfl ⟨0, rfl⟩) (by simp)) (.inr ⟨by simp, .inl ⟨rfl, O, g, rfl, rfl, hout, hoff.1, h.new hout hoff⟩⟩)

section
variable {s : Rd} (c : Nat) (b : List UInt8)

set_option maxRecDepth 100000 in
set_option maxHeartbeats 4000000 in
/-- the document's new reader fed -/
theorem rfeed_code (hs : s.rest = [] ∧ s.body = [] ∧ s.st = 0) (hm : 0 < s.m) (hnx : s.nx < 256) (hc : c = 0 → b = []) (hb : b.length ≤ 900000) : ∃ code, Try.f27.body = some code ∧
    Tells (Rets (rfQ (fdL (b.length + 1) { s with rest := b } []).2)) X (evT X) 27 1 code [(0, .ptr 0 0 0 0), (1, .ro c (.pb b) 2)] [some (rdBx s (.ro 0 .pn 3) (.ro 0 .pn 3) 3)] := by
  refine ⟨_, rfl, ?_⟩
  obtain ⟨hs1, hs2, hs3⟩ := hs
  apply Tells.seq (fr' := [(0, .ptr 0 0 0 0), (1, .ro c (.pb b) 2)]) (H' := [some (rdBx s (.ro 0 .pn 3) (.ro 0 .pn 3) 3), some nilK])
  · (refine ⟨0, ?_⟩; simp (maxSteps := 2000000) -implicitDefEqProofs [-getElem?_pos, List.getElem?_cons_zero, List.getElem?_cons_succ, go_sem, eqV, plen, loadV, storeV, assignV, emK])
  apply Tells.seq (fr' := [(0, .ptr 0 0 0 0), (1, .ro c (.pb b) 2), (12, .bool false)]) (H' := [some (rdBx s (.ro 0 .pn 3) (.ro 0 .pn 3) 3), some nilK])
  · refine ⟨0, ?_⟩
    simp only [rdBx, Rd.pay, hs3]
    simp (maxSteps := 2000000) -implicitDefEqProofs [-getElem?_pos, List.getElem?_cons_zero, List.getElem?_cons_succ, go_sem, eqV, plen, loadV, storeV, assignV]
  have hbs := bs0 [some (rdBx s (.ro 0 .pn 3) (.ro 0 .pn 3) 3), some nilK]
  have hA0 : appendV X [some (rdBx s (.ro 0 .pn 3) (.ro 0 .pn 3) 3), some nilK] 22 (.ro 1 (.pb []) 0) (.ro 0 .pn 3) = some (.sl 2 0 0 0, [some (rdBx s (.ro 0 .pn 3) (.ro 0 .pn 3) 3), some nilK, some ⟨.pb [], 0, .none, 1, true, false, 0⟩]) := by
    have hroom : roomOk X 5 0 = true := by simp [roomOk]
    have hsrc : srcV [some (rdBx s (.ro 0 .pn 3) (.ro 0 .pn 3) 3), some nilK] (.ro 0 .pn 3) = some (.pn, 0) := by simp [srcV, payB, ptag]
    simp only [appendV, und22, size5, zok5, hsrc]
    simp [payB, plen, hroom, papp, emptyRow, pesz]
  obtain ⟨ob', hw', hA1⟩ := app_b (H := [some (rdBx s (.ro 0 .pn 3) (.ro 0 .pn 3) 3), some nilK, some ⟨.pb [], 0, .none, 1, true, false, 0⟩]) (o := 2) (g := 0) (l := []) (m := b) (src := .ro c (.pb b) 2) rfl ⟨rfl, rfl, rfl, rfl, rfl⟩ (.inl (by simp [srcV, payB, ptag])) (by simp; omega)
  simp only [List.nil_append, List.length_nil] at hA1 hw'
  apply Tells.seq (fr' := [(0, .ptr 0 0 0 0)]) (H' := [some (rdBx s (.sl 2 0 b.length 1) (.ro 0 .pn 3) 3), some nilK, some ob'])
  · simp only [rdBx, Rd.pay, upd, List.set_cons_succ, List.set_cons_zero] at hbs hA0 hA1 ⊢
    (refine ⟨0, ?_⟩; simp (maxSteps := 2000000) -implicitDefEqProofs [-getElem?_pos, List.getElem?_cons_zero, List.getElem?_cons_succ, go_sem, eqV, plen, loadV, storeV, hbs, hA0, hA1])
  apply Tells.seq (fr' := fdFr 3 ([] : List Pk).length 0 []) (H' := [some (rdBx s (.sl 2 0 b.length 1) (.ro 0 .pn 3) 3), some nilK, some ob', some nilK])
  · unfold fdFr
    (refine ⟨0, ?_⟩; simp (maxSteps := 2000000) -implicitDefEqProofs [-getElem?_pos, List.getElem?_cons_zero, List.getElem?_cons_succ, go_sem, eqV, plen, loadV, storeV, assignV, emK])
  apply Tells.or (P := rfP (fdL (b.length + 1) { s with rest := b } []).2)
  · refine (piece (rf_loop (H0 := [some (rdBx s (.sl 2 0 b.length 1) (.ro 0 .pn 3) 3), some nilK, some ob', some nilK]) { s with rest := b } 2 3 0 none [] (b.length + 1) ⟨⟨_, _, 3, .inr rfl, rfl, ⟨0, 1, 0, _, b, .inl rfl, rfl, rfl, ⟨hw'.p, hw'.g, hw'.row, hw'.ids, hw'.tg⟩, rfl, by omega, by omega⟩, 3, .inr rfl, rfl, hs2⟩, by omega⟩ ⟨[], nilK, 0, .inl rfl, trivial, rfl, rfl, ⟨rfl, rfl, rfl, rfl, rfl⟩⟩ ⟨by omega, by omega, fun c hc => by cases hc⟩ ⟨hnx, by simp [hs2]; omega⟩ (by simp) hs3) _ rfl).mono ?_
    rintro o (h | ⟨h1, h2⟩)
    · exact .inl h
    · exact .inr ⟨by rw [h2.1]; simp, h2.1, h2.2⟩
  rintro fr H ⟨O, g, rfl, he, h2, h3, h4⟩
  refine Tells.of (o := ⟨.ret, [(4, .sl O 0 (fdL (b.length + 1) { s with rest := b } []).2.1.length g), (5, .int .i64 0)], H⟩) ⟨0, ?_⟩ ⟨rfl, O, g, rfl, by rw [he]; rfl, h2, h3, h4⟩
  generalize (fdL (b.length + 1) { s with rest := b } []).2.1.length = N
  unfold fdFr
  simp (maxSteps := 2000000) -implicitDefEqProofs [-getElem?_pos, List.getElem?_cons_zero, List.getElem?_cons_succ, go_sem, eqV, plen, loadV, storeV, assignV]

end

theorem rfeed_ev {H : AM.Heap} {o c t : Nat} {b : List UInt8} {s : Rd} (hs : s.rest = [] ∧ s.body = [] ∧ s.st = 0) (hm : 0 < s.m) (hnx : s.nx < 256) (hc : c = 0 → b = []) (hb : b.length ≤ 900000) (ho : H[o]? = some (some (rdBx s (.ro 0 .pn 0) (.ro 0 .pn 0) 0))) :
    ∃ O H', evT X 27 [.ptr o 0 0 0, .ro c (.pb b) t] H = some (.tup [.sl O 0 (fdL (b.length + 1) { s with rest := b } []).2.1.length 0, .int .i64 (fdL (b.length + 1) { s with rest := b } []).2.2], H') ∧ PkR 0 H' O (fdL (b.length + 1) { s with rest := b } []).2.1.length 0 (fdL (b.length + 1) { s with rest := b } []).2.1 ∧ H.length ≤ O ∧ H.length ≤ H'.length ∧ ∀ j, j < H.length → j ≠ o → H'[j]? = H[j]? := by
  obtain ⟨code, hcode, hr⟩ := rfeed_code c b hs hm hnx hc hb
  exact fresh_ev Try.func27 hcode rfl rfl (by rw [par27]; rfl) (fun _ _ => rfl) hr ho

end Go.Proofs.Ytconnpileacfeaa

/- Plain: what is told is small; walks: payloads compared, the document's reader made. -/
namespace Go.Proofs.Ytconnpileacfeaa
open Go.AM
set_option linter.unusedSimpArgs false
set_option linter.unusedVariables false

theorem pkL_at {t : Nat} {p : Pk} : ∀ {i : Nat} {l : List Pk} {m : List AV}, PkL t l m → l[i]? = some p → ∃ v, m[i]? = some v ∧ PkA t p v
  | 0, q :: r, v :: l, h, hi => by
    simp at hi
    subst hi
    exact ⟨v, rfl, h.1⟩
  | i + 1, q :: r, v :: l, h, hi => by
    obtain ⟨w, h1, h2⟩ := pkL_at (i := i) h.2 (by simpa using hi)
    exact ⟨w, by simpa using h1, h2⟩
  | _, [], _, _, hi => by simp at hi
  | _, _ :: _, [], h, _ => h.elim

theorem fdS2_len (s : Rd) (n : Nat) : (fdS2 s n).body = s.body ++ (s.rest.drop 4).take n ∧ (fdS2 s n).rest = s.rest.drop (4 + n) := ⟨rfl, rfl⟩

/-- what is told is no longer than what came in -/
theorem fdL_bound : ∀ (f : Nat) (s : Rd) (out : List Pk) (B : Nat), s.rest.length + s.body.length + out.length ≤ B → (∀ p ∈ out, p.body.length ≤ B) → (fdL f s out).2.1.length ≤ B ∧ ∀ p ∈ (fdL f s out).2.1, p.body.length ≤ B
  | 0, s, out, B, h, hp => ⟨by show out.length ≤ B; omega, hp⟩
  | f + 1, s, out, B, h, hp => by
    unfold fdL
    by_cases h1 : s.rest.length < 4
    · rw [if_pos h1]; exact ⟨by show out.length ≤ B; omega, hp⟩
    rw [if_neg h1]
    by_cases h2 : ckE s ≠ 0
    · rw [if_pos h2]; exact ⟨by show out.length ≤ B; omega, hp⟩
    rw [if_neg h2]
    by_cases h3 : s.rest.length < 4 + leV (s.rest.take 3)
    · rw [if_pos h3]; exact ⟨by show out.length ≤ B; omega, hp⟩
    rw [if_neg h3]
    generalize leV (s.rest.take 3) = n at *
    have hb : (fdS2 s n).body.length = s.body.length + n := by
      rw [(fdS2_len s n).1, List.length_append, List.length_take, List.length_drop]; omega
    have hr : (fdS2 s n).rest.length = s.rest.length - (4 + n) := by rw [(fdS2_len s n).2, List.length_drop]
    by_cases h4 : n < s.m
    · rw [if_pos h4]
      refine fdL_bound f _ _ B ?_ ?_
      · simp only [List.length_append, List.length_cons, List.length_nil]
        rw [hr]; omega
      · intro p hm
        rcases List.mem_append.1 hm with hm | hm
        · exact hp p hm
        · simp only [List.mem_cons, List.not_mem_nil, or_false] at hm
          rw [hm]
          show (fdS2 s n).body.length ≤ B
          omega
    · rw [if_neg h4]
      exact fdL_bound f _ _ B (by omega) hp

section
variable (c c2 : Nat) (l l2 : List AV)

def kFr (i : Nat) : AM.Frame := [(0, .ro c (.pr 3 l) 1), (1, .ro c2 (.pr 3 l2) 2), (5, .int .i64 (i : Nat))]

set_option maxRecDepth 100000 in
set_option maxHeartbeats 4000000 in
theorem spk_round (i : Nat) (p : Pk) (cb cb2 τ τ2 : Nat) (hl : l.length ≤ 100000000) (hl2 : l2.length = l.length) (h1 : l[i]? = some (.pc [.int .u8 (p.sq : Nat), .int .u8 (p.nx : Nat), .ro cb (.pb p.body) τ])) (h2 : l2[i]? = some (.pc [.int .u8 (p.sq : Nat), .int .u8 (p.nx : Nat), .ro cb2 (.pb p.body) τ2])) (hb : cb = 0 → p.body = []) (hb2 : cb2 = 0 → p.body = []) :
    ∃ code, ((Try.f16.body).bind (codeAt [1, 1, 0, 1, 0, 0])) = some code ∧ Run X (evT X) 16 0 code (kFr c c2 l l2 i) [] ⟨.normal, kFr c c2 l l2 (i + 1), []⟩ := by
  refine ⟨_, rfl, ?_⟩
  have hlt := at_lt h1
  have hlt2 := at_lt h2
  have hiI : (i : Int) < (l.length : Int) := by omega
  have hiI2 : (i : Int) < (l2.length : Int) := by omega
  have w1 : IntKind.i64.wrap ((i : Int) + 1) = ((i + 1 : Nat) : Int) := by rw [wrap_i64 (by omega) (by omega)]; omega
  have hS := sameB_ev (H := []) (a := .ro cb (.pb p.body) 1) (a2 := .ro cb2 (.pb p.body) 2) (Byt.ro (.inl rfl) hb) (Byt.ro (.inl rfl) hb2)
  rw [beq_self_eq_true] at hS
  unfold kFr
  refine ⟨0, ?_⟩
  simp (maxSteps := 2000000) -implicitDefEqProofs [-getElem?_pos, List.getElem?_cons_zero, List.getElem?_cons_succ, go_sem, eqV, plen, loadV, storeV, hlt, hlt2, hiI, hiI2, w1, h1, h2, hS, unV, retag]

set_option maxRecDepth 100000 in
set_option maxHeartbeats 4000000 in
theorem spk_code (out : List Pk) (hp : PkL 0 out l) (hp2 : PkL 0 out l2) (hl : out.length ≤ 100000000) : ∃ code, Try.f16.body = some code ∧
    Tells (Rets fun fr H => getF fr 4 = .bool true) X (evT X) 16 0 code [(0, .ro c (.pr 3 l) 1), (1, .ro c2 (.pr 3 l2) 2)] [] := by
  refine ⟨_, rfl, ?_⟩
  have hL := f2_len hp
  have hL2 := f2_len hp2
  have hL3 : l2.length = l.length := by omega
  apply Tells.seq (fr' := [(0, .ro c (.pr 3 l) 1), (1, .ro c2 (.pr 3 l2) 2)]) (H' := [])
  · (refine ⟨0, ?_⟩; simp (maxSteps := 2000000) -implicitDefEqProofs [-getElem?_pos, List.getElem?_cons_zero, List.getElem?_cons_succ, go_sem, eqV, plen, loadV, storeV])
  apply Tells.assoc
  apply Tells.seq (fr' := [(0, .ro c (.pr 3 l) 1), (1, .ro c2 (.pr 3 l2) 2), (10, .bool false)]) (H' := [])
  · (refine ⟨0, ?_⟩; simp (maxSteps := 2000000) -implicitDefEqProofs [-getElem?_pos, List.getElem?_cons_zero, List.getElem?_cons_succ, go_sem, eqV, plen, loadV, storeV, hL3])
  apply Tells.seq (fr' := [(0, .ro c (.pr 3 l) 1), (1, .ro c2 (.pr 3 l2) 2), (10, .bool false)]) (H' := [])
  · exact Run.cond (d := false) (by simp [evalO, getF]) ⟨0, rfl⟩
  apply Tells.assoc
  apply Tells.seq (fr' := kFr c c2 l l2 0) (H' := [])
  · unfold kFr
    (refine ⟨0, ?_⟩; simp (maxSteps := 2000000) -implicitDefEqProofs [-getElem?_pos, List.getElem?_cons_zero, List.getElem?_cons_succ, go_sem, eqV, plen, loadV, storeV])
  apply Tells.blockThen (P := fun fr H => fr = kFr c c2 l l2 l.length ++ [(14, .bool false)] ∧ H = [])
  · refine Tells.loopP (fun k fr H => ∃ i, k = l.length - i ∧ i ≤ l.length ∧ fr = kFr c c2 l l2 i ∧ H = []) ?_ (k := l.length) ⟨0, rfl, by omega, rfl, rfl⟩
    rintro k fr H ⟨i, rfl, hi, rfl, rfl⟩
    by_cases hin : i = l.length
    · subst hin
      refine Tells.of (o := ⟨.exit 0, kFr c c2 l l2 l.length ++ [(14, .bool false)], []⟩) ⟨0, ?_⟩ (.inr ⟨by simp, .inl ⟨rfl, rfl, rfl⟩⟩)
      unfold kFr
      simp (maxSteps := 2000000) -implicitDefEqProofs [-getElem?_pos, List.getElem?_cons_zero, List.getElem?_cons_succ, go_sem, eqV, plen, loadV, storeV]
    · obtain ⟨p, hpi⟩ : ∃ p, out[i]? = some p := ⟨_, List.getElem?_eq_getElem (by omega)⟩
      obtain ⟨v, hv, cb, τ, _, hb, _, rfl⟩ := pkL_at hp hpi
      obtain ⟨v2, hv2, cb2, τ2, _, hb2, _, rfl⟩ := pkL_at hp2 hpi
      exact Tells.of (piece (spk_round c c2 l l2 i p cb cb2 τ τ2 (by omega) hL3 hv hv2 hb hb2) _ rfl) (.inl ⟨rfl, l.length - (i + 1), by omega, i + 1, rfl, by omega, rfl, rfl⟩)
  rintro fr H ⟨rfl, rfl⟩
  refine Tells.of (o := ⟨.ret, [(4, .bool true)], []⟩) ⟨0, ?_⟩ ⟨rfl, rfl⟩
  unfold kFr
  simp (maxSteps := 2000000) -implicitDefEqProofs [-getElem?_pos, List.getElem?_cons_zero, List.getElem?_cons_succ, go_sem, eqV, plen, loadV, storeV]

end

theorem lendPk {H : AM.Heap} {O N g : Nat} {out : List Pk} (h : PkR 0 H O N g out) (t : Nat) : ∃ c l x, PkL 0 out l ∧ lendV H t (.sl O 0 N g) = some (.ro c (.pr 3 l) t, x) := by
  obtain ⟨l, ob, τ, hτ, hf, hN, ho, hw⟩ := h
  have hlive : live H O g = some ob := by simp [live, ho, hw.g]
  have hl := f2_len hf
  refine ⟨if ob.z = 0 ∧ AM.plen ob.p = 0 then 0 else 2, l, ⟨[O], [ob.tg]⟩, hf, ?_⟩
  simp only [lendV, lend1, hlive, hw.ids, hw.p, psub]
  simp [hN, hl]

theorem spk_ev {H : AM.Heap} {O O2 N g N2 g2 : Nat} {out : List Pk} (h : PkR 0 H O N g out) (h2 : PkR 0 H O2 N2 g2 out) (hl : out.length ≤ 100000000) :
    evT X 16 [.sl O 0 N g, .sl O2 0 N2 g2] H = some (.bool true, H) := by
  obtain ⟨c, l, x, hp, e1⟩ := lendPk h 1
  obtain ⟨c2, l2, x2, hp2, e2⟩ := lendPk h2 2
  obtain ⟨code, hcode, o, ⟨he, h4⟩, hr⟩ := spk_code c c2 l l2 out hp hp2 hl
  have hrw0 : X.rw 16 0 = false := rfl
  have hrw1 : X.rw 16 1 = false := rfl
  have hlend : lendArgs X 16 H 0 [.sl O 0 N g, .sl O2 0 N2 g2] = some ([.ro c (.pr 3 l) 1, .ro c2 (.pr 3 l2) 2], [x, x2]) := by
    simp only [lendArgs, hrw0, hrw1, e1, e2]
  exact evT_eq (Ev1.toldP (l := [.bool true]) (evT_below X) Try.func16 hcode hlend (by simp [idsL, ids, pkL_ids hp, pkL_ids hp2]) (by simp [gtag]) rfl rfl rfl ⟨o, ⟨he, by show some [getF o.fr 4] = _; rw [h4]⟩, by rw [par16]; exact hr⟩)

theorem bdRr (m lim : Int) : buildV X 63 [(0, .int .i64 m), (1, .int .i64 lim)] = some (.agg (.pc [.int .i64 m, .int .i64 lim, .int .u8 0, .ro 0 .pn 0, .ro 0 .pn 0, .int .u8 0, .bool false, .int .i64 0])) := by kernel_rfl

section
variable (m lim : Int)

set_option maxRecDepth 100000 in
theorem rnew_bad (h : newBad m lim = true) : ∃ code, Try.f26.body = some code ∧
    Run X (evT X) 26 0 code [(0, .int .i64 m), (1, .int .i64 lim)] [] ⟨.ret, [(4, .nilptr), (5, .int .i64 2)], []⟩ := by
  refine ⟨_, rfl, 0, ?_⟩
  unfold newBad at h
  simp only [Bool.or_eq_true, decide_eq_true_eq] at h
  by_cases h0 : m < 1
  · simp (maxSteps := 2000000) -implicitDefEqProofs [-getElem?_pos, List.getElem?_cons_zero, List.getElem?_cons_succ, go_sem, eqV, plen, loadV, storeV, unV, assignV, h0]
  by_cases h0' : 16777215 < m
  · simp (maxSteps := 2000000) -implicitDefEqProofs [-getElem?_pos, List.getElem?_cons_zero, List.getElem?_cons_succ, go_sem, eqV, plen, loadV, storeV, unV, assignV, h0, h0']
  by_cases h1 : lim < 0
  · simp (maxSteps := 2000000) -implicitDefEqProofs [-getElem?_pos, List.getElem?_cons_zero, List.getElem?_cons_succ, go_sem, eqV, plen, loadV, storeV, unV, assignV, h0, h0', h1]
  · have h2 : 1073741824 < lim := by omega
    simp (maxSteps := 2000000) -implicitDefEqProofs [-getElem?_pos, List.getElem?_cons_zero, List.getElem?_cons_succ, go_sem, eqV, plen, loadV, storeV, unV, assignV, h0, h0', h1, h2]

set_option maxRecDepth 100000 in
theorem rnew_good (m lim : Nat) (h : newBad m lim = false) : ∃ code, Try.f26.body = some code ∧
    Run X (evT X) 26 0 code [(0, .int .i64 (m : Nat)), (1, .int .i64 (lim : Nat))] [] ⟨.ret, [(4, .ptr 0 0 0 0), (5, .int .i64 0)], [some (rdBx { m := m, lim := lim } (.ro 0 .pn 0) (.ro 0 .pn 0) 0)]⟩ := by
  refine ⟨_, rfl, 0, ?_⟩
  unfold newBad at h
  simp only [Bool.or_eq_false_iff, decide_eq_false_iff_not] at h
  have h0 : ¬ (m : Int) < 1 := by omega
  have h0' : ¬ (16777215 : Int) < (m : Int) := by omega
  have h1 : ¬ (lim : Int) < 0 := by omega
  have h2 : ¬ (1073741824 : Int) < (lim : Int) := by omega
  have n0 : ¬ m = 0 := by omega
  have n0' : ¬ 16777215 < m := by omega
  have h2' : ¬ 1073741824 < lim := by omega
  simp (maxSteps := 2000000) -implicitDefEqProofs [-getElem?_pos, List.getElem?_cons_zero, List.getElem?_cons_succ, go_sem, eqV, plen, loadV, storeV, unV, assignV, h0, h0', n0, n0', h1, h2, h2', rdBx, Rd.pay, bdRr]

end

theorem rnew_ev' {H : AM.Heap} {m lim : Int} (h : newBad m lim = true) : evT X 26 [.int .i64 m, .int .i64 lim] H = some (.tup [.nilptr, .int .i64 2], H) := by
  obtain ⟨code, hcode, hr⟩ := rnew_bad m lim h
  exact evT_eq (Ev1.toldP (l := [.nilptr, .int .i64 2]) (evT_below X) Try.func26 hcode (args_flat (i := 0) rfl rfl (args_flat (i := 1) rfl rfl (args_nil 2))) rfl (by simp [gtag]) rfl rfl rfl ⟨_, ⟨rfl, rfl⟩, by rw [par26]; exact hr⟩)
theorem rnew_ev {H : AM.Heap} {m lim : Nat} (h : newBad m lim = false) : evT X 26 [.int .i64 (m : Nat), .int .i64 (lim : Nat)] H = some (.tup [.ptr H.length 0 0 0, .int .i64 0], H ++ [some (rdBx { m := m, lim := lim } (.ro 0 .pn 0) (.ro 0 .pn 0) 0)]) := by
  obtain ⟨code, hcode, hr⟩ := rnew_good m lim h
  exact evT_eq (Ev1.newP (n := 3) (rest := [.int .i64 0]) (evT_below X) Try.func26 hcode (args_flat (i := 0) rfl rfl (args_flat (i := 1) rfl rfl (args_nil 2))) rfl rfl (by simp [gtag]) rfl rfl rfl (by simp [rdBx, Rd.pay, ids, idsL]) (by simp [rdBx, Rd.pay, tags, tagsL]) rfl rfl (by simp [rdBx, Rd.pay]) ⟨_, ⟨rfl, 0, rfl, rfl⟩, by rw [par26]; exact hr⟩)

end Go.Proofs.Ytconnpileacfeaa

/- Walks: bytes joined. -/
namespace Go.Proofs.Ytconnpileacfeaa
open Go.AM
set_option linter.unusedSimpArgs false
set_option linter.unusedVariables false

/-- a payload's bytes, with its frames' heads -/
def nP (m : Nat) (p : Pk) : Nat := p.body.length + 4 * (p.body.length / m + 1)
def nS (m : Nat) : List Pk → Nat
  | [] => 0
  | p :: r => nP m p + nS m r
theorem nS_snoc (m : Nat) (p : Pk) : ∀ l, nS m (l ++ [p]) = nS m l + nP m p
  | [] => by simp [nS]
  | q :: r => by rw [List.cons_append, nS, nS_snoc m p r, nS]; omega
theorem nS_take {m : Nat} {l : List Pk} {i : Nat} {p : Pk} (h : l[i]? = some p) : nS m (l.take (i + 1)) = nS m (l.take i) + nP m p := by
  rw [List.take_add_one, h]
  exact nS_snoc m p _
theorem nP_le {m : Nat} {p : Pk} {B : Nat} (h : p.body.length ≤ B) : nP m p ≤ 5 * B + 4 := by
  unfold nP
  have := Nat.div_le_self p.body.length m
  omega
theorem nS_le {m B : Nat} : ∀ {l : List Pk}, (∀ p ∈ l, p.body.length ≤ B) → nS m l ≤ l.length * (5 * B + 4)
  | [], _ => by simp [nS]
  | p :: r, h => by
    have h1 := nP_le (m := m) (h p (by simp))
    have h2 := nS_le (m := m) (l := r) (fun q hq => h q (by simp [hq]))
    rw [nS, List.length_cons, Nat.add_mul]
    omega

/-- the first number that may come -/
def hdN (b : List UInt8) : Nat := if 4 ≤ b.length then (b.getD 3 0).toNat else 0
def joinS (b : List UInt8) (m lim : Int) : Rd := { m := m.toNat, lim := lim.toNat, nx := hdN b }
/-- what Join tells -/
def joinR (b : List UInt8) (m lim : Int) : List Pk × Nat × Int :=
  if newBad m lim then ([], 0, 2) else
    ((fdL (b.length + 1) { joinS b m lim with rest := b } []).2.1, nS m.toNat (fdL (b.length + 1) { joinS b m lim with rest := b } []).2.1,
      if (fdL (b.length + 1) { joinS b m lim with rest := b } []).2.2 = 0 ∧ nS m.toNat (fdL (b.length + 1) { joinS b m lim with rest := b } []).2.1 < b.length then 4 else (fdL (b.length + 1) { joinS b m lim with rest := b } []).2.2)
/-- how Join tells -/
def jnQ (x : List Pk × Nat × Int) (fr : AM.Frame) (H : AM.Heap) : Prop := ∃ O g, getF fr 6 = .sl O 0 x.1.length g ∧ getF fr 7 = .int .i64 (x.2.1 : Nat) ∧ getF fr 8 = .int .i64 x.2.2 ∧ PkR 0 H O x.1.length g x.1

section
variable (c : Nat) (b : List UInt8) (m : Nat) (e : Int)

def jnFr (O N n i : Nat) : AM.Frame := [(0, .ro c (.pb b) 1), (1, .int .i64 (m : Nat)), (10, .int .i64 e), (11, .sl O 0 N 0), (12, .int .i64 (n : Nat)), (39, .sl O 0 N 0), (40, .int .i64 (N : Nat)), (41, .int .i64 (i : Nat))]
def jnFp (O N n i P : Nat) : AM.Frame := [(0, .ro c (.pb b) 1), (1, .int .i64 (m : Nat)), (10, .int .i64 e), (11, .sl O 0 N 0), (12, .int .i64 (n : Nat)), (14, .ptr P 0 0 0), (39, .sl O 0 N 0), (40, .int .i64 (N : Nat)), (41, .int .i64 (i : Nat))]

set_option maxRecDepth 100000 in
set_option maxHeartbeats 4000000 in
theorem jn_r10 {H : AM.Heap} (O N n i : Nat) (l : List AV) (ob : AM.Obj) (p : Pk) (cb τ : Nat) (ho : H[O]? = some (some ob)) (hw : RwT (.pr 3 l) 0 0 ob) (hN : N = l.length) (hi : l[i]? = some (.pc [.int .u8 (p.sq : Nat), .int .u8 (p.nx : Nat), .ro cb (.pb p.body) τ])) :
    ∃ code, ((Try.f14.body).bind (codeAt [1, 1, 1, 1, 1, 1, 0, 1, 0, 0, 1, 1, 0, 0, 0])) = some code ∧ Run X (evT X) 14 0 code (jnFr c b m e O N n i ++ [(42, .bool true)]) H ⟨.normal, jnFp c b m e O N n i H.length, H ++ [some ⟨.pc [.int .u8 (p.sq : Nat), .int .u8 (p.nx : Nat), .ro cb (.pb p.body) 0], 0, some 3, 1, false, true, 0⟩]⟩ := by
  refine ⟨_, rfl, ?_⟩
  subst hN
  have hlt := at_lt hi
  have hiI : (i : Int) < (l.length : Int) := by omega
  obtain ⟨q, gg, cap, zz, row, ids', tg⟩ := ob
  obtain ⟨q1, q2, q3, q4, q5⟩ := hw
  simp only at q1 q2 q3 q4 q5
  subst q1 q2 q3 q4 q5
  unfold jnFr jnFp
  (refine ⟨0, ?_⟩; simp (maxSteps := 2000000) -implicitDefEqProofs [-getElem?_pos, List.getElem?_cons_zero, List.getElem?_cons_succ, go_sem, eqV, plen, loadV, storeV, ho, hlt, hiI, hi, cat_at, cat_set, retagP, retagL, retag, flatCells, splice, scalars, scalar])

set_option maxRecDepth 100000 in
set_option maxHeartbeats 4000000 in
theorem jn_r11 {H : AM.Heap} (O N n i P : Nat) (p : Pk) (cb : Nat) (cap : Option Nat) (z tg : Nat) (hm : 0 < m) (hn : n ≤ 1000000000) (hB : p.body.length ≤ 1000000) (hP : H[P]? = some (some ⟨.pc [.int .u8 (p.sq : Nat), .int .u8 (p.nx : Nat), .ro cb (.pb p.body) 0], 0, cap, z, false, true, tg⟩)) :
    ∃ code, ((Try.f14.body).bind (codeAt [1, 1, 1, 1, 1, 1, 0, 1, 0, 0, 1, 1, 0, 0, 1])) = some code ∧ Run X (evT X) 14 0 code (jnFp c b m e O N n i P) H ⟨.normal, jnFr c b m e O N (n + nP m p) i, H⟩ := by
  refine ⟨_, rfl, ?_⟩
  have hd := Nat.div_le_self p.body.length m
  have m0 : ¬ m = 0 := by omega
  have m0I : ¬ (m : Int) = 0 := by omega
  unfold nP
  generalize hbl : p.body.length = B at *
  obtain ⟨q, hq⟩ : ∃ q, q = B / m := ⟨_, rfl⟩
  rw [← hq] at hd ⊢
  have t1 : IntKind.i64.wrap ((B : Int).tdiv (m : Int)) = (q : Int) := by
    rw [show (B : Int).tdiv (m : Int) = ((B / m : Nat) : Int) from rfl, ← hq, wrap_i64 (by omega) (by omega)]
  have t1' : IntKind.i64.wrap ((B : Int) / (m : Int)) = (q : Int) := by
    rw [show (B : Int) / (m : Int) = ((B / m : Nat) : Int) from rfl, ← hq, wrap_i64 (by omega) (by omega)]
  obtain ⟨q1, hq1⟩ : ∃ q1, q1 = q + 1 := ⟨_, rfl⟩
  have t2 : IntKind.i64.wrap ((q : Int) + 1) = (q1 : Int) := by rw [wrap_i64 (by omega) (by omega)]; omega
  obtain ⟨q4, hq4⟩ : ∃ q4, q4 = 4 * q1 := ⟨_, rfl⟩
  have t3 : IntKind.i64.wrap (4 * (q1 : Int)) = (q4 : Int) := by rw [wrap_i64 (by omega) (by omega)]; omega
  obtain ⟨k, hk⟩ : ∃ k, k = B + q4 := ⟨_, rfl⟩
  have t4 : IntKind.i64.wrap ((B : Int) + (q4 : Int)) = (k : Int) := by rw [wrap_i64 (by omega) (by omega)]; omega
  obtain ⟨n2, hn2⟩ : ∃ n2, n2 = n + k := ⟨_, rfl⟩
  have t5 : IntKind.i64.wrap ((n : Int) + (k : Int)) = (n2 : Int) := by rw [wrap_i64 (by omega) (by omega)]; omega
  rw [← hq1, ← hq4, ← hk, ← hn2]
  unfold jnFr jnFp
  (refine ⟨0, ?_⟩; simp (maxSteps := 2000000) -implicitDefEqProofs [-getElem?_pos, List.getElem?_cons_zero, List.getElem?_cons_succ, go_sem, eqV, plen, loadV, storeV, hP, hbl, m0, m0I, t1, t1', t2, t3, t4, t5])

set_option maxRecDepth 100000 in
set_option maxHeartbeats 4000000 in
theorem jn_loop {H0 : AM.Heap} (O : Nat) (out : List Pk) (hm : 0 < m) (hout : PkR 0 H0 O out.length 0 out) (hol : out.length ≤ 3000) (hpb : ∀ p ∈ out, p.body.length ≤ 3000) :
    ∃ code, ((Try.f14.body).bind (codeAt [1, 1, 1, 1, 1, 1, 0, 1])) = some code ∧
      Tells (Goes fun fr H => fr = jnFr c b m e O out.length (nS m out) out.length ++ [(42, .bool false)] ∧ PkR 0 H O out.length 0 out) X (evT X) 14 0 code (jnFr c b m e O out.length 0 0) H0 := by
  refine ⟨_, rfl, ?_⟩
  refine Tells.block (P := fun fr H => fr = jnFr c b m e O out.length (nS m out) out.length ++ [(42, .bool false)] ∧ PkR 0 H O out.length 0 out) ?_
  refine Tells.loopP (fun k fr H => ∃ i, k = out.length - i ∧ i ≤ out.length ∧ fr = jnFr c b m e O out.length (nS m (out.take i)) i ∧ PkR 0 H O out.length 0 out) ?_ (k := out.length) ⟨0, rfl, by omega, rfl, hout⟩
  rintro k fr H ⟨i, rfl, hi, rfl, h⟩
  by_cases hin : i = out.length
  · rw [List.take_of_length_le (by omega)]
    refine Tells.of (o := ⟨.exit 0, jnFr c b m e O out.length (nS m out) i ++ [(42, .bool false)], H⟩) ⟨0, ?_⟩ (.inr ⟨by simp, rfl, by rw [hin], h⟩)
    have hiI : ¬ ((i : Int) < (out.length : Int)) := by omega
    have hiN : ¬ (i < out.length) := by omega
    unfold jnFr
    generalize out.length = N at *
    simp (maxSteps := 2000000) -implicitDefEqProofs [-getElem?_pos, List.getElem?_cons_zero, List.getElem?_cons_succ, go_sem, eqV, plen, loadV, storeV, hiI, hiN]
  · obtain ⟨p, hpi⟩ : ∃ p, out[i]? = some p := ⟨_, List.getElem?_eq_getElem (by omega)⟩
    obtain ⟨l, ob, τ, hτ, hf, hN, ho, hw⟩ := h
    have hτ0 : τ = 0 := by omega
    subst hτ0
    obtain ⟨v, hv, cb, τ2, _, hb, _, rfl⟩ := pkL_at hf hpi
    have hll := f2_len hf
    have hiI : (i : Int) < (out.length : Int) := by omega
    have hiN : i < out.length := by omega
    have hnb : nS m (out.take i) ≤ 100000000 := by
      have h1 := nS_le (m := m) (B := 3000) (l := out.take i) (fun q hq => hpb q (List.mem_of_mem_take hq))
      have h2 : (out.take i).length ≤ 3000 := by rw [List.length_take]; omega
      have h3 : (out.take i).length * (5 * 3000 + 4) ≤ 3000 * (5 * 3000 + 4) := Nat.mul_le_mul_right _ h2
      omega
    have hpl := hpb p (List.mem_of_getElem? hpi)
    apply Tells.seq (fr' := jnFr c b m e O out.length (nS m (out.take i)) i ++ [(42, .bool true)]) (H' := H)
    · unfold jnFr
      generalize out.length = N at *
      generalize nS m (out.take i) = n at *
      (refine ⟨0, ?_⟩; simp (maxSteps := 2000000) -implicitDefEqProofs [-getElem?_pos, List.getElem?_cons_zero, List.getElem?_cons_succ, go_sem, eqV, plen, loadV, storeV, hiI, hiN])
    apply Tells.seq (fr' := jnFr c b m e O out.length (nS m (out.take i)) i ++ [(42, .bool true)]) (H' := H)
    · exact Run.cond (d := true) rfl ⟨0, rfl⟩
    have r10 := jn_r10 c b m e O out.length (nS m (out.take i)) i l ob p cb τ2 ho hw (by omega) hv
    have hP : (H ++ [some (⟨.pc [.int .u8 (p.sq : Nat), .int .u8 (p.nx : Nat), .ro cb (.pb p.body) 0], 0, some 3, 1, false, true, 0⟩ : AM.Obj)])[H.length]? = some (some ⟨.pc [.int .u8 (p.sq : Nat), .int .u8 (p.nx : Nat), .ro cb (.pb p.body) 0], 0, some 3, 1, false, true, 0⟩) := by simp
    have r11 := jn_r11 c b m e O out.length (nS m (out.take i)) i H.length p cb (some 3) 1 0 hm (by omega) (by omega) hP
    rw [← nS_take hpi] at r11
    have hnew : PkR 0 (H ++ [some (⟨.pc [.int .u8 (p.sq : Nat), .int .u8 (p.nx : Nat), .ro cb (.pb p.body) 0], 0, some 3, 1, false, true, 0⟩ : AM.Obj)]) O out.length 0 out := ⟨l, ob, 0, .inl rfl, hf, rfl, at_cat ho, hw⟩
    generalize H ++ [some (⟨.pc [.int .u8 (p.sq : Nat), .int .u8 (p.nx : Nat), .ro cb (.pb p.body) 0], 0, some 3, 1, false, true, 0⟩ : AM.Obj)] = H2 at *
    have w1 : IntKind.i64.wrap ((i : Int) + 1) = ((i + 1 : Nat) : Int) := by rw [wrap_i64 (by omega) (by omega)]; omega
    apply Tells.seq (fr' := jnFr c b m e O out.length (nS m (out.take (i + 1))) i) (H' := H2)
    · exact Run.block (Run.seq (piece r10 _ rfl) (piece r11 _ rfl)) (by simp)
    refine Tells.of (o := ⟨.normal, jnFr c b m e O out.length (nS m (out.take (i + 1))) (i + 1), H2⟩) ⟨0, ?_⟩ (.inl ⟨rfl, out.length - (i + 1), by omega, i + 1, rfl, by omega, rfl, hnew⟩)
    unfold jnFr
    generalize nS m (out.take (i + 1)) = n2 at *
    generalize out.length = N at *
    simp (maxSteps := 2000000) -implicitDefEqProofs [-getElem?_pos, List.getElem?_cons_zero, List.getElem?_cons_succ, go_sem, eqV, plen, loadV, storeV, w1]

end

end Go.Proofs.Ytconnpileacfeaa

/- Walks: bytes joined, whole. -/
namespace Go.Proofs.Ytconnpileacfeaa
open Go.AM
set_option linter.unusedSimpArgs false
set_option linter.unusedVariables false

section
variable (c : Nat) (b : List UInt8)

set_option maxRecDepth 100000 in
set_option maxHeartbeats 8000000 in
theorem join_code (m lim : Int) (hc : c = 0 → b = []) (hb : b.length ≤ 3000) : ∃ code, Try.f14.body = some code ∧
    Tells (Rets (jnQ (joinR b m lim))) X (evT X) 14 0 code [(0, .ro c (.pb b) 1), (1, .int .i64 m), (2, .int .i64 lim)] [] := by
  refine ⟨_, rfl, ?_⟩
  have hpk0 : ∀ (H : AM.Heap) (O : Nat), H[O]? = some (some nilK) → PkR 0 H O 0 0 [] := fun H O h => ⟨[], nilK, 0, .inl rfl, trivial, rfl, h, ⟨rfl, rfl, rfl, rfl, rfl⟩⟩
  apply Tells.seq (fr' := [(0, .ro c (.pb b) 1), (1, .int .i64 m), (2, .int .i64 lim)]) (H' := [some nilK])
  · (refine ⟨0, ?_⟩; simp (maxSteps := 2000000) -implicitDefEqProofs [-getElem?_pos, List.getElem?_cons_zero, List.getElem?_cons_succ, go_sem, eqV, plen, loadV, storeV, assignV, emK])
  by_cases hbad : newBad m lim = true
  · have hN := new_ev' (H := [some nilK]) hbad
    rw [show joinR b m lim = ([], 0, 2) by unfold joinR; rw [if_pos hbad]]
    refine Tells.of (o := ⟨.ret, [(6, .sl 1 0 0 0), (7, .int .i64 0), (8, .int .i64 2)], [some nilK, some nilK]⟩) ⟨0, ?_⟩ ⟨rfl, 1, 0, rfl, rfl, rfl, hpk0 _ _ rfl⟩
    simp (maxSteps := 2000000) -implicitDefEqProofs [-getElem?_pos, List.getElem?_cons_zero, List.getElem?_cons_succ, go_sem, eqV, plen, loadV, storeV, hN, assignV, emK]
  have hgood : newBad m lim = false := by simpa using hbad
  have hbd := hgood
  unfold newBad at hbd
  simp only [Bool.or_eq_false_iff, decide_eq_false_iff_not] at hbd
  obtain ⟨m, rfl⟩ : ∃ n : Nat, m = (n : Nat) := ⟨m.toNat, by omega⟩
  obtain ⟨lim, rfl⟩ : ∃ n : Nat, lim = (n : Nat) := ⟨lim.toNat, by omega⟩
  have hm : 0 < m := by omega
  have hN := new_ev (H := [some nilK]) hgood
  apply Tells.seq (fr' := [(0, .ro c (.pb b) 1), (1, .int .i64 (m : Nat)), (9, .ptr 1 0 0 0), (10, .int .i64 0)]) (H' := [some nilK, some (rdBx { m := m, lim := lim } (.ro 0 .pn 0) (.ro 0 .pn 0) 0)])
  · (refine ⟨0, ?_⟩; simp (maxSteps := 2000000) -implicitDefEqProofs [-getElem?_pos, List.getElem?_cons_zero, List.getElem?_cons_succ, go_sem, eqV, plen, loadV, storeV, hN, assignV])
  apply Tells.assoc
  apply Tells.seq (fr' := [(0, .ro c (.pb b) 1), (1, .int .i64 (m : Nat)), (9, .ptr 1 0 0 0), (10, .int .i64 0), (22, .bool false)]) (H' := [some nilK, some (rdBx { m := m, lim := lim } (.ro 0 .pn 0) (.ro 0 .pn 0) 0)])
  · (refine ⟨0, ?_⟩; simp (maxSteps := 2000000) -implicitDefEqProofs [-getElem?_pos, List.getElem?_cons_zero, List.getElem?_cons_succ, go_sem, eqV, plen, loadV, storeV])
  apply Tells.seq (fr' := [(0, .ro c (.pb b) 1), (1, .int .i64 (m : Nat)), (9, .ptr 1 0 0 0), (10, .int .i64 0), (22, .bool false)]) (H' := [some nilK, some (rdBx { m := m, lim := lim } (.ro 0 .pn 0) (.ro 0 .pn 0) 0)])
  · exact Run.cond (d := false) rfl ⟨0, rfl⟩
  have hS : joinS b (m : Nat) (lim : Nat) = { m := m, lim := lim, nx := hdN b } := rfl
  have hnx : hdN b < 256 := by
    unfold hdN
    split
    · exact UInt8.toNat_lt _
    · omega
  obtain ⟨tl, htl, hrun⟩ : ∃ tl, (tl = [] ∨ tl = [(26, .bool false)]) ∧ ∀ cd4 cd5, ((Try.f14.body).bind (codeAt [1, 1, 1, 0, 0])) = some cd4 → ((Try.f14.body).bind (codeAt [1, 1, 1, 0, 1, 0])) = some cd5 → Run X (evT X) 14 0 (.seq cd4 (.cond (.tmp 26) cd5 .skip)) [(0, .ro c (.pb b) 1), (1, .int .i64 (m : Nat)), (9, .ptr 1 0 0 0), (10, .int .i64 0), (22, .bool false)] [some nilK, some (rdBx { m := m, lim := lim } (.ro 0 .pn 0) (.ro 0 .pn 0) 0)] ⟨.normal, [(0, .ro c (.pb b) 1), (1, .int .i64 (m : Nat)), (9, .ptr 1 0 0 0)] ++ tl, [some nilK, some (rdBx (joinS b (m : Nat) (lim : Nat)) (.ro 0 .pn 0) (.ro 0 .pn 0) 0)]⟩ := by
    rw [hS]
    unfold hdN
    by_cases h4 : 4 ≤ b.length
    · rw [if_pos h4]
      obtain ⟨y, hy⟩ : ∃ y, b[3]? = some y := ⟨_, List.getElem?_eq_getElem (by omega)⟩
      rw [show b.getD 3 0 = y by rw [List.getD, hy]; rfl]
      refine ⟨[], .inl rfl, fun cd4 cd5 e4 e5 => ?_⟩
      obtain rfl := Option.some.inj e4
      obtain rfl := Option.some.inj e5
      have h4I : (4 : Int) ≤ (b.length : Int) := by omega
      have h3I : (3 : Int) < (b.length : Int) := by omega
      have h3 : 3 < b.length := by omega
      refine ⟨0, ?_⟩
      simp (maxSteps := 2000000) -implicitDefEqProofs [-getElem?_pos, List.getElem?_cons_zero, List.getElem?_cons_succ, go_sem, eqV, plen, loadV, storeV, h4, h4I, h3, h3I, hy, rdBx, Rd.pay]
    · rw [if_neg h4]
      refine ⟨[(26, .bool false)], .inr rfl, fun cd4 cd5 e4 e5 => ?_⟩
      obtain rfl := Option.some.inj e4
      obtain rfl := Option.some.inj e5
      have h4I : ¬ (4 : Int) ≤ (b.length : Int) := by omega
      refine ⟨0, ?_⟩
      simp (maxSteps := 2000000) -implicitDefEqProofs [-getElem?_pos, List.getElem?_cons_zero, List.getElem?_cons_succ, go_sem, eqV, plen, loadV, storeV, h4, h4I, rdBx, Rd.pay]
  apply Tells.seq (hrun _ _ rfl rfl)
  obtain ⟨O, H', hF, hpk, hO, hl, _⟩ := feed_ev (H := [some nilK, some (rdBx (joinS b (m : Nat) (lim : Nat)) (.ro 0 .pn 0) (.ro 0 .pn 0) 0)]) (o := 1) (c := c) (t := 1) (b := b) (s := joinS b (m : Nat) (lim : Nat)) ⟨rfl, rfl, rfl⟩ hm hnx hc (by omega) rfl
  obtain ⟨hb1, hb2⟩ := fdL_bound (b.length + 1) { joinS b (m : Nat) (lim : Nat) with rest := b } [] 3000 (by simp [joinS]; omega) (by simp)
  have hR : joinR b (m : Nat) (lim : Nat) = ((fdL (b.length + 1) { joinS b m lim with rest := b } []).2.1, nS m (fdL (b.length + 1) { joinS b m lim with rest := b } []).2.1,
      if (fdL (b.length + 1) { joinS b m lim with rest := b } []).2.2 = 0 ∧ nS m (fdL (b.length + 1) { joinS b m lim with rest := b } []).2.1 < b.length then 4 else (fdL (b.length + 1) { joinS b m lim with rest := b } []).2.2) := by
    unfold joinR
    rw [if_neg hbad]
    rfl
  rw [hR]
  generalize fdL (b.length + 1) { joinS b (m : Nat) (lim : Nat) with rest := b } [] = x at *
  obtain ⟨x1, out, e⟩ := x
  simp only at hF hpk hb1 hb2 ⊢
  apply Tells.seq (fr' := [(0, .ro c (.pb b) 1), (1, .int .i64 (m : Nat)), (10, .int .i64 e), (11, .sl O 0 out.length 0)]) (H' := H')
  · generalize [some nilK, some (rdBx (joinS b (m : Nat) (lim : Nat)) (.ro 0 .pn 0) (.ro 0 .pn 0) 0)] = H0 at *
    generalize out.length = N at *
    rcases htl with rfl | rfl
    · (refine ⟨0, ?_⟩; simp (maxSteps := 2000000) -implicitDefEqProofs [-getElem?_pos, List.getElem?_cons_zero, List.getElem?_cons_succ, go_sem, eqV, plen, loadV, storeV, hF, assignV])
    · (refine ⟨0, ?_⟩; simp (maxSteps := 2000000) -implicitDefEqProofs [-getElem?_pos, List.getElem?_cons_zero, List.getElem?_cons_succ, go_sem, eqV, plen, loadV, storeV, hF, assignV])
  obtain ⟨l0, ob0, τ0, hτ0, hf0, hN0, ho0, hw0⟩ := id hpk
  have hg0 := hw0.g
  apply Tells.seq (fr' := [(0, .ro c (.pb b) 1), (1, .int .i64 (m : Nat)), (10, .int .i64 e), (11, .sl O 0 out.length 0), (12, .int .i64 0)]) (H' := H')
  · generalize out.length = N at *
    (refine ⟨0, ?_⟩; simp (maxSteps := 2000000) -implicitDefEqProofs [-getElem?_pos, List.getElem?_cons_zero, List.getElem?_cons_succ, go_sem, eqV, plen, loadV, storeV, assignV])
  apply Tells.assoc
  apply Tells.seq (fr' := jnFr c b m e O out.length 0 0) (H' := H')
  · unfold jnFr
    generalize out.length = N at *
    (refine ⟨0, ?_⟩; simp (maxSteps := 2000000) -implicitDefEqProofs [-getElem?_pos, List.getElem?_cons_zero, List.getElem?_cons_succ, go_sem, eqV, plen, loadV, storeV, ho0, hg0, assignV])
  apply Tells.andThen (piece (jn_loop c b m e O out hm hpk hb1 hb2) _ rfl)
  rintro fr H ⟨rfl, hpk2⟩
  refine Tells.of (o := ⟨.ret, [(6, .sl O 0 out.length 0), (7, .int .i64 (nS m out : Nat)), (8, .int .i64 (if e = 0 ∧ nS m out < b.length then 4 else e))], H⟩) ⟨0, ?_⟩ ⟨rfl, O, 0, rfl, rfl, rfl, hpk2⟩
  unfold jnFr
  clear hF
  generalize nS m out = n at *
  generalize out.length = N at *
  by_cases he : e = 0
  · have he1 : (e == 0) = true := by simp [he]
    by_cases hn : n < b.length
    · rw [if_pos ⟨he, hn⟩]
      have hnI : (n : Int) < (b.length : Int) := by omega
      simp (maxSteps := 2000000) -implicitDefEqProofs [-getElem?_pos, List.getElem?_cons_zero, List.getElem?_cons_succ, go_sem, eqV, plen, loadV, storeV, he1, hn, hnI, assignV]
    · rw [if_neg (fun h => hn h.2)]
      have hnI : ¬ (n : Int) < (b.length : Int) := by omega
      simp (maxSteps := 2000000) -implicitDefEqProofs [-getElem?_pos, List.getElem?_cons_zero, List.getElem?_cons_succ, go_sem, eqV, plen, loadV, storeV, he1, hn, hnI, assignV]
  · have he1 : (e == 0) = false := by simp [he]
    rw [if_neg (fun h => he h.1)]
    simp (maxSteps := 2000000) -implicitDefEqProofs [-getElem?_pos, List.getElem?_cons_zero, List.getElem?_cons_succ, go_sem, eqV, plen, loadV, storeV, he1, assignV]

end

theorem pkR_tags {H : AM.Heap} {O N g : Nat} {out : List Pk} (h : PkR 0 H O N g out) : ∃ l ob, PkL 0 out l ∧ N = out.length ∧ H[O]? = some (some ob) ∧ Rw (.pr 3 l) g ob := by
  obtain ⟨l, ob, τ, hτ, hf, hN, ho, hw⟩ := h
  have hτ0 : τ = 0 := by omega
  subst hτ0
  exact ⟨l, ob, hf, hN, ho, ⟨hw.p, hw.g, hw.row, hw.ids, hw.tg⟩⟩

/-- Tells that ends with payloads, from outside -/
theorem jn_told {f : Nat} {fn : Func} {code : Code} {H : AM.Heap} {x : List Pk × Nat × Int} {args xs : List AV} {lents : List Lent} (hF : X.P.funcs[f]? = some fn) (hcode : fn.body = some code) (hl : lendArgs X f H 0 args = some (xs, lents)) (hi : idsL xs = []) (hn : xs.length + 1 < gtag)
    (hres : ∀ fr H, resultsV X fr H fn.results.toList = some [getF fr 6, getF fr 7, getF fr 8])
    (hrun : Tells (Rets (jnQ x)) X (evT X) f 0 code (numbered 0 (coerce X xs (paramsOf X f))) []) :
    ∃ H', evT X f args H = some (.tup [.sl H.length 0 x.1.length 0, .int .i64 (x.2.1 : Nat), .int .i64 x.2.2], H') ∧ PkR 0 H' H.length x.1.length 0 x.1 ∧ ∃ ob, H' = H ++ [some ob] := by
  obtain ⟨o, ⟨he, O, g, q6, q7, q8, hpk⟩, hr⟩ := hrun
  obtain ⟨l, ob, hf, hN, ho, hw⟩ := pkR_tags hpk
  obtain ⟨ob', w1, w2⟩ := Ev1.newZ (H := H) (n := x.1.length) (es := 3) (l := l) (rest := [.int .i64 (x.2.1 : Nat), .int .i64 x.2.2]) (evT_below X) hF hcode hl hi hn rfl rfl rfl (pkL_ids hf) (fun k hk => by have := pkL_tags hf k hk; omega)
    ⟨o, ⟨he, O, g, ob, by rw [hres, q6, q7, q8], ho, hw⟩, hr⟩
  exact ⟨_, evT_eq w2, ⟨l, ob', 0, .inl rfl, hf, rfl, by simp, ⟨w1.p, w1.g, w1.row, w1.ids, w1.tg⟩⟩, ob', rfl⟩

theorem join_ev {H : AM.Heap} {a : AV} {b : List UInt8} (m lim : Int) (h : Byt H a b) (hb : b.length ≤ 3000) :
    ∃ H', evT X 14 [a, .int .i64 m, .int .i64 lim] H = some (.tup [.sl H.length 0 (joinR b m lim).1.length 0, .int .i64 ((joinR b m lim).2.1 : Nat), .int .i64 (joinR b m lim).2.2], H') ∧ PkR 0 H' H.length (joinR b m lim).1.length 0 (joinR b m lim).1 ∧ ∃ ob, H' = H ++ [some ob] := by
  obtain ⟨c, p, xl, hp, hc, hx'⟩ := args_byt (C := X) (f := 14) (i := 0) rfl h (args_flat (i := 1) (a := .int .i64 m) rfl rfl (args_flat (i := 2) (a := .int .i64 lim) rfl rfl (args_nil 3)))
  obtain ⟨code, hcode, hr⟩ := join_code c b m lim hc hb
  exact jn_told Try.func14 hcode hx' (by simp [idsL, ids, hp.ids]) (by simp [gtag]) (fun _ _ => rfl) (by rw [par14, coB hp]; exact hr)

end Go.Proofs.Ytconnpileacfeaa
