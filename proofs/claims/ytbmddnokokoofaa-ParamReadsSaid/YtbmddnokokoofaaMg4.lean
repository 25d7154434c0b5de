/- VR to R7: texts of this claim, one behind the other; what each shows stands at its head. -/
import Derived.Test.YtbmddnokokoofaaMg3
/- Walks: the document's moment, or span, read: whole. -/
namespace Go.Proofs.Ytbmddnokokoofaa
open Go.AM
set_option linter.unusedSimpArgs false
set_option linter.unusedVariables false

section
variable (c : Nat) (s : St) (t n : Nat)

set_option maxRecDepth 100000 in
set_option maxHeartbeats 4000000 in
theorem wo_day (hc : c = 0 → s.1 = []) (hn : n < 256) (Q : AM.Out → Prop)
    (next : ∀ code, ((Try.f64.body).bind (codeAt [1, 1, 1, 0, 1, 1, 1, 1])) = some code → ∀ tl, (tl = [] ∨ tl = [(77, .bool false)]) → Tells Q X (evT X) 64 1 code (woFr t n tl) [some (rdO c 3 3 (dyF n (wrS (moBad n) s)).2), some (whO {}), some (whO (dyF n (wrS (moBad n) s)).1)]) :
    ∃ code, ((Try.f64.body).bind (codeAt [1, 1, 1, 0, 1, 1])) = some code ∧ Tells Q X (evT X) 64 1 code (woFr t n [(13, .bool false)]) [some (rdO c 3 3 s), some (whO {}), some (whO {})] := by
  refine ⟨_, rfl, ?_⟩
  have hW := wrS_ev (H := [some (rdO c 3 3 s), some (whO {}), some (whO {})]) (bad := moBad n) rfl
  apply Tells.seq (fr' := woFr t n []) (H' := [some (rdO c 3 3 (wrS (moBad n) s)), some (whO {}), some (whO {})])
  · simp only [rdO, whO, Wh.pay, upd, List.set] at hW
    by_cases h0 : n = 0
    · subst h0
      rw [show moBad 0 = false from rfl] at hW ⊢
      (refine ⟨0, ?_⟩; simp (maxSteps := 2000000) -implicitDefEqProofs [-getElem?_pos, List.getElem?_cons_zero, List.getElem?_cons_succ, go_sem, eqV, plen, loadV, storeV, woFr, rdO, whO, Wh.pay, hW])
    have e0 : ((n : Int) != 0) = true := by simp; omega
    by_cases h4 : n = 4
    · subst h4
      rw [show moBad 4 = false from rfl] at hW ⊢
      (refine ⟨0, ?_⟩; simp (maxSteps := 2000000) -implicitDefEqProofs [-getElem?_pos, List.getElem?_cons_zero, List.getElem?_cons_succ, go_sem, eqV, plen, loadV, storeV, woFr, rdO, whO, Wh.pay, hW])
    have e4 : ((n : Int) != 4) = true := by simp; omega
    by_cases h7 : n = 7
    · subst h7
      rw [show moBad 7 = false from rfl] at hW ⊢
      (refine ⟨0, ?_⟩; simp (maxSteps := 2000000) -implicitDefEqProofs [-getElem?_pos, List.getElem?_cons_zero, List.getElem?_cons_succ, go_sem, eqV, plen, loadV, storeV, woFr, rdO, whO, Wh.pay, hW])
    have e7 : ((n : Int) != 7) = true := by simp; omega
    by_cases h11 : n = 11
    · subst h11
      rw [show moBad 11 = false from rfl] at hW ⊢
      (refine ⟨0, ?_⟩; simp (maxSteps := 2000000) -implicitDefEqProofs [-getElem?_pos, List.getElem?_cons_zero, List.getElem?_cons_succ, go_sem, eqV, plen, loadV, storeV, woFr, rdO, whO, Wh.pay, hW])
    have e11 : ((n : Int) != 11) = true := by simp; omega
    rw [show moBad n = true by unfold moBad; simp [h0, h4, h7, h11]] at hW ⊢
    (refine ⟨0, ?_⟩; simp (maxSteps := 2000000) -implicitDefEqProofs [-getElem?_pos, List.getElem?_cons_zero, List.getElem?_cons_succ, go_sem, eqV, plen, loadV, storeV, woFr, rdO, whO, Wh.pay, hW, e0, e4, e7, e11])
  clear hW
  have hc1 : c = 0 → (wrS (moBad n) s).1 = [] := hc
  generalize wrS (moBad n) s = s1 at *
  apply Tells.assoc
  unfold dyF at next
  by_cases hcond : s1.2 = 0 ∧ 0 < n
  case neg =>
    rw [if_neg hcond] at next
    apply Tells.seq (fr' := woFr t n [(77, .bool false)]) (H' := [some (rdO c 3 3 s1), some (whO {}), some (whO {})])
    · by_cases he : s1.2 = 0
      · have hn0 : n = 0 := by omega
        subst hn0
        (refine ⟨0, ?_⟩; simp (maxSteps := 2000000) -implicitDefEqProofs [-getElem?_pos, List.getElem?_cons_zero, List.getElem?_cons_succ, go_sem, eqV, plen, loadV, storeV, woFr, rdO, he])
      · have heb : (s1.2 == 0) = false := beq_eq_false_iff_ne.2 he
        (refine ⟨0, ?_⟩; simp (maxSteps := 2000000) -implicitDefEqProofs [-getElem?_pos, List.getElem?_cons_zero, List.getElem?_cons_succ, go_sem, eqV, plen, loadV, storeV, woFr, rdO, heb])
    apply Tells.seq (fr' := woFr t n [(77, .bool false)]) (H' := [some (rdO c 3 3 s1), some (whO {}), some (whO {})])
    · exact condF (by simp [evalO, getF, woFr]) ⟨0, rfl⟩
    exact next _ rfl _ (.inr rfl)
  rw [if_pos hcond] at next
  obtain ⟨he, hpos⟩ := hcond
  have hposi : (0 : Int) < (n : Int) := by omega
  apply Tells.seq (fr' := woFr t n [(77, .bool true)]) (H' := [some (rdO c 3 3 s1), some (whO {}), some (whO {})])
  · (refine ⟨0, ?_⟩; simp (maxSteps := 2000000) -implicitDefEqProofs [-getElem?_pos, List.getElem?_cons_zero, List.getElem?_cons_succ, go_sem, eqV, plen, loadV, storeV, woFr, rdO, he, hposi, hpos])
  have l1 := fx_lt (n := 2) s1
  have e1 := fixedF_ev (H := [some (rdO c 3 3 s1), some (whO {}), some (whO {})]) (N := 2) (n := 2) (o := 0) (t := 3) rfl rfl (jt c 3 s1) hc1 (by omega) (by omega)
  have c1 := fx_nil (n := 2) hc1
  generalize fx 2 s1 = r1 at *
  obtain ⟨k1, s2⟩ := r1
  simp only at *
  have l2 := fx_lt (n := 1) s2
  have e2 := byteF_ev (H := [some (rdO c 3 3 s2), some (whO {}), some (whO { y := (k1 : Nat) })]) (o := 0) (t := 3) rfl (jt c 3 s2) c1
  have c2 := fx_nil (n := 1) c1
  generalize fx 1 s2 = r2 at *
  obtain ⟨k2, s3⟩ := r2
  simp only at *
  have l3 := fx_lt (n := 1) s3
  have e3 := byteF_ev (H := [some (rdO c 3 3 s3), some (whO {}), some (whO { y := (k1 : Nat), mo := (k2 : Nat) })]) (o := 0) (t := 3) rfl (jt c 3 s3) c2
  generalize fx 1 s3 = r3 at *
  obtain ⟨k3, s4⟩ := r3
  simp only at *
  have w1 : IntKind.i64.wrap (k1 : Int) = (k1 : Int) := wrap_i64 (by omega) (by omega)
  have w2 : IntKind.i64.wrap (k2 : Int) = (k2 : Int) := wrap_i64 (by omega) (by omega)
  have w3 : IntKind.i64.wrap (k3 : Int) = (k3 : Int) := wrap_i64 (by omega) (by omega)
  apply Tells.seq (fr' := woFr t n []) (H' := [some (rdO c 3 3 s4), some (whO {}), some (whO { y := (k1 : Nat), mo := (k2 : Nat), d := (k3 : Nat) })])
  · refine condT (by simp [evalO, getF, woFr]) ?_
    apply Run.seq (fr' := woFr t n []) (H' := [some (rdO c 3 3 s2), some (whO {}), some (whO { y := (k1 : Nat) })])
    · simp only [rdO, whO, Wh.pay, upd, List.set] at e1
      (refine ⟨0, ?_⟩; simp (maxSteps := 2000000) -implicitDefEqProofs [-getElem?_pos, List.getElem?_cons_zero, List.getElem?_cons_succ, go_sem, eqV, plen, loadV, storeV, woFr, rdO, whO, Wh.pay, e1, w1])
    apply Run.seq (fr' := woFr t n []) (H' := [some (rdO c 3 3 s3), some (whO {}), some (whO { y := (k1 : Nat), mo := (k2 : Nat) })])
    · simp only [rdO, whO, Wh.pay, upd, List.set] at e2
      (refine ⟨0, ?_⟩; simp (maxSteps := 2000000) -implicitDefEqProofs [-getElem?_pos, List.getElem?_cons_zero, List.getElem?_cons_succ, go_sem, eqV, plen, loadV, storeV, woFr, rdO, whO, Wh.pay, e2, w2])
    simp only [rdO, whO, Wh.pay, upd, List.set] at e3
    refine ⟨0, ?_⟩
    simp (maxSteps := 2000000) -implicitDefEqProofs [-getElem?_pos, List.getElem?_cons_zero, List.getElem?_cons_succ, go_sem, eqV, plen, loadV, storeV, woFr, rdO, whO, Wh.pay, e3, w3]
  exact next _ rfl _ (.inl rfl)

/-- what is behind the fields -/
def woP (q : Wh × St) (fr : AM.Frame) (H : AM.Heap) : Prop :=
  (∃ tl, fr = [(0, .ptr 0 0 0 0), (1, .int .u8 (t : Nat)), (4, .ptr 1 0 0 0)] ++ tl ∧ (tl = [(6, .ptr 2 0 0 0)] ∨ ∃ j, j ≠ 6 ∧ tl = [(5, .int .i64 (n : Nat)), (6, .ptr 2 0 0 0), (j, .bool false)])) ∧ H = [some (rdO c 3 3 q.2), some (whO {}), some (whO q.1)]

set_option maxRecDepth 100000 in
set_option maxHeartbeats 4000000 in
theorem wo_clock (q : Wh × St) (hc : c = 0 → q.2.1 = []) (hn : n < 256) (tl : AM.Frame) (htl : tl = [] ∨ tl = [(77, .bool false)]) :
    ∃ code, ((Try.f64.body).bind (codeAt [1, 1, 1, 0, 1, 1, 1, 1])) = some code ∧ Tells (Goes (woP c t n (if q.2.2 = 0 ∧ 4 < n then clF q.2 q.1 (n == 11) else q))) X (evT X) 64 1 code (woFr t n tl) [some (rdO c 3 3 q.2), some (whO {}), some (whO q.1)] := by
  refine ⟨_, rfl, ?_⟩
  obtain ⟨w, s1⟩ := q
  simp only at *
  by_cases hcond : s1.2 = 0 ∧ 4 < n
  case neg =>
    rw [if_neg hcond]
    refine Tells.of (o := ⟨.normal, woFr t n [(98, .bool false)], [some (rdO c 3 3 s1), some (whO {}), some (whO w)]⟩) ⟨0, ?_⟩ ⟨rfl, ⟨_, rfl, .inr ⟨98, by decide, rfl⟩⟩, rfl⟩
    by_cases he : s1.2 = 0
    · have hn0 : ¬ (4 : Int) < (n : Int) := by omega
      have hn1 : ¬ 4 < n := by omega
      rcases htl with rfl | rfl
      · simp (maxSteps := 2000000) -implicitDefEqProofs [-getElem?_pos, List.getElem?_cons_zero, List.getElem?_cons_succ, go_sem, eqV, plen, loadV, storeV, woFr, rdO, he, hn0, hn1]
      · simp (maxSteps := 2000000) -implicitDefEqProofs [-getElem?_pos, List.getElem?_cons_zero, List.getElem?_cons_succ, go_sem, eqV, plen, loadV, storeV, woFr, rdO, he, hn0, hn1]
    · have heb : (s1.2 == 0) = false := beq_eq_false_iff_ne.2 he
      rcases htl with rfl | rfl
      · simp (maxSteps := 2000000) -implicitDefEqProofs [-getElem?_pos, List.getElem?_cons_zero, List.getElem?_cons_succ, go_sem, eqV, plen, loadV, storeV, woFr, rdO, heb]
      · simp (maxSteps := 2000000) -implicitDefEqProofs [-getElem?_pos, List.getElem?_cons_zero, List.getElem?_cons_succ, go_sem, eqV, plen, loadV, storeV, woFr, rdO, heb]
  rw [if_pos hcond]
  obtain ⟨he, hpos⟩ := hcond
  have hposi : (4 : Int) < (n : Int) := by omega
  have e3 := clockOf_ev (H := [some (rdO c 3 3 s1), some (whO {}), some (whO w)]) (o := 0) (t := 3) (w := w) (m := n == 11) rfl (jt c 3 s1) hc
  have hn11 : ((n : Int) == 11) = (n == 11) := by
    by_cases h : n = 11
    · subst h; rfl
    · have : (n == 11) = false := by simpa using h
      rw [this]; exact beq_eq_false_iff_ne.2 (by omega)
  generalize (n == 11) = nn at *
  generalize clF s1 w nn = r3 at *
  obtain ⟨w4, s4⟩ := r3
  simp only at *
  refine Tells.of (o := ⟨.normal, [(0, .ptr 0 0 0 0), (1, .int .u8 (t : Nat)), (4, .ptr 1 0 0 0), (6, .ptr 2 0 0 0)], [some (rdO c 3 3 s4), some (whO {}), some (whO w4)]⟩) ⟨0, ?_⟩ ⟨rfl, ⟨_, rfl, .inl rfl⟩, rfl⟩
  simp only [rdO, whO, Wh.pay, upd, List.set] at e3
  rw [he] at e3
  rcases htl with rfl | rfl
  · simp (maxSteps := 2000000) -implicitDefEqProofs [-getElem?_pos, List.getElem?_cons_zero, List.getElem?_cons_succ, go_sem, eqV, plen, loadV, storeV, woFr, rdO, whO, Wh.pay, mkWh, he, hposi, hpos, e3, hn11, flatCells, splice, scalars]
  · simp (maxSteps := 2000000) -implicitDefEqProofs [-getElem?_pos, List.getElem?_cons_zero, List.getElem?_cons_succ, go_sem, eqV, plen, loadV, storeV, woFr, rdO, whO, Wh.pay, mkWh, he, hposi, hpos, e3, hn11, flatCells, splice, scalars]

end

section
variable (c : Nat) (s : St) (t : Nat)

set_option maxRecDepth 100000 in
set_option maxHeartbeats 4000000 in
theorem wo_code (hc : c = 0 → s.1 = []) (ht : t < 256) : ∃ code, Try.f64.body = some code ∧
    Tells (Rets fun fr H => fr = [(4, .ptr 1 0 0 0)] ∧ H = [some (rdO c 3 3 (woF s t).2), some (whO (woF s t).1), some (whO (woF s t).1)]) X (evT X) 64 1 code [(0, .ptr 0 0 0 0), (1, .int .u8 (t : Nat))] [some (rdO c 3 3 s)] := by
  refine ⟨_, rfl, ?_⟩
  apply Tells.seq (fr' := [(0, .ptr 0 0 0 0), (1, .int .u8 (t : Nat)), (4, .ptr 1 0 0 0)]) (H' := [some (rdO c 3 3 s), some (whO {})])
  · (refine ⟨0, ?_⟩; simp (maxSteps := 2000000) -implicitDefEqProofs [-getElem?_pos, List.getElem?_cons_zero, List.getElem?_cons_succ, go_sem, eqV, plen, loadV, storeV, rdO, whO, Wh.pay])
  have l1 := fx_lt (n := 1) s
  have e1 := byteF_ev (H := [some (rdO c 3 3 s), some (whO {})]) (o := 0) (t := 3) rfl (jt c 3 s) hc
  have c1 := fx_nil (n := 1) hc
  have hwo : woF s t = ((whF s t).1, wrS (!fin (whF s t).1 t) (whF s t).2) := rfl
  have hwh : whF s t = if t = 11 then spF (fx 1 s).1 (wrS (spBad (fx 1 s).1) (fx 1 s).2) else moF (fx 1 s).1 (wrS (moBad (fx 1 s).1) (fx 1 s).2) := rfl
  have hnil := whF_nil (t := t) hc
  generalize fx 1 s = r1 at *
  obtain ⟨n, s1⟩ := r1
  simp only at *
  have w1 : IntKind.i64.wrap (n : Int) = (n : Int) := wrap_i64 (by omega) (by omega)
  have hn : n < 256 := by simpa using l1
  apply Tells.seq (fr' := [(0, .ptr 0 0 0 0), (1, .int .u8 (t : Nat)), (4, .ptr 1 0 0 0), (5, .int .i64 (n : Nat))]) (H' := [some (rdO c 3 3 s1), some (whO {})])
  · simp only [rdO, whO, Wh.pay, upd, List.set] at e1
    (refine ⟨0, ?_⟩; simp (maxSteps := 2000000) -implicitDefEqProofs [-getElem?_pos, List.getElem?_cons_zero, List.getElem?_cons_succ, go_sem, eqV, plen, loadV, storeV, rdO, whO, Wh.pay, e1, w1])
  have hb0 := bdW0
  apply Tells.seq (fr' := woFr t n []) (H' := [some (rdO c 3 3 s1), some (whO {}), some (whO {})])
  · (refine ⟨0, ?_⟩; simp (maxSteps := 2000000) -implicitDefEqProofs [-getElem?_pos, List.getElem?_cons_zero, List.getElem?_cons_succ, go_sem, eqV, plen, loadV, storeV, woFr, rdO, whO, Wh.pay, hb0, mkWh, flatCells, splice, scalars])
  rw [hwo]
  generalize hq : whF s t = q at *
  apply Tells.andThen (P := woP c t n q)
  · by_cases h11 : t = 11
    · rw [if_pos h11] at hwh
      subst h11
      apply Tells.seq (fr' := woFr 11 n [(13, .bool true)]) (H' := [some (rdO c 3 3 s1), some (whO {}), some (whO {})])
      · (refine ⟨0, ?_⟩; simp (maxSteps := 2000000) -implicitDefEqProofs [-getElem?_pos, List.getElem?_cons_zero, List.getElem?_cons_succ, go_sem, eqV, plen, loadV, storeV, woFr])
      apply Tells.condT (by simp [evalO, getF, woFr])
      refine (piece (wo_span c s1 11 n c1 hn) _ rfl).mono ?_
      rintro o ⟨h1, ⟨tl, h2, h3, h4⟩, h5⟩
      rw [← hwh] at h5
      refine ⟨h1, ⟨tl, h2, ?_⟩, h5⟩
      rcases h4 with h4 | h4
      · exact .inl h4
      · exact .inr ⟨34, by decide, h4⟩
    · rw [if_neg h11] at hwh
      have h11b : ((t : Int) == 11) = false := beq_eq_false_iff_ne.2 (by omega)
      apply Tells.seq (fr' := woFr t n [(13, .bool false)]) (H' := [some (rdO c 3 3 s1), some (whO {}), some (whO {})])
      · (refine ⟨0, ?_⟩; simp (maxSteps := 2000000) -implicitDefEqProofs [-getElem?_pos, List.getElem?_cons_zero, List.getElem?_cons_succ, go_sem, eqV, plen, loadV, storeV, woFr, h11b])
      apply Tells.condF (by simp [evalO, getF, woFr])
      refine piece (wo_day c s1 t n c1 hn _ ?_) _ rfl
      intro code hcode tl htl
      have := piece (wo_clock c t n (dyF n (wrS (moBad n) s1)) (dyF_nil c1) hn tl htl) _ hcode
      rw [hwh]
      exact this
  rintro fr H ⟨⟨tl, rfl, htl⟩, rfl⟩
  obtain ⟨w, s4⟩ := q
  simp only at *
  have hF := rfin_ev w ht [some (rdO c 3 3 s4), some (whO {}), some (whO w)]
  have e4 := wrS_ev (H := [some (rdO c 3 3 s4), some (whO {}), some (whO w)]) (bad := !fin w t) rfl
  generalize wrS (!fin w t) s4 = s5 at *
  generalize fin w t = ff at *
  refine Tells.of (o := ⟨.ret, [(4, .ptr 1 0 0 0)], [some (rdO c 3 3 s5), some (whO w), some (whO w)]⟩) ⟨0, ?_⟩ ⟨rfl, rfl, rfl⟩
  simp only [rdO, whO, Wh.pay, upd, List.set] at e4 hF
  rcases htl with rfl | ⟨j, hj, rfl⟩
  · simp (maxSteps := 2000000) -implicitDefEqProofs [-getElem?_pos, List.getElem?_cons_zero, List.getElem?_cons_succ, go_sem, eqV, plen, loadV, storeV, rdO, whO, Wh.pay, mkWh, hF, unV, e4, flatCells, splice, scalars]
  · simp (maxSteps := 2000000) -implicitDefEqProofs [-getElem?_pos, List.getElem?_cons_zero, List.getElem?_cons_succ, go_sem, eqV, plen, loadV, storeV, rdO, whO, Wh.pay, mkWh, hF, unV, e4, flatCells, splice, scalars]

end

theorem wo_ev {H : AM.Heap} {o c k tg t : Nat} {s : St} (ho : H[o]? = some (some (rdO c k tg s))) (hj : joinTags (tagsOb (rdO c k tg s)) = some k) (hc : c = 0 → s.1 = []) (ht : t < 256) :
    evT X 64 [.ptr o 0 0 0, .int .u8 (t : Nat)] H = some (.agg (woF s t).1.pay, upd H o (some (rdO c k k (woF s t).2))) := by
  obtain ⟨code, hcode, out, ⟨he, hfr, hH⟩, hr⟩ := wo_code c s t hc ht
  generalize woF s t = q at *
  have := Ev1.box (C := X) (f := 64) (H := H) (o := o) (g := 0) (ob := rdO c k tg s) (ob1 := rdO c 3 3 q.2) (xs := [.int .u8 (t : Nat)]) (ys := [.int .u8 (t : Nat)]) (n := 3) (t := k) (rest := [some (whO q.1), some (whO q.1)])
    (l := [.agg q.1.pay]) (evT_below X) Try.func64 hcode rfl ho rfl rfl (args_flat (i := 1) rfl rfl (args_nil 2)) rfl rfl rfl (by simp [gtag]) hj hr (.inr he)
    (by rw [hfr, hH]; show resultsV X [(4, .ptr 1 0 0 0)] [some (rdO c 3 3 q.2), some (whO q.1), some (whO q.1)] [.cell 4 30] = _; simp [resultsV, getF, loadV, live, whO, pagg, mkWh, Wh.pay]) hH rfl rfl (by simp [resultV, ids, idsL, Wh.pay])
    (by intro k hk; right; simpa [resultV, tags, tagsOb, rdO, tagsL, Wh.pay] using hk) (.inr rfl)
  exact evT_eq (by simpa [rdO, ren, renL, bk, resultV, Wh.pay] using this)

end Go.Proofs.Ytbmddnokokoofaa

/- Walks: the document's value read. -/
namespace Go.Proofs.Ytbmddnokokoofaa
open Go.AM
set_option linter.unusedSimpArgs false
set_option linter.unusedVariables false

/-- the document's fields of a value -/
def fdV (b : List UInt8) (t : Ty) (k : Int) : Va × St :=
  if k = 1 then ({ k := 1, i := sgV ((fx (rsizeN t.t) (b, 0)).1 : Nat) (rsizeN t.t) }, (fx (rsizeN t.t) (b, 0)).2) else
  if k = 2 ∨ k = 3 ∨ k = 4 then ({ k := k, b := (fx (rsizeN t.t) (b, 0)).1 }, (fx (rsizeN t.t) (b, 0)).2) else
  if k = 5 ∨ k = 6 then ({ k := k, w := (woF (b, 0) t.t).1 }, (woF (b, 0) t.t).2) else
  if k = 7 then ({ k := 7, t := (rtF (b, 0)).1 }, wrS (decide (16777216 < (rtF (b, 0)).1.length)) (rtF (b, 0)).2) else ({ k := k }, (b, 0))
/-- what the document's Read tells -/
def rrV (b : List UInt8) (t : Ty) : Va × Nat × Int :=
  if kindN t.t t.u < 0 then ({}, 0, 2) else
  if (fdV b t (kindN t.t t.u)).2.2 ≠ 0 then ({}, 0, (fdV b t (kindN t.t t.u)).2.2) else ((fdV b t (kindN t.t t.u)).1, b.length - (fdV b t (kindN t.t t.u)).2.1.length, 0)

theorem clF_len (s : St) (w : Wh) (m : Bool) : (clF s w m).2.1.length ≤ s.1.length := by
  unfold clF
  have h1 := fx_len 1 s
  have h2 := fx_len 1 (fx 1 s).2
  have h3 := fx_len 1 (fx 1 (fx 1 s).2).2
  have h4 := fx_len 4 (fx 1 (fx 1 (fx 1 s).2).2).2
  cases m
  · exact Nat.le_trans h3 (Nat.le_trans h2 h1)
  · exact Nat.le_trans h4 (Nat.le_trans h3 (Nat.le_trans h2 h1))
theorem dyF_len (n : Nat) (s : St) : (dyF n s).2.1.length ≤ s.1.length := by
  unfold dyF
  split
  · exact Nat.le_trans (fx_len 1 _) (Nat.le_trans (fx_len 1 _) (fx_len 2 _))
  · exact Nat.le_refl _
theorem whF_len (s : St) (t : Nat) : (whF s t).2.1.length ≤ s.1.length := by
  unfold whF spF moF
  repeat' split
  · exact Nat.le_trans (clF_len _ _ _) (Nat.le_trans (fx_len 4 _) (Nat.le_trans (fx_len 1 _) (fx_len 1 s)))
  · exact fx_len 1 s
  · exact Nat.le_trans (clF_len _ _ _) (Nat.le_trans (dyF_len _ _) (fx_len 1 s))
  · exact Nat.le_trans (dyF_len _ _) (fx_len 1 s)
theorem fdV_len (b : List UInt8) (t : Ty) (k : Int) : (fdV b t k).2.1.length ≤ b.length := by
  unfold fdV
  repeat' split
  · exact fx_len _ (b, 0)
  · exact fx_len _ (b, 0)
  · exact whF_len (b, 0) t.t
  · exact rtF_len (b, 0)
  · exact Nat.le_refl _

theorem bdF (c t : Nat) (b : List UInt8) : buildV X 61 [(0, .ro c (.pb b) t)] = some (.agg (.pc [.ro c (.pb b) t, .int .i64 0])) := by kernel_rfl
theorem bvVk (k : Int) : buildV X 32 [(0, .int .i64 k)] = some (.agg (Va.pay { k := k })) := by kernel_rfl

section
variable (c : Nat) (b : List UInt8) (t : Ty)

def rfO (s : St) (tg : Nat) : AM.Obj := rdO c 1 tg s

/-- the fields that a kind wants, read -/
def fdP (k : Int) (fr : AM.Frame) (H : AM.Heap) : Prop := ∃ tl tg, fr = [(0, .ro c (.pb b) 1), (4, .ptr 1 0 0 0), (8, .ptr 2 0 0 0), (9, .ptr 3 0 0 0)] ++ tl ∧ (tl = [] ∨ tl = [(60, .bool false)]) ∧ H = [some (tyO t), some (vaO {}), some (rfO c (fdV b t k).2 tg), some (vaO (fdV b t k).1)]
def fdFr (k : Int) : AM.Frame := [(0, .ro c (.pb b) 1), (3, .ptr 0 0 0 0), (4, .ptr 1 0 0 0), (8, .ptr 2 0 0 0), (9, .ptr 3 0 0 0), (10, .int .i64 (rsizeN t.t : Nat)), (25, .int .i64 k)]
def fdHp (k : Int) : AM.Heap := [some (tyO t), some (vaO {}), some (rfO c (b, 0) 0), some (vaO { k := k })]

theorem jt0 (s : St) : joinTags (tagsOb (rdO c 1 0 s)) = some 1 := by
  simp [tagsOb, rdO, tags, tagsL, joinTags, joinTag]

set_option maxRecDepth 100000 in
set_option maxHeartbeats 4000000 in
theorem fd_code (k : Int) (hk : 0 ≤ k ∧ k ≤ 7) (hk2 : k = kindN t.t t.u) (hc : c = 0 → b = []) (ht : t.t < 256) (hbm : b.length ≤ 90000000) :
    ∃ code, ((Try.f52.body).bind (codeAt [1, 1, 1, 1, 1, 1, 0, 1])) = some code ∧ Tells (Goes (fdP c b t k)) X (evT X) 52 0 code (fdFr c b t k) (fdHp c b t k) := by
  refine ⟨_, rfl, ?_⟩
  apply Tells.blk (hq := fun o h => by rw [h.1]; simp)
  have hrs := rsz t.t
  unfold fdP fdV
  have hF := fixedF_ev (H := fdHp c b t k) (N := (rsizeN t.t : Nat)) (n := rsizeN t.t) (o := 2) (c := c) (t := 1) (tg := 0) (s := (b, 0)) rfl rfl (jt0 c _) hc (by omega) (by omega)
  have hxl := fx_lt (n := rsizeN t.t) (b, 0)
  generalize hn : rsizeN t.t = n at *
  have hx8 : 256 ^ n ≤ 256 ^ 8 := Nat.pow_le_pow_right (by omega) (by omega)
  rcases (show k = 0 ∨ k = 1 ∨ k = 2 ∨ k = 3 ∨ k = 4 ∨ k = 5 ∨ k = 6 ∨ k = 7 by omega) with rfl | rfl | rfl | rfl | rfl | rfl | rfl | rfl
  · refine Tells.of (o := ⟨.normal, [(0, .ro c (.pb b) 1), (4, .ptr 1 0 0 0), (8, .ptr 2 0 0 0), (9, .ptr 3 0 0 0), (60, .bool false)], fdHp c b t 0⟩) ⟨0, ?_⟩ ⟨rfl, [(60, .bool false)], 0, rfl, .inr rfl, rfl⟩
    simp (maxSteps := 2000000) -implicitDefEqProofs [-getElem?_pos, List.getElem?_cons_zero, List.getElem?_cons_succ, go_sem, eqV, plen, loadV, storeV, fdFr]
  · generalize fx n (b, 0) = r at *
    obtain ⟨x, s⟩ := r
    simp only at *
    refine Tells.of (o := ⟨.normal, [(0, .ro c (.pb b) 1), (4, .ptr 1 0 0 0), (8, .ptr 2 0 0 0), (9, .ptr 3 0 0 0)], [some (tyO t), some (vaO {}), some (rfO c s 1), some (vaO { k := 1, i := sgV (x : Nat) n })]⟩) ⟨0, ?_⟩ ⟨rfl, [], 1, rfl, .inl rfl, rfl⟩
    have w1 : IntKind.i64.wrap (8 * (n : Int)) = ((8 * n : Nat) : Int) := by rw [wrap_i64 (by omega) (by omega)]; omega
    have w2 : IntKind.i64.wrap (64 - ((8 * n : Nat) : Int)) = ((64 - 8 * n : Nat) : Int) := by rw [wrap_i64 (by omega) (by omega)]; omega
    have w3 : IntKind.u64.wrap ((64 - 8 * n : Nat) : Int) = ((64 - 8 * n : Nat) : Int) := wrap_u64 (by omega) (by omega)
    have hsg : sgV (x : Int) n = Int.fdiv (IntKind.i64.wrap (IntKind.u64.wrap ((x : Int) * 2 ^ (64 - 8 * n)))) (2 ^ (64 - 8 * n)) := rfl
    have hsh0 : ¬ ((64 - 8 * n : Nat) : Int) < 0 := by omega
    have hmin : min (64 - 8 * n) 64 = 64 - 8 * n := by omega
    rw [hsg]
    generalize hsh : 64 - 8 * n = sh at *
    generalize h8 : 8 * n = n8 at *
    generalize hz : IntKind.u64.wrap ((x : Int) * 2 ^ sh) = z at *
    generalize hz2 : IntKind.i64.wrap z = z2 at *
    simp only [fdHp, tyO, Ty.pay, vaO, Va.pay, rfO, rdO, upd, List.set, Int.cast_ofNat_Int] at hF
    unfold fdHp
    simp (maxSteps := 2000000) -implicitDefEqProofs [-getElem?_pos, List.getElem?_cons_zero, List.getElem?_cons_succ, go_sem, eqV, plen, loadV, storeV, fdFr, hn, tyO, Ty.pay, vaO, Va.pay, rfO, rdO, hF, w1, w2, w3, hsh0, hmin, hz, hz2, show IntKind.u64.bits = 64 from rfl, show IntKind.i64.bits = 64 from rfl]
  · generalize fx n (b, 0) = r at *
    obtain ⟨x, s⟩ := r
    simp only at *
    refine Tells.of (o := ⟨.normal, [(0, .ro c (.pb b) 1), (4, .ptr 1 0 0 0), (8, .ptr 2 0 0 0), (9, .ptr 3 0 0 0)], [some (tyO t), some (vaO {}), some (rfO c s 1), some (vaO { k := 2, b := x })]⟩) ⟨0, ?_⟩ ⟨rfl, [], 1, rfl, .inl rfl, rfl⟩
    simp only [fdHp, tyO, Ty.pay, vaO, Va.pay, rfO, rdO, upd, List.set, Int.cast_ofNat_Int] at hF
    unfold fdHp
    simp (maxSteps := 2000000) -implicitDefEqProofs [-getElem?_pos, List.getElem?_cons_zero, List.getElem?_cons_succ, go_sem, eqV, plen, loadV, storeV, fdFr, hn, tyO, Ty.pay, vaO, Va.pay, rfO, rdO, hF]
  · generalize fx n (b, 0) = r at *
    obtain ⟨x, s⟩ := r
    simp only at *
    refine Tells.of (o := ⟨.normal, [(0, .ro c (.pb b) 1), (4, .ptr 1 0 0 0), (8, .ptr 2 0 0 0), (9, .ptr 3 0 0 0)], [some (tyO t), some (vaO {}), some (rfO c s 1), some (vaO { k := 3, b := x })]⟩) ⟨0, ?_⟩ ⟨rfl, [], 1, rfl, .inl rfl, rfl⟩
    simp only [fdHp, tyO, Ty.pay, vaO, Va.pay, rfO, rdO, upd, List.set, Int.cast_ofNat_Int] at hF
    unfold fdHp
    simp (maxSteps := 2000000) -implicitDefEqProofs [-getElem?_pos, List.getElem?_cons_zero, List.getElem?_cons_succ, go_sem, eqV, plen, loadV, storeV, fdFr, hn, tyO, Ty.pay, vaO, Va.pay, rfO, rdO, hF]
  · generalize fx n (b, 0) = r at *
    obtain ⟨x, s⟩ := r
    simp only at *
    refine Tells.of (o := ⟨.normal, [(0, .ro c (.pb b) 1), (4, .ptr 1 0 0 0), (8, .ptr 2 0 0 0), (9, .ptr 3 0 0 0)], [some (tyO t), some (vaO {}), some (rfO c s 1), some (vaO { k := 4, b := x })]⟩) ⟨0, ?_⟩ ⟨rfl, [], 1, rfl, .inl rfl, rfl⟩
    simp only [fdHp, tyO, Ty.pay, vaO, Va.pay, rfO, rdO, upd, List.set, Int.cast_ofNat_Int] at hF
    unfold fdHp
    simp (maxSteps := 2000000) -implicitDefEqProofs [-getElem?_pos, List.getElem?_cons_zero, List.getElem?_cons_succ, go_sem, eqV, plen, loadV, storeV, fdFr, hn, tyO, Ty.pay, vaO, Va.pay, rfO, rdO, hF]
  · have hW := wo_ev (H := fdHp c b t 5) (o := 2) (c := c) (k := 1) (tg := 0) (t := t.t) (s := (b, 0)) rfl (jt0 c _) hc ht
    generalize woF (b, 0) t.t = r at *
    obtain ⟨w, s⟩ := r
    simp only at *
    refine Tells.of (o := ⟨.normal, [(0, .ro c (.pb b) 1), (4, .ptr 1 0 0 0), (8, .ptr 2 0 0 0), (9, .ptr 3 0 0 0)], [some (tyO t), some (vaO {}), some (rfO c s 1), some (vaO { k := 5, w := w })]⟩) ⟨0, ?_⟩ ⟨rfl, [], 1, rfl, .inl rfl, rfl⟩
    clear hF
    simp only [fdHp, tyO, Ty.pay, vaO, Va.pay, Wh.pay, rfO, rdO, upd, List.set, Int.cast_ofNat_Int] at hW
    unfold fdHp
    simp (maxSteps := 2000000) -implicitDefEqProofs [-getElem?_pos, List.getElem?_cons_zero, List.getElem?_cons_succ, go_sem, eqV, plen, loadV, storeV, fdFr, hn, tyO, Ty.pay, vaO, Va.pay, Wh.pay, rfO, rdO, hW, flatCells, splice, scalars]
  · have hW := wo_ev (H := fdHp c b t 6) (o := 2) (c := c) (k := 1) (tg := 0) (t := t.t) (s := (b, 0)) rfl (jt0 c _) hc ht
    generalize woF (b, 0) t.t = r at *
    obtain ⟨w, s⟩ := r
    simp only at *
    refine Tells.of (o := ⟨.normal, [(0, .ro c (.pb b) 1), (4, .ptr 1 0 0 0), (8, .ptr 2 0 0 0), (9, .ptr 3 0 0 0)], [some (tyO t), some (vaO {}), some (rfO c s 1), some (vaO { k := 6, w := w })]⟩) ⟨0, ?_⟩ ⟨rfl, [], 1, rfl, .inl rfl, rfl⟩
    clear hF
    simp only [fdHp, tyO, Ty.pay, vaO, Va.pay, Wh.pay, rfO, rdO, upd, List.set, Int.cast_ofNat_Int] at hW
    unfold fdHp
    simp (maxSteps := 2000000) -implicitDefEqProofs [-getElem?_pos, List.getElem?_cons_zero, List.getElem?_cons_succ, go_sem, eqV, plen, loadV, storeV, fdFr, hn, tyO, Ty.pay, vaO, Va.pay, Wh.pay, rfO, rdO, hW, flatCells, splice, scalars]
  · have hT := ftext_ev (H := fdHp c b t 7) (o := 2) (c := c) (t := 1) (tg := 0) (s := (b, 0)) rfl (jt0 c _) hc hbm
    generalize rtF (b, 0) = r at *
    obtain ⟨x, s⟩ := r
    simp only at *
    have hW := wrong_ev (H := [some (tyO t), some (vaO {}), some (rfO c s 1), some (vaO { k := 7, t := x })]) (o := 2) (c := c) (t := 1) (tg := 1) (k := 1) (p := .pb s.1) (l := s.1) (e := s.2) (bad := decide (16777216 < x.length)) rfl (.inl rfl) (jt c 1 s)
    have hd : decide ((16777216 : Int) < (x.length : Int)) = decide (16777216 < x.length) := by
      by_cases h : 16777216 < x.length
      · rw [decide_eq_true h]; exact decide_eq_true (by omega)
      · rw [decide_eq_false h]; exact decide_eq_false (by omega)
    generalize decide (16777216 < x.length) = dd at *
    refine Tells.of (o := ⟨.normal, [(0, .ro c (.pb b) 1), (4, .ptr 1 0 0 0), (8, .ptr 2 0 0 0), (9, .ptr 3 0 0 0)], [some (tyO t), some (vaO {}), some (rfO c (wrS dd s) 1), some (vaO { k := 7, t := x })]⟩) ⟨0, ?_⟩ ⟨rfl, [], 1, rfl, .inl rfl, rfl⟩
    clear hF
    simp only [fdHp, tyO, Ty.pay, vaO, Va.pay, Wh.pay, rfO, rdO, bxO, upd, List.set, Int.cast_ofNat_Int] at hT hW
    unfold fdHp
    simp (maxSteps := 2000000) -implicitDefEqProofs [-getElem?_pos, List.getElem?_cons_zero, List.getElem?_cons_succ, go_sem, eqV, plen, loadV, storeV, fdFr, hn, tyO, Ty.pay, vaO, Va.pay, rfO, rdO, wrS, hT, hW, hd, flatCells, splice, scalars]

set_option maxRecDepth 100000 in
set_option maxHeartbeats 4000000 in
theorem rvread_code (hc : c = 0 → b = []) (ht : t.t < 256) (hbm : b.length ≤ 90000000) : ∃ code, Try.f52.body = some code ∧
    Tells (Rets (rvQ (rrV b t))) X (evT X) 52 0 code [(0, .ro c (.pb b) 1), (1, .agg t.pay)] [] := by
  refine ⟨_, rfl, ?_⟩
  have hK := rkind_ev ht [some (tyO t), some (vaO {})]
  have hbd := kind_bd t.t t.u
  have hb0 := bvV0
  have hS := rsize_ev' ht [some (tyO t), some (vaO {}), some (rfO c (b, 0) 0), some (vaO { k := kindN t.t t.u })]
  apply Tells.seq (fr' := [(0, .ro c (.pb b) 1), (3, .ptr 0 0 0 0), (4, .ptr 1 0 0 0)]) (H' := [some (tyO t), some (vaO {})])
  · (refine ⟨0, ?_⟩; simp (maxSteps := 2000000) -implicitDefEqProofs [-getElem?_pos, List.getElem?_cons_zero, List.getElem?_cons_succ, go_sem, eqV, plen, loadV, storeV, tyO, Ty.pay, vaO, Va.pay])
  apply Tells.seq (fr' := [(0, .ro c (.pb b) 1), (3, .ptr 0 0 0 0), (4, .ptr 1 0 0 0), (7, .int .i64 (kindN t.t t.u))]) (H' := [some (tyO t), some (vaO {})])
  · simp only [tyO, Ty.pay, vaO, Va.pay, Int.cast_ofNat_Int] at hK
    generalize kindN t.t t.u = k at *
    (refine ⟨0, ?_⟩; simp (maxSteps := 2000000) -implicitDefEqProofs [-getElem?_pos, List.getElem?_cons_zero, List.getElem?_cons_succ, go_sem, eqV, plen, loadV, storeV, tyO, Ty.pay, vaO, Va.pay, mkTy, hK])
  clear hK
  apply Tells.assoc
  unfold rrV
  by_cases h1 : kindN t.t t.u < 0
  · rw [if_pos h1]
    refine Tells.of (o := ⟨.ret, [(4, .ptr 1 0 0 0), (5, .int .i64 0), (6, .int .i64 2)], [some (tyO t), some (vaO {})]⟩) ⟨0, ?_⟩ ⟨rfl, rfl, rfl, rfl, rfl⟩
    simp only [Va.pay, Int.cast_ofNat_Int] at hb0
    generalize kindN t.t t.u = k at *
    simp (maxSteps := 2000000) -implicitDefEqProofs [-getElem?_pos, List.getElem?_cons_zero, List.getElem?_cons_succ, go_sem, eqV, plen, loadV, storeV, h1, tyO, Ty.pay, vaO, Va.pay, hb0, mkVa, flatCells, splice, scalars]
  rw [if_neg h1]
  apply Tells.seq (fr' := [(0, .ro c (.pb b) 1), (3, .ptr 0 0 0 0), (4, .ptr 1 0 0 0), (7, .int .i64 (kindN t.t t.u)), (15, .bool false)]) (H' := [some (tyO t), some (vaO {})])
  · generalize kindN t.t t.u = k at *
    (refine ⟨0, ?_⟩; simp (maxSteps := 2000000) -implicitDefEqProofs [-getElem?_pos, List.getElem?_cons_zero, List.getElem?_cons_succ, go_sem, eqV, plen, loadV, storeV, h1])
  apply Tells.seq (fr' := [(0, .ro c (.pb b) 1), (3, .ptr 0 0 0 0), (4, .ptr 1 0 0 0), (7, .int .i64 (kindN t.t t.u)), (15, .bool false)]) (H' := [some (tyO t), some (vaO {})])
  · exact condF (by simp [evalO, getF]) ⟨0, rfl⟩
  have hbf := fun c t b => bdF c t b
  have hbk := fun k => bvVk k
  apply Tells.seq (fr' := [(0, .ro c (.pb b) 1), (3, .ptr 0 0 0 0), (4, .ptr 1 0 0 0), (7, .int .i64 (kindN t.t t.u)), (8, .ptr 2 0 0 0)]) (H' := [some (tyO t), some (vaO {}), some (rfO c (b, 0) 0)])
  · generalize kindN t.t t.u = k at *
    (refine ⟨0, ?_⟩; simp (maxSteps := 2000000) -implicitDefEqProofs [-getElem?_pos, List.getElem?_cons_zero, List.getElem?_cons_succ, go_sem, eqV, plen, loadV, storeV, hbf, tyO, Ty.pay, vaO, Va.pay, rfO, rdO])
  apply Tells.seq (fr' := [(0, .ro c (.pb b) 1), (3, .ptr 0 0 0 0), (4, .ptr 1 0 0 0), (7, .int .i64 (kindN t.t t.u)), (8, .ptr 2 0 0 0), (9, .ptr 3 0 0 0)]) (H' := [some (tyO t), some (vaO {}), some (rfO c (b, 0) 0), some (vaO { k := kindN t.t t.u })])
  · simp only [Va.pay, Int.cast_ofNat_Int] at hbk
    generalize kindN t.t t.u = k at *
    (refine ⟨0, ?_⟩; simp (maxSteps := 2000000) -implicitDefEqProofs [-getElem?_pos, List.getElem?_cons_zero, List.getElem?_cons_succ, go_sem, eqV, plen, loadV, storeV, hbk, tyO, Ty.pay, vaO, Va.pay, rfO, rdO, mkVa, flatCells, splice, scalars])
  apply Tells.seq (fr' := [(0, .ro c (.pb b) 1), (3, .ptr 0 0 0 0), (4, .ptr 1 0 0 0), (7, .int .i64 (kindN t.t t.u)), (8, .ptr 2 0 0 0), (9, .ptr 3 0 0 0), (10, .int .i64 (rsizeN t.t : Nat))]) (H' := [some (tyO t), some (vaO {}), some (rfO c (b, 0) 0), some (vaO { k := kindN t.t t.u })])
  · simp only [tyO, Ty.pay, vaO, Va.pay, rfO, rdO, Int.cast_ofNat_Int] at hS
    generalize kindN t.t t.u = k at *
    generalize rsizeN t.t = n at *
    (refine ⟨0, ?_⟩; simp (maxSteps := 2000000) -implicitDefEqProofs [-getElem?_pos, List.getElem?_cons_zero, List.getElem?_cons_succ, go_sem, eqV, plen, loadV, storeV, tyO, Ty.pay, vaO, Va.pay, rfO, rdO, hS])
  clear hS
  apply Tells.assoc
  apply Tells.seq (fr' := fdFr c b t (kindN t.t t.u)) (H' := fdHp c b t (kindN t.t t.u))
  · unfold fdFr fdHp
    generalize kindN t.t t.u = k at *
    generalize rsizeN t.t = n at *
    (refine ⟨0, ?_⟩; simp (maxSteps := 2000000) -implicitDefEqProofs [-getElem?_pos, List.getElem?_cons_zero, List.getElem?_cons_succ, go_sem, eqV, plen, loadV, storeV])
  apply Tells.andThen (P := fdP c b t (kindN t.t t.u))
  · exact piece (fd_code c b t _ (by omega) rfl hc ht hbm) _ rfl
  rintro fr H ⟨tl, tg, rfl, htl, rfl⟩
  apply Tells.assoc
  have hsl := fdV_len b t (kindN t.t t.u)
  generalize fdV b t (kindN t.t t.u) = q at *
  obtain ⟨v, s⟩ := q
  simp only at *
  by_cases he : s.2 = 0
  case neg =>
    rw [if_pos he]
    have heb : (s.2 != 0) = true := by simpa using he
    apply Tells.seq (fr' := [(0, .ro c (.pb b) 1), (4, .ptr 1 0 0 0), (8, .ptr 2 0 0 0), (9, .ptr 3 0 0 0), (75, .bool true)]) (H' := [some (tyO t), some (vaO {}), some (rfO c s tg), some (vaO v)])
    · rcases htl with rfl | rfl
      · (refine ⟨0, ?_⟩; simp (maxSteps := 2000000) -implicitDefEqProofs [-getElem?_pos, List.getElem?_cons_zero, List.getElem?_cons_succ, go_sem, eqV, plen, loadV, storeV, rfO, rdO, heb])
      · (refine ⟨0, ?_⟩; simp (maxSteps := 2000000) -implicitDefEqProofs [-getElem?_pos, List.getElem?_cons_zero, List.getElem?_cons_succ, go_sem, eqV, plen, loadV, storeV, rfO, rdO, heb])
    refine Tells.seqOut (Tells.condT (by simp [evalO, getF]) ?_) (fun o h => by rw [h.1]; simp)
    refine Tells.of (o := ⟨.ret, [(4, .ptr 1 0 0 0), (5, .int .i64 0), (6, .int .i64 s.2)], [some (tyO t), some (vaO {}), some (rfO c s tg), some (vaO v)]⟩) ?_ ⟨rfl, rfl, rfl, rfl, rfl⟩
    apply Run.seq (fr' := [(4, .ptr 1 0 0 0), (5, .int .i64 0), (6, .int .i64 s.2)]) (H' := [some (tyO t), some (vaO {}), some (rfO c s tg), some (vaO v)])
    · simp only [Va.pay, Int.cast_ofNat_Int] at hb0
      apply Run.dy (by simp) keep52_22 (by simp)
      · (conv => lhs; simp (maxSteps := 2000000) -implicitDefEqProofs [-getElem?_pos, List.getElem?_cons_zero, List.getElem?_cons_succ, go_sem, eqV, plen, loadV, storeV, runD, out1, markOf, freeO, quietO, pushes, isAssign, calledV, touched, mentioned, opVals, touchCall, mentionCall, idsAt, Op.operands, ids, idsL, lendArgs, lendV, lend1, lendL, eqH_self, hb0, tyO, Ty.pay, vaO, Va.pay, rfO, rdO, mkVa, flatCells, splice, scalars, upd])
        rfl
      · kernel_rfl
      · rfl
    exact ⟨0, rfl⟩
  rw [if_neg (by simpa using he)]
  apply Tells.seq (fr' := [(0, .ro c (.pb b) 1), (4, .ptr 1 0 0 0), (8, .ptr 2 0 0 0), (9, .ptr 3 0 0 0), (75, .bool false)]) (H' := [some (tyO t), some (vaO {}), some (rfO c s tg), some (vaO v)])
  · rcases htl with rfl | rfl
    · (refine ⟨0, ?_⟩; simp (maxSteps := 2000000) -implicitDefEqProofs [-getElem?_pos, List.getElem?_cons_zero, List.getElem?_cons_succ, go_sem, eqV, plen, loadV, storeV, rfO, rdO, he])
    · (refine ⟨0, ?_⟩; simp (maxSteps := 2000000) -implicitDefEqProofs [-getElem?_pos, List.getElem?_cons_zero, List.getElem?_cons_succ, go_sem, eqV, plen, loadV, storeV, rfO, rdO, he])
  apply Tells.seq (fr' := [(0, .ro c (.pb b) 1), (4, .ptr 1 0 0 0), (8, .ptr 2 0 0 0), (9, .ptr 3 0 0 0), (75, .bool false)]) (H' := [some (tyO t), some (vaO {}), some (rfO c s tg), some (vaO v)])
  · exact condF (by simp [evalO, getF]) ⟨0, rfl⟩
  have w1 : IntKind.i64.wrap ((b.length : Int) - (s.1.length : Int)) = ((b.length - s.1.length : Nat) : Int) := by rw [wrap_i64 (by omega) (by omega)]; omega
  refine Tells.of (o := ⟨.ret, [(4, .ptr 1 0 0 0), (5, .int .i64 ((b.length - s.1.length : Nat) : Int)), (6, .int .i64 0)], [some (tyO t), some (vaO v), some (rfO c s tg), some (vaO v)]⟩) ?_ ⟨rfl, rfl, rfl, rfl, rfl⟩
  apply Run.seq (fr' := [(4, .ptr 1 0 0 0), (5, .int .i64 ((b.length - s.1.length : Nat) : Int)), (6, .int .i64 0)]) (H' := [some (tyO t), some (vaO v), some (rfO c s tg), some (vaO v)])
  · generalize b.length - s.1.length = n at *
    apply Run.dy (by simp) keep52_23 (by simp)
    · (conv => lhs; simp (maxSteps := 2000000) -implicitDefEqProofs [-getElem?_pos, List.getElem?_cons_zero, List.getElem?_cons_succ, go_sem, eqV, plen, loadV, storeV, runD, out1, markOf, freeO, quietO, pushes, isAssign, calledV, touched, mentioned, opVals, touchCall, mentionCall, idsAt, Op.operands, ids, idsL, lendArgs, lendV, lend1, lendL, eqH_self, tyO, Ty.pay, vaO, Va.pay, rfO, rdO, w1, mkVa, flatCells, splice, scalars, upd])
      rfl
    · kernel_rfl
    · rfl
  exact ⟨0, rfl⟩

end

theorem rvread_ev {H : AM.Heap} {a : AV} {b : List UInt8} {t : Ty} (h : Byt H a b) (ht : t.t < 256) (hbm : b.length ≤ 90000000) :
    evT X 52 [a, .agg t.pay] H = some (.tup [.agg (rrV b t).1.pay, .int .i64 ((rrV b t).2.1 : Nat), .int .i64 (rrV b t).2.2], H) := by
  obtain ⟨c, p, xl, hp, hc, hx'⟩ := args_byt (C := X) (f := 52) (i := 0) rfl h (args_ty (f := 52) (i := 1) (t := t) (args_nil 2))
  obtain ⟨code, hcode, o, ⟨he, q4, q0, q5, q6⟩, hr⟩ := rvread_code c b t hc ht hbm
  refine evT_eq (Ev1.toldP (l := [.agg (rrV b t).1.pay, .int .i64 ((rrV b t).2.1 : Nat), .int .i64 (rrV b t).2.2]) (evT_below X) Try.func52 hcode hx' (by simp [idsL, ids, Ty.pay]) (by simp [gtag]) (by simp [idsL, ids, Va.pay]) (by simp [tagsL, tags, Va.pay]) rfl ⟨o, ⟨he, ?_⟩, by rw [par52, coB hp]; exact hr⟩)
  generalize rrV b t = r at *
  show resultsV X o.fr o.H [.cell 4 32, .tmp 5, .tmp 6] = _
  simp only [vaO, Va.pay] at q0
  simp [resultsV, q4, q5, q6, loadV, live, q0, pagg, mkVa, Va.pay]

end Go.Proofs.Ytbmddnokokoofaa

/- Plain: both readings of a moment agree. -/
namespace Go.Proofs.Ytbmddnokokoofaa
open Go.AM
set_option linter.unusedSimpArgs false
set_option linter.unusedVariables false

theorem fx_at (l : List UInt8) (i k : Nat) (h : i + k ≤ l.length) : fx k (l.drop i, 0) = (nb l i k, l.drop (i + k), 0) := by
  unfold fx nb
  rw [if_neg (by simp), if_neg (by simp only [List.length_drop]; omega), List.drop_drop]

def rds (ks : List Nat) (s : St) : St := ks.foldl (fun s k => (fx k s).2) s

theorem rds_err (ks : List Nat) : ∀ s : St, s.2 = 4 → (rds ks s).2 = 4 := by
  induction ks with
  | nil => intro s h; exact h
  | cons k ks ih =>
    intro s h
    refine ih _ (show (fx k s).2.2 = 4 from ?_)
    unfold fx
    rw [if_pos (by rw [h]; decide)]; exact h

theorem rds_short (l : List UInt8) (ks : List Nat) : ∀ i, i ≤ l.length → l.length < i + ks.sum → (rds ks (l.drop i, 0)).2 = 4 := by
  induction ks with
  | nil => intro i h1 h2; simp at h2; omega
  | cons k ks ih =>
    intro i h1 h2
    simp only [List.sum_cons] at h2
    show (rds ks (fx k (l.drop i, 0)).2).2 = 4
    by_cases h : i + k ≤ l.length
    · rw [fx_at l i k h]
      exact ih (i + k) h (by omega)
    · refine rds_err ks _ ?_
      unfold fx
      rw [if_neg (by simp), if_pos (by simp only [List.length_drop]; omega)]

theorem nb_take (l : List UInt8) (n i k : Nat) (z : List UInt8) (h : i + k ≤ n) (hn : n ≤ l.length) : nb (l.take n ++ z) i k = nb l i k := by
  unfold nb
  rw [List.drop_append_of_le_length (by simp; omega), List.take_append_of_le_length (by simp; omega), List.drop_take, List.take_take, Nat.min_eq_left (by omega)]

theorem leV_rep : ∀ n, leV (List.replicate n 0) = 0 := leV_zeros

theorem nb_zero (l : List UInt8) (n i k m : Nat) (h : n ≤ i) (hn : n ≤ l.length) : nb (l.take n ++ List.replicate m 0) i k = 0 := by
  unfold nb
  rw [List.drop_append, List.drop_of_length_le (by simp; omega), List.nil_append, List.drop_replicate, List.take_replicate, leV_rep]

theorem wr4 (b : Bool) : wr b 4 = 4 := rfl
theorem wr5 (b : Bool) : wr b 5 = 5 := rfl
theorem wr0 (b : Bool) : wr b 0 = if b = true then 5 else 0 := by unfold wr; cases b <;> rfl

theorem kn_sp (n : Nat) : spBad n = !knW n 11 := by
  unfold spBad knW szL
  rw [if_pos rfl]
  by_cases h0 : n = 0
  · subst h0; rfl
  by_cases h8 : n = 8
  · subst h8; rfl
  by_cases h12 : n = 12
  · subst h12; rfl
  have e0 : ((n : Int) == 0) = false := beq_eq_false_iff_ne.2 (by omega)
  have e8 : ((n : Int) == 8) = false := beq_eq_false_iff_ne.2 (by omega)
  have e12 : ((n : Int) == 12) = false := beq_eq_false_iff_ne.2 (by omega)
  simp [h0, h8, h12, e0, e8, e12]

theorem kn_mo (n t : Nat) (h : t ≠ 11) : moBad n = !knW n t := by
  unfold moBad knW szL
  rw [if_neg h]
  by_cases h0 : n = 0
  · subst h0; rfl
  by_cases h8 : n = 4
  · subst h8; rfl
  by_cases h12 : n = 7
  · subst h12; rfl
  by_cases h13 : n = 11
  · subst h13; rfl
  have e0 : ((n : Int) == 0) = false := beq_eq_false_iff_ne.2 (by omega)
  have e8 : ((n : Int) == 4) = false := beq_eq_false_iff_ne.2 (by omega)
  have e12 : ((n : Int) == 7) = false := beq_eq_false_iff_ne.2 (by omega)
  have e13 : ((n : Int) == 11) = false := beq_eq_false_iff_ne.2 (by omega)
  simp [h0, h8, h12, h13, e0, e8, e12, e13]

theorem kn_cases {n t : Nat} (h : knW n t = true) : (t = 11 ∧ (n = 0 ∨ n = 8 ∨ n = 12)) ∨ (t ≠ 11 ∧ (n = 0 ∨ n = 4 ∨ n = 7 ∨ n = 11)) := by
  unfold knW szL at h
  split at h
  · left; simp at h; omega
  · right; simp at h; omega

/-- what both tell: the moment, how many bytes, the error -/
def Agree (b : List UInt8) (t : Nat) (r : Wh × St) : Prop := r.2.2 = (rdW b t).2.2 ∧ ((rdW b t).2.2 = 0 → r.1 = (rdW b t).1 ∧ r.2.1 = b.drop (rdW b t).2.1)

theorem nb_head (l : List UInt8) (h : 1 ≤ l.length) : nb l 0 1 = (l.headD 0).toNat := by
  cases l with
  | nil => simp at h
  | cons y ys => simp [nb, leV]

theorem head_take (l : List UInt8) (n : Nat) (z : List UInt8) (hn : 1 ≤ n) (h : n ≤ l.length) : (l.take n ++ z).headD 0 = l.headD 0 := by
  cases l with
  | nil => simp at h; omega
  | cons y ys =>
    cases n with
    | zero => omega
    | succ n => rfl

theorem st0 (l : List UInt8) : ((l, 0) : St) = (l.drop 0, 0) := rfl

theorem clF_at (l : List UInt8) (i : Nat) (w : Wh) (m : Bool) (h : i + 3 + (if m then 4 else 0) ≤ l.length) :
    clF (l.drop i, 0) w m = ({ w with h := (nb l i 1 : Nat), mi := (nb l (i + 1) 1 : Nat), s := (nb l (i + 2) 1 : Nat), us := if m then (nb l (i + 3) 4 : Nat) else w.us }, (l.drop (i + 3 + (if m then 4 else 0)), 0)) := by
  unfold clF
  rw [fx_at l i 1 (by omega)]
  simp only
  rw [fx_at l (i + 1) 1 (by omega)]
  simp only
  rw [fx_at l (i + 1 + 1) 1 (by omega)]
  cases m with
  | false => rfl
  | true =>
    simp only [if_true] at h ⊢
    rw [fx_at l (i + 1 + 1 + 1) 4 (by omega)]

theorem spF_at (l : List UInt8) (n : Nat) (hn : n = 8 ∨ n = 12) (h : n ≤ l.length) :
    spF n (l, 0) = (spW (l.take n ++ List.replicate (13 - n) 0), (l.drop n, wr (decide (1 < ((l.take n ++ List.replicate (13 - n) 0).headD 0).toNat)) 0)) := by
  unfold spF
  rw [if_pos ⟨rfl, by omega⟩, st0, fx_at l 0 1 (by omega)]
  simp only
  rw [fx_at l (0 + 1) 4 (by omega)]
  simp only
  have hh := head_take l n (List.replicate (13 - n) 0) (by omega) h
  have h0 := nb_head l (by omega)
  rw [h0]
  rcases hn with rfl | rfl
  · rw [clF_at l (0 + 1 + 4) _ _ (by simp; omega)]
    unfold spW wrS
    rw [hh, nb_take l 8 1 4 _ (by omega) h, nb_take l 8 5 1 _ (by omega) h, nb_take l 8 6 1 _ (by omega) h, nb_take l 8 7 1 _ (by omega) h, nb_zero l 8 8 4 _ (by omega) h]
    rfl
  · rw [clF_at l (0 + 1 + 4) _ _ (by simp; omega)]
    unfold spW wrS
    rw [hh, nb_take l 12 1 4 _ (by omega) h, nb_take l 12 5 1 _ (by omega) h, nb_take l 12 6 1 _ (by omega) h, nb_take l 12 7 1 _ (by omega) h, nb_take l 12 8 4 _ (by omega) h]
    rfl

theorem spF_zero (l : List UInt8) : spF 0 (l, 0) = (spW (l.take 0 ++ List.replicate 13 0), (l.drop 0, wr (decide (1 < ((l.take 0 ++ List.replicate 13 (0 : UInt8)).headD 0).toNat)) 0)) := by
  unfold spF
  rw [if_neg (by simp)]
  rfl

theorem dyF_at (l : List UInt8) (n : Nat) (hn : 4 ≤ n) (h : n ≤ l.length) : dyF n (l, 0) = ({ y := (nb l 0 2 : Nat), mo := (nb l 2 1 : Nat), d := (nb l 3 1 : Nat) }, (l.drop 4, 0)) := by
  unfold dyF
  rw [if_pos ⟨rfl, by omega⟩, st0, fx_at l 0 2 (by omega)]
  simp only
  rw [fx_at l (0 + 2) 1 (by omega)]
  simp only
  rw [fx_at l (0 + 2 + 1) 1 (by omega)]

theorem moF_at (l : List UInt8) (n : Nat) (hn : n = 4 ∨ n = 7 ∨ n = 11) (h : n ≤ l.length) : moF n (l, 0) = (moW (l.take n ++ List.replicate (13 - n) 0), (l.drop n, 0)) := by
  unfold moF
  rw [dyF_at l n (by omega) h]
  simp only
  unfold moW
  rcases hn with rfl | rfl | rfl
  · rw [if_neg (by simp), nb_take l 4 0 2 _ (by omega) h, nb_take l 4 2 1 _ (by omega) h, nb_take l 4 3 1 _ (by omega) h, nb_zero l 4 4 1 _ (by omega) h, nb_zero l 4 5 1 _ (by omega) h, nb_zero l 4 6 1 _ (by omega) h, nb_zero l 4 7 4 _ (by omega) h]
    rfl
  · rw [if_pos ⟨trivial, by decide⟩, clF_at l 4 _ _ (by simp; omega), nb_take l 7 0 2 _ (by omega) h, nb_take l 7 2 1 _ (by omega) h, nb_take l 7 3 1 _ (by omega) h, nb_take l 7 4 1 _ (by omega) h, nb_take l 7 5 1 _ (by omega) h, nb_take l 7 6 1 _ (by omega) h, nb_zero l 7 7 4 _ (by omega) h]
    rfl
  · rw [if_pos ⟨trivial, by decide⟩, clF_at l 4 _ _ (by simp; omega), nb_take l 11 0 2 _ (by omega) h, nb_take l 11 2 1 _ (by omega) h, nb_take l 11 3 1 _ (by omega) h, nb_take l 11 4 1 _ (by omega) h, nb_take l 11 5 1 _ (by omega) h, nb_take l 11 6 1 _ (by omega) h, nb_take l 11 7 4 _ (by omega) h]
    rfl

theorem moF_zero (l : List UInt8) : moF 0 (l, 0) = (moW (l.take 0 ++ List.replicate 13 0), (l.drop 0, 0)) := by
  unfold moF dyF
  rw [if_neg (by simp), if_neg (by simp)]
  rfl

/-- the fields when bytes are lacking -/
theorem spF_short (l : List UInt8) (n : Nat) (hn : n = 8 ∨ n = 12) (h : l.length < n) : (spF n (l, 0)).2.2 = 4 := by
  unfold spF
  rw [if_pos ⟨rfl, by omega⟩]
  have e : ∀ st : St, st.2 = 4 → (wrS (decide (1 < (fx 1 (l, 0)).1)) st).2 = 4 := fun st h => by unfold wrS; rw [h]; rfl
  refine e _ ?_
  rcases hn with rfl | rfl
  · exact rds_short l [1, 4, 1, 1, 1] 0 (by omega) (by simpa using h)
  · exact rds_short l [1, 4, 1, 1, 1, 4] 0 (by omega) (by simpa using h)

theorem moF_short (l : List UInt8) (n : Nat) (hn : n = 4 ∨ n = 7 ∨ n = 11) (h : l.length < n) : (moF n (l, 0)).2.2 = 4 := by
  have hd : (dyF n (l, 0)).2 = rds [2, 1, 1] (l, 0) := by unfold dyF; rw [if_pos ⟨rfl, by omega⟩]; rfl
  unfold moF
  by_cases h4 : l.length < 4
  · have he : (dyF n (l, 0)).2.2 = 4 := by rw [hd]; exact rds_short l [2, 1, 1] 0 (by omega) (by simpa using h4)
    rw [if_neg (by rw [he]; simp)]
    exact he
  · have ho := dyF_at l 4 (by omega) (by omega)
    have hd4 : dyF n (l, 0) = dyF 4 (l, 0) := by unfold dyF; rw [if_pos ⟨rfl, by omega⟩, if_pos ⟨rfl, by omega⟩]
    rw [hd4, ho]
    simp only
    rw [if_pos ⟨trivial, by omega⟩]
    rcases hn with rfl | rfl | rfl
    · omega
    · exact rds_short l [1, 1, 1] 4 (by omega) (by simpa using h)
    · exact rds_short l [1, 1, 1, 4] 4 (by omega) (by simpa using h)

theorem wo_agree (b : List UInt8) (t : Nat) : Agree b t (woF (b, 0) t) := by
  unfold Agree
  cases b with
  | nil =>
    have hr : rdW [] t = ({}, 0, 4) := rfl
    rw [hr]
    have hf1 : fx 1 (([], 0) : St) = (0, [], 4) := rfl
    have hw : whF ([], 0) t = ({}, [], 4) := by
      unfold whF
      rw [hf1]
      simp only
      split
      · rfl
      · rfl
    unfold woF
    rw [hw]
    exact ⟨rfl, fun h => by cases h⟩
  | cons y ys =>
    have hf1 : fx 1 (y :: ys, 0) = (y.toNat, ys, 0) := by
      unfold fx; rw [if_neg (by simp), if_neg (by simp)]; simp [leV]
    have hwh : whF (y :: ys, 0) t = if t = 11 then spF y.toNat (wrS (spBad y.toNat) (ys, 0)) else moF y.toNat (wrS (moBad y.toNat) (ys, 0)) := by
      unfold whF; rw [hf1]
    have hcw : cW (y :: ys) = ys.take y.toNat ++ List.replicate (13 - y.toNat) 0 := rfl
    have hrd : rdW (y :: ys) t = if knW y.toNat t = false then ({}, 0, 5) else if ys.length < y.toNat then ({}, 0, 4) else
        if t = 11 then (if 1 < ((cW (y :: ys)).headD 0).toNat then ({}, 0, 5) else if fin (spW (cW (y :: ys))) t = false then ({}, 0, 5) else (spW (cW (y :: ys)), 1 + y.toNat, 0))
        else if fin (moW (cW (y :: ys))) t = false then ({}, 0, 5) else (moW (cW (y :: ys)), 1 + y.toNat, 0) := by
      unfold rdW
      rw [if_neg (by simp)]
      show (if knW y.toNat t = false then (({} : Wh), 0, (5 : Int)) else if ys.length + 1 < 1 + y.toNat then ({}, 0, 4) else _) = _
      by_cases h : ys.length < y.toNat
      · rw [if_pos h, if_pos (show ys.length + 1 < 1 + y.toNat by omega)]
      · rw [if_neg h, if_neg (show ¬ ys.length + 1 < 1 + y.toNat by omega)]
        rfl
    have hdr : (y :: ys).drop (1 + y.toNat) = ys.drop y.toNat := by rw [Nat.add_comm]; rfl
    rw [hrd]
    unfold woF
    cases hk : knW y.toNat t with
    | false =>
      rw [if_pos rfl]
      have : ∃ w s, whF (y :: ys, 0) t = (w, s) ∧ s.2 = 5 := by
        rw [hwh]
        by_cases h11 : t = 11
        · subst h11
          rw [if_pos rfl, kn_sp, hk]
          unfold spF
          rw [if_neg (by simp [wrS, wr])]
          exact ⟨_, _, rfl, rfl⟩
        · rw [if_neg h11, kn_mo _ _ h11, hk]
          have hd : dyF y.toNat (wrS (!false) (ys, 0)) = ({}, ys, 5) := by
            unfold dyF
            rw [if_neg (by simp [wrS, wr])]; rfl
          unfold moF
          rw [hd, if_neg (by simp)]
          exact ⟨_, _, rfl, rfl⟩
      obtain ⟨w, s, h1, h2⟩ := this
      rw [h1]
      simp only [wrS]
      rw [h2]
      exact ⟨rfl, fun h => by cases h⟩
    | true =>
    rw [if_neg (by simp)]
    have hcase := kn_cases hk
    by_cases hs : ys.length < y.toNat
    · rw [if_pos hs]
      have : (whF (y :: ys, 0) t).2.2 = 4 := by
        rw [hwh]
        rcases hcase with ⟨rfl, hn⟩ | ⟨h11, hn⟩
        · rw [if_pos rfl, kn_sp, hk]
          exact spF_short ys _ (by omega) hs
        · rw [if_neg h11, kn_mo _ _ h11, hk]
          exact moF_short ys _ (by omega) hs
      simp only [wrS]
      rw [this]
      exact ⟨rfl, fun h => by cases h⟩
    rw [if_neg hs]
    rcases hcase with ⟨rfl, hn⟩ | ⟨h11, hn⟩
    · rw [if_pos rfl]
      have hw : whF (y :: ys, 0) 11 = (spW (cW (y :: ys)), (ys.drop y.toNat, wr (decide (1 < ((cW (y :: ys)).headD 0).toNat)) 0)) := by
        rw [hwh, if_pos rfl, kn_sp, hk, hcw]
        show spF y.toNat (ys, 0) = _
        by_cases h0 : y.toNat = 0
        · rw [h0]; exact spF_zero ys
        · exact spF_at ys _ (by omega) (by omega)
      rw [hw]
      simp only [wrS]
      by_cases h1 : 1 < ((cW (y :: ys)).headD 0).toNat
      · rw [if_pos h1, decide_eq_true h1]
        exact ⟨rfl, fun h => by cases h⟩
      · rw [if_neg h1, decide_eq_false h1]
        cases hf : fin (spW (cW (y :: ys))) 11 with
        | false => rw [if_pos rfl]; exact ⟨rfl, fun h => by cases h⟩
        | true => rw [if_neg (by simp)]; exact ⟨rfl, fun _ => ⟨rfl, by rw [hdr]⟩⟩
    · rw [if_neg h11]
      have hw : whF (y :: ys, 0) t = (moW (cW (y :: ys)), (ys.drop y.toNat, 0)) := by
        rw [hwh, if_neg h11, kn_mo _ _ h11, hk, hcw]
        show moF y.toNat (ys, 0) = _
        by_cases h0 : y.toNat = 0
        · rw [h0]; exact moF_zero ys
        · exact moF_at ys _ (by omega) (by omega)
      rw [hw]
      simp only [wrS]
      cases hf : fin (moW (cW (y :: ys))) t with
      | false => rw [if_pos rfl]; exact ⟨rfl, fun h => by cases h⟩
      | true => rw [if_neg (by simp)]; exact ⟨rfl, fun _ => ⟨rfl, by rw [hdr]⟩⟩

end Go.Proofs.Ytbmddnokokoofaa

/- Plain: both readings of a value agree. -/
namespace Go.Proofs.Ytbmddnokokoofaa
open Go.AM
set_option linter.unusedSimpArgs false
set_option linter.unusedVariables false

theorem rdW_le (b : List UInt8) (t : Nat) : (rdW b t).2.1 ≤ b.length := by
  unfold rdW
  repeat' split
  all_goals (try exact Nat.zero_le _)
  all_goals (simp only; omega)

theorem fx_rf (b : List UInt8) (n : Nat) (h1 : 1 ≤ n) (h8 : n ≤ 8) : (fx n (b, 0)).2.2 = (rfR b (n : Nat)).2 ∧ (((fx n (b, 0)).1 : Nat) : Int) = (rfR b (n : Nat)).1 ∧ ((rfR b (n : Nat)).2 = 0 → b.length - (fx n (b, 0)).2.1.length = n) := by
  have hf : fx n (b, 0) = if b.length < n then (0, b, 4) else (leV (b.take n), b.drop n, 0) := if_neg (by simp)
  have hr : rfR b (n : Nat) = if (b.length : Int) < (n : Int) then (0, 4) else (((leV (b.take n) : Nat) : Int), 0) := if_neg (by omega)
  rw [hf, hr]
  by_cases h : b.length < n
  · rw [if_pos h, if_pos (show (b.length : Int) < (n : Int) by omega)]
    exact ⟨rfl, rfl, fun h => by cases h⟩
  · rw [if_neg h, if_neg (show ¬ (b.length : Int) < (n : Int) by omega)]
    exact ⟨rfl, rfl, fun _ => by simp only [List.length_drop]; omega⟩

theorem rv_eq (b : List UInt8) (t : Ty) : rrV b t = rdV b t := by
  have hbd := kind_bd t.t t.u
  unfold rrV rdV
  by_cases h1 : kindN t.t t.u < 0
  · rw [if_pos h1, if_pos h1]
  rw [if_neg h1, if_neg h1]
  have hnum : (kindN t.t t.u = 1 ∨ kindN t.t t.u = 2 ∨ kindN t.t t.u = 3 ∨ kindN t.t t.u = 4) → rsizeN t.t = sizeN t.t ∧ 1 ≤ sizeN t.t ∧ sizeN t.t ≤ 8 := by
    intro hk
    have := size_num (t := t.t) (u := t.u) hk
    exact ⟨rsize_eq (by omega), by omega, by omega⟩
  have hwo := wo_agree b t.t
  generalize kindN t.t t.u = k at *
  rcases (show k = 0 ∨ k = 1 ∨ (k = 2 ∨ k = 3 ∨ k = 4) ∨ (k = 5 ∨ k = 6) ∨ k = 7 by omega) with rfl | hk1 | hk | hk | hk7
  · have hF : fdV b t 0 = ({ k := 0 }, (b, 0)) := rfl
    rw [hF]
    simp
  · obtain ⟨e, n1, n8⟩ := hnum (.inl hk1)
    have hF : fdV b t k = ({ k := 1, i := sgV ((fx (sizeN t.t) (b, 0)).1 : Nat) (sizeN t.t) }, (fx (sizeN t.t) (b, 0)).2) := by
      unfold fdV; rw [if_pos hk1, e]
    obtain ⟨f1, f2, f3⟩ := fx_rf b (sizeN t.t) n1 n8
    rw [hF, if_neg (show ¬ k = 0 by omega), if_neg (show ¬ (k = 5 ∨ k = 6) by omega), if_neg (show ¬ k = 7 by omega), if_pos hk1]
    simp only
    rw [f1, f2]
    by_cases he : (rfR b (sizeN t.t)).2 = 0
    · rw [if_neg (fun h => h he), if_neg (fun h => h he), f3 he]
    · rw [if_pos he, if_pos he]
  · obtain ⟨e, n1, n8⟩ := hnum (.inr hk)
    have hF : fdV b t k = ({ k := k, b := (fx (sizeN t.t) (b, 0)).1 }, (fx (sizeN t.t) (b, 0)).2) := by
      unfold fdV; rw [if_neg (show ¬ k = 1 by omega), if_pos hk, e]
    obtain ⟨f1, f2, f3⟩ := fx_rf b (sizeN t.t) n1 n8
    rw [hF, if_neg (show ¬ k = 0 by omega), if_neg (show ¬ (k = 5 ∨ k = 6) by omega), if_neg (show ¬ k = 7 by omega), if_neg (show ¬ k = 1 by omega)]
    simp only
    rw [f1, ← f2, Int.toNat_natCast]
    by_cases he : (rfR b (sizeN t.t)).2 = 0
    · rw [if_neg (fun h => h he), if_neg (fun h => h he), f3 he]
    · rw [if_pos he, if_pos he]
  · obtain ⟨a1, a2⟩ := hwo
    have hF : fdV b t k = ({ k := k, w := (woF (b, 0) t.t).1 }, (woF (b, 0) t.t).2) := by
      unfold fdV; rw [if_neg (show ¬ k = 1 by omega), if_neg (show ¬ (k = 2 ∨ k = 3 ∨ k = 4) by omega), if_pos hk]
    rw [hF, if_neg (show ¬ k = 0 by omega), if_pos hk]
    simp only
    rw [a1]
    by_cases he : (rdW b t.t).2.2 = 0
    · rw [if_neg (fun h => h he), if_neg (fun h => h he)]
      obtain ⟨a3, a4⟩ := a2 he
      have := rdW_le b t.t
      rw [a3, a4, List.length_drop, show b.length - (b.length - (rdW b t.t).2.1) = (rdW b t.t).2.1 by omega]
    · rw [if_pos he, if_pos he]
  · have hr : rtF (b, 0) = ((rdT b).1, b.drop (rdT b).2.1, (rdT b).2.2) := if_neg (by simp)
    have hF : fdV b t k = ({ k := 7, t := (rdT b).1 }, (b.drop (rdT b).2.1, wr (decide (16777216 < (rdT b).1.length)) (rdT b).2.2)) := by
      unfold fdV; rw [if_neg (show ¬ k = 1 by omega), if_neg (show ¬ (k = 2 ∨ k = 3 ∨ k = 4) by omega), if_neg (show ¬ (k = 5 ∨ k = 6) by omega), if_pos hk7, hr]; rfl
    rw [hF, if_neg (show ¬ k = 0 by omega), if_neg (show ¬ (k = 5 ∨ k = 6) by omega), if_pos hk7]
    simp only
    have hle := rdT_le' b
    by_cases he : (rdT b).2.2 = 0
    · rw [he, if_neg (show ¬ ((0 : Int) ≠ 0) by simp)]
      by_cases hs : 16777216 < (rdT b).1.length
      · rw [if_pos hs, decide_eq_true hs, wr0, if_pos rfl, if_pos (by decide)]
      · rw [if_neg hs, decide_eq_false hs, wr0, if_neg (by decide), List.length_drop, show b.length - (b.length - (rdT b).2.1) = (rdT b).2.1 by omega]
    · have hw : wr (decide (16777216 < (rdT b).1.length)) (rdT b).2.2 = (rdT b).2.2 := if_neg (fun h => he h.1)
      rw [hw, if_pos he, if_pos he]

end Go.Proofs.Ytbmddnokokoofaa

/- Walks: parameters read: all of them. -/
namespace Go.Proofs.Ytbmddnokokoofaa
open Go.AM
set_option linter.unusedSimpArgs false
set_option linter.unusedVariables false

theorem rdV_le (b : List UInt8) (t : Ty) (hb : b.length ≤ 90000000) : (rdV b t).2.1 ≤ b.length := by
  have h1 := rdW_le b t.t
  have h2 := rdT_le' b
  unfold rdV
  by_cases hr : (rfR b (sizeN t.t)).2 = 0
  · have hs : sizeN t.t ≤ b.length := by
      unfold rfR at hr
      split at hr
      · cases hr
      · split at hr
        · cases hr
        · omega
    repeat' split
    all_goals (simp only)
    all_goals omega
  · rw [if_pos hr]
    repeat' split
    all_goals (simp only)
    all_goals omega

section
variable (c : Nat) (b : List UInt8) (cg : Nat) (g : List Bool) (ts : List Ty) (fi : Nat) (A : AV)

theorem PrHp.push {H : AM.Heap} {a : List Pm} {i : Nat} {x : Option AM.Obj} (h : PrHp c b cg g ts A H a i) : PrHp c b cg g ts A (H ++ [x]) a i := by
  obtain ⟨h0, ⟨tg, h1⟩, ⟨ob, h2, h3⟩, h4⟩ := h
  exact ⟨at_cat h0, ⟨tg, at_cat h1⟩, ⟨ob, at_cat h2, h3⟩, h4.more⟩

def prFn (i : Nat) (r : List UInt8) : AM.Frame := [(8, .sl 2 0 (i + 1) (i + 1)), (11, .fn 22 [.ptr 1 0 0 0]), (13, .fn 23 [.ptr 0 0 0 0]), (15, .ro c (.pb r) 1), (16, .int .u8 (fi : Nat)), (111, A), (112, .int .i64 (ts.length : Nat)), (113, .int .i64 (i : Nat))]

/-- what a round tells -/
def PrQ (i : Nat) (a : List Pm) (r : List UInt8) (o : AM.Out) : Prop :=
  (o.ex = .normal ∧ ∃ a' r', (∀ k, prF b g ts (k + 1) i a r = prF b g ts k (i + 1) a' r') ∧ a'.length = i + 1 ∧ r'.length ≤ r.length ∧ o.fr = prFr c ts fi A (i + 1) r' ∧ PrHp c b cg g ts A o.H a' (i + 1)) ∨
  (∃ e, (∀ k, prF b g ts (k + 1) i a r = ([], [], e)) ∧ prE e o)

set_option maxRecDepth 100000 in
set_option maxHeartbeats 8000000 in
theorem pr_round (i : Nat) (r : List UInt8) (a : List Pm) (H : AM.Heap) (t : Ty) (hc : c ≠ 0) (hn : ts.length ≤ 65535) (hb : ts.length ≤ 8 * b.length) (ht : ts[i]? = some t) (htt : t.t < 256) (hal : a.length = i) (hr : r.length ≤ 90000000) (hH : PrHp c b cg g ts A H a i) :
    ∃ code, ((Try.f9.body).bind (codeAt [1, 1, 1, 1, 1, 1, 1, 1, 1, 1, 1, 1, 1, 0, 1, 0, 0])) = some code ∧ Tells (PrQ c b cg g ts fi A i a r) X (evT X) 9 0 code (prFr c ts fi A i r) H := by
  refine ⟨_, rfl, ?_⟩
  have hlt := at_lt ht
  have hiI : (i : Int) < (ts.length : Int) := by omega
  have w1 : IntKind.i64.wrap ((i : Int) + 1) = ((i + 1 : Nat) : Int) := by rw [wrap_i64 (by omega) (by omega)]; omega
  have hti : tyI ts i = t := by unfold tyI; rw [List.getD, ht]; rfl
  have hF : ∀ k, prF b g ts (k + 1) i a r = if lgB g i = true ∨ bitB b i = true then prF b g ts k (i + 1) (a ++ [⟨t, lgB g i, {}⟩]) r
    else if t.t = 6 then ([], [], 5)
    else if (rdV r t).2.2 ≠ 0 then ([], [], (rdV r t).2.2)
    else prF b g ts k (i + 1) (a ++ [⟨t, false, (rdV r t).1⟩]) (r.drop (rdV r t).2.1) := by
    intro k; rw [prF, hti]
  have hl2 := at_lt hH.h2.choose_spec.1
  apply Tells.seq (fr' := prFr c ts fi A i r ++ [(114, .bool true)]) (H' := H)
  · (refine ⟨0, ?_⟩; simp (maxSteps := 2000000) -implicitDefEqProofs [-getElem?_pos, List.getElem?_cons_zero, List.getElem?_cons_succ, go_sem, eqV, plen, loadV, storeV, prFr, hiI])
  apply Tells.seq (fr' := prFr c ts fi A i r ++ [(114, .bool true)]) (H' := H)
  · exact condT (by simp [evalO, getF, prFr]) ⟨0, rfl⟩
  apply Tells.or (P := fun fr H' => ∃ a' r', (∀ k, prF b g ts (k + 1) i a r = prF b g ts k (i + 1) a' r') ∧ a'.length = i + 1 ∧ r'.length ≤ r.length ∧ fr = prFn c ts fi A i r' ∧ PrHp c b cg g ts A H' a' (i + 1))
  case h' =>
    rintro fr H' ⟨a', r', h1, h2, h3, rfl, h5⟩
    refine Tells.of (o := ⟨.normal, prFr c ts fi A (i + 1) r', H'⟩) ⟨0, ?_⟩ (.inl ⟨rfl, a', r', h1, h2, h3, rfl, h5⟩)
    simp (maxSteps := 2000000) -implicitDefEqProofs [-getElem?_pos, List.getElem?_cons_zero, List.getElem?_cons_succ, go_sem, eqV, plen, loadV, storeV, prFr, prFn, w1]
  case h =>
  apply Tells.blkOr
  case hq =>
    rintro o (⟨h, _⟩ | ⟨e, _, _, h, _⟩)
    · rw [h]; simp
    · rw [h]; simp
  apply Tells.seq (piece (pr_own c b cg g ts fi A i r a H t hn hb ht hH) _ rfl)
  have hH1 := hH.push (x := some (tyO t))
  generalize hH1g : H ++ [some (tyO t)] = H1 at *
  have hL1 : H1.length = H.length + 1 := by rw [← hH1g]; simp
  have hty : H1[H.length]? = some (some (tyO t)) := by rw [← hH1g]; simp
  obtain ⟨tg, hlo⟩ := hH1.h1
  apply Tells.seq (piece (pr_new c cg g ts fi A i r H1 t H.length tg (by omega) hlo hty (by omega)) _ rfl)
  have hH1' : PrHp c b cg g ts A (upd H1 1 (some (roB cg (.pc (g.map .bool)) 4 4))) a i := by
    obtain ⟨k0, k1, ⟨ob, k2, k3⟩, k4⟩ := hH1
    refine ⟨at_ne k0 (by omega), ⟨4, at_set hlo⟩, ⟨ob, at_ne k2 (by omega), k3⟩, ?_⟩
    rcases k4 with q | ⟨o, g', obA, q1, q2, q3, q4⟩
    · exact .inl q
    · exact .inr ⟨o, g', obA, q1, q2, at_ne q3 (by omega), q4⟩
  have hty : (upd H1 1 (some (roB cg (.pc (g.map .bool)) 4 4)))[H.length]? = some (some (tyO t)) := at_ne hty (by omega)
  have hLu : (upd H1 1 (some (roB cg (.pc (g.map .bool)) 4 4))).length = H1.length := by simp [upd]
  rw [← hLu]
  rw [← hLu] at hL1
  generalize hHu : upd H1 1 (some (roB cg (.pc (g.map .bool)) 4 4)) = Hu at *
  have hH2 := hH1'.push (x := some (pmO ⟨t, lgB g i, {}⟩))
  have hpm : (Hu ++ [some (pmO ⟨t, lgB g i, {}⟩)])[Hu.length]? = some (some (pmO ⟨t, lgB g i, {}⟩)) := by simp
  have hty2 : (Hu ++ [some (pmO ⟨t, lgB g i, {}⟩)])[H.length]? = some (some (tyO t)) := at_cat hty
  generalize hH2g : Hu ++ [some (pmO ⟨t, lgB g i, {}⟩)] = H2 at *
  have hL2 : H2.length = Hu.length + 1 := by rw [← hH2g]; simp
  generalize hL1g : Hu.length = L1 at *
  generalize hLg : H.length = L at *
  have hset := set_at c b (i := i) (I := i) hH2.h0 (by omega) (by omega)
  apply Tells.assoc
  apply Tells.seq (fr' := prM c ts fi A [(20, .ptr L 0 0 0), (21, .ptr L1 0 0 0)] i r ++ [(131, .bool (!lgB g i && !bitB b i))]) (H' := H2)
  · cases hlg : lgB g i with
    | true =>
      rw [hlg] at hpm
      simp only [pmO, Pm.pay] at hpm
      (refine ⟨0, ?_⟩; simp (maxSteps := 2000000) -implicitDefEqProofs [-getElem?_pos, List.getElem?_cons_zero, List.getElem?_cons_succ, go_sem, eqV, plen, loadV, storeV, prM, hpm, mkPm])
    | false =>
      rw [hlg] at hpm
      simp only [pmO, Pm.pay] at hpm
      (refine ⟨0, ?_⟩; simp (maxSteps := 2000000) -implicitDefEqProofs [-getElem?_pos, List.getElem?_cons_zero, List.getElem?_cons_succ, go_sem, eqV, plen, loadV, storeV, prM, hpm, mkPm, hset])
  apply Tells.or (P := fun fr H' => ∃ p r' m tl, (∀ k, prF b g ts (k + 1) i a r = prF b g ts k (i + 1) (a ++ [p]) r') ∧ r'.length ≤ r.length ∧ fr = prM c ts fi A (m ++ [(21, .ptr L1 0 0 0)]) i r' ++ tl ∧ H'[L1]? = some (some (pmO p)) ∧ PrHp c b cg g ts A H' a i ∧ ((m = [] ∧ tl = []) ∨ ∃ L2, m = [(20, .ptr L2 0 0 0)] ∧ tl = [(131, .bool false)]))
  case h' =>
    rintro fr H' ⟨p, r', m, tl, h1, h2, rfl, h3, ⟨k0, ⟨tg1, k1⟩, ⟨ob, k2, k3⟩, k4⟩, h5⟩
    obtain ⟨ob', q1, q2⟩ := pr_app c ts fi A i r' H' p a L1 ob m tl hal (by omega) k2 k3 h3 (by omega) h5
    refine Tells.of (piece q2 _ rfl) (.inl ⟨rfl, a ++ [p], r', h1, by simp [hal], h2, rfl, ?_⟩)
    refine ⟨at_ne k0 (by omega), ⟨tg1, at_ne k1 (by omega)⟩, ⟨ob', at_set k2, q1⟩, ?_⟩
    rcases k4 with k4 | ⟨o, g', obA, k4, ko, k5, k6⟩
    · exact .inl k4
    · exact .inr ⟨o, g', obA, k4, ko, at_ne k5 (by omega), k6⟩
  by_cases hor : lgB g i = true ∨ bitB b i = true
  · have hv : (!lgB g i && !bitB b i) = false := by
      rcases hor with h | h
      · rw [h]; rfl
      · rw [h]; cases lgB g i <;> rfl
    rw [hv]
    refine Tells.condF (by simp [evalO, getF, prM]) (Tells.of (o := ⟨.normal, _, H2⟩) ⟨0, rfl⟩ (.inl ⟨rfl, ⟨t, lgB g i, {}⟩, r, [(20, .ptr L 0 0 0)], [(131, .bool false)], ?_, Nat.le_refl _, rfl, hpm, hH2, .inr ⟨L, rfl, rfl⟩⟩))
    intro k
    rw [hF k, if_pos hor]
  have hlg : lgB g i = false := by cases h : lgB g i with | true => exact absurd (.inl h) hor | false => rfl
  have hbt : bitB b i = false := by cases h : bitB b i with | true => exact absurd (.inr h) hor | false => rfl
  have hF2 : ∀ k, prF b g ts (k + 1) i a r = if t.t = 6 then ([], [], 5)
    else if (rdV r t).2.2 ≠ 0 then ([], [], (rdV r t).2.2)
    else prF b g ts k (i + 1) (a ++ [⟨t, false, (rdV r t).1⟩]) (r.drop (rdV r t).2.1) := by
    intro k; rw [hF k, if_neg hor]
  rw [hlg, hbt]
  rw [hlg] at hpm
  apply Tells.condT (by simp [evalO, getF, prM])
  have hnew : ∀ x : Option AM.Obj, (H2 ++ [x])[H2.length]? = some x := fun x => by simp
  apply Tells.assoc
  by_cases h6 : t.t = 6
  · have h6i : (((t.t : Nat) : Int) == 6) = true := by rw [h6]; rfl
    refine Tells.of (o := ⟨.ret, [(8, .sl H2.length 0 0 0), (9, .bool false), (10, .int .i64 5)], H2 ++ [some nilP]⟩) ⟨0, ?_⟩ (.inr ⟨by simp, .inr ⟨by simp, .inr ⟨5, fun k => by rw [hF2 k, if_pos h6], by decide, rfl, H2.length, rfl, rfl, rfl, hnew _⟩⟩⟩)
    simp only [tyO, Ty.pay] at hty2
    simp (maxSteps := 2000000) -implicitDefEqProofs [-getElem?_pos, List.getElem?_cons_zero, List.getElem?_cons_succ, go_sem, eqV, plen, loadV, storeV, prM, hty2, mkTy, h6i, h6, assignV, emP]
  have h6i : (((t.t : Nat) : Int) == 6) = false := beq_eq_false_iff_ne.2 (by omega)
  have hti2 : ((t.t : Nat) : Int) < 256 := by omega
  have hV := vread_ev (H := H2) (a := .ro c (.pb r) 1) (b := r) (t := t) (Byt.ro (.inl rfl) (fun h => absurd h hc)) htt hr
  have hvl := rdV_le r t hr
  apply Tells.seq (fr' := prM c ts fi A [(20, .ptr L 0 0 0), (21, .ptr L1 0 0 0)] i r ++ [(134, .bool false)]) (H' := H2)
  · simp only [tyO, Ty.pay] at hty2
    (refine ⟨0, ?_⟩; simp (maxSteps := 2000000) -implicitDefEqProofs [-getElem?_pos, List.getElem?_cons_zero, List.getElem?_cons_succ, go_sem, eqV, plen, loadV, storeV, prM, hty2, mkTy, h6i, h6])
  apply Tells.seq (fr' := prM c ts fi A [(20, .ptr L 0 0 0), (21, .ptr L1 0 0 0)] i r ++ [(134, .bool false)]) (H' := H2)
  · exact condF (by simp [evalO, getF, prM]) ⟨0, rfl⟩
  generalize rdV r t = x at *
  obtain ⟨v, k, e⟩ := x
  simp only at hV hvl hF2
  apply Tells.seq (fr' := prM c ts fi A [(21, .ptr L1 0 0 0), (22, .ptr H2.length 0 0 0), (23, .int .i64 (k : Nat)), (24, .int .i64 e)] i r) (H' := H2 ++ [some (vaO v)])
  · simp only [tyO, Ty.pay] at hty2
    simp only [Va.pay, Ty.pay] at hV
    (refine ⟨0, ?_⟩; simp (maxSteps := 2000000) -implicitDefEqProofs [-getElem?_pos, List.getElem?_cons_zero, List.getElem?_cons_succ, go_sem, eqV, plen, loadV, storeV, prM, hty2, mkTy, hV, vaO, Va.pay, mkVa, hnew, assignV, flatCells, splice, scalars, scalar])
  have hnew2 : ∀ x : Option AM.Obj, (H2 ++ [x, some nilP])[H2.length + 1]? = some (some nilP) := fun x => by simp
  by_cases he : e = 0
  · subst he
    have hF3 := fun k => (hF2 k).trans ((if_neg h6).trans (if_neg (by simp)))
    apply Tells.assoc
    apply Tells.seq (fr' := prM c ts fi A [(21, .ptr L1 0 0 0), (22, .ptr H2.length 0 0 0), (23, .int .i64 (k : Nat)), (24, .int .i64 0)] i r ++ [(143, .bool false)]) (H' := H2 ++ [some (vaO v)])
    · (refine ⟨0, ?_⟩; simp (maxSteps := 2000000) -implicitDefEqProofs [-getElem?_pos, List.getElem?_cons_zero, List.getElem?_cons_succ, go_sem, eqV, plen, loadV, storeV, prM])
    apply Tells.seq (fr' := prM c ts fi A [(21, .ptr L1 0 0 0), (22, .ptr H2.length 0 0 0), (23, .int .i64 (k : Nat)), (24, .int .i64 0)] i r ++ [(143, .bool false)]) (H' := H2 ++ [some (vaO v)])
    · exact condF (by simp [evalO, getF, prM]) ⟨0, rfl⟩
    have hH3 := hH2.push (x := some (vaO v))
    refine Tells.of (piece (pr_put c ts fi A i r (H2 ++ [some (vaO v)]) t v k L1 H2.length hc hvl (at_cat hpm) (hnew _) (by omega)) _ rfl) (.inl ⟨rfl, ⟨t, false, v⟩, r.drop k, [], [], hF3, by simp, rfl, at_set (at_cat hpm), ?_, .inl ⟨rfl, rfl⟩⟩)
    obtain ⟨k0, ⟨tg1, k1⟩, ⟨ob, k2, k3⟩, k4⟩ := hH3
    refine ⟨at_ne k0 (by omega), ⟨tg1, at_ne k1 (by omega)⟩, ⟨ob, at_ne k2 (by omega), k3⟩, ?_⟩
    rcases hH.hA with q | ⟨o, g', obA, q1, q2, q3, q4⟩
    · exact .inl q
    · have := at_lt q3
      refine .inr ⟨o, g', obA, q1, q2, at_ne (at_cat ?_) (by omega), q4⟩
      rw [← hH2g, ← hHu, ← hH1g]
      exact at_cat (at_ne (at_cat q3) (by omega))
  · have heb : (e != 0) = true := by simpa using he
    refine Tells.of (o := ⟨.ret, [(8, .sl (H2.length + 1) 0 0 0), (9, .bool false), (10, .int .i64 e)], H2 ++ [some (vaO v), some nilP]⟩) ?_ (.inr ⟨by simp, .inr ⟨by simp, .inr ⟨e, fun k => by rw [hF2 k, if_neg h6, if_pos he], he, rfl, H2.length + 1, rfl, rfl, rfl, hnew2 _⟩⟩⟩)
    apply Run.seq_out (hne := by simp)
    refine ⟨0, ?_⟩
    simp (maxSteps := 2000000) -implicitDefEqProofs [-getElem?_pos, List.getElem?_cons_zero, List.getElem?_cons_succ, go_sem, eqV, plen, loadV, storeV, prM, heb, assignV, emP]

end

end Go.Proofs.Ytbmddnokokoofaa

/- Walks: parameters read: the loop, the end. -/
namespace Go.Proofs.Ytbmddnokokoofaa
open Go.AM
set_option linter.unusedSimpArgs false
set_option linter.unusedVariables false

/-- what is told behind all -/
def prZ (fi : Nat) (x : List Pm × List UInt8 × Int) : List Pm × Bool × Int :=
  if x.2.2 ≠ 0 then ([], false, x.2.2) else if 0 < x.2.1.length then ([], false, 5) else (x.1, decide (fi = 1), 0)
/-- parameters told -/
def PrZ (x : List Pm × Bool × Int) (fr : AM.Frame) (H : AM.Heap) : Prop :=
  ∃ o g ob, getF fr 8 = .sl o 0 x.1.length g ∧ getF fr 9 = .bool x.2.1 ∧ getF fr 10 = .int .i64 x.2.2 ∧ H[o]? = some (some ob) ∧ Rw (.pr 15 (x.1.map Pm.pay)) g ob

theorem PrZ.bad {e : Int} {fr : AM.Frame} {H : AM.Heap} {j : Nat} (h1 : getF fr 8 = .sl j 0 0 0) (h2 : getF fr 9 = .bool false) (h3 : getF fr 10 = .int .i64 e) (h4 : H[j]? = some (some nilP)) : PrZ ([], false, e) fr H := ⟨j, 0, nilP, h1, h2, h3, h4, nilP_rw⟩

section
variable (c : Nat) (b : List UInt8) (cg : Nat) (g : List Bool) (ts : List Ty) (fi : Nat) (A : AV)

set_option maxRecDepth 100000 in
set_option maxHeartbeats 4000000 in
theorem pr_loop (r : List UInt8) (H : AM.Heap) (hc : c ≠ 0) (hn : ts.length ≤ 65535) (hb : ts.length ≤ 8 * b.length) (htt : ∀ t ∈ ts, t.t < 256) (hr : r.length ≤ 90000000) (hH : PrHp c b cg g ts A H [] 0) :
    ∃ code, ((Try.f9.body).bind (codeAt [1, 1, 1, 1, 1, 1, 1, 1, 1, 1, 1, 1, 1, 0, 1])) = some code ∧ Tells (Or2 (fun fr H' => ∃ a r', prF b g ts ts.length 0 [] r = (a, r', 0) ∧ a.length = ts.length ∧ fr = prFr c ts fi A ts.length r' ++ [(114, .bool false)] ∧ PrHp c b cg g ts A H' a ts.length) (fun o => ∃ e, prF b g ts ts.length 0 [] r = ([], [], e) ∧ prE e o))
      X (evT X) 9 0 code (prFr c ts fi A 0 r) H := by
  refine ⟨_, rfl, ?_⟩
  apply (Tells.blockOr (Q := fun o => ∃ e, prF b g ts ts.length 0 [] r = ([], [], e) ∧ prE e o))
  refine Tells.loopP (fun k fr H => ∃ i a r', k = ts.length - i ∧ i ≤ ts.length ∧ a.length = i ∧ r'.length ≤ 90000000 ∧ fr = prFr c ts fi A i r' ∧ PrHp c b cg g ts A H a i ∧ prF b g ts ts.length 0 [] r = prF b g ts (ts.length - i) i a r') ?_ (k := ts.length) ⟨0, [], r, rfl, by omega, rfl, hr, rfl, hH, rfl⟩
  rintro k fr H ⟨i, a, r', rfl, hi, ha, hr', rfl, hH, hF⟩
  by_cases hin : i = ts.length
  · subst hin
    rw [Nat.sub_self, prF] at hF
    refine Tells.of (o := ⟨.exit 5, prFr c ts fi A ts.length r' ++ [(114, .bool false)], H⟩) ⟨0, ?_⟩ (.inr ⟨by simp, .inl ⟨rfl, a, r', hF, ha, rfl, hH⟩⟩)
    simp (maxSteps := 2000000) -implicitDefEqProofs [-getElem?_pos, List.getElem?_cons_zero, List.getElem?_cons_succ, go_sem, eqV, plen, loadV, storeV, prFr]
  have hlt : i < ts.length := by omega
  obtain ⟨t, ht⟩ : ∃ t, ts[i]? = some t := ⟨_, List.getElem?_eq_getElem hlt⟩
  refine (piece (pr_round c b cg g ts fi A i r' a H t hc hn hb ht (htt t (List.mem_of_getElem? ht)) ha hr' hH) _ rfl).mono ?_
  have hs : ts.length - i = (ts.length - (i + 1)) + 1 := by omega
  rintro o (⟨he, a', r2, h1, h2, h3, h4, h5⟩ | ⟨e, h1, h2⟩)
  · exact .inl ⟨he, ts.length - (i + 1), by omega, i + 1, a', r2, rfl, by omega, h2, by omega, h4, h5, by rw [hF, hs, h1]⟩
  · exact .inr ⟨by rw [h2.2.1]; simp, .inr ⟨h2.2.1, e, by rw [hF, hs, h1], h2⟩⟩

set_option maxRecDepth 100000 in
set_option maxHeartbeats 4000000 in
theorem pr_tail (r : List UInt8) (H : AM.Heap) (tl : AM.Frame) (hc : c ≠ 0) (hn : ts.length ≤ 65535) (hb : ts.length ≤ 8 * b.length) (htt : ∀ t ∈ ts, t.t < 256) (hr : r.length ≤ 90000000) (hfi : fi = 0 ∨ fi = 1) (hH : PrHp c b cg g ts A H [] 0)
    (htl : tl = [] ∨ ∃ x y z, tl = [(85, x), (86, y), (87, z), (88, .bool false)]) :
    ∃ code, ((Try.f9.body).bind (codeAt [1, 1, 1, 1, 1, 1, 1, 1, 1, 1, 1, 1, 1])) = some code ∧ Tells (Rets (PrZ (prZ fi (prF b g ts ts.length 0 [] r)))) X (evT X) 9 0 code ([(2, A), (8, .sl 2 0 0 0), (11, .fn 22 [.ptr 1 0 0 0]), (13, .fn 23 [.ptr 0 0 0 0]), (15, .ro c (.pb r) 1), (16, .int .u8 (fi : Nat))] ++ tl) H := by
  refine ⟨_, rfl, ?_⟩
  have hL : (ts.map Ty.pay).length = ts.length := List.length_map _
  apply Tells.assoc
  apply Tells.seq (fr' := prFr c ts fi A 0 r) (H' := H)
  · rcases hH.hA with ⟨c', t', rfl⟩ | ⟨o, g', ob, rfl, ho2, ho, hw⟩
    · generalize ts.map Ty.pay = L at *
      rcases htl with rfl | ⟨x, y, z, rfl⟩
      · (refine ⟨0, ?_⟩; simp (maxSteps := 2000000) -implicitDefEqProofs [-getElem?_pos, List.getElem?_cons_zero, List.getElem?_cons_succ, go_sem, eqV, plen, loadV, storeV, prFr, hL])
      · (refine ⟨0, ?_⟩; simp (maxSteps := 2000000) -implicitDefEqProofs [-getElem?_pos, List.getElem?_cons_zero, List.getElem?_cons_succ, go_sem, eqV, plen, loadV, storeV, prFr, hL])
    · rcases htl with rfl | ⟨x, y, z, rfl⟩
      · (refine ⟨0, ?_⟩; simp (maxSteps := 2000000) -implicitDefEqProofs [-getElem?_pos, List.getElem?_cons_zero, List.getElem?_cons_succ, go_sem, eqV, plen, loadV, storeV, prFr, ho, hw.g])
      · (refine ⟨0, ?_⟩; simp (maxSteps := 2000000) -implicitDefEqProofs [-getElem?_pos, List.getElem?_cons_zero, List.getElem?_cons_succ, go_sem, eqV, plen, loadV, storeV, prFr, ho, hw.g])
  apply Tells.or (P := fun fr H' => ∃ a r', prF b g ts ts.length 0 [] r = (a, r', 0) ∧ a.length = ts.length ∧ fr = prFr c ts fi A ts.length r' ++ [(114, .bool false)] ∧ PrHp c b cg g ts A H' a ts.length) (piece ((pr_loop c b cg g ts fi A r H hc hn hb htt hr hH).imp fun code h => ⟨h.1, h.2.mono fun o h => by
    rcases h with h | ⟨h1, e, h2, h3⟩
    · exact .inl h
    · refine .inr ⟨h1, (?_ : Rets (PrZ (prZ fi (prF b g ts ts.length 0 [] r))) o)⟩
      obtain ⟨k1, k2, j, k3, k4, k5, k6⟩ := h3
      rw [h2]
      have : prZ fi (([] : List Pm), ([] : List UInt8), e) = ([], false, e) := if_pos k1
      rw [this]
      exact ⟨k2, PrZ.bad k3 k4 k5 k6⟩⟩) _ rfl)
  rintro fr H' ⟨a, r', h1, h2, rfl, h0, h3, ⟨ob, h4, h5⟩, h6⟩
  rw [h1]
  have hnew : ∀ x : Option AM.Obj, (H' ++ [x])[H'.length]? = some x := fun x => by simp
  by_cases h : 0 < r'.length
  · have : prZ fi (a, r', 0) = ([], false, 5) := by unfold prZ; rw [if_neg (by simp), if_pos h]
    rw [this]
    have hi : (0 : Int) < (r'.length : Int) := by omega
    refine Tells.of (o := ⟨.ret, [(8, .sl H'.length 0 0 0), (9, .bool false), (10, .int .i64 5)], H' ++ [some nilP]⟩) ?_ ⟨rfl, PrZ.bad rfl rfl rfl (hnew _)⟩
    apply Run.seq_out (hne := by simp)
    refine ⟨0, ?_⟩
    simp (maxSteps := 2000000) -implicitDefEqProofs [-getElem?_pos, List.getElem?_cons_zero, List.getElem?_cons_succ, go_sem, eqV, plen, loadV, storeV, prFr, hi, h, assignV, emP]
  · have : prZ fi (a, r', 0) = (a, decide (fi = 1), 0) := by unfold prZ; rw [if_neg (by simp), if_neg h]
    rw [this]
    have hr0 : r'.length = 0 := by omega
    refine Tells.of (o := ⟨.ret, [(8, .sl 2 0 ts.length ts.length), (9, .bool (decide (fi = 1))), (10, .int .i64 0)], H'⟩) ⟨0, ?_⟩ ⟨rfl, 2, ts.length, ob, by rw [h2]; rfl, rfl, rfl, h4, h5⟩
    rcases hfi with rfl | rfl
    · simp (maxSteps := 2000000) -implicitDefEqProofs [-getElem?_pos, List.getElem?_cons_zero, List.getElem?_cons_succ, go_sem, eqV, plen, loadV, storeV, prFr, hr0, assignV]
    · simp (maxSteps := 2000000) -implicitDefEqProofs [-getElem?_pos, List.getElem?_cons_zero, List.getElem?_cons_succ, go_sem, eqV, plen, loadV, storeV, prFr, hr0, assignV]

end

end Go.Proofs.Ytbmddnokokoofaa

/- Walks: parameters read. -/
namespace Go.Proofs.Ytbmddnokokoofaa
open Go.AM
set_option linter.unusedSimpArgs false
set_option linter.unusedVariables false

/-- is a bit set that is none? -/
def bxB (b : List UInt8) (g : List Bool) (m i : Nat) : Bool := bitB b i && (decide (m ≤ i) || lgB g i)
/-- what Read tells -/
def rdPar (b : List UInt8) (n : Int) (ts : List Ty) (g : List Bool) : List Pm × Bool × Int :=
  if n < 0 ∨ 65535 < n then ([], false, 2) else
  if n = 0 then (if 0 < b.length then ([], false, 5) else ([], false, 0)) else
  if b.length < (n.toNat + 7) / 8 then ([], false, 4) else
  if (List.range (8 * ((n.toNat + 7) / 8))).any (bxB b g n.toNat) then ([], false, 5) else
  match b.drop ((n.toNat + 7) / 8) with
  | [] => ([], false, 4)
  | y :: r =>
    if y.toNat = 0 then (if ts.length < n.toNat then ([], false, 5) else if (ts.take n.toNat).any (fun t => !kn t.t) then ([], false, 5) else prZ 0 (prF b g (ts.take n.toNat) n.toNat 0 [] r))
    else if y.toNat = 1 then (if (tyR r n.toNat).2 ≠ 0 then ([], false, (tyR r n.toNat).2) else prZ 1 (prF b g (tyR r n.toNat).1 n.toNat 0 [] (r.drop (2 * n.toNat))))
    else ([], false, 5)

section
variable (c : Nat) (b : List UInt8) (n : Int) (ct : Nat) (ts : List Ty) (cg : Nat) (g : List Bool)

/-- a round's frame, heap -/
def pbFr (m : Nat) (T : AV) (i : Nat) : AM.Frame := [(1, .int .i64 (m : Nat)), (2, T), (4, .ptr 0 0 0 0), (8, .sl 2 0 0 0), (11, .fn 22 [.ptr 1 0 0 0]), (12, .int .i64 (((m + 7) / 8 : Nat) : Int)), (13, .fn 23 [.ptr 0 0 0 0]), (46, .int .i64 ((8 * ((m + 7) / 8) : Nat) : Int)), (47, .int .i64 (i : Nat))]
def pbHp (t0 t1 : Nat) : AM.Heap := [some (roB c (.pb b) 1 t0), some (roB cg (.pc (g.map .bool)) 4 t1), some nilP]

set_option maxRecDepth 100000 in
set_option maxHeartbeats 4000000 in
theorem pb_round (m : Nat) (T : AV) (i t0 t1 : Nat) (hm : m ≤ 65535) (hi : i < 8 * ((m + 7) / 8)) (hb : (m + 7) / 8 ≤ b.length) :
    ∃ code, ((Try.f9.body).bind (codeAt [1, 1, 1, 1, 1, 1, 1, 0, 1, 0, 0])) = some code ∧
    Tells (fun o => (bxB b g m i = false ∧ o.ex = .normal ∧ o.fr = pbFr m T (i + 1) ∧ ∃ t1, o.H = pbHp c b cg g 1 t1) ∨ (bxB b g m i = true ∧ prE 5 o)) X (evT X) 9 0 code (pbFr m T i) (pbHp c b cg g t0 t1) := by
  refine ⟨_, rfl, ?_⟩
  have hiI : (i : Int) < ((8 * ((m + 7) / 8) : Nat) : Int) := by omega
  have w1 : IntKind.i64.wrap ((i : Int) + 1) = ((i + 1 : Nat) : Int) := by rw [wrap_i64 (by omega) (by omega)]; omega
  have hset := set_ev (H := pbHp c b cg g t0 t1) (o := 0) (c := c) (t := 1) (tg := t0) (i := i) (b := b) (I := (i : Nat)) rfl rfl (by omega) (by omega)
  have hlong := long_ev (H := pbHp c b cg g 1 t1) (o := 1) (c := cg) (t := 4) (tg := t1) (i := i) (g := g) (I := (i : Nat)) rfl rfl (by omega)
  unfold pbFr
  unfold pbHp at *
  generalize 8 * ((m + 7) / 8) = m8 at *
  generalize (m + 7) / 8 = q at *
  generalize g.map AV.bool = G at *
  unfold bxB
  simp only [roB, upd, List.set_cons_zero, List.set_cons_succ] at hset hlong
  cases hbit : bitB b i with
  | false =>
    rw [hbit] at hset
    refine Tells.of (o := ⟨.normal, _, [some (roB c (.pb b) 1 1), some (roB cg (.pc G) 4 t1), some nilP]⟩) ⟨0, ?_⟩ (.inl ⟨rfl, rfl, rfl, t1, rfl⟩)
    simp (maxSteps := 2000000) -implicitDefEqProofs [-getElem?_pos, List.getElem?_cons_zero, List.getElem?_cons_succ, go_sem, eqV, plen, loadV, storeV, roB, hiI, w1, hset]
  | true =>
  rw [hbit] at hset
  by_cases hmi : m ≤ i
  · have hmI : (m : Int) ≤ (i : Int) := by omega
    have hmN : ¬ i < m := by omega
    refine Tells.of (o := ⟨.ret, [(8, .sl 3 0 0 0), (9, .bool false), (10, .int .i64 5)], [some (roB c (.pb b) 1 1), some (roB cg (.pc G) 4 t1), some nilP, some nilP]⟩) ⟨0, ?_⟩ (.inr ⟨by rw [decide_eq_true hmi]; rfl, by decide, rfl, 3, rfl, rfl, rfl, rfl⟩)
    simp (maxSteps := 2000000) -implicitDefEqProofs [-getElem?_pos, List.getElem?_cons_zero, List.getElem?_cons_succ, go_sem, eqV, plen, loadV, storeV, roB, hiI, w1, hset, hmI, hmi, assignV, emP]
  have hmI : ¬ (m : Int) ≤ (i : Int) := by omega
  have hmd : decide (m ≤ i) = false := decide_eq_false hmi
  cases hlg : lgB g i with
  | false =>
    rw [hlg] at hlong
    refine Tells.of (o := ⟨.normal, _, [some (roB c (.pb b) 1 1), some (roB cg (.pc G) 4 4), some nilP]⟩) ⟨0, ?_⟩ (.inl ⟨by rw [hmd]; rfl, rfl, rfl, 4, rfl⟩)
    simp (maxSteps := 2000000) -implicitDefEqProofs [-getElem?_pos, List.getElem?_cons_zero, List.getElem?_cons_succ, go_sem, eqV, plen, loadV, storeV, roB, hiI, w1, hset, hmI, hmi, hlong]
  | true =>
    rw [hlg] at hlong
    refine Tells.of (o := ⟨.ret, [(8, .sl 3 0 0 0), (9, .bool false), (10, .int .i64 5)], [some (roB c (.pb b) 1 1), some (roB cg (.pc G) 4 4), some nilP, some nilP]⟩) ⟨0, ?_⟩ (.inr ⟨by simp, by decide, rfl, 3, rfl, rfl, rfl, rfl⟩)
    simp (maxSteps := 2000000) -implicitDefEqProofs [-getElem?_pos, List.getElem?_cons_zero, List.getElem?_cons_succ, go_sem, eqV, plen, loadV, storeV, roB, hiI, w1, hset, hmI, hmi, hlong, assignV, emP]

set_option maxRecDepth 100000 in
set_option maxHeartbeats 4000000 in
theorem pb_loop (m : Nat) (T : AV) (h0 : 1 ≤ m) (hm : m ≤ 65535) (hb : (m + 7) / 8 ≤ b.length) :
    ∃ code, ((Try.f9.body).bind (codeAt [1, 1, 1, 1, 1, 1, 1, 0, 1])) = some code ∧
    Tells (Or2 (fun fr H => (List.range (8 * ((m + 7) / 8))).any (bxB b g m) = false ∧ fr = pbFr m T (8 * ((m + 7) / 8)) ++ [(48, .bool false)] ∧ ∃ t1, H = pbHp c b cg g 1 t1) (fun o => (List.range (8 * ((m + 7) / 8))).any (bxB b g m) = true ∧ prE 5 o)) X (evT X) 9 0 code (pbFr m T 0) (pbHp c b cg g 0 0) := by
  refine ⟨_, rfl, ?_⟩
  apply (Tells.blockOr (Q := fun o => (List.range (8 * ((m + 7) / 8))).any (bxB b g m) = true ∧ prE 5 o))
  refine Tells.loopP (fun k fr H => ∃ i t0 t1, k = 8 * ((m + 7) / 8) - i ∧ i ≤ 8 * ((m + 7) / 8) ∧ (0 < i → t0 = 1) ∧ fr = pbFr m T i ∧ H = pbHp c b cg g t0 t1 ∧ ∀ j, j < i → bxB b g m j = false) ?_ (k := 8 * ((m + 7) / 8)) ⟨0, 0, 0, rfl, by omega, by omega, rfl, rfl, by omega⟩
  rintro k fr H ⟨i, t0, t1, rfl, hi, ht, rfl, rfl, hall⟩
  by_cases hin : i = 8 * ((m + 7) / 8)
  · subst hin
    have ht0 := ht (by omega)
    subst ht0
    have hany : (List.range (8 * ((m + 7) / 8))).any (bxB b g m) = false := by
      rw [List.any_eq_false]
      intro j hj
      rw [hall j (List.mem_range.1 hj)]; simp
    refine Tells.of (o := ⟨.exit 0, pbFr m T (8 * ((m + 7) / 8)) ++ [(48, .bool false)], pbHp c b cg g 1 t1⟩) ⟨0, ?_⟩ (.inr ⟨by simp, .inl ⟨rfl, hany, rfl, t1, rfl⟩⟩)
    unfold pbFr
    generalize 8 * ((m + 7) / 8) = m8 at *
    generalize (m + 7) / 8 = q at *
    simp (maxSteps := 2000000) -implicitDefEqProofs [-getElem?_pos, List.getElem?_cons_zero, List.getElem?_cons_succ, go_sem, eqV, plen, loadV, storeV, pbHp, roB]
  refine (piece (pb_round c b cg g m T i t0 t1 hm (by omega) hb) _ rfl).mono ?_
  rintro o (⟨h1, h2, h3, t2, h4⟩ | ⟨h1, h2⟩)
  · refine .inl ⟨h2, 8 * ((m + 7) / 8) - (i + 1), by omega, i + 1, 1, t2, rfl, by omega, fun _ => rfl, h3, h4, fun j hj => ?_⟩
    by_cases hji : j = i
    · rw [hji]; exact h1
    · exact hall j (by omega)
  · refine .inr ⟨by rw [h2.2.1]; simp, .inr ⟨h2.2.1, List.any_eq_true.2 ⟨i, List.mem_range.2 (by omega), h1⟩, h2⟩⟩

end

end Go.Proofs.Ytbmddnokokoofaa
