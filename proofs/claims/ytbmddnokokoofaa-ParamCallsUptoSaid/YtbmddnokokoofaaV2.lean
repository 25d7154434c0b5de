/- Walks: moments and spans that may be. -/
import Derived.Test.YtbmddnokokoofaaV1
namespace Go.Proofs.Ytbmddnokokoofaa
open Go.AM
set_option linter.unusedSimpArgs false
set_option linter.unusedVariables false

theorem whEqF (a : Bool) (y mo d h mi s us : Int) (a' : Bool) (y' mo' d' h' mi' s' us' : Int) :
    eqFlat X 6 30 [.bool a, .int .i64 y, .int .i64 mo, .int .i64 d, .int .i64 h, .int .i64 mi, .int .i64 s, .int .i64 us] [.bool a', .int .i64 y', .int .i64 mo', .int .i64 d', .int .i64 h', .int .i64 mi', .int .i64 s', .int .i64 us'] =
      some (a == a' && (y == y' && (mo == mo' && (d == d' && (h == h' && (mi == mi' && (s == s' && (us == us' && true)))))))) := by kernel_rfl
theorem stWh : isStructT X 30 = true := by kernel_rfl
theorem guWh : X.P.eqGuardType X.P.depth 30 = false := by kernel_rfl
theorem eqWh (w w' : Wh) (H : AM.Heap) (xo yo : Operand) : eqV X H 30 (.agg w.pay) (.agg w'.pay) xo yo = some (decide (w = w')) := by
  show (if isStructT X 30 && !X.P.eqGuardType X.P.depth 30 then eqFlat X 6 30 _ _ else none) = _
  rw [stWh, guWh]
  have := whEqF w.neg w.y w.mo w.d w.h w.mi w.s w.us w'.neg w'.y w'.mo w'.d w'.h w'.mi w'.s w'.us
  refine Eq.trans (b := some _) this ?_
  congr 1
  rw [Bool.eq_iff_iff, decide_eq_true_eq]
  simp only [Bool.and_eq_true, beq_iff_eq, and_true]
  cases w; cases w'
  simp

theorem whEqS (a : Bool) (y mo d h mi s us : Int) (a' : Bool) (y' mo' d' h' mi' s' us' : Int) (H : AM.Heap) (xo yo : Operand) :
    eqV X H 30 (.agg (.pc [.bool a, .int .i64 y, .int .i64 mo, .int .i64 d, .int .i64 h, .int .i64 mi, .int .i64 s, .int .i64 us])) (.agg (.pc [.bool a', .int .i64 y', .int .i64 mo', .int .i64 d', .int .i64 h', .int .i64 mi', .int .i64 s', .int .i64 us'])) xo yo =
      some (decide ((⟨a, y, mo, d, h, mi, s, us⟩ : Wh) = ⟨a', y', mo', d', h', mi', s', us'⟩)) := eqWh ⟨a, y, mo, d, h, mi, s, us⟩ ⟨a', y', mo', d', h', mi', s', us'⟩ H xo yo

/-- may a moment, or a span, be? -/
def fin (w : Wh) (t : Nat) : Bool := clk w && (if t = 11 then decide (w.y = 0) && (decide (w.mo = 0) && (btw w.d 0 34 && !(w.neg && (decide (w.d = 0) && mid w)))) else (!w.neg && (btw w.y 0 9999 && (btw w.mo 0 12 && (btw w.d 0 31 && (decide (t ≠ 10) || mid w))))))

theorem bdW1 : buildV X 30 [(0, .bool true)] = some (.agg (.pc [.bool true, .int .i64 0, .int .i64 0, .int .i64 0, .int .i64 0, .int .i64 0, .int .i64 0, .int .i64 0])) := by kernel_rfl
theorem bdW0 : buildV X 30 [] = some (.agg (.pc [.bool false, .int .i64 0, .int .i64 0, .int .i64 0, .int .i64 0, .int .i64 0, .int .i64 0, .int .i64 0])) := by kernel_rfl
theorem bdW3 (y mo d : Int) : buildV X 30 [(1, .int .i64 y), (2, .int .i64 mo), (3, .int .i64 d)] = some (.agg (.pc [.bool false, .int .i64 y, .int .i64 mo, .int .i64 d, .int .i64 0, .int .i64 0, .int .i64 0, .int .i64 0])) := by kernel_rfl

section
variable (w : Wh) (t : Nat)

def fnFr : AM.Frame := [(1, .int .u8 (t : Nat)), (2, .ptr 0 0 0 0)]

set_option maxRecDepth 100000 in
set_option maxHeartbeats 4000000 in
theorem fin_code (ht : t < 256) : ∃ code, Try.f38.body = some code ∧
    Run X (evT X) 38 0 code [(0, .agg w.pay), (1, .int .u8 (t : Nat))] [] ⟨.ret, [(4, .bool (fin w t))], [some (whO w)]⟩ := by
  refine ⟨_, rfl, ?_⟩
  have hB := btw_ev
  have hC := fun H => clock_ev w H
  have hE := whEqS
  unfold fin
  simp only [Wh.pay] at hC
  apply Run.seq (fr' := fnFr t) (H' := [some (whO w)])
  · (refine ⟨0, ?_⟩; simp (maxSteps := 2000000) -implicitDefEqProofs [-getElem?_pos, List.getElem?_cons_zero, List.getElem?_cons_succ, go_sem, eqV, plen, loadV, storeV, whO, Wh.pay, fnFr])
  cases hc : clk w with
  | false =>
    rw [hc] at hC
    apply Run.seq_out (hne := by simp)
    apply Run.seq (fr' := fnFr t ++ [(7, .bool true)]) (H' := [some (whO w)])
    · (refine ⟨0, ?_⟩; simp (maxSteps := 2000000) -implicitDefEqProofs [-getElem?_pos, List.getElem?_cons_zero, List.getElem?_cons_succ, go_sem, eqV, plen, loadV, storeV, whO, Wh.pay, mkWh, hC, unV, fnFr])
    refine ⟨0, ?_⟩
    simp (maxSteps := 2000000) -implicitDefEqProofs [-getElem?_pos, List.getElem?_cons_zero, List.getElem?_cons_succ, go_sem, eqV, plen, loadV, storeV, fnFr]
  | true =>
  rw [hc] at hC
  apply Run.seq (fr' := fnFr t ++ [(7, .bool false)]) (H' := [some (whO w)])
  · (refine ⟨0, ?_⟩; simp (maxSteps := 2000000) -implicitDefEqProofs [-getElem?_pos, List.getElem?_cons_zero, List.getElem?_cons_succ, go_sem, eqV, plen, loadV, storeV, whO, Wh.pay, mkWh, hC, unV, fnFr])
  by_cases h11 : t = 11
  · subst h11
    rw [if_pos rfl]
    apply Run.seq_out (hne := by simp)
    apply Run.seq (fr' := fnFr 11 ++ [(9, .bool true)]) (H' := [some (whO w)])
    · (refine ⟨0, ?_⟩; simp (maxSteps := 2000000) -implicitDefEqProofs [-getElem?_pos, List.getElem?_cons_zero, List.getElem?_cons_succ, go_sem, eqV, plen, loadV, storeV, whO, fnFr])
    refine condT (by simp [evalO, getF, fnFr]) ?_
    refine Run.seq (fr' := [(4, .bool (decide (w.y = 0) && (decide (w.mo = 0) && (btw w.d 0 34 && !(w.neg && (decide (w.d = 0) && mid w))))))]) (H' := [some (whO w)]) ?_ ⟨0, by simp [exec]⟩
    by_cases hy : w.y = 0
    case neg =>
      have hyb : (w.y == 0) = false := by simpa using hy
      (refine ⟨0, ?_⟩; simp (maxSteps := 2000000) -implicitDefEqProofs [-getElem?_pos, List.getElem?_cons_zero, List.getElem?_cons_succ, go_sem, eqV, plen, loadV, storeV, whO, Wh.pay, fnFr, hyb, hy])
    by_cases hmo : w.mo = 0
    case neg =>
      have hyb : (w.mo == 0) = false := by simpa using hmo
      (refine ⟨0, ?_⟩; simp (maxSteps := 2000000) -implicitDefEqProofs [-getElem?_pos, List.getElem?_cons_zero, List.getElem?_cons_succ, go_sem, eqV, plen, loadV, storeV, whO, Wh.pay, fnFr, hy, hyb, hmo])
    cases hd : btw w.d 0 34 with
    | false => (refine ⟨0, ?_⟩; simp (maxSteps := 2000000) -implicitDefEqProofs [-getElem?_pos, List.getElem?_cons_zero, List.getElem?_cons_succ, go_sem, eqV, plen, loadV, storeV, whO, Wh.pay, fnFr, hy, hmo, hB, hd])
    | true =>
    cases hn : w.neg with
    | false => (refine ⟨0, ?_⟩; simp (maxSteps := 2000000) -implicitDefEqProofs [-getElem?_pos, List.getElem?_cons_zero, List.getElem?_cons_succ, go_sem, eqV, plen, loadV, storeV, whO, Wh.pay, fnFr, hy, hmo, hB, hd, hn, unV])
    | true =>
      have e : decide ((⟨true, 0, 0, w.d, w.h, w.mi, w.s, w.us⟩ : Wh) = ⟨true, 0, 0, 0, 0, 0, 0, 0⟩) = (decide (w.d = 0) && mid w) := by
        unfold mid
        rw [Bool.eq_iff_iff]; simp
      have hE1 := fun H xo yo => whEqS true 0 0 w.d w.h w.mi w.s w.us true 0 0 0 0 0 0 0 H xo yo
      rw [e] at hE1
      generalize (decide (w.d = 0) && mid w) = m at *
      clear hE e
      (refine ⟨0, ?_⟩; simp (maxSteps := 2000000) -implicitDefEqProofs [-getElem?_pos, List.getElem?_cons_zero, List.getElem?_cons_succ, go_sem, eqV, plen, loadV, storeV, -eqV, whO, Wh.pay, fnFr, mkWh, unV, hy, hmo, hB, hd, hn, bdW1, hE1])
  · have h11i : ((t : Int) == 11) = false := by simp; omega
    rw [if_neg h11]
    apply Run.seq (fr' := fnFr t ++ [(9, .bool false)]) (H' := [some (whO w)])
    · (refine ⟨0, ?_⟩; simp (maxSteps := 2000000) -implicitDefEqProofs [-getElem?_pos, List.getElem?_cons_zero, List.getElem?_cons_succ, go_sem, eqV, plen, loadV, storeV, whO, fnFr, h11i])
    cases hp : (!w.neg && (btw w.y 0 9999 && (btw w.mo 0 12 && btw w.d 0 31))) with
    | false =>
      have e : (!w.neg && (btw w.y 0 9999 && (btw w.mo 0 12 && (btw w.d 0 31 && (decide (t ≠ 10) || mid w))))) = false := by
        revert hp
        generalize btw w.y 0 9999 = a
        generalize btw w.mo 0 12 = b
        generalize btw w.d 0 31 = c
        generalize w.neg = n
        cases n <;> cases a <;> cases b <;> cases c <;> simp
      rw [e]
      apply Run.seq_out (hne := by simp)
      apply Run.seq (fr' := fnFr t ++ [(52, .bool true)]) (H' := [some (whO w)])
      · clear e
        cases hn : w.neg with
        | true => (refine ⟨0, ?_⟩; simp (maxSteps := 2000000) -implicitDefEqProofs [-getElem?_pos, List.getElem?_cons_zero, List.getElem?_cons_succ, go_sem, eqV, plen, loadV, storeV, whO, Wh.pay, fnFr, hn])
        | false =>
        cases hy : btw w.y 0 9999 with
        | false => (refine ⟨0, ?_⟩; simp (maxSteps := 2000000) -implicitDefEqProofs [-getElem?_pos, List.getElem?_cons_zero, List.getElem?_cons_succ, go_sem, eqV, plen, loadV, storeV, whO, Wh.pay, fnFr, hn, hB, hy, unV])
        | true =>
        cases hmo : btw w.mo 0 12 with
        | false => (refine ⟨0, ?_⟩; simp (maxSteps := 2000000) -implicitDefEqProofs [-getElem?_pos, List.getElem?_cons_zero, List.getElem?_cons_succ, go_sem, eqV, plen, loadV, storeV, whO, Wh.pay, fnFr, hn, hB, hy, hmo, unV])
        | true =>
        cases hd : btw w.d 0 31 with
        | false => (refine ⟨0, ?_⟩; simp (maxSteps := 2000000) -implicitDefEqProofs [-getElem?_pos, List.getElem?_cons_zero, List.getElem?_cons_succ, go_sem, eqV, plen, loadV, storeV, whO, Wh.pay, fnFr, hn, hB, hy, hmo, hd, unV])
        | true => rw [hn, hy, hmo, hd] at hp; cases hp
      refine ⟨0, ?_⟩
      simp (maxSteps := 2000000) -implicitDefEqProofs [-getElem?_pos, List.getElem?_cons_zero, List.getElem?_cons_succ, go_sem, eqV, plen, loadV, storeV, fnFr]
    | true =>
      simp only [Bool.and_eq_true, Bool.not_eq_true'] at hp
      obtain ⟨hn, hy, hmo, hd⟩ := hp
      apply Run.seq (fr' := fnFr t ++ [(52, .bool false)]) (H' := [some (whO w)])
      · (refine ⟨0, ?_⟩; simp (maxSteps := 2000000) -implicitDefEqProofs [-getElem?_pos, List.getElem?_cons_zero, List.getElem?_cons_succ, go_sem, eqV, plen, loadV, storeV, whO, Wh.pay, fnFr, hn, hB, hy, hmo, hd, unV])
      rw [hn, hy, hmo, hd]
      refine Run.seq (fr' := [(4, .bool (decide (t ≠ 10) || mid w))]) (H' := [some (whO w)]) ?_ ⟨0, by simp [exec]⟩
      by_cases h10 : t = 10
      · subst h10
        have e : decide ((⟨false, w.y, w.mo, w.d, w.h, w.mi, w.s, w.us⟩ : Wh) = ⟨false, w.y, w.mo, w.d, 0, 0, 0, 0⟩) = mid w := by
          unfold mid
          rw [Bool.eq_iff_iff]; simp
        have hE1 := fun H xo yo => whEqS false w.y w.mo w.d w.h w.mi w.s w.us false w.y w.mo w.d 0 0 0 0 H xo yo
        rw [e] at hE1
        generalize mid w = m at *
        clear hE e
        (refine ⟨0, ?_⟩; simp (maxSteps := 2000000) -implicitDefEqProofs [-getElem?_pos, List.getElem?_cons_zero, List.getElem?_cons_succ, go_sem, eqV, plen, loadV, storeV, -eqV, whO, Wh.pay, fnFr, mkWh, hn, bdW3, hE1])
      · have h10i : ((t : Int) != 10) = true := by simp; omega
        (refine ⟨0, ?_⟩; simp (maxSteps := 2000000) -implicitDefEqProofs [-getElem?_pos, List.getElem?_cons_zero, List.getElem?_cons_succ, go_sem, eqV, plen, loadV, storeV, whO, fnFr, h10, h10i])

set_option maxRecDepth 100000 in
set_option maxHeartbeats 4000000 in
theorem rfin_code (ht : t < 256) : ∃ code, Try.f48.body = some code ∧
    Run X (evT X) 48 0 code [(0, .agg w.pay), (1, .int .u8 (t : Nat))] [] ⟨.ret, [(4, .bool (fin w t))], [some (whO w)]⟩ := by
  refine ⟨_, rfl, ?_⟩
  have hC := fun H => rclock_ev w H
  unfold fin
  simp only [Wh.pay] at hC
  apply Run.seq (fr' := fnFr t) (H' := [some (whO w)])
  · (refine ⟨0, ?_⟩; simp (maxSteps := 2000000) -implicitDefEqProofs [-getElem?_pos, List.getElem?_cons_zero, List.getElem?_cons_succ, go_sem, eqV, plen, loadV, storeV, whO, Wh.pay, fnFr])
  cases hc : clk w with
  | false =>
    rw [hc] at hC
    apply Run.seq_out (hne := by simp)
    apply Run.seq (fr' := fnFr t ++ [(7, .bool true)]) (H' := [some (whO w)])
    · (refine ⟨0, ?_⟩; simp (maxSteps := 2000000) -implicitDefEqProofs [-getElem?_pos, List.getElem?_cons_zero, List.getElem?_cons_succ, go_sem, eqV, plen, loadV, storeV, whO, Wh.pay, mkWh, hC, unV, fnFr])
    refine ⟨0, ?_⟩
    simp (maxSteps := 2000000) -implicitDefEqProofs [-getElem?_pos, List.getElem?_cons_zero, List.getElem?_cons_succ, go_sem, eqV, plen, loadV, storeV, fnFr]
  | true =>
  rw [hc] at hC
  have hM := fun H => mid_ev hc H
  simp only [Wh.pay] at hM
  unfold btw
  generalize mid w = m at *
  apply Run.seq (fr' := fnFr t ++ [(7, .bool false)]) (H' := [some (whO w)])
  · (refine ⟨0, ?_⟩; simp (maxSteps := 2000000) -implicitDefEqProofs [-getElem?_pos, List.getElem?_cons_zero, List.getElem?_cons_succ, go_sem, eqV, plen, loadV, storeV, whO, Wh.pay, mkWh, hC, unV, fnFr])
  by_cases h11 : t = 11
  · subst h11
    rw [if_pos rfl]
    apply Run.seq_out (hne := by simp)
    apply Run.seq (fr' := fnFr 11 ++ [(9, .bool true)]) (H' := [some (whO w)])
    · (refine ⟨0, ?_⟩; simp (maxSteps := 2000000) -implicitDefEqProofs [-getElem?_pos, List.getElem?_cons_zero, List.getElem?_cons_succ, go_sem, eqV, plen, loadV, storeV, whO, fnFr])
    refine condT (by simp [evalO, getF, fnFr]) ?_
    refine Run.seq (fr' := [(4, .bool (decide (w.y = 0) && (decide (w.mo = 0) && (decide (0 ≤ w.d ∧ w.d ≤ 34) && !(w.neg && (decide (w.d = 0) && m))))))]) (H' := [some (whO w)]) ?_ ⟨0, by simp [exec]⟩
    by_cases hy : w.y = 0
    case neg =>
      have hyb : (w.y == 0) = false := by simpa using hy
      (refine ⟨0, ?_⟩; simp (maxSteps := 2000000) -implicitDefEqProofs [-getElem?_pos, List.getElem?_cons_zero, List.getElem?_cons_succ, go_sem, eqV, plen, loadV, storeV, whO, Wh.pay, fnFr, hy, hyb])
    by_cases hmo : w.mo = 0
    case neg =>
      have hyb : (w.mo == 0) = false := by simpa using hmo
      (refine ⟨0, ?_⟩; simp (maxSteps := 2000000) -implicitDefEqProofs [-getElem?_pos, List.getElem?_cons_zero, List.getElem?_cons_succ, go_sem, eqV, plen, loadV, storeV, whO, Wh.pay, fnFr, hy, hmo, hyb])
    by_cases hd : 0 ≤ w.d
    case neg => (refine ⟨0, ?_⟩; simp (maxSteps := 2000000) -implicitDefEqProofs [-getElem?_pos, List.getElem?_cons_zero, List.getElem?_cons_succ, go_sem, eqV, plen, loadV, storeV, whO, Wh.pay, fnFr, hy, hmo, hd])
    by_cases hd2 : w.d ≤ 34
    case neg => (refine ⟨0, ?_⟩; simp (maxSteps := 2000000) -implicitDefEqProofs [-getElem?_pos, List.getElem?_cons_zero, List.getElem?_cons_succ, go_sem, eqV, plen, loadV, storeV, whO, Wh.pay, fnFr, hy, hmo, hd, hd2])
    cases hn : w.neg with
    | false => (refine ⟨0, ?_⟩; simp (maxSteps := 2000000) -implicitDefEqProofs [-getElem?_pos, List.getElem?_cons_zero, List.getElem?_cons_succ, go_sem, eqV, plen, loadV, storeV, whO, Wh.pay, fnFr, unV, hy, hmo, hd, hd2, hn])
    | true =>
    by_cases hd0 : w.d = 0
    · rw [hn, hy, hmo, hd0] at hM
      (refine ⟨0, ?_⟩; simp (maxSteps := 2000000) -implicitDefEqProofs [-getElem?_pos, List.getElem?_cons_zero, List.getElem?_cons_succ, go_sem, eqV, plen, loadV, storeV, whO, Wh.pay, fnFr, mkWh, unV, hy, hmo, hn, hd0, hM])
    · have hd0b : (w.d == 0) = false := by simpa using hd0
      (refine ⟨0, ?_⟩; simp (maxSteps := 2000000) -implicitDefEqProofs [-getElem?_pos, List.getElem?_cons_zero, List.getElem?_cons_succ, go_sem, eqV, plen, loadV, storeV, whO, Wh.pay, fnFr, unV, hy, hmo, hd, hd2, hn, hd0, hd0b])
  · have h11i : ((t : Int) == 11) = false := by simp; omega
    rw [if_neg h11]
    apply Run.seq (fr' := fnFr t ++ [(9, .bool false)]) (H' := [some (whO w)])
    · (refine ⟨0, ?_⟩; simp (maxSteps := 2000000) -implicitDefEqProofs [-getElem?_pos, List.getElem?_cons_zero, List.getElem?_cons_succ, go_sem, eqV, plen, loadV, storeV, whO, fnFr, h11i])
    refine Run.seq (fr' := [(4, .bool (!w.neg && (decide (0 ≤ w.y ∧ w.y ≤ 9999) && (decide (0 ≤ w.mo ∧ w.mo ≤ 12) && (decide (0 ≤ w.d ∧ w.d ≤ 31) && (decide (t ≠ 10) || m))))))]) (H' := [some (whO w)]) ?_ ⟨0, by simp [exec]⟩
    cases hn : w.neg with
    | true => (refine ⟨0, ?_⟩; simp (maxSteps := 2000000) -implicitDefEqProofs [-getElem?_pos, List.getElem?_cons_zero, List.getElem?_cons_succ, go_sem, eqV, plen, loadV, storeV, whO, Wh.pay, fnFr, unV, hn])
    | false =>
    by_cases hy : 0 ≤ w.y
    case neg => (refine ⟨0, ?_⟩; simp (maxSteps := 2000000) -implicitDefEqProofs [-getElem?_pos, List.getElem?_cons_zero, List.getElem?_cons_succ, go_sem, eqV, plen, loadV, storeV, whO, Wh.pay, fnFr, unV, hn, hy])
    by_cases hy2 : w.y ≤ 9999
    case neg => (refine ⟨0, ?_⟩; simp (maxSteps := 2000000) -implicitDefEqProofs [-getElem?_pos, List.getElem?_cons_zero, List.getElem?_cons_succ, go_sem, eqV, plen, loadV, storeV, whO, Wh.pay, fnFr, unV, hn, hy, hy2])
    by_cases hmo : 0 ≤ w.mo
    case neg => (refine ⟨0, ?_⟩; simp (maxSteps := 2000000) -implicitDefEqProofs [-getElem?_pos, List.getElem?_cons_zero, List.getElem?_cons_succ, go_sem, eqV, plen, loadV, storeV, whO, Wh.pay, fnFr, unV, hn, hy, hy2, hmo])
    by_cases hmo2 : w.mo ≤ 12
    case neg => (refine ⟨0, ?_⟩; simp (maxSteps := 2000000) -implicitDefEqProofs [-getElem?_pos, List.getElem?_cons_zero, List.getElem?_cons_succ, go_sem, eqV, plen, loadV, storeV, whO, Wh.pay, fnFr, unV, hn, hy, hy2, hmo, hmo2])
    by_cases hd : 0 ≤ w.d
    case neg => (refine ⟨0, ?_⟩; simp (maxSteps := 2000000) -implicitDefEqProofs [-getElem?_pos, List.getElem?_cons_zero, List.getElem?_cons_succ, go_sem, eqV, plen, loadV, storeV, whO, Wh.pay, fnFr, unV, hn, hy, hy2, hmo, hmo2, hd])
    by_cases hd2 : w.d ≤ 31
    case neg => (refine ⟨0, ?_⟩; simp (maxSteps := 2000000) -implicitDefEqProofs [-getElem?_pos, List.getElem?_cons_zero, List.getElem?_cons_succ, go_sem, eqV, plen, loadV, storeV, whO, Wh.pay, fnFr, unV, hn, hy, hy2, hmo, hmo2, hd, hd2])
    by_cases h10 : t = 10
    · subst h10
      rw [hn] at hM
      (refine ⟨0, ?_⟩; simp (maxSteps := 2000000) -implicitDefEqProofs [-getElem?_pos, List.getElem?_cons_zero, List.getElem?_cons_succ, go_sem, eqV, plen, loadV, storeV, whO, Wh.pay, fnFr, mkWh, unV, hn, hy, hy2, hmo, hmo2, hd, hd2, hM])
    · have h10i : ((t : Int) != 10) = true := by simp; omega
      (refine ⟨0, ?_⟩; simp (maxSteps := 2000000) -implicitDefEqProofs [-getElem?_pos, List.getElem?_cons_zero, List.getElem?_cons_succ, go_sem, eqV, plen, loadV, storeV, whO, Wh.pay, fnFr, unV, hn, hy, hy2, hmo, hmo2, hd, hd2, h10, h10i])

end

theorem fin_ev (w : Wh) {t : Nat} (ht : t < 256) (H : AM.Heap) : evT X 38 [.agg w.pay, .int .u8 (t : Nat)] H = some (.bool (fin w t), H) := by
  obtain ⟨code, hcode, hr⟩ := fin_code w t ht
  exact evT_eq (Ev1.toldP (l := [.bool (fin w t)]) (evT_below X) Try.func38 hcode (args_wh (i := 0) (args_flat (i := 1) rfl rfl (args_nil 2))) (by simp [Wh.pay, idsL, ids]) (by simp [gtag]) rfl rfl rfl ⟨_, ⟨rfl, rfl⟩, hr⟩)
theorem rfin_ev (w : Wh) {t : Nat} (ht : t < 256) (H : AM.Heap) : evT X 48 [.agg w.pay, .int .u8 (t : Nat)] H = some (.bool (fin w t), H) := by
  obtain ⟨code, hcode, hr⟩ := rfin_code w t ht
  exact evT_eq (Ev1.toldP (l := [.bool (fin w t)]) (evT_below X) Try.func48 hcode (args_wh (i := 0) (args_flat (i := 1) rfl rfl (args_nil 2))) (by simp [Wh.pay, idsL, ids]) (by simp [gtag]) rfl rfl rfl ⟨_, ⟨rfl, rfl⟩, hr⟩)

end Go.Proofs.Ytbmddnokokoofaa
