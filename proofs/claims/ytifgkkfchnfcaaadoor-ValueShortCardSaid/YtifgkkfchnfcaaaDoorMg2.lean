/- V2 to F3: texts of this claim, one behind the other; what each shows stands at its head. -/
import Derived.Test.YtifgkkfchnfcaaaDoorAm3
import Derived.Test.YtifgkkfchnfcaaaDoorMg1
/- Walks: moments and spans that may be. -/
namespace Go.Proofs.YtifgkkfchnfcaaaDoor
open Go.AM
set_option linter.unusedSimpArgs false
set_option linter.unusedVariables false

theorem eqV_agg {C : AM.Ctx} {H : AM.Heap} {t : TypeId} {a b : List AV} {xo yo : Operand} (h1 : isStructT C t = true) (h2 : C.P.eqGuardType C.P.depth t = false) : eqV C H t (.agg (.pc a)) (.agg (.pc b)) xo yo = eqFlat C 6 t a b := by
  show (if isStructT C t && !C.P.eqGuardType C.P.depth t then eqFlat C 6 t a b else none) = _
  rw [h1, h2]; rfl

theorem whEqF (a : Bool) (y mo d h mi s us : Int) (a' : Bool) (y' mo' d' h' mi' s' us' : Int) :
    eqFlat X 6 25 [.bool a, .int .i64 y, .int .i64 mo, .int .i64 d, .int .i64 h, .int .i64 mi, .int .i64 s, .int .i64 us] [.bool a', .int .i64 y', .int .i64 mo', .int .i64 d', .int .i64 h', .int .i64 mi', .int .i64 s', .int .i64 us'] =
      some (a == a' && (y == y' && (mo == mo' && (d == d' && (h == h' && (mi == mi' && (s == s' && (us == us' && true)))))))) := by kernel_rfl
theorem stWh : isStructT X 25 = true := by kernel_rfl
theorem guWh : X.P.eqGuardType X.P.depth 25 = false := by kernel_rfl
theorem eqWh (w w' : Wh) (H : AM.Heap) (xo yo : Operand) : eqV X H 25 (.agg w.pay) (.agg w'.pay) xo yo = some (decide (w = w')) := by
  unfold Wh.pay
  rw [eqV_agg stWh guWh]
  have := whEqF w.neg w.y w.mo w.d w.h w.mi w.s w.us w'.neg w'.y w'.mo w'.d w'.h w'.mi w'.s w'.us
  refine this.trans (congrArg some ?_)
  rw [Bool.eq_iff_iff, decide_eq_true_eq]
  simp only [Bool.and_eq_true, beq_iff_eq, and_true]
  cases w; cases w'
  simp

theorem whEqS (a : Bool) (y mo d h mi s us : Int) (a' : Bool) (y' mo' d' h' mi' s' us' : Int) (H : AM.Heap) (xo yo : Operand) :
    eqV X H 25 (.agg (.pc [.bool a, .int .i64 y, .int .i64 mo, .int .i64 d, .int .i64 h, .int .i64 mi, .int .i64 s, .int .i64 us])) (.agg (.pc [.bool a', .int .i64 y', .int .i64 mo', .int .i64 d', .int .i64 h', .int .i64 mi', .int .i64 s', .int .i64 us'])) xo yo =
      some (decide ((⟨a, y, mo, d, h, mi, s, us⟩ : Wh) = ⟨a', y', mo', d', h', mi', s', us'⟩)) := eqWh ⟨a, y, mo, d, h, mi, s, us⟩ ⟨a', y', mo', d', h', mi', s', us'⟩ H xo yo

/-- may a moment, or a span, be? -/
def fin (w : Wh) (t : Nat) : Bool := clk w && (if t = 11 then decide (w.y = 0) && (decide (w.mo = 0) && (btw w.d 0 34 && !(w.neg && (decide (w.d = 0) && mid w)))) else (!w.neg && (btw w.y 0 9999 && (btw w.mo 0 12 && (btw w.d 0 31 && (decide (t ≠ 10) || mid w))))))

theorem bdW1 : buildV X 25 [(0, .bool true)] = some (.agg (.pc [.bool true, .int .i64 0, .int .i64 0, .int .i64 0, .int .i64 0, .int .i64 0, .int .i64 0, .int .i64 0])) := by kernel_rfl
theorem bdW0 : buildV X 25 [] = some (.agg (.pc [.bool false, .int .i64 0, .int .i64 0, .int .i64 0, .int .i64 0, .int .i64 0, .int .i64 0, .int .i64 0])) := by kernel_rfl
theorem bdW3 (y mo d : Int) : buildV X 25 [(1, .int .i64 y), (2, .int .i64 mo), (3, .int .i64 d)] = some (.agg (.pc [.bool false, .int .i64 y, .int .i64 mo, .int .i64 d, .int .i64 0, .int .i64 0, .int .i64 0, .int .i64 0])) := by kernel_rfl

section
variable (w : Wh) (t : Nat)

def fnFr : AM.Frame := [(1, .int .u8 (t : Nat)), (2, .ptr 0 0 0 0)]

set_option maxRecDepth 100000 in
set_option maxHeartbeats 4000000 in
theorem fin_code (ht : t < 256) : ∃ code, Tryd.f34.body = some code ∧
    Run X (evT X) 34 0 code [(0, .agg w.pay), (1, .int .u8 (t : Nat))] [] ⟨.ret, [(4, .bool (fin w t))], [some (whO w)]⟩ := by
  refine ⟨_, rfl, ?_⟩
  have hB := btw_ev
  have hC := fun H => clock_ev w H
  have hE := whEqS
  unfold fin
  simp only [Wh.pay] at hC
  apply Run.seq (fr' := fnFr t) (H' := [some (whO w)])
  · (refine ⟨0, ?_⟩; simp (maxSteps := 2000000) -implicitDefEqProofs [-getElem?_pos, List.getElem?_cons_zero, List.getElem?_cons_succ, go_sem, eqV, plen, loadV, storeV, whO, Wh.pay, fnFr])
  cases hc : clk w with
  | false =>
    rw [hc] at hC
    apply Run.seq_out (hne := by simp)
    apply Run.seq (fr' := fnFr t ++ [(7, .bool true)]) (H' := [some (whO w)])
    · (refine ⟨0, ?_⟩; simp (maxSteps := 2000000) -implicitDefEqProofs [-getElem?_pos, List.getElem?_cons_zero, List.getElem?_cons_succ, go_sem, eqV, plen, loadV, storeV, whO, Wh.pay, mkWh, hC, unV, fnFr])
    refine ⟨0, ?_⟩
    simp (maxSteps := 2000000) -implicitDefEqProofs [-getElem?_pos, List.getElem?_cons_zero, List.getElem?_cons_succ, go_sem, eqV, plen, loadV, storeV, fnFr]
  | true =>
  rw [hc] at hC
  apply Run.seq (fr' := fnFr t ++ [(7, .bool false)]) (H' := [some (whO w)])
  · (refine ⟨0, ?_⟩; simp (maxSteps := 2000000) -implicitDefEqProofs [-getElem?_pos, List.getElem?_cons_zero, List.getElem?_cons_succ, go_sem, eqV, plen, loadV, storeV, whO, Wh.pay, mkWh, hC, unV, fnFr])
  by_cases h11 : t = 11
  · subst h11
    rw [if_pos rfl]
    apply Run.seq_out (hne := by simp)
    apply Run.seq (fr' := fnFr 11 ++ [(9, .bool true)]) (H' := [some (whO w)])
    · (refine ⟨0, ?_⟩; simp (maxSteps := 2000000) -implicitDefEqProofs [-getElem?_pos, List.getElem?_cons_zero, List.getElem?_cons_succ, go_sem, eqV, plen, loadV, storeV, whO, fnFr])
    refine condT (by simp [evalO, getF, fnFr]) ?_
    refine Run.seq (fr' := [(4, .bool (decide (w.y = 0) && (decide (w.mo = 0) && (btw w.d 0 34 && !(w.neg && (decide (w.d = 0) && mid w))))))]) (H' := [some (whO w)]) ?_ ⟨0, by simp [exec]⟩
    by_cases hy : w.y = 0
    case neg =>
      have hyb : (w.y == 0) = false := by simpa using hy
      (refine ⟨0, ?_⟩; simp (maxSteps := 2000000) -implicitDefEqProofs [-getElem?_pos, List.getElem?_cons_zero, List.getElem?_cons_succ, go_sem, eqV, plen, loadV, storeV, whO, Wh.pay, fnFr, hyb, hy])
    by_cases hmo : w.mo = 0
    case neg =>
      have hyb : (w.mo == 0) = false := by simpa using hmo
      (refine ⟨0, ?_⟩; simp (maxSteps := 2000000) -implicitDefEqProofs [-getElem?_pos, List.getElem?_cons_zero, List.getElem?_cons_succ, go_sem, eqV, plen, loadV, storeV, whO, Wh.pay, fnFr, hy, hyb, hmo])
    cases hd : btw w.d 0 34 with
    | false => (refine ⟨0, ?_⟩; simp (maxSteps := 2000000) -implicitDefEqProofs [-getElem?_pos, List.getElem?_cons_zero, List.getElem?_cons_succ, go_sem, eqV, plen, loadV, storeV, whO, Wh.pay, fnFr, hy, hmo, hB, hd])
    | true =>
    cases hn : w.neg with
    | false => (refine ⟨0, ?_⟩; simp (maxSteps := 2000000) -implicitDefEqProofs [-getElem?_pos, List.getElem?_cons_zero, List.getElem?_cons_succ, go_sem, eqV, plen, loadV, storeV, whO, Wh.pay, fnFr, hy, hmo, hB, hd, hn, unV])
    | true =>
      have e : decide ((⟨true, 0, 0, w.d, w.h, w.mi, w.s, w.us⟩ : Wh) = ⟨true, 0, 0, 0, 0, 0, 0, 0⟩) = (decide (w.d = 0) && mid w) := by
        unfold mid
        rw [Bool.eq_iff_iff]; simp
      have hE1 := fun H xo yo => whEqS true 0 0 w.d w.h w.mi w.s w.us true 0 0 0 0 0 0 0 H xo yo
      rw [e] at hE1
      generalize (decide (w.d = 0) && mid w) = m at *
      clear hE e
      (refine ⟨0, ?_⟩; simp (maxSteps := 2000000) -implicitDefEqProofs [-getElem?_pos, List.getElem?_cons_zero, List.getElem?_cons_succ, go_sem, eqV, plen, loadV, storeV, -eqV, whO, Wh.pay, fnFr, mkWh, unV, hy, hmo, hB, hd, hn, bdW1, hE1])
  · have h11i : ((t : Int) == 11) = false := by simp; omega
    rw [if_neg h11]
    apply Run.seq (fr' := fnFr t ++ [(9, .bool false)]) (H' := [some (whO w)])
    · (refine ⟨0, ?_⟩; simp (maxSteps := 2000000) -implicitDefEqProofs [-getElem?_pos, List.getElem?_cons_zero, List.getElem?_cons_succ, go_sem, eqV, plen, loadV, storeV, whO, fnFr, h11i])
    cases hp : (!w.neg && (btw w.y 0 9999 && (btw w.mo 0 12 && btw w.d 0 31))) with
    | false =>
      have e : (!w.neg && (btw w.y 0 9999 && (btw w.mo 0 12 && (btw w.d 0 31 && (decide (t ≠ 10) || mid w))))) = false := by
        revert hp
        generalize btw w.y 0 9999 = a
        generalize btw w.mo 0 12 = b
        generalize btw w.d 0 31 = c
        generalize w.neg = n
        cases n <;> cases a <;> cases b <;> cases c <;> simp
      rw [e]
      apply Run.seq_out (hne := by simp)
      apply Run.seq (fr' := fnFr t ++ [(52, .bool true)]) (H' := [some (whO w)])
      · clear e
        cases hn : w.neg with
        | true => (refine ⟨0, ?_⟩; simp (maxSteps := 2000000) -implicitDefEqProofs [-getElem?_pos, List.getElem?_cons_zero, List.getElem?_cons_succ, go_sem, eqV, plen, loadV, storeV, whO, Wh.pay, fnFr, hn])
        | false =>
        cases hy : btw w.y 0 9999 with
        | false => (refine ⟨0, ?_⟩; simp (maxSteps := 2000000) -implicitDefEqProofs [-getElem?_pos, List.getElem?_cons_zero, List.getElem?_cons_succ, go_sem, eqV, plen, loadV, storeV, whO, Wh.pay, fnFr, hn, hB, hy, unV])
        | true =>
        cases hmo : btw w.mo 0 12 with
        | false => (refine ⟨0, ?_⟩; simp (maxSteps := 2000000) -implicitDefEqProofs [-getElem?_pos, List.getElem?_cons_zero, List.getElem?_cons_succ, go_sem, eqV, plen, loadV, storeV, whO, Wh.pay, fnFr, hn, hB, hy, hmo, unV])
        | true =>
        cases hd : btw w.d 0 31 with
        | false => (refine ⟨0, ?_⟩; simp (maxSteps := 2000000) -implicitDefEqProofs [-getElem?_pos, List.getElem?_cons_zero, List.getElem?_cons_succ, go_sem, eqV, plen, loadV, storeV, whO, Wh.pay, fnFr, hn, hB, hy, hmo, hd, unV])
        | true => rw [hn, hy, hmo, hd] at hp; cases hp
      refine ⟨0, ?_⟩
      simp (maxSteps := 2000000) -implicitDefEqProofs [-getElem?_pos, List.getElem?_cons_zero, List.getElem?_cons_succ, go_sem, eqV, plen, loadV, storeV, fnFr]
    | true =>
      simp only [Bool.and_eq_true, Bool.not_eq_true'] at hp
      obtain ⟨hn, hy, hmo, hd⟩ := hp
      apply Run.seq (fr' := fnFr t ++ [(52, .bool false)]) (H' := [some (whO w)])
      · (refine ⟨0, ?_⟩; simp (maxSteps := 2000000) -implicitDefEqProofs [-getElem?_pos, List.getElem?_cons_zero, List.getElem?_cons_succ, go_sem, eqV, plen, loadV, storeV, whO, Wh.pay, fnFr, hn, hB, hy, hmo, hd, unV])
      rw [hn, hy, hmo, hd]
      refine Run.seq (fr' := [(4, .bool (decide (t ≠ 10) || mid w))]) (H' := [some (whO w)]) ?_ ⟨0, by simp [exec]⟩
      by_cases h10 : t = 10
      · subst h10
        have e : decide ((⟨false, w.y, w.mo, w.d, w.h, w.mi, w.s, w.us⟩ : Wh) = ⟨false, w.y, w.mo, w.d, 0, 0, 0, 0⟩) = mid w := by
          unfold mid
          rw [Bool.eq_iff_iff]; simp
        have hE1 := fun H xo yo => whEqS false w.y w.mo w.d w.h w.mi w.s w.us false w.y w.mo w.d 0 0 0 0 H xo yo
        rw [e] at hE1
        generalize mid w = m at *
        clear hE e
        (refine ⟨0, ?_⟩; simp (maxSteps := 2000000) -implicitDefEqProofs [-getElem?_pos, List.getElem?_cons_zero, List.getElem?_cons_succ, go_sem, eqV, plen, loadV, storeV, -eqV, whO, Wh.pay, fnFr, mkWh, hn, bdW3, hE1])
      · have h10i : ((t : Int) != 10) = true := by simp; omega
        (refine ⟨0, ?_⟩; simp (maxSteps := 2000000) -implicitDefEqProofs [-getElem?_pos, List.getElem?_cons_zero, List.getElem?_cons_succ, go_sem, eqV, plen, loadV, storeV, whO, fnFr, h10, h10i])

set_option maxRecDepth 100000 in
set_option maxHeartbeats 4000000 in
theorem rfin_code (ht : t < 256) : ∃ code, Tryd.f35.body = some code ∧
    Run X (evT X) 35 0 code [(0, .agg w.pay), (1, .int .u8 (t : Nat))] [] ⟨.ret, [(4, .bool (fin w t))], [some (whO w)]⟩ := by
  refine ⟨_, rfl, ?_⟩
  have hC := fun H => rclock_ev w H
  unfold fin
  simp only [Wh.pay] at hC
  apply Run.seq (fr' := fnFr t) (H' := [some (whO w)])
  · (refine ⟨0, ?_⟩; simp (maxSteps := 2000000) -implicitDefEqProofs [-getElem?_pos, List.getElem?_cons_zero, List.getElem?_cons_succ, go_sem, eqV, plen, loadV, storeV, whO, Wh.pay, fnFr])
  cases hc : clk w with
  | false =>
    rw [hc] at hC
    apply Run.seq_out (hne := by simp)
    apply Run.seq (fr' := fnFr t ++ [(7, .bool true)]) (H' := [some (whO w)])
    · (refine ⟨0, ?_⟩; simp (maxSteps := 2000000) -implicitDefEqProofs [-getElem?_pos, List.getElem?_cons_zero, List.getElem?_cons_succ, go_sem, eqV, plen, loadV, storeV, whO, Wh.pay, mkWh, hC, unV, fnFr])
    refine ⟨0, ?_⟩
    simp (maxSteps := 2000000) -implicitDefEqProofs [-getElem?_pos, List.getElem?_cons_zero, List.getElem?_cons_succ, go_sem, eqV, plen, loadV, storeV, fnFr]
  | true =>
  rw [hc] at hC
  have hM := fun H => mid_ev hc H
  simp only [Wh.pay] at hM
  unfold btw
  generalize mid w = m at *
  apply Run.seq (fr' := fnFr t ++ [(7, .bool false)]) (H' := [some (whO w)])
  · (refine ⟨0, ?_⟩; simp (maxSteps := 2000000) -implicitDefEqProofs [-getElem?_pos, List.getElem?_cons_zero, List.getElem?_cons_succ, go_sem, eqV, plen, loadV, storeV, whO, Wh.pay, mkWh, hC, unV, fnFr])
  by_cases h11 : t = 11
  · subst h11
    rw [if_pos rfl]
    apply Run.seq_out (hne := by simp)
    apply Run.seq (fr' := fnFr 11 ++ [(9, .bool true)]) (H' := [some (whO w)])
    · (refine ⟨0, ?_⟩; simp (maxSteps := 2000000) -implicitDefEqProofs [-getElem?_pos, List.getElem?_cons_zero, List.getElem?_cons_succ, go_sem, eqV, plen, loadV, storeV, whO, fnFr])
    refine condT (by simp [evalO, getF, fnFr]) ?_
    refine Run.seq (fr' := [(4, .bool (decide (w.y = 0) && (decide (w.mo = 0) && (decide (0 ≤ w.d ∧ w.d ≤ 34) && !(w.neg && (decide (w.d = 0) && m))))))]) (H' := [some (whO w)]) ?_ ⟨0, by simp [exec]⟩
    by_cases hy : w.y = 0
    case neg =>
      have hyb : (w.y == 0) = false := by simpa using hy
      (refine ⟨0, ?_⟩; simp (maxSteps := 2000000) -implicitDefEqProofs [-getElem?_pos, List.getElem?_cons_zero, List.getElem?_cons_succ, go_sem, eqV, plen, loadV, storeV, whO, Wh.pay, fnFr, hy, hyb])
    by_cases hmo : w.mo = 0
    case neg =>
      have hyb : (w.mo == 0) = false := by simpa using hmo
      (refine ⟨0, ?_⟩; simp (maxSteps := 2000000) -implicitDefEqProofs [-getElem?_pos, List.getElem?_cons_zero, List.getElem?_cons_succ, go_sem, eqV, plen, loadV, storeV, whO, Wh.pay, fnFr, hy, hmo, hyb])
    by_cases hd : 0 ≤ w.d
    case neg => (refine ⟨0, ?_⟩; simp (maxSteps := 2000000) -implicitDefEqProofs [-getElem?_pos, List.getElem?_cons_zero, List.getElem?_cons_succ, go_sem, eqV, plen, loadV, storeV, whO, Wh.pay, fnFr, hy, hmo, hd])
    by_cases hd2 : w.d ≤ 34
    case neg => (refine ⟨0, ?_⟩; simp (maxSteps := 2000000) -implicitDefEqProofs [-getElem?_pos, List.getElem?_cons_zero, List.getElem?_cons_succ, go_sem, eqV, plen, loadV, storeV, whO, Wh.pay, fnFr, hy, hmo, hd, hd2])
    cases hn : w.neg with
    | false => (refine ⟨0, ?_⟩; simp (maxSteps := 2000000) -implicitDefEqProofs [-getElem?_pos, List.getElem?_cons_zero, List.getElem?_cons_succ, go_sem, eqV, plen, loadV, storeV, whO, Wh.pay, fnFr, unV, hy, hmo, hd, hd2, hn])
    | true =>
    by_cases hd0 : w.d = 0
    · rw [hn, hy, hmo, hd0] at hM
      (refine ⟨0, ?_⟩; simp (maxSteps := 2000000) -implicitDefEqProofs [-getElem?_pos, List.getElem?_cons_zero, List.getElem?_cons_succ, go_sem, eqV, plen, loadV, storeV, whO, Wh.pay, fnFr, mkWh, unV, hy, hmo, hn, hd0, hM])
    · have hd0b : (w.d == 0) = false := by simpa using hd0
      (refine ⟨0, ?_⟩; simp (maxSteps := 2000000) -implicitDefEqProofs [-getElem?_pos, List.getElem?_cons_zero, List.getElem?_cons_succ, go_sem, eqV, plen, loadV, storeV, whO, Wh.pay, fnFr, unV, hy, hmo, hd, hd2, hn, hd0, hd0b])
  · have h11i : ((t : Int) == 11) = false := by simp; omega
    rw [if_neg h11]
    apply Run.seq (fr' := fnFr t ++ [(9, .bool false)]) (H' := [some (whO w)])
    · (refine ⟨0, ?_⟩; simp (maxSteps := 2000000) -implicitDefEqProofs [-getElem?_pos, List.getElem?_cons_zero, List.getElem?_cons_succ, go_sem, eqV, plen, loadV, storeV, whO, fnFr, h11i])
    refine Run.seq (fr' := [(4, .bool (!w.neg && (decide (0 ≤ w.y ∧ w.y ≤ 9999) && (decide (0 ≤ w.mo ∧ w.mo ≤ 12) && (decide (0 ≤ w.d ∧ w.d ≤ 31) && (decide (t ≠ 10) || m))))))]) (H' := [some (whO w)]) ?_ ⟨0, by simp [exec]⟩
    cases hn : w.neg with
    | true => (refine ⟨0, ?_⟩; simp (maxSteps := 2000000) -implicitDefEqProofs [-getElem?_pos, List.getElem?_cons_zero, List.getElem?_cons_succ, go_sem, eqV, plen, loadV, storeV, whO, Wh.pay, fnFr, unV, hn])
    | false =>
    by_cases hy : 0 ≤ w.y
    case neg => (refine ⟨0, ?_⟩; simp (maxSteps := 2000000) -implicitDefEqProofs [-getElem?_pos, List.getElem?_cons_zero, List.getElem?_cons_succ, go_sem, eqV, plen, loadV, storeV, whO, Wh.pay, fnFr, unV, hn, hy])
    by_cases hy2 : w.y ≤ 9999
    case neg => (refine ⟨0, ?_⟩; simp (maxSteps := 2000000) -implicitDefEqProofs [-getElem?_pos, List.getElem?_cons_zero, List.getElem?_cons_succ, go_sem, eqV, plen, loadV, storeV, whO, Wh.pay, fnFr, unV, hn, hy, hy2])
    by_cases hmo : 0 ≤ w.mo
    case neg => (refine ⟨0, ?_⟩; simp (maxSteps := 2000000) -implicitDefEqProofs [-getElem?_pos, List.getElem?_cons_zero, List.getElem?_cons_succ, go_sem, eqV, plen, loadV, storeV, whO, Wh.pay, fnFr, unV, hn, hy, hy2, hmo])
    by_cases hmo2 : w.mo ≤ 12
    case neg => (refine ⟨0, ?_⟩; simp (maxSteps := 2000000) -implicitDefEqProofs [-getElem?_pos, List.getElem?_cons_zero, List.getElem?_cons_succ, go_sem, eqV, plen, loadV, storeV, whO, Wh.pay, fnFr, unV, hn, hy, hy2, hmo, hmo2])
    by_cases hd : 0 ≤ w.d
    case neg => (refine ⟨0, ?_⟩; simp (maxSteps := 2000000) -implicitDefEqProofs [-getElem?_pos, List.getElem?_cons_zero, List.getElem?_cons_succ, go_sem, eqV, plen, loadV, storeV, whO, Wh.pay, fnFr, unV, hn, hy, hy2, hmo, hmo2, hd])
    by_cases hd2 : w.d ≤ 31
    case neg => (refine ⟨0, ?_⟩; simp (maxSteps := 2000000) -implicitDefEqProofs [-getElem?_pos, List.getElem?_cons_zero, List.getElem?_cons_succ, go_sem, eqV, plen, loadV, storeV, whO, Wh.pay, fnFr, unV, hn, hy, hy2, hmo, hmo2, hd, hd2])
    by_cases h10 : t = 10
    · subst h10
      rw [hn] at hM
      (refine ⟨0, ?_⟩; simp (maxSteps := 2000000) -implicitDefEqProofs [-getElem?_pos, List.getElem?_cons_zero, List.getElem?_cons_succ, go_sem, eqV, plen, loadV, storeV, whO, Wh.pay, fnFr, mkWh, unV, hn, hy, hy2, hmo, hmo2, hd, hd2, hM])
    · have h10i : ((t : Int) != 10) = true := by simp; omega
      (refine ⟨0, ?_⟩; simp (maxSteps := 2000000) -implicitDefEqProofs [-getElem?_pos, List.getElem?_cons_zero, List.getElem?_cons_succ, go_sem, eqV, plen, loadV, storeV, whO, Wh.pay, fnFr, unV, hn, hy, hy2, hmo, hmo2, hd, hd2, h10, h10i])

end

theorem fin_ev (w : Wh) {t : Nat} (ht : t < 256) (H : AM.Heap) : evT X 34 [.agg w.pay, .int .u8 (t : Nat)] H = some (.bool (fin w t), H) := by
  obtain ⟨code, hcode, hr⟩ := fin_code w t ht
  exact evT_eq (Ev1.toldP (l := [.bool (fin w t)]) (evT_below X) Tryd.func34 hcode (args_wh (i := 0) (args_flat (i := 1) rfl rfl (args_nil 2))) (by simp [Wh.pay, idsL, ids]) (by simp [gtag]) rfl rfl rfl ⟨_, ⟨rfl, rfl⟩, hr⟩)
theorem rfin_ev (w : Wh) {t : Nat} (ht : t < 256) (H : AM.Heap) : evT X 35 [.agg w.pay, .int .u8 (t : Nat)] H = some (.bool (fin w t), H) := by
  obtain ⟨code, hcode, hr⟩ := rfin_code w t ht
  exact evT_eq (Ev1.toldP (l := [.bool (fin w t)]) (evT_below X) Tryd.func35 hcode (args_wh (i := 0) (args_flat (i := 1) rfl rfl (args_nil 2))) (by simp [Wh.pay, idsL, ids]) (by simp [gtag]) rfl rfl rfl ⟨_, ⟨rfl, rfl⟩, hr⟩)

end Go.Proofs.YtifgkkfchnfcaaaDoor

/- Walks: the check of a value. -/
namespace Go.Proofs.YtifgkkfchnfcaaaDoor
open Go.AM
set_option linter.unusedSimpArgs false
set_option linter.unusedVariables false

theorem vaEqF (k i b : Int) (t : List UInt8) (a : Bool) (y mo d h mi s us : Int) (k' i' b' : Int) (t' : List UInt8) (a' : Bool) (y' mo' d' h' mi' s' us' : Int) :
    eqFlat X 6 27 [.int .i64 k, .int .i64 i, .int .u64 b, .str t, .bool a, .int .i64 y, .int .i64 mo, .int .i64 d, .int .i64 h, .int .i64 mi, .int .i64 s, .int .i64 us] [.int .i64 k', .int .i64 i', .int .u64 b', .str t', .bool a', .int .i64 y', .int .i64 mo', .int .i64 d', .int .i64 h', .int .i64 mi', .int .i64 s', .int .i64 us'] =
      some (k == k' && (i == i' && (b == b' && (t == t' && ((a == a' && (y == y' && (mo == mo' && (d == d' && (h == h' && (mi == mi' && (s == s' && (us == us' && true)))))))) && true))))) := by kernel_rfl
theorem stVa : isStructT X 27 = true := by kernel_rfl
theorem guVa : X.P.eqGuardType X.P.depth 27 = false := by kernel_rfl
theorem eqVa (v v' : Va) (H : AM.Heap) (xo yo : Operand) : eqV X H 27 (.agg v.pay) (.agg v'.pay) xo yo = some (decide (v = v')) := by
  unfold Va.pay
  rw [eqV_agg stVa guVa]
  have := vaEqF v.k v.i v.b v.t v.w.neg v.w.y v.w.mo v.w.d v.w.h v.w.mi v.w.s v.w.us v'.k v'.i v'.b v'.t v'.w.neg v'.w.y v'.w.mo v'.w.d v'.w.h v'.w.mi v'.w.s v'.w.us
  refine this.trans (congrArg some ?_)
  rw [Bool.eq_iff_iff, decide_eq_true_eq]
  simp only [Bool.and_eq_true, beq_iff_eq, and_true]
  obtain ⟨k, i, b, t, w⟩ := v
  obtain ⟨k', i', b', t', w'⟩ := v'
  cases w; cases w'
  simp only [Va.mk.injEq, Wh.mk.injEq]
  constructor
  · rintro ⟨h1, h2, h3, h4, h5⟩; exact ⟨h1, h2, Int.ofNat.inj h3, h4, h5⟩
  · rintro ⟨h1, h2, h3, h4, h5⟩; exact ⟨h1, h2, by rw [h3], h4, h5⟩

theorem bdV0 : buildV X 27 [] = some (.agg ({} : Va).pay) := by kernel_rfl
theorem bdVi (k i : Int) : buildV X 27 [(0, .int .i64 k), (1, .int .i64 i)] = some (.agg ({ k := k, i := i } : Va).pay) := by kernel_rfl
theorem bdVb (k : Int) (b : Nat) : buildV X 27 [(0, .int .i64 k), (2, .int .u64 (b : Nat))] = some (.agg ({ k := k, b := b } : Va).pay) := by kernel_rfl
theorem bdVt (k : Int) (t : List UInt8) : buildV X 27 [(0, .int .i64 k), (3, .str t)] = some (.agg ({ k := k, t := t } : Va).pay) := by kernel_rfl
theorem bdVw (k : Int) (w : Wh) : buildV X 27 [(0, .int .i64 k), (4, .agg w.pay)] = some (.agg ({ k := k, w := w } : Va).pay) := by kernel_rfl

/-- fits a number in n bytes? -/
def okI (i : Int) (n : Nat) : Bool := decide (8 ≤ n) || decide (-(2 ^ (8 * n - 1)) ≤ i ∧ i < 2 ^ (8 * n - 1))
def okB (b n : Nat) : Bool := decide (8 ≤ n) || decide (b < 2 ^ (8 * n))
/-- is a value, other than nothing, one of its type? -/
def okVk (v : Va) (k : Int) (n tt : Nat) : Bool :=
  if v.k = 1 then decide (k = 1) && (decide (v = { k := 1, i := v.i }) && okI v.i n)
  else if v.k = 2 ∨ v.k = 3 ∨ v.k = 4 then decide (k = v.k) && (decide (v = { k := v.k, b := v.b }) && okB v.b n)
  else if v.k = 5 ∨ v.k = 6 then decide (k = v.k) && (decide (v = { k := v.k, w := v.w }) && fin v.w tt)
  else if v.k = 7 then decide (k = 7) && (decide (v = { k := 7, t := v.t }) && decide (v.t.length ≤ 16777216))
  else false
def okVa (v : Va) (t : Ty) : Bool := okVk v (kindN t.t t.u) (sizeN t.t) t.t
/-- a value's check -/
def chkV (v : Va) (t : Ty) : Int := if kindN t.t t.u < 0 then 2 else if v = {} then 0 else if okVa v t then 0 else 2

theorem kind_bd : ∀ t u, -1 ≤ kindN t u ∧ kindN t u ≤ 7 := by
  intro t u
  unfold kindN
  repeat' split
  all_goals omega

theorem size_num {t : Nat} {u : Bool} (h : kindN t u = 1 ∨ kindN t u = 2 ∨ kindN t u = 3 ∨ kindN t u = 4) : sizeN t = 1 ∨ sizeN t = 2 ∨ sizeN t = 4 ∨ sizeN t = 8 := by
  unfold kindN at h
  unfold sizeN
  by_cases h0 : kn t = false
  · rw [if_pos h0] at h; omega
  rw [if_neg h0] at h
  by_cases h1 : t = 1 ∨ t = 2 ∨ t = 13 ∨ t = 3 ∨ t = 9 ∨ t = 8
  · rcases h1 with h1 | h1 | h1 | h1 | h1 | h1 <;> subst h1 <;> simp
  rw [if_neg h1] at h
  by_cases h2 : t = 4
  · subst h2; simp
  rw [if_neg h2] at h
  by_cases h3 : t = 5
  · subst h3; simp
  rw [if_neg h3] at h
  by_cases h4 : t = 7 ∨ t = 10 ∨ t = 12
  · rw [if_pos h4] at h; omega
  rw [if_neg h4] at h
  by_cases h5 : t = 11
  · rw [if_pos h5] at h; omega
  rw [if_neg h5] at h
  by_cases h6 : t = 6
  · rw [if_pos h6] at h; omega
  rw [if_neg h6] at h
  omega

theorem fdiv_q {i : Int} {m : Nat} (q : Int) (hq : i.fdiv (2 ^ m) = q) : ((q == 0) || (q == -1)) = decide (-(2 ^ m) ≤ i ∧ i < 2 ^ m) := by
  have hp : (0 : Int) < 2 ^ m := Int.pow_pos (by decide)
  rw [Int.fdiv_eq_ediv_of_nonneg _ (Int.le_of_lt hp)] at hq
  have h1 := Int.mul_ediv_add_emod i (2 ^ m)
  have h2 := Int.emod_nonneg i (b := 2 ^ m) (by omega)
  have h3 := Int.emod_lt_of_pos i hp
  rw [hq] at h1
  generalize i % 2 ^ m = r at *
  generalize (2 : Int) ^ m = B at *
  rw [Bool.eq_iff_iff]
  simp only [Bool.or_eq_true, beq_iff_eq, decide_eq_true_eq]
  constructor
  · rintro (h | h) <;> subst h <;> constructor <;> omega
  · rintro ⟨h4, h5⟩
    apply Classical.byContradiction
    intro hc
    rcases Int.lt_or_gt_of_ne (show q ≠ 0 by omega) with h6 | h6
    · have : B * q ≤ B * (-2) := Int.mul_le_mul_of_nonneg_left (by omega) (by omega)
      omega
    · have : B * 1 ≤ B * q := Int.mul_le_mul_of_nonneg_left (by omega) (by omega)
      omega

def ckFr (k : Int) (f : Bool) (n : Nat) : AM.Frame := [(2, .ptr 0 0 0 0), (3, .ptr 1 0 0 0), (5, .int .i64 k), (6, .bool f), (7, .int .i64 (n : Nat))]

/-- the check's choice -/
noncomputable def ckO : Option Code := (((((((Tryd.f15.body).bind cR).bind cR).bind cR).bind cR).bind cR).bind cR).bind cL

/-- how the choice leaves the frame and the heap -/
def ckP (v : Va) (t : Ty) (k : Int) (n : Nat) (fr : AM.Frame) (H : AM.Heap) : Prop := H = [some (vaO v), some (tyO t)] ∧ (fr = [(6, .bool (okVk v k n t.t))] ∨ fr = [(2, .ptr 0 0 0 0), (5, .int .i64 k), (6, .bool (okVk v k n t.t)), (103, .bool false)])

theorem rsz (t : Nat) : rsizeN t = 1 ∨ rsizeN t = 2 ∨ rsizeN t = 4 ∨ rsizeN t = 8 := by
  unfold rsizeN; repeat' split
  all_goals omega
theorem rsize_eq {t : Nat} (h : sizeN t ≠ 0) : rsizeN t = sizeN t := by
  unfold sizeN at h ⊢
  unfold rsizeN
  repeat' split
  all_goals first | rfl | (simp_all; done) | omega

end Go.Proofs.YtifgkkfchnfcaaaDoor

/- Walks: the document's reader of fields. -/
namespace Go.Proofs.YtifgkkfchnfcaaaDoor
open Go.AM
set_option linter.unusedSimpArgs false
set_option linter.unusedVariables false

/-- the fields' box -/
def bxO (p : AV) (c t tg : Nat) (e : Int) : AM.Obj := ⟨.pc [.ro c p t, .int .i64 e], 0, some 2, 1, false, true, tg⟩
/-- the error, when what was read is wrong -/
def wr (bad : Bool) (e : Int) : Int := if e = 0 ∧ bad = true then 5 else e
/-- bytes off what is left -/
def bts (n : Nat) (s : St) : List UInt8 := if s.2 ≠ 0 ∨ s.1.length < n then List.replicate n 0 else s.1.take n

theorem bts_len (n : Nat) (s : St) : (bts n s).length = n := by
  unfold bts
  split
  · simp
  · rename_i h
    simp; omega

theorem leV_zeros (n : Nat) : leV (List.replicate n 0) = 0 := by
  induction n with
  | zero => rfl
  | succ n ih => rw [List.replicate_succ, leV, ih]; rfl

theorem bts_fx (n : Nat) (s : St) : leV (bts n s) = (fx n s).1 := by
  unfold bts fx
  by_cases h1 : s.2 ≠ 0
  · rw [if_pos (.inl h1), if_pos h1, leV_zeros]
  · rw [if_neg h1]
    by_cases h2 : s.1.length < n
    · rw [if_pos (.inr h2), if_pos h2, leV_zeros]
    · rw [if_neg (by simp only [ne_eq, Decidable.not_not] at h1; omega), if_neg h2]

theorem mkB {n : Nat} (hn : n ≤ 1000000) (H : AM.Heap) : makeSliceV X H 22 (.int .i64 (n : Nat)) (.int .i64 (n : Nat)) = some (.sl H.length 0 n 0, H ++ [some ⟨.pb (List.replicate n 0), 0, some n, 1, true, false, 0⟩]) := by
  have hz : ∀ n, zeroRow X 5 n = some (.pb (List.replicate n 0)) := fun n => by simp [zeroRow, cellsAV, scalars, scalar, idsL, ids, tagsL, tags]
  have h0 : (0 : Int) ≤ n := by omega
  have h1 : (n : Int) ≤ 9223372036854775807 := by omega
  have h2 : (n : Int) ≤ 140737488355328 := by omega
  simp [makeSliceV, hz, h0, h1, h2, rowOf]

theorem slTo {c t n : Nat} {b : List UInt8} (hc : c = 0 → b = []) (hn : n ≤ b.length) (H : AM.Heap) : sliceV X H 22 (.ro c (.pb b) t) none (some (.int .i64 (n : Nat))) = some (.ro (if c = 0 then 0 else 2) (.pb (b.take n)) t) := by
  have hnl : (n : Int) ≤ (b.length : Int) := by omega
  simp [sliceV, bound, plen, pesz, psub, hnl, hn]

theorem slFrom {c t n : Nat} {b : List UInt8} (hc : c = 0 → b = []) (hn : n ≤ b.length) (H : AM.Heap) : sliceV X H 22 (.ro c (.pb b) t) (some (.int .i64 (n : Nat))) none = some (.ro c (.pb (b.drop n)) t) := by
  have hcc : (if c = 0 then 0 else c) = c := by split <;> omega
  have hnl : (n : Int) ≤ (b.length : Int) := by omega
  have hle : n + (b.length - n) ≤ b.length := by omega
  have ht : List.take (b.length - n) (b.drop n) = b.drop n := by rw [List.take_of_length_le (by simp)]
  simp [sliceV, bound, plen, pesz, psub, hnl, hcc, hle, ht]

section
variable (c t tg : Nat) (p : AV) (e : Int) (s : St) (n : Nat) (bad : Bool)

end

theorem jt (c t : Nat) (s : St) : joinTags (tagsOb (rdO c t t s)) = some t := by
  simp [tagsOb, rdO, tags, tagsL, joinTags, joinTag]; omega

section
variable (c t : Nat) (p : AV) (e : Int) (s : St) (n : Nat)

/-- all that is left -/
def rsF (s : St) : List UInt8 := if s.2 ≠ 0 then [] else s.1
def rsO (c t : Nat) (s : St) : AM.Obj := if s.2 ≠ 0 then rdO c t t s else rdN t 0

end

end Go.Proofs.YtifgkkfchnfcaaaDoor

/- Structures: a parameter; places in a heap. -/
namespace Go.Proofs.YtifgkkfchnfcaaaDoor
open Go.AM
set_option linter.unusedSimpArgs false
set_option linter.unusedVariables false

structure Pm where
  t : Ty
  lg : Bool
  v : Va

def Pm.pay (p : Pm) : AV := .pc [.int .u8 (p.t.t : Nat), .bool p.t.u, .bool p.lg, .int .i64 p.v.k, .int .i64 p.v.i, .int .u64 (p.v.b : Nat), .str p.v.t, .bool p.v.w.neg, .int .i64 p.v.w.y, .int .i64 p.v.w.mo, .int .i64 p.v.w.d, .int .i64 p.v.w.h, .int .i64 p.v.w.mi, .int .i64 p.v.w.s, .int .i64 p.v.w.us]
def pmO (p : Pm) : AM.Obj := ⟨p.pay, 0, some 15, 1, false, true, 0⟩
def pmL (l : List Pm) : AV := .pr 15 (l.map Pm.pay)
/-- a parameter that may be -/
def Pm.ok (p : Pm) : Prop := p.t.t < 256 ∧ p.v.b < 18446744073709551616 ∧ -9223372036854775808 ≤ p.v.i ∧ p.v.i < 9223372036854775808
/-- a parameter that Append refuses -/
def Pm.bad (p : Pm) : Bool := decide (chkV p.v p.t ≠ 0) || (p.lg && decide (p.v.k ≠ 0))

theorem at_cat {α : Type} {H r : List α} {j : Nat} {y : α} (h : H[j]? = some y) : (H ++ r)[j]? = some y := by
  rw [List.getElem?_append_left]
  · exact h
  · exact (List.getElem?_eq_some_iff.1 h).1
theorem at_lt {α : Type} {H : List α} {j : Nat} {y : α} (h : H[j]? = some y) : j < H.length := (List.getElem?_eq_some_iff.1 h).1
theorem at_set {α : Type} {H : List α} {j : Nat} {y x : α} (h : H[j]? = some y) : (H.set j x)[j]? = some x := by
  rw [List.getElem?_set_self (at_lt h)]
theorem at_ne {α : Type} {H : List α} {j k : Nat} {y x : α} (h : H[j]? = some y) (hne : k ≠ j) : (H.set k x)[j]? = some y := by
  rw [List.getElem?_set_ne hne]; exact h
theorem take_cat {α β : Type} {l : List α} {i : Nat} {p : α} (f : α → List β) (h : l[i]? = some p) : (l.take (i + 1)).flatMap f = (l.take i).flatMap f ++ f p := by
  rw [List.take_add_one, h]; simp

end Go.Proofs.YtifgkkfchnfcaaaDoor

/- Walks: the closure that reads a number out of a moment's bytes. -/
namespace Go.Proofs.YtifgkkfchnfcaaaDoor
open Go.AM
set_option linter.unusedSimpArgs false
set_option linter.unusedVariables false

/-- so many bytes from a place, as a number -/
def nb (c : List UInt8) (i k : Nat) : Nat := leV ((c.drop i).take k)

theorem nb_lt (c : List UInt8) (i k : Nat) : nb c i k < 256 ^ k := by
  unfold nb
  have h := leV_lt ((c.drop i).take k)
  have : ((c.drop i).take k).length ≤ k := by simp; omega
  exact Nat.lt_of_lt_of_le h (Nat.pow_le_pow_right (by omega) this)

section
variable (c : List UInt8) (i k : Nat) (b1 b2 : AM.Obj)

set_option maxRecDepth 100000 in
theorem number_code (hc : c.length = 13) (hi : i + k ≤ 13) (hk : 1 ≤ k) (hk4 : k ≤ 4) (hp1 : b1.p = .pc [.sl 1 0 13 0]) (hi1 : b1.ids = true) (hg1 : b1.g = 0) (hp2 : b2.p = .pb c) (hi2 : b2.ids = false) (hg2 : b2.g = 0) : ∃ code, Tryd.f52.body = some code ∧
    Run X (evT X) 52 2 code [(0, .int .i64 (i : Nat)), (1, .int .i64 (k : Nat)), (2, .ptr 0 0 0 0)] [some b1, some b2] ⟨.ret, [(5, .int .i64 (nb c i k : Nat))], [some b1, some b2]⟩ := by
  refine ⟨_, rfl, ?_⟩
  have hB : Byt [some b1, some b2] (.sl 1 i (13 - i) 0) (c.drop i) := Byt.part (H := [some b1, some b2]) (o := 1) rfl hg2 hp2 hi2 (by rw [List.take_of_length_le (by simp; omega)]) (by omega)
  have hR := rf_ev (n := k) hB (by simp; omega)
  have hlt := nb_lt c i k
  have h4 : 256 ^ k ≤ 256 ^ 4 := Nat.pow_le_pow_right (by omega) hk4
  have hrf : rfR (c.drop i) (k : Nat) = (((nb c i k : Nat) : Int), 0) := by
    unfold rfR
    rw [if_neg (by omega), if_neg (by simp; omega)]
    rfl
  rw [hrf] at hR
  have w1 : IntKind.i64.wrap ((nb c i k : Nat) : Int) = ((nb c i k : Nat) : Int) := wrap_i64 (by omega) (by omega)
  have hsl : sliceV X [some b1, some b2] 22 (.sl 1 0 13 0) (some (.int .i64 (i : Nat))) none = some (.sl 1 i (13 - i) 0) := by
    have hiI : (i : Int) ≤ 13 := by omega
    simp [sliceV, bound, live, hg2, hp2, pesz, hiI]
  generalize nb c i k = z at *
  generalize 13 - i = n at *
  refine ⟨0, ?_⟩
  simp (maxSteps := 2000000) -implicitDefEqProofs [-getElem?_pos, List.getElem?_cons_zero, List.getElem?_cons_succ, go_sem, eqV, plen, loadV, storeV, hp1, hi1, hg1, hsl, hR, w1]

end

theorem number_ev {H : AM.Heap} {o1 o2 i k g2 : Nat} {I K : Int} {b1 b2 : AM.Obj} {c : List UInt8} (hI : I = (i : Nat)) (hK : K = (k : Nat)) (hc : c.length = 13) (hi : i + k ≤ 13) (hk : 1 ≤ k) (hk4 : k ≤ 4)
    (h1 : H[o1]? = some (some b1)) (hp1 : b1.p = .pc [.sl o2 0 13 g2]) (hi1 : b1.ids = true) (hg1 : b1.g = 0) (ht1 : b1.tg = 0) (h2 : H[o2]? = some (some b2)) (hp2 : b2.p = .pb c) (hi2 : b2.ids = false) (hg2 : b2.g = g2) (ht2 : b2.tg = 0) (hne : o1 ≠ o2) :
    evT X 52 [.int .i64 I, .int .i64 K, .ptr o1 0 0 0] H = some (.int .i64 (nb c i k : Nat), H) := by
  subst hI hK
  obtain ⟨code, hcode, hr⟩ := number_code c i k { b1 with p := .pc [.sl 1 0 13 0], g := 0, tg := 4 } { b2 with g := 0, tg := 4 } hc hi hk hk4 rfl hi1 rfl hp2 hi2 rfl
  exact evT_eq (Ev1.fn2 (C := X) (f := 52) (H := H) (xs := [.int .i64 (i : Nat), .int .i64 (k : Nat)]) (n := 4) (l := [.int .i64 (nb c i k : Nat)]) (rest := []) (evT_below X) Tryd.func52 hcode (fun i => by rfl) h1 hg1 (by rw [hg2]; exact hp1) hi1 ht1 h2 hi2 ht2 hp2 hne rfl rfl (by simp [gtag])
    (by rw [par52]; simpa [coerce, numbered] using hr) (.inr rfl) rfl rfl rfl rfl)

end Go.Proofs.YtifgkkfchnfcaaaDoor

/- Walks: a moment, or a span, read. -/
namespace Go.Proofs.YtifgkkfchnfcaaaDoor
open Go.AM
set_option linter.unusedSimpArgs false
set_option linter.unusedVariables false

/-- the lengths that a moment, a span may have -/
def szL (t : Nat) : List Int := if t = 11 then [0, 8, 12] else [0, 4, 7, 11]
def knW (n t : Nat) : Bool := (szL t).any fun x => (n : Int) == x
/-- the bytes behind the length, with nothing behind them -/
def cW (b : List UInt8) : List UInt8 := let n := (b.headD 0).toNat; ((b.drop 1).take n) ++ List.replicate (13 - n) 0
def spW (c : List UInt8) : Wh := { neg := (c.headD 0).toNat == 1, y := 0, mo := 0, d := (nb c 1 4 : Nat), h := (nb c 5 1 : Nat), mi := (nb c 6 1 : Nat), s := (nb c 7 1 : Nat), us := (nb c 8 4 : Nat) }
def moW (c : List UInt8) : Wh := { neg := false, y := (nb c 0 2 : Nat), mo := (nb c 2 1 : Nat), d := (nb c 3 1 : Nat), h := (nb c 4 1 : Nat), mi := (nb c 5 1 : Nat), s := (nb c 6 1 : Nat), us := (nb c 7 4 : Nat) }
/-- what readWhen tells -/
def rdW (b : List UInt8) (t : Nat) : Wh × Nat × Int :=
  if b.length = 0 then ({}, 0, 4) else if knW (b.headD 0).toNat t = false then ({}, 0, 5) else if b.length < 1 + (b.headD 0).toNat then ({}, 0, 4) else
  if t = 11 then (if 1 < ((cW b).headD 0).toNat then ({}, 0, 5) else if fin (spW (cW b)) t = false then ({}, 0, 5) else (spW (cW b), 1 + (b.headD 0).toNat, 0))
  else if fin (moW (cW b)) t = false then ({}, 0, 5) else (moW (cW b), 1 + (b.headD 0).toNat, 0)

theorem bdSp (a : Bool) (x3 x4 x5 x6 x7 : Int) : buildV X 25 [(0, .bool a), (3, .int .i64 x3), (4, .int .i64 x4), (5, .int .i64 x5), (6, .int .i64 x6), (7, .int .i64 x7)] = some (.agg (.pc [.bool a, .int .i64 0, .int .i64 0, .int .i64 x3, .int .i64 x4, .int .i64 x5, .int .i64 x6, .int .i64 x7])) := by kernel_rfl
theorem bdMo (x1 x2 x3 x4 x5 x6 x7 : Int) : buildV X 25 [(1, .int .i64 x1), (2, .int .i64 x2), (3, .int .i64 x3), (4, .int .i64 x4), (5, .int .i64 x5), (6, .int .i64 x6), (7, .int .i64 x7)] = some (.agg (.pc [.bool false, .int .i64 x1, .int .i64 x2, .int .i64 x3, .int .i64 x4, .int .i64 x5, .int .i64 x6, .int .i64 x7])) := by kernel_rfl

/-- a variable that holds a slice -/
def svO (o n g : Nat) : AM.Obj := ⟨.pc [.sl o 0 n g], 0, some 1, 1, false, true, 0⟩

section
variable (c : Nat) (b : List UInt8) (t : Nat)

def rwFr (n : Nat) (L : List Int) (kd : Bool) (i : Nat) : AM.Frame := [(0, .ro c (.pb b) 1), (1, .int .u8 (t : Nat)), (4, .ptr 0 0 0 0), (7, .ptr 1 0 0 0), (8, .int .i64 (n : Nat)), (10, .bool kd), (27, .ro 1 (.pi .i64 L) 0), (28, .int .i64 (L.length : Nat)), (29, .int .i64 (i : Nat))]

set_option maxRecDepth 100000 in
set_option maxHeartbeats 4000000 in
theorem rw_loop (n : Nat) (L : List Int) (hL : L.length ≤ 100) : ∃ code, ((Tryd.f36.body).bind (codeAt [1, 1, 1, 1, 1, 1, 1, 0, 1])) = some code ∧
    Tells (Goes fun fr H => H = [some (whO {}), some (whO {})] ∧ fr = rwFr c b t n L (L.any fun x => (n : Int) == x) L.length ++ [(30, .bool false)]) X (evT X) 36 0 code (rwFr c b t n L false 0) [some (whO {}), some (whO {})] := by
  refine ⟨_, rfl, ?_⟩
  apply Tells.block
  refine Tells.loopP (fun k fr H => ∃ i, k = L.length - i ∧ i ≤ L.length ∧ H = [some (whO {}), some (whO {})] ∧ fr = rwFr c b t n L ((L.take i).any fun x => (n : Int) == x) i) ?_ (k := L.length) ⟨0, rfl, by omega, rfl, rfl⟩
  rintro k fr H ⟨i, rfl, hi, rfl, rfl⟩
  by_cases hin : i = L.length
  · subst hin
    rw [List.take_length]
    refine Tells.of (o := ⟨.exit 0, rwFr c b t n L (L.any fun x => (n : Int) == x) L.length ++ [(30, .bool false)], _⟩) ⟨0, ?_⟩ (.inr ⟨by simp, rfl, rfl, rfl⟩)
    generalize (L.any fun x => (n : Int) == x) = a at *
    simp (maxSteps := 2000000) -implicitDefEqProofs [-getElem?_pos, List.getElem?_cons_zero, List.getElem?_cons_succ, go_sem, eqV, plen, loadV, storeV, rwFr]
  have hlt : i < L.length := by omega
  have hiI : (i : Int) < (L.length : Int) := by omega
  obtain ⟨x, hx⟩ : ∃ x, L[i]? = some x := ⟨_, List.getElem?_eq_getElem hlt⟩
  have hsn : ((L.take (i + 1)).any fun x => (n : Int) == x) = (((L.take i).any fun x => (n : Int) == x) || ((n : Int) == x)) := by
    rw [List.take_add_one, hx]; simp
  have w1 : IntKind.i64.wrap ((i : Int) + 1) = ((i + 1 : Nat) : Int) := by rw [wrap_i64 (by omega) (by omega)]; omega
  refine Tells.of (o := ⟨.normal, rwFr c b t n L ((L.take (i + 1)).any fun x => (n : Int) == x) (i + 1), _⟩) ⟨0, ?_⟩ (.inl ⟨rfl, L.length - (i + 1), by omega, i + 1, rfl, by omega, rfl, rfl⟩)
  rw [hsn]
  generalize ((L.take i).any fun x => (n : Int) == x) = a at *
  cases a with
  | true => simp (maxSteps := 2000000) -implicitDefEqProofs [-getElem?_pos, List.getElem?_cons_zero, List.getElem?_cons_succ, go_sem, eqV, plen, loadV, storeV, rwFr, hiI, hlt, hx, w1]
  | false =>
    generalize hnx : ((n : Int) == x) = e at *
    simp (maxSteps := 2000000) -implicitDefEqProofs [-getElem?_pos, List.getElem?_cons_zero, List.getElem?_cons_succ, go_sem, eqV, plen, loadV, storeV, rwFr, hiI, hlt, hx, w1, hnx]

end

theorem slMid1 {c t n : Nat} {b : List UInt8} (hc : c = 0 → b = []) (hn : 1 + n ≤ b.length) (H : AM.Heap) : sliceV X H 22 (.ro c (.pb b) t) (some (.int .i64 1)) (some (.int .i64 ((1 + n : Nat) : Int))) = some (.ro (if c = 0 then 0 else 2) (.pb ((b.drop 1).take n)) t) :=
  slMid (m := 1) hn H

theorem cpN {H : AM.Heap} {ob : AM.Obj} {m l : List UInt8} {c t : Nat} (h2 : H[2]? = some (some ob)) (hg : ob.g = 0) (hp : ob.p = .pb m) (hi : ob.ids = false) (hm : m.length = 13) (hl : l.length ≤ 13) :
    copyV X H 22 (.sl 2 0 13 0) (.ro c (.pb l) t) = some (.int .i64 l.length, upd H 2 (some { ob with p := .pb (l ++ m.drop l.length) })) := by
  have hok : okT X 5 = true := by kernel_rfl
  simp [copyV, live, h2, hg, hp, hi, hm, hl, hok]

end Go.Proofs.YtifgkkfchnfcaaaDoor

/- Walks: a moment, or a span, read: whole. -/
namespace Go.Proofs.YtifgkkfchnfcaaaDoor
open Go.AM
set_option linter.unusedSimpArgs false
set_option linter.unusedVariables false

theorem cW_len {b : List UInt8} (h : (b.headD 0).toNat ≤ 12) (hb : 1 + (b.headD 0).toNat ≤ b.length) : (cW b).length = 13 := by
  unfold cW
  simp only [List.length_append, List.length_take, List.length_drop, List.length_replicate]
  omega

theorem knW_le {n t : Nat} (h : knW n t = true) : n ≤ 12 := by
  unfold knW szL at h
  split at h
  · simp at h; omega
  · simp at h; omega

set_option maxRecDepth 100000 in
set_option maxHeartbeats 4000000 in
theorem rw_dy (n : Nat) (y : UInt8) (ys : List UInt8) (ng : Bool) (z1 z5 z6 z7 z8 : Int) (hye : ((y.toNat : Int) == 1) = ng)
    (n1 : ∀ H0 H1 : Option AM.Obj, evT X 52 [.int .i64 1, .int .i64 4, .ptr 3 0 0 0] [H0, H1, some ⟨.pb (y :: ys), 0, some 13, 1, true, false, 0⟩, some (svO 2 13 0)] = some (.int .i64 z1, [H0, H1, some ⟨.pb (y :: ys), 0, some 13, 1, true, false, 0⟩, some (svO 2 13 0)]))
    (n5 : ∀ H0 H1 : Option AM.Obj, evT X 52 [.int .i64 5, .int .i64 1, .ptr 3 0 0 0] [H0, H1, some ⟨.pb (y :: ys), 0, some 13, 1, true, false, 0⟩, some (svO 2 13 0)] = some (.int .i64 z5, [H0, H1, some ⟨.pb (y :: ys), 0, some 13, 1, true, false, 0⟩, some (svO 2 13 0)]))
    (n6 : ∀ H0 H1 : Option AM.Obj, evT X 52 [.int .i64 6, .int .i64 1, .ptr 3 0 0 0] [H0, H1, some ⟨.pb (y :: ys), 0, some 13, 1, true, false, 0⟩, some (svO 2 13 0)] = some (.int .i64 z6, [H0, H1, some ⟨.pb (y :: ys), 0, some 13, 1, true, false, 0⟩, some (svO 2 13 0)]))
    (n7 : ∀ H0 H1 : Option AM.Obj, evT X 52 [.int .i64 7, .int .i64 1, .ptr 3 0 0 0] [H0, H1, some ⟨.pb (y :: ys), 0, some 13, 1, true, false, 0⟩, some (svO 2 13 0)] = some (.int .i64 z7, [H0, H1, some ⟨.pb (y :: ys), 0, some 13, 1, true, false, 0⟩, some (svO 2 13 0)]))
    (n8 : ∀ H0 H1 : Option AM.Obj, evT X 52 [.int .i64 8, .int .i64 4, .ptr 3 0 0 0] [H0, H1, some ⟨.pb (y :: ys), 0, some 13, 1, true, false, 0⟩, some (svO 2 13 0)] = some (.int .i64 z8, [H0, H1, some ⟨.pb (y :: ys), 0, some 13, 1, true, false, 0⟩, some (svO 2 13 0)])) :
    ∃ code, ((Tryd.f36.body).bind (codeAt [1, 1, 1, 1, 1, 1, 1, 1, 1, 1, 1, 1, 1, 0, 1, 0, 1])) = some code ∧ Run X (evT X) 36 0 code [(1, .int .u8 11), (4, .ptr 0 0 0 0), (7, .ptr 1 0 0 0), (8, .int .i64 (n : Nat)), (13, .ptr 3 0 0 0), (14, .fn 52 [.ptr 3 0 0 0]), (62, .bool false)] [some (whO {}), some (whO {}), some ⟨.pb (y :: ys), 0, some 13, 1, true, false, 0⟩, some (svO 2 13 0)]
      ⟨.normal, [(1, .int .u8 11), (4, .ptr 0 0 0 0), (7, .ptr 1 0 0 0), (8, .int .i64 (n : Nat))], [some (whO {}), some (whO { neg := ng, d := z1, h := z5, mi := z6, s := z7, us := z8 }), some ⟨.pb (y :: ys), 0, some 13, 1, true, false, 0⟩, some (svO 2 13 0)]⟩ := by
  refine ⟨_, rfl, ?_⟩
  have hbd := fun a x3 x4 x5 x6 x7 => bdSp a x3 x4 x5 x6 x7
  have hre : ∀ H0 H1 : Option AM.Obj, reach [H0, H1, some ⟨.pb (y :: ys), 0, some 13, 1, true, false, 0⟩, some (svO 2 13 0)] reachFuel [3] [] = [3, 2] := fun H0 H1 => reach_fn2 (o1 := 3) (o2 := 2) rfl rfl rfl rfl rfl (by decide)
  simp only [svO] at hre n1 n5 n6 n7 n8
  apply Run.dy (by simp) keep36_24 (by simp)
  · (conv => lhs; simp (maxSteps := 2000000) -implicitDefEqProofs [-getElem?_pos, List.getElem?_cons_zero, List.getElem?_cons_succ, go_sem, eqV, plen, loadV, storeV, runD, out1, markOf, freeO, quietO, pushes, isAssign, calledV, touched, mentioned, opVals, touchCall, mentionCall, idsAt, Op.operands, ids, idsL, lendArgs, lendV, lend1, lendL, eqH_self, svO, whO, Wh.pay, hye, n1, n5, n6, n7, n8, hbd, hre, flatCells, splice, scalars, upd])
    rfl
  · kernel_rfl
  · rfl

section
variable (c : Nat) (b : List UInt8) (t : Nat)

set_option maxRecDepth 100000 in
set_option maxHeartbeats 4000000 in
theorem rw_end (hc : c = 0 → b = []) (ht : t < 256) (hb0 : b.length ≠ 0) (hk : knW (b.headD 0).toNat t = true) (hb : ¬ b.length < 1 + (b.headD 0).toNat) (hbm : b.length ≤ 90000000) :
    ∃ code, ((Tryd.f36.body).bind (codeAt [1, 1, 1, 1, 1, 1, 1, 1, 1, 1])) = some code ∧
    Tells (Rets fun fr H => getF fr 4 = .ptr 0 0 0 0 ∧ H[0]? = some (some (whO (rdW b t).1)) ∧ getF fr 5 = .int .i64 ((rdW b t).2.1 : Nat) ∧ getF fr 6 = .int .i64 (rdW b t).2.2) X (evT X) 36 0 code
      [(0, .ro c (.pb b) 1), (1, .int .u8 (t : Nat)), (4, .ptr 0 0 0 0), (7, .ptr 1 0 0 0), (8, .int .i64 ((b.headD 0).toNat : Nat)), (47, .bool false)] [some (whO {}), some (whO {})] := by
  refine ⟨_, rfl, ?_⟩
  have hr : rdW b t = if t = 11 then (if 1 < ((cW b).headD 0).toNat then ({}, 0, 5) else if fin (spW (cW b)) t = false then ({}, 0, 5) else (spW (cW b), 1 + (b.headD 0).toNat, 0))
      else if fin (moW (cW b)) t = false then ({}, 0, 5) else (moW (cW b), 1 + (b.headD 0).toNat, 0) := by
    unfold rdW
    rw [if_neg hb0, if_neg (by rw [hk]; simp), if_neg hb]
  generalize rdW b t = R at *
  have hn12 := knW_le hk
  have hcl := cW_len hn12 (by omega)
  have hcw : cW b = ((b.drop 1).take (b.headD 0).toNat) ++ List.replicate (13 - (b.headD 0).toNat) 0 := rfl
  have hM : makeSliceV X [some (whO {}), some (whO {})] 22 (.int .i64 13) (.int .i64 13) = some (.sl 2 0 13 0, [some (whO {}), some (whO {})] ++ [some ⟨.pb (List.replicate 13 0), 0, some 13, 1, true, false, 0⟩]) := mkB (n := 13) (by omega) _
  have hzl : (List.replicate 13 (0 : UInt8)).length = 13 := List.length_replicate
  have hzd : ∀ k, (List.replicate 13 (0 : UInt8)).drop k = List.replicate (13 - k) 0 := fun k => List.drop_replicate
  generalize List.replicate 13 (0 : UInt8) = zr at *
  have hsl := fun H => slMid1 (t := 1) hc (n := (b.headD 0).toNat) (by omega) H
  have htl : ((b.drop 1).take (b.headD 0).toNat).length = (b.headD 0).toNat := by rw [List.length_take, List.length_drop]; omega
  generalize (b.drop 1).take (b.headD 0).toNat = l at *
  generalize hn : (b.headD 0).toNat = n at *
  generalize hcb : cW b = cb at *
  apply Tells.seq (fr' := [(0, .ro c (.pb b) 1), (1, .int .u8 (t : Nat)), (4, .ptr 0 0 0 0), (7, .ptr 1 0 0 0), (8, .int .i64 (n : Nat)), (13, .ptr 3 0 0 0)]) (H' := [some (whO {}), some (whO {}), some ⟨.pb zr, 0, some 13, 1, true, false, 0⟩, some (svO 2 13 0)])
  · simp only [whO, Wh.pay, List.length_cons, List.length_nil, List.cons_append, List.nil_append] at hM
    (refine ⟨0, ?_⟩; simp (maxSteps := 2000000) -implicitDefEqProofs [-getElem?_pos, List.getElem?_cons_zero, List.getElem?_cons_succ, go_sem, eqV, plen, loadV, storeV, whO, Wh.pay, hM, svO])
  have hcp := cpN (H := [some (whO {}), some (whO {}), some ⟨.pb zr, 0, some 13, 1, true, false, 0⟩, some (svO 2 13 0)]) (ob := ⟨.pb zr, 0, some 13, 1, true, false, 0⟩) (m := zr) (l := l) (c := if c = 0 then 0 else 2) (t := 1) rfl rfl rfl rfl hzl (by omega)
  have hdr : l ++ zr.drop l.length = cb := by rw [hcw, htl, hzd]
  rw [hdr] at hcp
  have w1 : IntKind.i64.wrap (1 + (n : Int)) = ((1 + n : Nat) : Int) := by rw [wrap_i64 (by omega) (by omega)]; omega
  apply Tells.seq (fr' := [(1, .int .u8 (t : Nat)), (4, .ptr 0 0 0 0), (7, .ptr 1 0 0 0), (8, .int .i64 (n : Nat)), (13, .ptr 3 0 0 0)]) (H' := [some (whO {}), some (whO {}), some ⟨.pb cb, 0, some 13, 1, true, false, 0⟩, some (svO 2 13 0)])
  · generalize 1 + n = n1 at *
    simp only [whO, Wh.pay, svO, upd, List.set] at hcp
    (refine ⟨0, ?_⟩; simp (maxSteps := 2000000) -implicitDefEqProofs [-getElem?_pos, List.getElem?_cons_zero, List.getElem?_cons_succ, go_sem, eqV, plen, loadV, storeV, whO, Wh.pay, svO, w1, hsl, hcp])
  clear hcp hsl hM hdr
  apply Tells.seq (fr' := [(1, .int .u8 (t : Nat)), (4, .ptr 0 0 0 0), (7, .ptr 1 0 0 0), (8, .int .i64 (n : Nat)), (13, .ptr 3 0 0 0), (14, .fn 52 [.ptr 3 0 0 0])]) (H' := [some (whO {}), some (whO {}), some ⟨.pb cb, 0, some 13, 1, true, false, 0⟩, some (svO 2 13 0)])
  · (refine ⟨0, ?_⟩; simp (maxSteps := 2000000) -implicitDefEqProofs [-getElem?_pos, List.getElem?_cons_zero, List.getElem?_cons_succ, go_sem, eqV, plen, loadV, storeV, scalars])
  have hN : ∀ (H0 H1 : Option AM.Obj) (i k : Nat) (I K : Int), I = (i : Nat) → K = (k : Nat) → i + k ≤ 13 → 1 ≤ k → k ≤ 4 → evT X 52 [.int .i64 I, .int .i64 K, .ptr 3 0 0 0] [H0, H1, some ⟨.pb cb, 0, some 13, 1, true, false, 0⟩, some (svO 2 13 0)] = some (.int .i64 (nb cb i k : Nat), [H0, H1, some ⟨.pb cb, 0, some 13, 1, true, false, 0⟩, some (svO 2 13 0)]) :=
    fun H0 H1 i k I K hI hK h1 h2 h3 => number_ev (H := [H0, H1, some ⟨.pb cb, 0, some 13, 1, true, false, 0⟩, some (svO 2 13 0)]) (o1 := 3) (o2 := 2) (g2 := 0) hI hK hcl h1 h2 h3 rfl rfl rfl rfl rfl rfl rfl rfl rfl rfl (by decide)
  have hF := fun w H => fin_ev w ht H
  apply Tells.or (P := fun fr H => ∃ w : Wh, fr = [(1, .int .u8 (t : Nat)), (4, .ptr 0 0 0 0), (7, .ptr 1 0 0 0), (8, .int .i64 (n : Nat))] ∧ H = [some (whO {}), some (whO w), some ⟨.pb cb, 0, some 13, 1, true, false, 0⟩, some (svO 2 13 0)] ∧ (if t = 11 then ¬ 1 < (cb.headD 0).toNat ∧ w = spW cb else w = moW cb))
  · by_cases h11 : t = 11
    · subst h11
      apply Tells.seq (fr' := [(1, .int .u8 11), (4, .ptr 0 0 0 0), (7, .ptr 1 0 0 0), (8, .int .i64 (n : Nat)), (13, .ptr 3 0 0 0), (14, .fn 52 [.ptr 3 0 0 0]), (58, .bool true)]) (H' := [some (whO {}), some (whO {}), some ⟨.pb cb, 0, some 13, 1, true, false, 0⟩, some (svO 2 13 0)])
      · (refine ⟨0, ?_⟩; simp (maxSteps := 2000000) -implicitDefEqProofs [-getElem?_pos, List.getElem?_cons_zero, List.getElem?_cons_succ, go_sem, eqV, plen, loadV, storeV])
      apply Tells.condT (by simp [evalO, getF])
      obtain ⟨y, ys, rfl⟩ : ∃ y ys, cb = y :: ys := by
        cases cb with
        | nil => simp at hcl
        | cons y ys => exact ⟨y, ys, rfl⟩
      apply Tells.assoc
      by_cases hy : 1 < y.toNat
      · refine Tells.of (o := ⟨.ret, [(4, .ptr 0 0 0 0), (5, .int .i64 0), (6, .int .i64 5)], [some (whO {}), some (whO {}), some ⟨.pb (y :: ys), 0, some 13, 1, true, false, 0⟩, some (svO 2 13 0)]⟩) ⟨0, ?_⟩ (.inr ⟨by simp, rfl, rfl, ?_, ?_, ?_⟩)
        · have hyi : (1 : Int) < (y.toNat : Int) := by omega
          simp (maxSteps := 2000000) -implicitDefEqProofs [-getElem?_pos, List.getElem?_cons_zero, List.getElem?_cons_succ, go_sem, eqV, plen, loadV, storeV, whO, Wh.pay, mkWh, svO, hyi, flatCells, splice, scalars]
        · rw [hr, if_pos rfl, if_pos (show 1 < ((y :: ys).headD 0).toNat from hy)]; rfl
        · rw [hr, if_pos rfl, if_pos (show 1 < ((y :: ys).headD 0).toNat from hy)]; rfl
        · rw [hr, if_pos rfl, if_pos (show 1 < ((y :: ys).headD 0).toNat from hy)]; rfl
      · have hyi : ¬ (1 : Int) < (y.toNat : Int) := by omega
        apply Tells.seq (fr' := [(1, .int .u8 11), (4, .ptr 0 0 0 0), (7, .ptr 1 0 0 0), (8, .int .i64 (n : Nat)), (13, .ptr 3 0 0 0), (14, .fn 52 [.ptr 3 0 0 0]), (62, .bool false)]) (H' := [some (whO {}), some (whO {}), some ⟨.pb (y :: ys), 0, some 13, 1, true, false, 0⟩, some (svO 2 13 0)])
        · (refine ⟨0, ?_⟩; simp (maxSteps := 2000000) -implicitDefEqProofs [-getElem?_pos, List.getElem?_cons_zero, List.getElem?_cons_succ, go_sem, eqV, plen, loadV, storeV, svO, hyi])
        apply Tells.seq (fr' := [(1, .int .u8 11), (4, .ptr 0 0 0 0), (7, .ptr 1 0 0 0), (8, .int .i64 (n : Nat)), (13, .ptr 3 0 0 0), (14, .fn 52 [.ptr 3 0 0 0]), (62, .bool false)]) (H' := [some (whO {}), some (whO {}), some ⟨.pb (y :: ys), 0, some 13, 1, true, false, 0⟩, some (svO 2 13 0)])
        · exact condF (by simp [evalO, getF]) ⟨0, rfl⟩
        refine Tells.of (o := ⟨.normal, [(1, .int .u8 11), (4, .ptr 0 0 0 0), (7, .ptr 1 0 0 0), (8, .int .i64 (n : Nat))], [some (whO {}), some (whO (spW (y :: ys))), some ⟨.pb (y :: ys), 0, some 13, 1, true, false, 0⟩, some (svO 2 13 0)]⟩) ?_ (.inl ⟨rfl, _, rfl, rfl, by rw [if_pos rfl]; exact ⟨show ¬ 1 < y.toNat by omega, rfl⟩⟩)
        have n1 := fun H0 H1 => hN H0 H1 1 4 1 4 rfl rfl (by omega) (by omega) (by omega)
        have n5 := fun H0 H1 => hN H0 H1 5 1 5 1 rfl rfl (by omega) (by omega) (by omega)
        have n6 := fun H0 H1 => hN H0 H1 6 1 6 1 rfl rfl (by omega) (by omega) (by omega)
        have n7 := fun H0 H1 => hN H0 H1 7 1 7 1 rfl rfl (by omega) (by omega) (by omega)
        have n8 := fun H0 H1 => hN H0 H1 8 4 8 4 rfl rfl (by omega) (by omega) (by omega)
        have hye : ((y.toNat : Int) == 1) = (y.toNat == 1) := by
          by_cases h : y.toNat = 1
          · rw [h]; rfl
          · have : (y.toNat == 1) = false := by simpa using h
            rw [this]; exact beq_eq_false_iff_ne.2 (by omega)
        exact piece (rw_dy n y ys _ _ _ _ _ _ hye n1 n5 n6 n7 n8) _ rfl
    · have h11b : ((t : Int) == 11) = false := beq_eq_false_iff_ne.2 (by omega)
      apply Tells.seq (fr' := [(1, .int .u8 (t : Nat)), (4, .ptr 0 0 0 0), (7, .ptr 1 0 0 0), (8, .int .i64 (n : Nat)), (13, .ptr 3 0 0 0), (14, .fn 52 [.ptr 3 0 0 0]), (58, .bool false)]) (H' := [some (whO {}), some (whO {}), some ⟨.pb cb, 0, some 13, 1, true, false, 0⟩, some (svO 2 13 0)])
      · (refine ⟨0, ?_⟩; simp (maxSteps := 2000000) -implicitDefEqProofs [-getElem?_pos, List.getElem?_cons_zero, List.getElem?_cons_succ, go_sem, eqV, plen, loadV, storeV, h11b])
      apply Tells.condF (by simp [evalO, getF])
      refine Tells.of (o := ⟨.normal, [(1, .int .u8 (t : Nat)), (4, .ptr 0 0 0 0), (7, .ptr 1 0 0 0), (8, .int .i64 (n : Nat))], [some (whO {}), some (whO (moW cb)), some ⟨.pb cb, 0, some 13, 1, true, false, 0⟩, some (svO 2 13 0)]⟩) ⟨0, ?_⟩ (.inl ⟨rfl, _, rfl, rfl, by rw [if_neg h11]⟩)
      have n0 := fun H0 H1 => hN H0 H1 0 2 0 2 rfl rfl (by omega) (by omega) (by omega)
      have n2 := fun H0 H1 => hN H0 H1 2 1 2 1 rfl rfl (by omega) (by omega) (by omega)
      have n3 := fun H0 H1 => hN H0 H1 3 1 3 1 rfl rfl (by omega) (by omega) (by omega)
      have n4 := fun H0 H1 => hN H0 H1 4 1 4 1 rfl rfl (by omega) (by omega) (by omega)
      have n5 := fun H0 H1 => hN H0 H1 5 1 5 1 rfl rfl (by omega) (by omega) (by omega)
      have n6 := fun H0 H1 => hN H0 H1 6 1 6 1 rfl rfl (by omega) (by omega) (by omega)
      have n7 := fun H0 H1 => hN H0 H1 7 4 7 4 rfl rfl (by omega) (by omega) (by omega)
      have hbd := fun x1 x2 x3 x4 x5 x6 x7 => bdMo x1 x2 x3 x4 x5 x6 x7
      unfold moW
      generalize nb cb 0 2 = z0 at *
      generalize nb cb 2 1 = z2 at *
      generalize nb cb 3 1 = z3 at *
      generalize nb cb 4 1 = z4 at *
      generalize nb cb 5 1 = z5 at *
      generalize nb cb 6 1 = z6 at *
      generalize nb cb 7 4 = z7 at *
      simp only [svO] at n0 n2 n3 n4 n5 n6 n7
      simp (maxSteps := 2000000) -implicitDefEqProofs [-getElem?_pos, List.getElem?_cons_zero, List.getElem?_cons_succ, go_sem, eqV, plen, loadV, storeV, svO, whO, Wh.pay, n0, n2, n3, n4, n5, n6, n7, hbd, flatCells, splice, scalars]
  rintro fr H ⟨w, rfl, rfl, hw⟩
  have hres : R = if fin w t = false then ({}, 0, 5) else (w, 1 + n, 0) := by
    rw [hr]
    by_cases h11 : t = 11
    · rw [if_pos h11] at hw ⊢
      rw [if_neg hw.1, hw.2]
    · rw [if_neg h11] at hw ⊢
      rw [hw]
  rw [hres]
  have hFw := hF w [some (whO {}), some (whO w), some ⟨.pb cb, 0, some 13, 1, true, false, 0⟩, some (svO 2 13 0)]
  have hbd0 := bdW0
  apply Tells.assoc
  cases hf : fin w t with
  | false =>
    rw [hf] at hFw
    refine Tells.of (o := ⟨.ret, [(4, .ptr 0 0 0 0), (5, .int .i64 0), (6, .int .i64 5)], [some (whO {}), some (whO w), some ⟨.pb cb, 0, some 13, 1, true, false, 0⟩, some (svO 2 13 0)]⟩) ⟨0, ?_⟩ ⟨rfl, rfl, by rw [if_pos rfl]; rfl, by rw [if_pos rfl]; rfl, by rw [if_pos rfl]; rfl⟩
    simp only [whO, Wh.pay] at hFw
    simp (maxSteps := 2000000) -implicitDefEqProofs [-getElem?_pos, List.getElem?_cons_zero, List.getElem?_cons_succ, go_sem, eqV, plen, loadV, storeV, whO, Wh.pay, mkWh, hFw, hbd0, flatCells, splice, scalars]
  | true =>
    rw [hf] at hFw
    refine Tells.of (o := ⟨.ret, [(4, .ptr 0 0 0 0), (5, .int .i64 ((1 + n : Nat) : Int)), (6, .int .i64 0)], [some (whO w), some (whO w), some ⟨.pb cb, 0, some 13, 1, true, false, 0⟩, some (svO 2 13 0)]⟩) ⟨0, ?_⟩ ⟨rfl, rfl, by rw [if_neg (by simp)]; rfl, by rw [if_neg (by simp)]; rfl, by rw [if_neg (by simp)]; rfl⟩
    simp only [whO, Wh.pay] at hFw
    generalize 1 + n = n1 at *
    simp (maxSteps := 2000000) -implicitDefEqProofs [-getElem?_pos, List.getElem?_cons_zero, List.getElem?_cons_succ, go_sem, eqV, plen, loadV, storeV, whO, Wh.pay, mkWh, hFw, w1, flatCells, splice, scalars]

end

end Go.Proofs.YtifgkkfchnfcaaaDoor

/- Walks: a moment, or a span, read: whole; a value read. -/
namespace Go.Proofs.YtifgkkfchnfcaaaDoor
open Go.AM
set_option linter.unusedSimpArgs false
set_option linter.unusedVariables false

theorem bsL4 (H : AM.Heap) : buildSliceV X H 41 4 [(0, .int .i64 0), (1, .int .i64 4), (2, .int .i64 7), (3, .int .i64 11)] = some (.ro 1 (.pi .i64 [0, 4, 7, 11]) 0, H) := by kernel_rfl
theorem bsL3 (H : AM.Heap) : buildSliceV X H 41 3 [(0, .int .i64 0), (1, .int .i64 8), (2, .int .i64 12)] = some (.ro 1 (.pi .i64 [0, 8, 12]) 0, H) := by kernel_rfl

section
variable (c : Nat) (b : List UInt8) (t : Nat)

set_option maxRecDepth 100000 in
set_option maxHeartbeats 4000000 in
theorem rw_code (hc : c = 0 → b = []) (ht : t < 256) (hbm : b.length ≤ 90000000) :
    ∃ code, Tryd.f36.body = some code ∧
    Tells (Rets fun fr H => getF fr 4 = .ptr 0 0 0 0 ∧ H[0]? = some (some (whO (rdW b t).1)) ∧ getF fr 5 = .int .i64 ((rdW b t).2.1 : Nat) ∧ getF fr 6 = .int .i64 (rdW b t).2.2) X (evT X) 36 0 code
      [(0, .ro c (.pb b) 1), (1, .int .u8 (t : Nat))] [] := by
  refine ⟨_, rfl, ?_⟩
  apply Tells.seq (fr' := [(0, .ro c (.pb b) 1), (1, .int .u8 (t : Nat)), (4, .ptr 0 0 0 0)]) (H' := [some (whO {})])
  · (refine ⟨0, ?_⟩; simp (maxSteps := 2000000) -implicitDefEqProofs [-getElem?_pos, List.getElem?_cons_zero, List.getElem?_cons_succ, go_sem, eqV, plen, loadV, storeV, whO, Wh.pay])
  apply Tells.seq (fr' := [(0, .ro c (.pb b) 1), (1, .int .u8 (t : Nat)), (4, .ptr 0 0 0 0), (7, .ptr 1 0 0 0)]) (H' := [some (whO {}), some (whO {})])
  · (refine ⟨0, ?_⟩; simp (maxSteps := 2000000) -implicitDefEqProofs [-getElem?_pos, List.getElem?_cons_zero, List.getElem?_cons_succ, go_sem, eqV, plen, loadV, storeV, whO, Wh.pay])
  apply Tells.assoc
  by_cases hb0 : b.length = 0
  · have hr : rdW b t = ({}, 0, 4) := if_pos hb0
    rw [hr]
    refine Tells.of (o := ⟨.ret, [(4, .ptr 0 0 0 0), (5, .int .i64 0), (6, .int .i64 4)], [some (whO {}), some (whO {})]⟩) ⟨0, ?_⟩ ⟨rfl, rfl, rfl, rfl, rfl⟩
    simp (maxSteps := 2000000) -implicitDefEqProofs [-getElem?_pos, List.getElem?_cons_zero, List.getElem?_cons_succ, go_sem, eqV, plen, loadV, storeV, whO, Wh.pay, mkWh, hb0, flatCells, splice, scalars]
  have hb0i : ((b.length : Int) == 0) = false := beq_eq_false_iff_ne.2 (by omega)
  apply Tells.seq (fr' := [(0, .ro c (.pb b) 1), (1, .int .u8 (t : Nat)), (4, .ptr 0 0 0 0), (7, .ptr 1 0 0 0), (17, .bool false)]) (H' := [some (whO {}), some (whO {})])
  · (refine ⟨0, ?_⟩; simp (maxSteps := 2000000) -implicitDefEqProofs [-getElem?_pos, List.getElem?_cons_zero, List.getElem?_cons_succ, go_sem, eqV, plen, loadV, storeV, hb0i])
  apply Tells.seq (fr' := [(0, .ro c (.pb b) 1), (1, .int .u8 (t : Nat)), (4, .ptr 0 0 0 0), (7, .ptr 1 0 0 0), (17, .bool false)]) (H' := [some (whO {}), some (whO {})])
  · exact condF (by simp [evalO, getF]) ⟨0, rfl⟩
  obtain ⟨y, ys, hby⟩ : ∃ y ys, b = y :: ys := by
    cases b with
    | nil => simp at hb0
    | cons y ys => exact ⟨y, ys, rfl⟩
  have hyh : (b.headD 0).toNat = y.toNat := by rw [hby]; rfl
  have hy0 : b[0]? = some y := by rw [hby]; rfl
  have hyl := y.toNat_lt
  have wy : IntKind.i64.wrap (y.toNat : Int) = (y.toNat : Int) := wrap_i64 (by omega) (by omega)
  have hbpos : (0 : Int) < (b.length : Int) := by omega
  have hbposN : 0 < b.length := by omega
  apply Tells.seq (fr' := [(0, .ro c (.pb b) 1), (1, .int .u8 (t : Nat)), (4, .ptr 0 0 0 0), (7, .ptr 1 0 0 0), (8, .int .i64 (y.toNat : Nat))]) (H' := [some (whO {}), some (whO {})])
  · (refine ⟨0, ?_⟩; simp (maxSteps := 2000000) -implicitDefEqProofs [-getElem?_pos, List.getElem?_cons_zero, List.getElem?_cons_succ, go_sem, eqV, plen, loadV, storeV, hy0, wy, hbpos, hbposN])
  apply Tells.seq (fr' := [(0, .ro c (.pb b) 1), (1, .int .u8 (t : Nat)), (4, .ptr 0 0 0 0), (7, .ptr 1 0 0 0), (8, .int .i64 (y.toNat : Nat)), (9, .ro 1 (.pi .i64 [0, 4, 7, 11]) 0)]) (H' := [some (whO {}), some (whO {})])
  · have h4 := fun H => bsL4 H
    generalize ([0, 4, 7, 11] : List Int) = L at *
    (refine ⟨0, ?_⟩; simp (maxSteps := 2000000) -implicitDefEqProofs [-getElem?_pos, List.getElem?_cons_zero, List.getElem?_cons_succ, go_sem, eqV, plen, loadV, storeV, h4])
  apply Tells.andThen (P := fun fr H => H = [some (whO {}), some (whO {})] ∧ ∃ tl, fr = [(0, .ro c (.pb b) 1), (1, .int .u8 (t : Nat)), (4, .ptr 0 0 0 0), (7, .ptr 1 0 0 0), (8, .int .i64 (y.toNat : Nat)), (9, .ro 1 (.pi .i64 (szL t)) 0)] ++ tl)
  · by_cases h11 : t = 11
    · subst h11
      refine Tells.of (o := ⟨.normal, [(0, .ro c (.pb b) 1), (1, .int .u8 11), (4, .ptr 0 0 0 0), (7, .ptr 1 0 0 0), (8, .int .i64 (y.toNat : Nat)), (9, .ro 1 (.pi .i64 [0, 8, 12]) 0)], _⟩) ⟨0, ?_⟩ ⟨rfl, rfl, [], rfl⟩
      have h3 := fun H => bsL3 H
      generalize ([0, 8, 12] : List Int) = L at *
      generalize ([0, 4, 7, 11] : List Int) = L2 at *
      simp (maxSteps := 2000000) -implicitDefEqProofs [-getElem?_pos, List.getElem?_cons_zero, List.getElem?_cons_succ, go_sem, eqV, plen, loadV, storeV, h3]
    · have h11b : ((t : Int) == 11) = false := beq_eq_false_iff_ne.2 (by omega)
      refine Tells.of (o := ⟨.normal, [(0, .ro c (.pb b) 1), (1, .int .u8 (t : Nat)), (4, .ptr 0 0 0 0), (7, .ptr 1 0 0 0), (8, .int .i64 (y.toNat : Nat)), (9, .ro 1 (.pi .i64 [0, 4, 7, 11]) 0), (25, .bool false)], _⟩) ⟨0, ?_⟩ ⟨rfl, rfl, [(25, .bool false)], by unfold szL; rw [if_neg h11]; rfl⟩
      generalize ([0, 4, 7, 11] : List Int) = L2 at *
      simp (maxSteps := 2000000) -implicitDefEqProofs [-getElem?_pos, List.getElem?_cons_zero, List.getElem?_cons_succ, go_sem, eqV, plen, loadV, storeV, h11b]
  rintro fr H ⟨rfl, tl, rfl⟩
  have hszl : (szL t).length ≤ 100 := by unfold szL; split <;> simp
  apply Tells.seq (fr' := [(0, .ro c (.pb b) 1), (1, .int .u8 (t : Nat)), (4, .ptr 0 0 0 0), (7, .ptr 1 0 0 0), (8, .int .i64 (y.toNat : Nat)), (9, .ro 1 (.pi .i64 (szL t)) 0), (10, .bool false)]) (H' := [some (whO {}), some (whO {})])
  · generalize szL t = L at *
    (refine ⟨0, ?_⟩; simp (maxSteps := 2000000) -implicitDefEqProofs [-getElem?_pos, List.getElem?_cons_zero, List.getElem?_cons_succ, go_sem, eqV, plen, loadV, storeV])
  apply Tells.assoc
  apply Tells.seq (fr' := rwFr c b t y.toNat (szL t) false 0) (H' := [some (whO {}), some (whO {})])
  · unfold rwFr
    generalize szL t = L at *
    (refine ⟨0, ?_⟩; simp (maxSteps := 2000000) -implicitDefEqProofs [-getElem?_pos, List.getElem?_cons_zero, List.getElem?_cons_succ, go_sem, eqV, plen, loadV, storeV])
  apply Tells.andThen (P := fun fr H => H = [some (whO {}), some (whO {})] ∧ fr = rwFr c b t y.toNat (szL t) ((szL t).any fun x => (y.toNat : Int) == x) (szL t).length ++ [(30, .bool false)])
  · exact piece (rw_loop c b t y.toNat (szL t) hszl) _ rfl
  rintro fr H ⟨rfl, rfl⟩
  have hkn : ((szL t).any fun x => (y.toNat : Int) == x) = knW (b.headD 0).toNat t := by rw [hyh]; rfl
  rw [hkn]
  apply Tells.assoc
  cases hk : knW (b.headD 0).toNat t with
  | false =>
    have hr : rdW b t = ({}, 0, 5) := by unfold rdW; rw [if_neg hb0, if_pos hk]
    rw [hr]
    refine Tells.of (o := ⟨.ret, [(4, .ptr 0 0 0 0), (5, .int .i64 0), (6, .int .i64 5)], [some (whO {}), some (whO {})]⟩) ⟨0, ?_⟩ ⟨rfl, rfl, rfl, rfl, rfl⟩
    unfold rwFr
    generalize szL t = L at *
    simp (maxSteps := 2000000) -implicitDefEqProofs [-getElem?_pos, List.getElem?_cons_zero, List.getElem?_cons_succ, go_sem, eqV, plen, loadV, storeV, whO, Wh.pay, mkWh, flatCells, splice, scalars]
  | true =>
  apply Tells.seq (fr' := [(0, .ro c (.pb b) 1), (1, .int .u8 (t : Nat)), (4, .ptr 0 0 0 0), (7, .ptr 1 0 0 0), (8, .int .i64 (y.toNat : Nat)), (41, .bool false)]) (H' := [some (whO {}), some (whO {})])
  · unfold rwFr
    generalize szL t = L at *
    (refine ⟨0, ?_⟩; simp (maxSteps := 2000000) -implicitDefEqProofs [-getElem?_pos, List.getElem?_cons_zero, List.getElem?_cons_succ, go_sem, eqV, plen, loadV, storeV])
  apply Tells.seq (fr' := [(0, .ro c (.pb b) 1), (1, .int .u8 (t : Nat)), (4, .ptr 0 0 0 0), (7, .ptr 1 0 0 0), (8, .int .i64 (y.toNat : Nat)), (41, .bool false)]) (H' := [some (whO {}), some (whO {})])
  · exact condF (by simp [evalO, getF]) ⟨0, rfl⟩
  apply Tells.assoc
  have w1 : IntKind.i64.wrap (1 + (y.toNat : Int)) = ((1 + y.toNat : Nat) : Int) := by rw [wrap_i64 (by omega) (by omega)]; omega
  by_cases hs : b.length < 1 + (b.headD 0).toNat
  · have hr : rdW b t = ({}, 0, 4) := by unfold rdW; rw [if_neg hb0, if_neg (by rw [hk]; simp), if_pos hs]
    rw [hr]
    have hsi : (b.length : Int) < ((1 + y.toNat : Nat) : Int) := by omega
    refine Tells.of (o := ⟨.ret, [(4, .ptr 0 0 0 0), (5, .int .i64 0), (6, .int .i64 4)], [some (whO {}), some (whO {})]⟩) ⟨0, ?_⟩ ⟨rfl, rfl, rfl, rfl, rfl⟩
    generalize 1 + y.toNat = n1 at *
    simp (maxSteps := 2000000) -implicitDefEqProofs [-getElem?_pos, List.getElem?_cons_zero, List.getElem?_cons_succ, go_sem, eqV, plen, loadV, storeV, whO, Wh.pay, mkWh, w1, hsi, flatCells, splice, scalars]
  have hsi : ¬ (b.length : Int) < ((1 + y.toNat : Nat) : Int) := by omega
  apply Tells.seq (fr' := [(0, .ro c (.pb b) 1), (1, .int .u8 (t : Nat)), (4, .ptr 0 0 0 0), (7, .ptr 1 0 0 0), (8, .int .i64 (y.toNat : Nat)), (47, .bool false)]) (H' := [some (whO {}), some (whO {})])
  · generalize 1 + y.toNat = n1 at *
    (refine ⟨0, ?_⟩; simp (maxSteps := 2000000) -implicitDefEqProofs [-getElem?_pos, List.getElem?_cons_zero, List.getElem?_cons_succ, go_sem, eqV, plen, loadV, storeV, w1, hsi])
  apply Tells.seq (fr' := [(0, .ro c (.pb b) 1), (1, .int .u8 (t : Nat)), (4, .ptr 0 0 0 0), (7, .ptr 1 0 0 0), (8, .int .i64 (y.toNat : Nat)), (47, .bool false)]) (H' := [some (whO {}), some (whO {})])
  · exact condF (by simp [evalO, getF]) ⟨0, rfl⟩
  have := piece (rw_end c b t hc ht hb0 hk hs hbm) _ rfl
  rw [hyh] at this
  exact this

end

theorem rw_ev {H : AM.Heap} {a : AV} {b : List UInt8} {t : Nat} (h : Byt H a b) (ht : t < 256) (hbm : b.length ≤ 90000000) :
    evT X 36 [a, .int .u8 (t : Nat)] H = some (.tup [.agg (rdW b t).1.pay, .int .i64 ((rdW b t).2.1 : Nat), .int .i64 (rdW b t).2.2], H) := by
  obtain ⟨c, p, xl, hp, hc, hx'⟩ := args_byt (C := X) (f := 36) (i := 0) rfl h (args_flat (i := 1) (a := .int .u8 (t : Nat)) rfl rfl (args_nil 2))
  obtain ⟨code, hcode, o, ⟨he, q4, q0, q5, q6⟩, hr⟩ := rw_code c b t hc ht hbm
  refine evT_eq (Ev1.toldP (l := [.agg (rdW b t).1.pay, .int .i64 ((rdW b t).2.1 : Nat), .int .i64 (rdW b t).2.2]) (evT_below X) Tryd.func36 hcode hx' (by simp [idsL, ids, hp.ids]) (by simp [gtag]) (by simp [idsL, ids, Wh.pay]) (by simp [tagsL, tags, Wh.pay]) rfl ⟨o, ⟨he, ?_⟩, by rw [par36, coB hp]; exact hr⟩)
  generalize rdW b t = r at *
  show resultsV X o.fr o.H [.cell 4 25, .tmp 5, .tmp 6] = _
  simp only [whO, Wh.pay] at q0
  simp [resultsV, q4, q5, q6, loadV, live, q0, pagg, mkWh, Wh.pay]

end Go.Proofs.YtifgkkfchnfcaaaDoor

/- Walks: a value read. -/
namespace Go.Proofs.YtifgkkfchnfcaaaDoor
open Go.AM
set_option linter.unusedSimpArgs false
set_option linter.unusedVariables false

/-- a number with a sign, of n bytes -/
def sgV (x : Int) (n : Nat) : Int := Int.fdiv (IntKind.i64.wrap (IntKind.u64.wrap (x * 2 ^ (64 - 8 * n)))) (2 ^ (64 - 8 * n))

/-- what a value's reading tells -/
def rdV (b : List UInt8) (t : Ty) : Va × Nat × Int :=
  if kindN t.t t.u < 0 then ({}, 0, 2) else if kindN t.t t.u = 0 then ({}, 0, 0) else
  if kindN t.t t.u = 5 ∨ kindN t.t t.u = 6 then (if (rdW b t.t).2.2 ≠ 0 then ({}, 0, (rdW b t.t).2.2) else ({ k := kindN t.t t.u, w := (rdW b t.t).1 }, (rdW b t.t).2.1, 0)) else
  if kindN t.t t.u = 7 then (if (rdT b).2.2 ≠ 0 then ({}, 0, (rdT b).2.2) else if 16777216 < (rdT b).1.length then ({}, 0, 5) else ({ k := 7, t := (rdT b).1 }, (rdT b).2.1, 0)) else
  if (rfR b (sizeN t.t)).2 ≠ 0 then ({}, 0, (rfR b (sizeN t.t)).2) else
  if kindN t.t t.u = 1 then ({ k := 1, i := sgV (rfR b (sizeN t.t)).1 (sizeN t.t) }, sizeN t.t, 0) else ({ k := kindN t.t t.u, b := (rfR b (sizeN t.t)).1.toNat }, sizeN t.t, 0)

theorem bvV0 : buildV X 27 [] = some (.agg (Va.pay {})) := by kernel_rfl
theorem bvVw (k : Int) (w : Wh) : buildV X 27 [(0, .int .i64 k), (4, .agg w.pay)] = some (.agg (Va.pay { k := k, w := w })) := by
  obtain ⟨neg, y, mo, d, h, mi, s, us⟩ := w
  kernel_rfl
theorem bvVt (k : Int) (s : List UInt8) : buildV X 27 [(0, .int .i64 k), (3, .str s)] = some (.agg (Va.pay { k := k, t := s })) := by kernel_rfl
theorem bvVi (k i : Int) : buildV X 27 [(0, .int .i64 k), (1, .int .i64 i)] = some (.agg (Va.pay { k := k, i := i })) := by kernel_rfl
theorem bvVb (k : Int) (x : Nat) : buildV X 27 [(0, .int .i64 k), (2, .int .u64 (x : Nat))] = some (.agg (Va.pay { k := k, b := x })) := by kernel_rfl

section
variable (c : Nat) (b : List UInt8) (t : Ty)

/-- what Read leaves -/
def rvQ (r : Va × Nat × Int) (fr : AM.Frame) (H : AM.Heap) : Prop := getF fr 4 = .ptr 1 0 0 0 ∧ H[1]? = some (some (vaO r.1)) ∧ getF fr 5 = .int .i64 (r.2.1 : Nat) ∧ getF fr 6 = .int .i64 r.2.2

set_option maxRecDepth 100000 in
set_option maxHeartbeats 4000000 in
theorem vread_num (hc : c = 0 → b = []) (ht : t.t < 256) (hbm : b.length ≤ 90000000) (hk : kindN t.t t.u = 1 ∨ kindN t.t t.u = 2 ∨ kindN t.t t.u = 3 ∨ kindN t.t t.u = 4) :
    ∃ code, ((Tryd.f17.body).bind (codeAt [1, 1, 1])) = some code ∧
    Tells (Rets (rvQ (rdV b t))) X (evT X) 17 0 code [(0, .ro c (.pb b) 1), (3, .ptr 0 0 0 0), (4, .ptr 1 0 0 0), (7, .int .i64 (kindN t.t t.u)), (45, .bool false)] [some (tyO t), some (vaO {})] := by
  refine ⟨_, rfl, ?_⟩
  have hr : rdV b t = if (rfR b (sizeN t.t)).2 ≠ 0 then ({}, 0, (rfR b (sizeN t.t)).2) else
      if kindN t.t t.u = 1 then ({ k := 1, i := sgV (rfR b (sizeN t.t)).1 (sizeN t.t) }, sizeN t.t, 0) else ({ k := kindN t.t t.u, b := (rfR b (sizeN t.t)).1.toNat }, sizeN t.t, 0) := by
    unfold rdV
    rw [if_neg (by omega), if_neg (by omega), if_neg (by omega), if_neg (by omega)]
  rw [hr]
  have hsz := size_num (t := t.t) (u := t.u) hk
  have hS := size_ev' ht [some (tyO t), some (vaO {})]
  have hB : Byt [some (tyO t), some (vaO {})] (.ro c (.pb b) 1) b := Byt.ro (.inl rfl) hc
  have hR := rf_ev (n := sizeN t.t) hB hbm
  have hx0 : 0 ≤ (rfR b (sizeN t.t)).1 ∧ (rfR b (sizeN t.t)).1 < 18446744073709551616 := by
    unfold rfR
    split
    · simp
    · split
      · simp
      · have h := leV_lt (b.take ((sizeN t.t : Nat) : Int).toNat)
        simp only [Int.toNat_natCast] at h ⊢
        have h2 : (b.take (sizeN t.t)).length ≤ 8 := by simp; omega
        have h3 : 256 ^ (b.take (sizeN t.t)).length ≤ 256 ^ 8 := Nat.pow_le_pow_right (by omega) h2
        omega
  generalize hsn : sizeN t.t = n at *
  generalize hrr : rfR b (n : Nat) = r at *
  obtain ⟨x, e⟩ := r
  simp only at *
  obtain ⟨xn, rfl⟩ : ∃ xn : Nat, x = (xn : Int) := ⟨x.toNat, by omega⟩
  apply Tells.seq (fr' := [(0, .ro c (.pb b) 1), (4, .ptr 1 0 0 0), (7, .int .i64 (kindN t.t t.u)), (14, .int .i64 (n : Nat))]) (H' := [some (tyO t), some (vaO {})])
  · simp only [tyO, Ty.pay, vaO, Va.pay, Int.cast_ofNat_Int] at hS
    generalize kindN t.t t.u = k at *
    (refine ⟨0, ?_⟩; simp (maxSteps := 2000000) -implicitDefEqProofs [-getElem?_pos, List.getElem?_cons_zero, List.getElem?_cons_succ, go_sem, eqV, plen, loadV, storeV, tyO, Ty.pay, vaO, Va.pay, hS])
  apply Tells.seq (fr' := [(4, .ptr 1 0 0 0), (6, .int .i64 e), (7, .int .i64 (kindN t.t t.u)), (14, .int .i64 (n : Nat)), (15, .int .u64 (xn : Nat))]) (H' := [some (tyO t), some (vaO {})])
  · simp only [tyO, Ty.pay, vaO, Va.pay, Int.cast_ofNat_Int] at hR
    generalize kindN t.t t.u = k at *
    (refine ⟨0, ?_⟩; simp (maxSteps := 2000000) -implicitDefEqProofs [-getElem?_pos, List.getElem?_cons_zero, List.getElem?_cons_succ, go_sem, eqV, plen, loadV, storeV, tyO, Ty.pay, vaO, Va.pay, hR])
  have hb0 := bvV0
  apply Tells.assoc
  by_cases he : e = 0
  case neg =>
    rw [if_pos he]
    have heb : (e != 0) = true := by simpa using he
    refine Tells.of (o := ⟨.ret, [(4, .ptr 1 0 0 0), (5, .int .i64 0), (6, .int .i64 e)], [some (tyO t), some (vaO {})]⟩) ⟨0, ?_⟩ ⟨rfl, rfl, rfl, rfl, rfl⟩
    simp only [Va.pay, Int.cast_ofNat_Int] at hb0
    generalize kindN t.t t.u = k at *
    simp (maxSteps := 2000000) -implicitDefEqProofs [-getElem?_pos, List.getElem?_cons_zero, List.getElem?_cons_succ, go_sem, eqV, plen, loadV, storeV, tyO, Ty.pay, vaO, Va.pay, heb, hb0, mkVa, flatCells, splice, scalars]
  rw [if_neg (by simpa using he)]
  subst he
  apply Tells.seq (fr' := [(4, .ptr 1 0 0 0), (6, .int .i64 0), (7, .int .i64 (kindN t.t t.u)), (14, .int .i64 (n : Nat)), (15, .int .u64 (xn : Nat)), (77, .bool false)]) (H' := [some (tyO t), some (vaO {})])
  · generalize kindN t.t t.u = k at *
    (refine ⟨0, ?_⟩; simp (maxSteps := 2000000) -implicitDefEqProofs [-getElem?_pos, List.getElem?_cons_zero, List.getElem?_cons_succ, go_sem, eqV, plen, loadV, storeV])
  apply Tells.seq (fr' := [(4, .ptr 1 0 0 0), (6, .int .i64 0), (7, .int .i64 (kindN t.t t.u)), (14, .int .i64 (n : Nat)), (15, .int .u64 (xn : Nat)), (77, .bool false)]) (H' := [some (tyO t), some (vaO {})])
  · exact condF (by simp [evalO, getF]) ⟨0, rfl⟩
  apply Tells.assoc
  by_cases hk1 : kindN t.t t.u = 1
  · rw [if_pos hk1, hk1]
    apply Tells.seq (fr' := [(4, .ptr 1 0 0 0), (7, .int .i64 1), (14, .int .i64 (n : Nat)), (15, .int .u64 (xn : Nat)), (81, .bool true)]) (H' := [some (tyO t), some (vaO {})])
    · (refine ⟨0, ?_⟩; simp (maxSteps := 2000000) -implicitDefEqProofs [-getElem?_pos, List.getElem?_cons_zero, List.getElem?_cons_succ, go_sem, eqV, plen, loadV, storeV])
    refine Tells.seqOut (Tells.condT (by simp [evalO, getF]) ?_) (fun o h => by rw [h.1]; simp)
    have w1 : IntKind.i64.wrap (8 * (n : Int)) = ((8 * n : Nat) : Int) := by rw [wrap_i64 (by omega) (by omega)]; omega
    have w2 : IntKind.i64.wrap (64 - ((8 * n : Nat) : Int)) = ((64 - 8 * n : Nat) : Int) := by rw [wrap_i64 (by omega) (by omega)]; omega
    have hsg : sgV (xn : Int) n = Int.fdiv (IntKind.i64.wrap (IntKind.u64.wrap ((xn : Int) * 2 ^ (64 - 8 * n)))) (2 ^ (64 - 8 * n)) := rfl
    have hsh0 : ¬ ((64 - 8 * n : Nat) : Int) < 0 := by omega
    have hmin : min (64 - 8 * n) 64 = 64 - 8 * n := by omega
    generalize hsh : 64 - 8 * n = sh at *
    generalize h8 : 8 * n = n8 at *
    apply Tells.seq (fr' := [(4, .ptr 1 0 0 0), (7, .int .i64 1), (14, .int .i64 (n : Nat)), (15, .int .u64 (xn : Nat)), (16, .int .i64 (sh : Nat))]) (H' := [some (tyO t), some (vaO {})])
    · (refine ⟨0, ?_⟩; simp (maxSteps := 2000000) -implicitDefEqProofs [-getElem?_pos, List.getElem?_cons_zero, List.getElem?_cons_succ, go_sem, eqV, plen, loadV, storeV, w1, w2])
    have hbi := fun k i => bvVi k i
    refine Tells.of (o := ⟨.ret, [(4, .ptr 1 0 0 0), (5, .int .i64 (n : Nat)), (6, .int .i64 0)], [some (tyO t), some (vaO { k := 1, i := sgV (xn : Int) n })]⟩) ⟨0, ?_⟩ ⟨rfl, rfl, rfl, rfl, rfl⟩
    rw [hsg]
    simp only [Va.pay, Int.cast_ofNat_Int] at hbi
    generalize hz : IntKind.u64.wrap ((xn : Int) * 2 ^ sh) = z at *
    generalize hz2 : IntKind.i64.wrap z = z2 at *
    simp (maxSteps := 2000000) -implicitDefEqProofs [-getElem?_pos, List.getElem?_cons_zero, List.getElem?_cons_succ, go_sem, eqV, plen, loadV, storeV, tyO, Ty.pay, vaO, Va.pay, hsh0, hmin, hz, hz2, hbi, mkVa, flatCells, splice, scalars, show IntKind.u64.bits = 64 from rfl, show IntKind.i64.bits = 64 from rfl]
  · rw [if_neg hk1]
    have hk1b : (kindN t.t t.u == 1) = false := beq_eq_false_iff_ne.2 hk1
    generalize kindN t.t t.u = k at *
    apply Tells.seq (fr' := [(4, .ptr 1 0 0 0), (7, .int .i64 k), (14, .int .i64 (n : Nat)), (15, .int .u64 (xn : Nat)), (81, .bool false)]) (H' := [some (tyO t), some (vaO {})])
    · (refine ⟨0, ?_⟩; simp (maxSteps := 2000000) -implicitDefEqProofs [-getElem?_pos, List.getElem?_cons_zero, List.getElem?_cons_succ, go_sem, eqV, plen, loadV, storeV, hk1b])
    apply Tells.seq (fr' := [(4, .ptr 1 0 0 0), (7, .int .i64 k), (14, .int .i64 (n : Nat)), (15, .int .u64 (xn : Nat)), (81, .bool false)]) (H' := [some (tyO t), some (vaO {})])
    · exact condF (by simp [evalO, getF]) ⟨0, rfl⟩
    have hbb := fun k x => bvVb k x
    refine Tells.of (o := ⟨.ret, [(4, .ptr 1 0 0 0), (5, .int .i64 (n : Nat)), (6, .int .i64 0)], [some (tyO t), some (vaO { k := k, b := xn })]⟩) ⟨0, ?_⟩ ⟨rfl, rfl, by simp, rfl, rfl⟩
    simp only [Va.pay, Int.cast_ofNat_Int] at hbb
    simp (maxSteps := 2000000) -implicitDefEqProofs [-getElem?_pos, List.getElem?_cons_zero, List.getElem?_cons_succ, go_sem, eqV, plen, loadV, storeV, tyO, Ty.pay, vaO, Va.pay, hbb, mkVa, flatCells, splice, scalars]

end

end Go.Proofs.YtifgkkfchnfcaaaDoor

/- Walks: a fixed number's lowest bytes, appended to what is handed over. -/
namespace Go.Proofs.YtifgkkfchnfcaaaDoor
open Go.AM
set_option linter.unusedSimpArgs false
set_option linter.unusedVariables false

theorem app_t {H : AM.Heap} {o g t : Nat} {ob : AM.Obj} {l m : List UInt8} {src : AV} (ho : H[o]? = some (some ob)) (h : RwT (.pb l) g t ob) (hsrc : srcV H src = some (.pb m, 0) ∨ (srcV H src = some (.pn, 0) ∧ m = [])) (hn : l.length + m.length ≤ 100000000) :
    ∃ ob', RwT (.pb (l ++ m)) (g + 1) t ob' ∧ appendV X H 22 (.sl o 0 l.length g) src = some (.sl o 0 (l.length + m.length) (g + 1), upd H o (some ob')) :=
  app_rwt (by simp) (und5) (by simp) (by simp) (by simp) ho h hsrc hn

section
variable (l : List UInt8) (x n tg : Nat)

def vfFr (i : Nat) : AM.Frame := [(0, .sl 0 0 (l.length + i) i), (1, .int .u64 (x : Nat)), (8, .int .i64 (n : Nat)), (9, .int .i64 (i : Nat))]

set_option maxRecDepth 100000 in
theorem vfixed_code (ob : AM.Obj) (hw : RwT (.pb l) 0 tg ob) (hl : l.length ≤ 90000000) (h8 : n ≤ 8) : ∃ code, Tryd.f19.body = some code ∧
    Tells (Rets fun fr H => ∃ ob', getF fr 6 = .sl 0 0 (l.length + n) n ∧ H = [some ob', some nilB] ∧ RwT (.pb (l ++ leB n x)) n tg ob') X (evT X) 19 1 code [(0, .sl 0 0 l.length 0), (1, .int .u64 (x : Nat)), (2, .int .i64 (n : Nat))] [some ob] := by
  refine ⟨_, rfl, ?_⟩
  have hmb : IntKind.u64.bits = 64 := rfl
  apply Tells.seq (fr' := [(0, .sl 0 0 l.length 0), (1, .int .u64 (x : Nat)), (2, .int .i64 (n : Nat))]) (H' := [some ob, some nilB])
  · (refine ⟨0, ?_⟩; simp (maxSteps := 2000000) -implicitDefEqProofs [-getElem?_pos, List.getElem?_cons_zero, List.getElem?_cons_succ, go_sem, eqV, plen, loadV, storeV, assignV, emB])
  apply Tells.andThen (P := fun fr H => ∃ ob', fr = vfFr l x n n ++ [(10, .bool false)] ∧ H = [some ob', some nilB] ∧ RwT (.pb (l ++ leB n x)) n tg ob')
  · apply Tells.seq (fr' := vfFr l x n 0) (H' := [some ob, some nilB])
    · (refine ⟨0, ?_⟩; simp (maxSteps := 2000000) -implicitDefEqProofs [-getElem?_pos, List.getElem?_cons_zero, List.getElem?_cons_succ, go_sem, eqV, plen, loadV, storeV, vfFr])
    apply Tells.block
    refine Tells.loop (σ := Nat × AM.Obj) (fun s => s.1 ≤ n ∧ RwT (.pb (l ++ leB s.1 x)) s.1 tg s.2) (fun s => vfFr l x n s.1) (fun s => [some s.2, some nilB]) (fun s => n - s.1) ?_ (0, ob) ⟨by simp, by simpa [leB] using hw⟩
    rintro ⟨i, ob⟩ ⟨hi, hw⟩
    simp only at hi hw ⊢
    by_cases hin : i = n
    · right
      subst hin
      refine ⟨⟨.exit 0, vfFr l x i i ++ [(10, .bool false)], [some ob, some nilB]⟩, ⟨rfl, ob, rfl, rfl, hw⟩, by simp, ?_⟩
      (refine ⟨0, ?_⟩; simp (maxSteps := 2000000) -implicitDefEqProofs [-getElem?_pos, List.getElem?_cons_zero, List.getElem?_cons_succ, go_sem, eqV, plen, loadV, storeV, vfFr])
    · left
      have hlt : i < 8 := by omega
      have hiI : (i : Int) < (n : Int) := by omega
      have w1 : IntKind.i64.wrap ((i : Int) + 1) = ((i + 1 : Nat) : Int) := by rw [wrap_i64 (by omega) (by omega)]; omega
      have w8 : IntKind.i64.wrap (8 * (i : Int)) = ((8 * i : Nat) : Int) := by rw [wrap_i64 (by omega) (by omega)]; omega
      have hn0 : ¬ (((8 * i : Nat) : Int) < 0) := by omega
      have hsh := shr_u64 (x := x) hlt
      have hlen := leB_len i x
      obtain ⟨ob', hw', hA⟩ := app_t (H := [some ob, some nilB]) (o := 0) (src := .ro 1 (.pb [UInt8.ofNat (x / 256 ^ i % 256)]) 0) rfl hw (.inl rfl) (by simp [hlen]; omega)
      rw [List.append_assoc, ← leB_snoc] at hw'
      simp only [List.length_append, hlen, List.length_cons, List.length_nil] at hA
      refine ⟨(i + 1, ob'), ⟨by simp only; omega, hw'⟩, ?_, by simp only; omega⟩
      have hwb := wrap_byte (x / 256 ^ i)
      have hbs := fun H => bs1 H (UInt8.ofNat (x / 256 ^ i % 256))
      generalize x / 256 ^ i = z at *
      generalize UInt8.ofNat (z % 256) = y at *
      generalize 8 * i = i8 at *
      (refine ⟨0, ?_⟩; simp (maxSteps := 2000000) -implicitDefEqProofs [-getElem?_pos, List.getElem?_cons_zero, List.getElem?_cons_succ, go_sem, eqV, plen, loadV, storeV, vfFr, hiI, w1, w8, hn0, hmb, hsh, hwb, hbs, hA, upd])
      omega
  · rintro fr H ⟨ob', rfl, rfl, hw⟩
    refine Tells.of (o := ⟨.ret, [(6, .sl 0 0 (l.length + n) n)], [some ob', some nilB]⟩) ?_ ⟨rfl, ob', rfl, rfl, hw⟩
    refine ⟨0, ?_⟩
    simp (maxSteps := 2000000) -implicitDefEqProofs [-getElem?_pos, List.getElem?_cons_zero, List.getElem?_cons_succ, go_sem, eqV, plen, loadV, storeV, vfFr, assignV]

end

/-- as it is told to the caller -/
theorem vfixed_ev {H : AM.Heap} {o g x n tg : Nat} {N : Int} {ob : AM.Obj} {l : List UInt8} (ho : H[o]? = some (some ob)) (hw : RwT (.pb l) g tg ob) (hN : N = (n : Nat)) (hl : l.length ≤ 90000000) (h1 : 1 ≤ n) (h8 : n ≤ 8) :
    ∃ ob', RwT (.pb (l ++ leB n x)) (g + 1) tg ob' ∧ evT X 19 [.sl o 0 l.length g, .int .u64 (x : Nat), .int .i64 N] H = some (.sl o 0 (l.length + n) (g + 1), upd H o (some ob')) := by
  subst hN
  obtain ⟨code, hcode, ⟨out, ⟨he, ob', q1, q2, q3⟩, hrun⟩⟩ := vfixed_code l x n 4 { ob with g := 0, tg := 4 } ⟨hw.p, rfl, hw.row, hw.ids, rfl⟩ hl h8
  refine ⟨{ ob' with g := g + 1, tg := tg }, ⟨q3.p, rfl, q3.row, q3.ids, rfl⟩, evT_eq ?_⟩
  have := Ev1.rwB (C := X) (f := 19) (H := H) (o := o) (off := 0) (len := l.length) (g := g) (ob := ob) (ob1 := ob') (xs := [.int .u64 (x : Nat), .int .i64 (n : Nat)]) (ys := [.int .u64 (x : Nat), .int .i64 (n : Nat)]) (n := 4) (rest := []) (restH := [some nilB]) (off1 := 0) (n1 := l.length + n) (g1 := n)
    (evT_below X) Tryd.func19 hcode rfl ho hw.g hw.ids (by rw [hw.p]; rfl) (args_flat rfl rfl (args_flat rfl rfl (args_nil 3))) rfl rfl rfl (by simp [gtag])
    (by rw [par19]; simpa [coerce, numbered] using hrun) (.inr he) (by show some [getF out.fr 6] = _; rw [q1]) q2 q3.g q3.ids (by rw [q3.p]; rfl) (.inr q3.tg) rfl rfl rfl
  rw [if_neg (by omega), q3.tg, hw.tg] at this
  exact this

end Go.Proofs.YtifgkkfchnfcaaaDoor

/- Walks: Own and Kept. -/
namespace Go.Proofs.YtifgkkfchnfcaaaDoor
open Go.AM
set_option linter.unusedSimpArgs false
set_option linter.unusedVariables false

def e8 : List UInt8 := [165, 165, 165, 165, 165, 165, 165, 165]

theorem bs8 (H : AM.Heap) : buildSliceV X H 22 8 [(0, .int .u8 165), (1, .int .u8 165), (2, .int .u8 165), (3, .int .u8 165), (4, .int .u8 165), (5, .int .u8 165), (6, .int .u8 165), (7, .int .u8 165)] = some (.ro 1 (.pb e8) 0, H) := by kernel_rfl

theorem mk0 {n : Nat} (hn : n ≤ 1000000) (H : AM.Heap) : makeSliceV X H 22 (.int .i64 0) (.int .i64 (n : Nat)) = some (.sl H.length 0 0 0, H ++ [some ⟨.pb [], 0, some n, 1, true, false, 0⟩]) := by
  have hz : ∀ n, zeroRow X 5 n = some (.pb (List.replicate n 0)) := fun n => by simp [zeroRow, cellsAV, scalars, scalar, idsL, ids, tagsL, tags]
  have h0 : (0 : Int) ≤ n := by omega
  have h1 : (n : Int) ≤ 9223372036854775807 := by omega
  have h2 : (n : Int) ≤ 140737488355328 := by omega
  simp [makeSliceV, hz, h0, h1, h2, rowOf]

theorem pieceF {O : Option Code} {P : Code → Prop} (h : ∃ code, O = some code ∧ P code) (code' : Code) (h' : O = some code') : P code' := by
  obtain ⟨c, h1, h2⟩ := h
  rw [h'] at h1
  exact (Option.some.inj h1) ▸ h2

noncomputable def ownO : Option Code := ((Tryd.f8.body).bind cR).bind cL

set_option maxRecDepth 100000 in
theorem own_r1 {c n8 : Nat} {b E : List UInt8} {ob0 ob1 ob2 : AM.Obj} (w8 : IntKind.i64.wrap ((b.length : Int) + 8) = (n8 : Nat))
    (hM : makeSliceV X [some nilB] 22 (.int .i64 0) (.int .i64 (n8 : Nat)) = some (.sl 1 0 0 0, [some nilB, some ob0]))
    (hA1 : appendV X [some nilB, some ob0] 22 (.sl 1 0 0 0) (.ro c (.pb b) 1) = some (.sl 1 0 b.length 1, [some nilB, some ob1]))
    (hb8 : ∀ H, buildSliceV X H 22 8 [(0, .int .u8 165), (1, .int .u8 165), (2, .int .u8 165), (3, .int .u8 165), (4, .int .u8 165), (5, .int .u8 165), (6, .int .u8 165), (7, .int .u8 165)] = some (.ro 1 (.pb E) 0, H))
    (hA2 : appendV X [some nilB, some ob1] 22 (.sl 1 0 b.length 1) (.ro 1 (.pb E) 0) = some (.sl 1 0 n8 2, [some nilB, some ob2]))
    (hS2 : sliceV X [some nilB, some ob2] 22 (.sl 1 0 n8 2) none (some (.int .i64 (b.length : Nat))) = some (.sl 1 0 b.length 2)) :
    ∃ code, ownO = some code ∧ Run X (evT X) 8 0 code [(0, .ro c (.pb b) 1)] [some nilB] ⟨.normal, [(2, .sl 1 0 b.length 2)], [some nilB, some ob2]⟩ := by
  refine ⟨_, rfl, 0, ?_⟩
  simp (maxSteps := 2000000) -implicitDefEqProofs [-getElem?_pos, List.getElem?_cons_zero, List.getElem?_cons_succ, go_sem, eqV, plen, loadV, storeV, assignV, w8, hM, hA1, hA2, hb8, hS2]

section
variable (c : Nat) (b : List UInt8)

set_option maxRecDepth 100000 in
theorem own_code (hc : c = 0 → b = []) (hb : b.length ≤ 900000) : ∃ code, Tryd.f8.body = some code ∧
    Tells (Rets fun fr H => ∃ o g ob, getF fr 2 = .sl o 0 b.length g ∧ H[o]? = some (some ob) ∧ Rw (.pb (b ++ e8)) g ob ∧ ob.cap = some (b.length + 8)) X (evT X) 8 0 code [(0, .ro c (.pb b) 1)] [] := by
  refine ⟨_, rfl, ?_⟩
  have w8 : IntKind.i64.wrap ((b.length : Int) + 8) = ((b.length + 8 : Nat) : Int) := by rw [wrap_i64 (by omega) (by omega)]; omega
  have hM := mk0 (n := b.length + 8) (by omega) [some nilB]
  have hw0 : Rw (.pb []) 0 ⟨.pb [], 0, some (b.length + 8), 1, true, false, 0⟩ := ⟨rfl, rfl, rfl, rfl, rfl⟩
  obtain ⟨ob1, hw1, hk1, hA1⟩ := app_rwc (C := X) (T := 22) (e := 5) (by simp) (und5) (by simp) (by simp) (by simp) (H := [some nilB, some ⟨.pb [], 0, some (b.length + 8), 1, true, false, 0⟩]) (o := 1) (g := 0) (k := b.length + 8) (l := []) (m := b) (src := .ro c (.pb b) 1) rfl hw0 rfl (by simp) (srcB (.inl rfl)) (by simp; omega)
  rw [List.nil_append] at hw1
  rw [List.length_nil, Nat.zero_add] at hA1
  obtain ⟨ob2, hw2, hk2, hA2⟩ := app_rwc (C := X) (T := 22) (e := 5) (by simp) (und5) (by simp) (by simp) (by simp) (H := [some nilB, some ob1]) (o := 1) (g := 1) (k := b.length + 8) (l := b) (m := e8) (src := .ro 1 (.pb e8) 0) rfl hw1 hk1 (by simp [e8]) (.inl rfl) (by simp [e8]; omega)
  have hPl : plen (.pb (b ++ e8)) = b.length + 8 := by simp [plen, e8]
  have hS2 : sliceV X [some nilB, some ob2] 22 (.sl 1 0 (b.length + 8) 2) none (some (.int .i64 (b.length : Nat))) = some (.sl 1 0 b.length 2) := by
    have hg := hw2.g
    have hp := hw2.p
    have hle : (b.length : Int) ≤ (b.length : Int) + 8 := by omega
    simp [sliceV, bound, live, hg, hp, hPl, pesz, hle]
  apply Tells.seq (fr' := [(0, .ro c (.pb b) 1)]) (H' := [some nilB])
  · (refine ⟨0, ?_⟩; simp (maxSteps := 2000000) -implicitDefEqProofs [-getElem?_pos, List.getElem?_cons_zero, List.getElem?_cons_succ, go_sem, eqV, plen, loadV, storeV, assignV, emB])
  refine Tells.seq (pieceF (own_r1 w8 hM hA1 bs8 hA2 hS2) _ rfl) (Tells.of (o := ⟨.ret, [(2, .sl 1 0 b.length 2)], [some nilB, some ob2]⟩) ⟨0, rfl⟩ ⟨rfl, 1, 2, ob2, rfl, rfl, hw2, hk2⟩)

/-- an own copy, its rows of eight behind it -/
structure OwnB (b : List UInt8) (ob : AM.Obj) : Prop where
  rw : Rw (.pb (b ++ e8)) 0 ob
  cap : ob.cap = some (b.length + 8)

def kpFr (c t : Nat) (b : List UInt8) (i : Nat) : AM.Frame := [(5, .sl 0 b.length 8 0), (6, .int .i64 (i : Nat))]

end

theorem own_ev {H : AM.Heap} {a : AV} {b : List UInt8} (h : Byt H a b) (hb : b.length ≤ 900000) : ∃ ob, OwnB b ob ∧ evT X 8 [a] H = some (.sl H.length 0 b.length 0, H ++ [some ob]) := by
  obtain ⟨c, p, xl, hp, hc, hx⟩ := args_byt (C := X) (f := 8) (i := 0) rfl h (args_nil 1)
  obtain ⟨code, hcode, hr⟩ := own_code c b hc hb
  obtain ⟨ob, q1, q2, q3⟩ := Ev1.newBc (H := H) (n := b.length) (k := some (b.length + 8)) (l := b ++ e8) (rest := []) (evT_below X) Tryd.func8 hcode hx (by simp [idsL, ids, hp.ids]) (by simp [gtag]) rfl rfl rfl (by
    obtain ⟨o, ⟨he, o1, g, ob, q1, q2, q3, q4⟩, hrun⟩ := hr
    exact ⟨o, ⟨he, o1, g, ob, congrArg (fun v => some [v]) q1, q2, q3, q4⟩, by rw [par8, coB hp]; exact hrun⟩)
  exact ⟨ob, ⟨q1, q2⟩, evT_eq q3⟩

theorem OwnB.byt {H : AM.Heap} {o : Nat} {ob : AM.Obj} {b : List UInt8} (ho : H[o]? = some (some ob)) (h : OwnB b ob) : Byt H (.sl o 0 b.length 0) b :=
  Byt.sl ho h.rw (by simp) (by simp)

end Go.Proofs.YtifgkkfchnfcaaaDoor
