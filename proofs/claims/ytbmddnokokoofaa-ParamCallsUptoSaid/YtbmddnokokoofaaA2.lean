/- Walks: the law ParamCalls. -/
import Derived.Test.YtbmddnokokoofaaA1
namespace Go.Proofs.Ytbmddnokokoofaa
open Go.AM
set_option linter.unusedSimpArgs false
set_option linter.unusedVariables false

theorem sizeN_le (t : Nat) : sizeN t ≤ 8 := by
  unfold sizeN
  repeat' split
  all_goals omega

theorem whB_le (w : Wh) (t : Nat) : (whB w t).length ≤ 13 := by
  have h1 : (clB w).length = 3 := rfl
  have h2 : (usB w).length ≤ 4 := by unfold usB; split <;> simp [leB_len]
  unfold whB spB moB
  repeat' split
  all_goals simp [leB_len]
  all_goals omega

theorem aT_le (s : List UInt8) : (aT s).length ≤ s.length + 9 := by
  unfold aT
  rw [List.length_append, aI_len]
  unfold szI
  repeat' split
  all_goals omega

theorem enV_le (v : Va) (t : Ty) : (enV v t).length ≤ v.t.length + 13 := by
  have h1 := sizeN_le t.t
  have h2 := whB_le v.w t.t
  have h3 := aT_le v.t
  unfold enV
  repeat' split
  all_goals (try rw [leB_len])
  all_goals (try simp only [List.length_nil])
  all_goals omega

theorem restB_sum : ∀ l : List Pm, (restB l).length ≤ sumT l + 13 * l.length
  | [] => by simp [restB, sumT]
  | p :: l => by
    have h := restB_sum l
    have h2 := enV_le p.v p.t
    have h3 : (paE p).length ≤ p.v.t.length + 13 := by unfold paE; split <;> first | omega | (simp only [List.length_nil]; omega)
    have e1 : (restB (p :: l)).length = (paE p).length + (restB l).length := by simp [restB]
    have e2 : sumT (p :: l) = p.v.t.length + sumT l := by simp [sumT]
    rw [e1, e2, List.length_cons]; omega

theorem sm_rest {l : List Pm} (h : smL l = true) : l.length ≤ 60 ∧ sumT l ≤ 3000 ∧ (restB l).length ≤ 4000 := by
  unfold smL at h
  simp only [Bool.and_eq_true, decide_eq_true_eq] at h
  obtain ⟨h1, h2⟩ := h
  rw [List.take_of_length_le (by omega)] at h2
  have := restB_sum l
  exact ⟨h1, h2, by omega⟩

section
variable (c : Nat) (b : List UInt8) (d : Nat) (l : List Pm) (bd : Bool)

set_option maxRecDepth 100000 in
theorem calls_code (hc : c = 0 → b = []) (hok : ∀ p ∈ l, p.ok) (hl : ∀ p ∈ l, p.v.t.length ≤ 1048576) : ∃ code, Try.f4.body = some code ∧
    Tells (Rets fun fr H => getF fr 6 = .bool true) X (evT X) 4 0 code [(0, .ro c (.pb b) 1), (1, .ro d (pmL l) 2), (2, .bool bd)] [] := by
  refine ⟨_, rfl, ?_⟩
  have hL := fun H => lives_ev H
  have hS := fun H => small_ev (H := H) (d := d) (t := 2) hl
  have hro : ∀ H, Byt H (.ro c (.pb b) 1) b := fun H => Byt.ro (.inl rfl) hc
  obtain ⟨P, hP⟩ : ∃ P, pmL l = P := ⟨_, rfl⟩
  rw [hP] at hS ⊢
  apply Tells.seq (fr' := [(0, .ro c (.pb b) 1), (1, .ro d P 2), (2, .bool bd)]) (H' := [])
  · (refine ⟨0, ?_⟩; simp (maxSteps := 2000000) -implicitDefEqProofs [-getElem?_pos, List.getElem?_cons_zero, List.getElem?_cons_succ, go_sem, eqV, plen, loadV, storeV])
  apply Tells.seq (fr' := [(0, .ro c (.pb b) 1), (1, .ro d P 2), (2, .bool bd), (12, .bool false)]) (H' := [])
  · (refine ⟨0, ?_⟩; simp (maxSteps := 2000000) -implicitDefEqProofs [-getElem?_pos, List.getElem?_cons_zero, List.getElem?_cons_succ, go_sem, eqV, plen, loadV, storeV, hL, unV])
  by_cases hb : (3000 : Int) < (b.length : Int)
  · refine Tells.of (o := ⟨.ret, [(6, .bool true)], []⟩) ⟨0, ?_⟩ ⟨rfl, rfl⟩
    simp (maxSteps := 2000000) -implicitDefEqProofs [-getElem?_pos, List.getElem?_cons_zero, List.getElem?_cons_succ, go_sem, eqV, plen, loadV, storeV, hb]
  cases hs : smL l with
  | false =>
    rw [hs] at hS
    refine Tells.of (o := ⟨.ret, [(6, .bool true)], []⟩) ⟨0, ?_⟩ ⟨rfl, rfl⟩
    simp (maxSteps := 2000000) -implicitDefEqProofs [-getElem?_pos, List.getElem?_cons_zero, List.getElem?_cons_succ, go_sem, eqV, plen, loadV, storeV, hb, hS, unV]
  | true =>
  rw [hs] at hS
  obtain ⟨s1, s2, s3⟩ := sm_rest hs
  have hbl : b.length ≤ 3000 := by omega
  apply Tells.seq (fr' := [(0, .ro c (.pb b) 1), (1, .ro d P 2), (2, .bool bd), (20, .bool false)]) (H' := [])
  · (refine ⟨0, ?_⟩; simp (maxSteps := 2000000) -implicitDefEqProofs [-getElem?_pos, List.getElem?_cons_zero, List.getElem?_cons_succ, go_sem, eqV, plen, loadV, storeV, hb, hS, unV])
  obtain ⟨obo, hO, hOw⟩ := own_ev (H := []) (hro _) (by omega)
  obtain ⟨ob1, hw1, hA1⟩ := pappend_ev (H := [some obo]) (a := .sl 0 0 b.length 0) (d := d) (t := 2) (l := l) (bd := bd) (OwnB.byt rfl hO) (by omega) hok (by omega)
  rw [hP] at hA1
  apply Tells.seq (fr' := [(0, .ro c (.pb b) 1), (1, .ro d P 2), (2, .bool bd), (7, .sl 1 0 (pApp b l bd).1.length 0), (8, .int .i64 (pApp b l bd).2)]) (H' := [some obo, some ob1])
  · simp only [List.cons_append, List.nil_append, List.length_cons, List.length_nil] at hOw hA1
    generalize pApp b l bd = r at *
    (refine ⟨0, ?_⟩; simp (maxSteps := 2000000) -implicitDefEqProofs [-getElem?_pos, List.getElem?_cons_zero, List.getElem?_cons_succ, go_sem, eqV, plen, loadV, storeV, hOw, hA1, assignV])
  obtain ⟨ob2, hw2, hA2⟩ := rpappend_ev (H := [some obo, some ob1]) (a := .ro c (.pb b) 1) (d := d) (t := 2) (l := l) (bd := bd) (hro _) (by omega) hok (by omega)
  rw [hP] at hA2
  apply Tells.seq (fr' := [(7, .sl 1 0 (pApp b l bd).1.length 0), (8, .int .i64 (pApp b l bd).2), (9, .sl 2 0 (pApp b l bd).1.length 0), (10, .int .i64 (pApp b l bd).2)]) (H' := [some obo, some ob1, some ob2])
  · simp only [List.cons_append, List.nil_append, List.length_cons, List.length_nil] at hA2
    generalize pApp b l bd = r at *
    (refine ⟨0, ?_⟩; simp (maxSteps := 2000000) -implicitDefEqProofs [-getElem?_pos, List.getElem?_cons_zero, List.getElem?_cons_succ, go_sem, eqV, plen, loadV, storeV, hA2, assignV])
  have hSB := sameB_ev (H := [some obo, some ob1, some ob2]) (Byt.whole (o := 1) rfl hw1) (Byt.whole (o := 2) rfl hw2)
  rw [beq_self_eq_true] at hSB
  refine Tells.of (o := ⟨.ret, [(6, .bool true)], [some obo, some ob1, some ob2]⟩) ⟨0, ?_⟩ ⟨rfl, rfl⟩
  generalize pApp b l bd = r at *
  simp (maxSteps := 2000000) -implicitDefEqProofs [-getElem?_pos, List.getElem?_cons_zero, List.getElem?_cons_succ, go_sem, eqV, plen, loadV, storeV, hSB]

end

end Go.Proofs.Ytbmddnokokoofaa
