/- VB to VN: texts of this claim, one behind the other; what each shows stands at its head. -/
import Derived.Test.YtifgkkfchnfcaaaDoorAm3
import Derived.Test.YtifgkkfchnfcaaaDoorMg5
/- Walks: the document's moment, appended. -/
namespace Go.Proofs.YtifgkkfchnfcaaaDoor
open Go.AM
set_option linter.unusedSimpArgs false
set_option linter.unusedVariables false

noncomputable def mtO : Option Code := ((((Tryd.f25.body).bind cR).bind cR).bind cL)

def mtP (c : Nat) (b : List UInt8) (w : Wh) (t : Nat) (fr : AM.Frame) (H : AM.Heap) : Prop :=
  ∃ o g ob own tl, fr = [(0, .ro c (.pb b) 1), (4, .ptr 0 0 0 0), (7, .sl o 0 own.length g)] ++ tl ∧ H[0]? = some (some (whO w)) ∧ H[o]? = some (some ob) ∧ Rw (.pb own) g ob ∧ own.length ≤ 100 ∧ (UInt8.ofNat (own ++ usB w).length :: (own ++ usB w)) = whB w t

theorem span_zero {w : Wh} (hf : fin w 11 = true) : (w.d = 0 ∧ mid w = true) ↔ w = {} := by
  unfold fin btw at hf
  simp only [Bool.and_eq_true, decide_eq_true_eq, if_true, Bool.not_eq_true', Bool.and_eq_false_iff] at hf
  unfold mid
  obtain ⟨neg, y, mo, d, h, mi, s, us⟩ := w
  simp only [decide_eq_true_eq, Wh.mk.injEq] at *
  constructor
  · rintro ⟨h1, h2, h3, h4, h5⟩
    refine ⟨?_, hf.2.1, hf.2.2.1, h1, h2, h3, h4, h5⟩
    rcases hf.2.2.2.2 with h6 | h6 | h6
    · exact h6
    · simp only [decide_eq_false_iff_not] at h6; exact absurd h1 h6
    · unfold mid at h6; simp only [decide_eq_false_iff_not] at h6; exact absurd ⟨h2, h3, h4, h5⟩ h6
  · rintro ⟨h1, h2, h3, h4, h5, h6, h7, h8⟩
    exact ⟨h4, h5, h6, h7, h8⟩

section
variable (c : Nat) (b : List UInt8) (w : Wh)

set_option maxRecDepth 100000 in
set_option maxHeartbeats 4000000 in
theorem mt_span (hf : fin w 11 = true) : ∃ code, mtO = some code ∧ Tells (Goes (mtP c b w 11)) X (evT X) 25 0 code [(0, .ro c (.pb b) 1), (2, .int .u8 11), (4, .ptr 0 0 0 0)] [some (whO w), some nilB, some nilB] := by
  refine ⟨_, rfl, ?_⟩
  have hck : clk w = true := by unfold fin at hf; simp only [Bool.and_eq_true] at hf; exact hf.1
  have hM := fun H => mid_ev hck H
  have hz := span_zero hf
  obtain ⟨n1, n2, n3, n4, n5, n6, n7, n8, n9, n10, n11, n12, n13, n14⟩ := fin_nn hf
  apply Tells.seq (fr' := [(0, .ro c (.pb b) 1), (4, .ptr 0 0 0 0), (10, .bool true)]) (H' := [some (whO w), some nilB, some nilB])
  · (refine ⟨0, ?_⟩; simp (maxSteps := 2000000) -implicitDefEqProofs [-getElem?_pos, List.getElem?_cons_zero, List.getElem?_cons_succ, go_sem, eqV, plen, loadV, storeV])
  apply tcondT (by simp [evalO, getF])
  apply Tells.seq
  · (refine ⟨0, ?_⟩; conv => lhs; simp (maxSteps := 2000000) -implicitDefEqProofs [-getElem?_pos, List.getElem?_cons_zero, List.getElem?_cons_succ, go_sem, eqV, plen, loadV, storeV])
  generalize hy : (if w.neg then (1 : UInt8) else 0) = y at *
  apply Tells.andThen (P := fun fr H => ∃ tl, fr = [(0, .ro c (.pb b) 1), (4, .ptr 0 0 0 0), (8, .int .u8 (y.toNat : Nat))] ++ tl ∧ H = [some (whO w), some nilB, some nilB])
  · cases hn : w.neg with
    | true =>
      rw [hn] at hy
      refine Tells.of (o := ⟨.normal, [(0, .ro c (.pb b) 1), (4, .ptr 0 0 0 0), (8, .int .u8 1)], [some (whO w), some nilB, some nilB]⟩) ⟨0, ?_⟩ ⟨rfl, [], by rw [← hy]; rfl, rfl⟩
      simp (maxSteps := 2000000) -implicitDefEqProofs [-getElem?_pos, List.getElem?_cons_zero, List.getElem?_cons_succ, go_sem, eqV, plen, loadV, storeV, whO, Wh.pay, hn]
    | false =>
      rw [hn] at hy
      refine Tells.of (o := ⟨.normal, [(0, .ro c (.pb b) 1), (4, .ptr 0 0 0 0), (8, .int .u8 0), (12, .bool false)], [some (whO w), some nilB, some nilB]⟩) ⟨0, ?_⟩ ⟨rfl, [(12, .bool false)], by rw [← hy]; rfl, rfl⟩
      simp (maxSteps := 2000000) -implicitDefEqProofs [-getElem?_pos, List.getElem?_cons_zero, List.getElem?_cons_succ, go_sem, eqV, plen, loadV, storeV, whO, Wh.pay, hn]
  rintro fr H ⟨tl, rfl, rfl⟩
  obtain ⟨dn, hdn⟩ : ∃ n : Nat, w.d = (n : Int) := ⟨w.d.toNat, by omega⟩
  obtain ⟨hn, hhn⟩ : ∃ n : Nat, w.h = (n : Int) := ⟨w.h.toNat, by omega⟩
  obtain ⟨mn, hmn⟩ : ∃ n : Nat, w.mi = (n : Int) := ⟨w.mi.toNat, by omega⟩
  obtain ⟨sn, hsn⟩ : ∃ n : Nat, w.s = (n : Int) := ⟨w.s.toNat, by omega⟩
  have ed : w.d.toNat = dn := by rw [hdn]; simp
  obtain ⟨ob3, hw3, hF⟩ := rfx_ev (H := [some (whO w), some nilB, some nilB]) (a := .ro 1 (.pb [y]) 0) (b := [y]) (x := dn) (n := 4) (N := 4) (Byt.ro (.inl rfl) (by omega)) rfl (by simp) (by omega) (by omega) (by omega)
  have hcl : clB w = [UInt8.ofNat hn, UInt8.ofNat mn, UInt8.ofNat sn] := by unfold clB; rw [hhn, hmn, hsn]; simp
  obtain ⟨ob4, hw4, hA⟩ := app_b (H := [some (whO w), some nilB, some nilB, some ob3]) (o := 3) (m := clB w) (src := .ro 1 (.pb (clB w)) 0) rfl hw3 (.inl rfl) (by simp [leB_len, clB])
  have l3 : ([y] ++ leB 4 dn).length = 5 := by simp [leB_len]
  rw [l3, hcl] at hA
  apply Tells.seq (fr' := [(0, .ro c (.pb b) 1), (4, .ptr 0 0 0 0), (7, .sl 3 0 8 1)]) (H' := [some (whO w), some nilB, some nilB, some ob4])
  · have hbs := fun H => bs1 H y
    have wd : IntKind.u64.wrap w.d = (dn : Int) := by rw [hdn]; exact wrap_u64 (by omega) (by omega)
    have w1 : IntKind.u8.wrap w.h = (hn : Int) := by rw [hhn]; exact wrap_u8 (by omega) (by omega)
    have w2 : IntKind.u8.wrap w.mi = (mn : Int) := by rw [hmn]; exact wrap_u8 (by omega) (by omega)
    have w3 : IntKind.u8.wrap w.s = (sn : Int) := by rw [hsn]; exact wrap_u8 (by omega) (by omega)
    have hbs3 := fun H => bs3n H hn mn sn (by omega) (by omega) (by omega)
    have hg3 := hw3.g
    have hi3 := hw3.ids
    have hp3 := hw3.p
    simp only [List.length_cons, List.length_nil, whO, Wh.pay, List.cons_append, List.nil_append] at hF hA
    clear hM hw4 hcl
    generalize [UInt8.ofNat hn, UInt8.ofNat mn, UInt8.ofNat sn] = cl at *
    apply Run.dy (by simp) keep25_6 (by simp)
    · (conv => lhs; simp (maxSteps := 2000000) -implicitDefEqProofs [-getElem?_pos, List.getElem?_cons_zero, List.getElem?_cons_succ, go_sem, eqV, plen, loadV, storeV, runD, out1, markOf, freeO, quietO, pushes, isAssign, calledV, touched, mentioned, opVals, touchCall, mentionCall, idsAt, Op.operands, ids, idsL, lendArgs, lendV, lend1, lendL, eqH_self, whO, Wh.pay, hbs, hbs3, wd, w1, w2, w3, hF, hA, upd, assignV, reach_none, hg3, hi3, hp3])
      rfl
    · kernel_rfl
    · rfl
  simp only [whO, Wh.pay] at hM
  by_cases hw0 : w = {}
  · have hb := hz.2 hw0
    rw [hb.2] at hM
    refine Tells.of (o := ⟨.normal, [(0, .ro c (.pb b) 1), (4, .ptr 0 0 0 0), (7, .sl 4 0 0 0)], [some (whO w), some nilB, some nilB, some ob4, some nilB]⟩) ⟨0, ?_⟩ ⟨rfl, 4, 0, nilB, [], [], rfl, rfl, rfl, nilB_rw, by simp, ?_⟩
    · have hd0 := hb.1
      rw [hd0] at hM
      simp (maxSteps := 2000000) -implicitDefEqProofs [-getElem?_pos, List.getElem?_cons_zero, List.getElem?_cons_succ, go_sem, eqV, plen, loadV, storeV, whO, Wh.pay, mkWh, hd0, hM, assignV, emB]
    · unfold whB spB usB
      rw [if_pos rfl, if_pos hw0]
      subst hw0
      rfl
  · refine Tells.of (o := ⟨.normal, [(0, .ro c (.pb b) 1), (4, .ptr 0 0 0 0), (7, .sl 3 0 8 1), (36, .bool false)], [some (whO w), some nilB, some nilB, some ob4]⟩) ⟨0, ?_⟩ ⟨rfl, 3, 1, ob4, [y] ++ leB 4 dn ++ clB w, [(36, .bool false)], by simp [leB_len, clB], rfl, rfl, hw4, by simp [leB_len, clB], ?_⟩
    · by_cases hd0 : w.d = 0
      · have hm : mid w = false := by
          cases hm : mid w with
          | false => rfl
          | true => exact absurd (hz.1 ⟨hd0, hm⟩) hw0
        rw [hm, hd0] at hM
        simp (maxSteps := 2000000) -implicitDefEqProofs [-getElem?_pos, List.getElem?_cons_zero, List.getElem?_cons_succ, go_sem, eqV, plen, loadV, storeV, whO, Wh.pay, mkWh, hd0, hM]
      · have hd0b : (w.d == 0) = false := by simpa using hd0
        simp (maxSteps := 2000000) -implicitDefEqProofs [-getElem?_pos, List.getElem?_cons_zero, List.getElem?_cons_succ, go_sem, eqV, plen, loadV, storeV, whO, Wh.pay, hd0b]
    · unfold whB spB
      rw [if_pos rfl, if_neg hw0, hy, ed]
      unfold usB
      by_cases hus : w.us = 0
      · rw [if_pos hus, if_pos hus]
        simp [leB_len, clB]
      · rw [if_neg hus, if_neg hus]
        simp [leB_len, clB]

theorem mo_mid {t : Nat} (h11 : t ≠ 11) (hf : fin w t = true) : (w = { y := w.y, mo := w.mo, d := w.d }) ↔ mid w = true := by
  unfold fin at hf
  rw [if_neg h11] at hf
  simp only [Bool.and_eq_true, Bool.not_eq_true'] at hf
  have hn := hf.2.1
  unfold mid
  obtain ⟨neg, y, mo, d, h, mi, s, us⟩ := w
  simp only [decide_eq_true_eq, Wh.mk.injEq, true_and] at *
  constructor
  · rintro ⟨_, h1, h2, h3, h4⟩; exact ⟨h1, h2, h3, h4⟩
  · rintro ⟨h1, h2, h3, h4⟩; exact ⟨hn, h1, h2, h3, h4⟩

set_option maxRecDepth 100000 in
set_option maxHeartbeats 4000000 in
theorem mt_moment (t : Nat) (ht : t < 256) (h11 : t ≠ 11) (hf : fin w t = true) : ∃ code, mtO = some code ∧ Tells (Goes (mtP c b w t)) X (evT X) 25 0 code [(0, .ro c (.pb b) 1), (2, .int .u8 (t : Nat)), (4, .ptr 0 0 0 0)] [some (whO w), some nilB, some nilB] := by
  refine ⟨_, rfl, ?_⟩
  have hck : clk w = true := by unfold fin at hf; simp only [Bool.and_eq_true] at hf; exact hf.1
  have hM := fun H => mid_ev hck H
  have hz := mo_mid w h11 hf
  have h11b : ((t : Int) == 11) = false := by simp; omega
  obtain ⟨n1, n2, n3, n4, n5, n6, n7, n8, n9, n10, n11, n12, n13, n14⟩ := fin_nn hf
  apply Tells.seq (fr' := [(0, .ro c (.pb b) 1), (4, .ptr 0 0 0 0), (10, .bool false)]) (H' := [some (whO w), some nilB, some nilB])
  · (refine ⟨0, ?_⟩; simp (maxSteps := 2000000) -implicitDefEqProofs [-getElem?_pos, List.getElem?_cons_zero, List.getElem?_cons_succ, go_sem, eqV, plen, loadV, storeV, h11b])
  apply tcondF (by simp [evalO, getF])
  obtain ⟨yn, hyn⟩ : ∃ n : Nat, w.y = (n : Int) := ⟨w.y.toNat, by omega⟩
  obtain ⟨on, hon⟩ : ∃ n : Nat, w.mo = (n : Int) := ⟨w.mo.toNat, by omega⟩
  obtain ⟨dn, hdn⟩ : ∃ n : Nat, w.d = (n : Int) := ⟨w.d.toNat, by omega⟩
  obtain ⟨hn, hhn⟩ : ∃ n : Nat, w.h = (n : Int) := ⟨w.h.toNat, by omega⟩
  obtain ⟨mn, hmn⟩ : ∃ n : Nat, w.mi = (n : Int) := ⟨w.mi.toNat, by omega⟩
  obtain ⟨sn, hsn⟩ : ∃ n : Nat, w.s = (n : Int) := ⟨w.s.toNat, by omega⟩
  have ey : w.y.toNat = yn := by rw [hyn]; simp
  have eo : w.mo.toNat = on := by rw [hon]; simp
  have ed : w.d.toNat = dn := by rw [hdn]; simp
  obtain ⟨ob3, hw3, hF⟩ := rfx_ev (H := [some (whO w), some nilB, some nilB]) (a := .ro 0 .pn 0) (b := []) (x := yn) (n := 2) (N := 2) Byt.nil rfl (by simp) (by omega) (by omega) (by omega)
  obtain ⟨ob4, hw4, hA⟩ := app_b (H := [some (whO w), some nilB, some nilB, some ob3]) (o := 3) (m := [UInt8.ofNat on, UInt8.ofNat dn]) (src := .ro 1 (.pb [UInt8.ofNat on, UInt8.ofNat dn]) 0) rfl hw3 (.inl rfl) (by simp [leB_len])
  have hcl : clB w = [UInt8.ofNat hn, UInt8.ofNat mn, UInt8.ofNat sn] := by unfold clB; rw [hhn, hmn, hsn]; simp
  obtain ⟨ob5, hw5, hA2⟩ := app_b (H := [some (whO w), some nilB, some nilB, some ob4]) (o := 3) (m := clB w) (src := .ro 1 (.pb (clB w)) 0) rfl hw4 (.inl rfl) (by simp [leB_len, clB])
  have l3 : (([] : List UInt8) ++ leB 2 yn).length = 2 := by simp [leB_len]
  have l4 : (([] : List UInt8) ++ leB 2 yn ++ [UInt8.ofNat on, UInt8.ofNat dn]).length = 4 := by simp [leB_len]
  rw [l3] at hA
  rw [l4, hcl] at hA2
  apply Tells.seq (fr' := [(0, .ro c (.pb b) 1), (4, .ptr 0 0 0 0), (7, .sl 3 0 4 1)]) (H' := [some (whO w), some nilB, some nilB, some ob4])
  · have wd : IntKind.u64.wrap w.y = (yn : Int) := by rw [hyn]; exact wrap_u64 (by omega) (by omega)
    have w1 : IntKind.u8.wrap w.mo = (on : Int) := by rw [hon]; exact wrap_u8 (by omega) (by omega)
    have w2 : IntKind.u8.wrap w.d = (dn : Int) := by rw [hdn]; exact wrap_u8 (by omega) (by omega)
    have hbs2 := fun H => bs2n H on dn (by omega) (by omega)
    have hg3 := hw3.g
    have hi3 := hw3.ids
    have hp3 := hw3.p
    simp only [List.length_cons, List.length_nil, whO, Wh.pay, List.cons_append, List.nil_append, Nat.zero_add] at hF hA
    clear hM hw4 hcl hA2 hw5
    generalize [UInt8.ofNat on, UInt8.ofNat dn] = od at *
    apply Run.dy (by simp) keep25_9 (by simp)
    · (conv => lhs; simp (maxSteps := 2000000) -implicitDefEqProofs [-getElem?_pos, List.getElem?_cons_zero, List.getElem?_cons_succ, go_sem, eqV, plen, loadV, storeV, runD, out1, markOf, freeO, quietO, pushes, isAssign, calledV, touched, mentioned, opVals, touchCall, mentionCall, idsAt, Op.operands, ids, idsL, lendArgs, lendV, lend1, lendL, eqH_self, whO, Wh.pay, hbs2, wd, w1, w2, hF, hA, upd, assignV, reach_none, hg3, hi3, hp3])
      rfl
    · kernel_rfl
    · rfl
  have hg4 := hw4.g
  unfold mtP
  cases hm : mid w with
  | false =>
    rw [hm] at hM
    simp only [whO, Wh.pay] at hM
    have hne : ¬ w = { y := w.y, mo := w.mo, d := w.d } := fun h => by rw [hz.1 h] at hm; cases hm
    have hw0 : ¬ w = {} := fun h => hne (by rw [h])
    refine Tells.of (o := ⟨.normal, [(0, .ro c (.pb b) 1), (4, .ptr 0 0 0 0), (7, .sl 3 0 7 2)], [some (whO w), some nilB, some nilB, some ob5]⟩) ⟨0, ?_⟩ ⟨rfl, 3, 2, ob5, _, [], by rw [List.length_append, l4, hcl]; rfl, rfl, rfl, hw5, by simp [leB_len, clB], ?_⟩
    · have w1 : IntKind.u8.wrap w.h = (hn : Int) := by rw [hhn]; exact wrap_u8 (by omega) (by omega)
      have w2 : IntKind.u8.wrap w.mi = (mn : Int) := by rw [hmn]; exact wrap_u8 (by omega) (by omega)
      have w3 : IntKind.u8.wrap w.s = (sn : Int) := by rw [hsn]; exact wrap_u8 (by omega) (by omega)
      have hbs3 := fun H => bs3n H hn mn sn (by omega) (by omega) (by omega)
      simp only [List.length_cons, List.length_nil, whO, Wh.pay] at hA2
      generalize [UInt8.ofNat hn, UInt8.ofNat mn, UInt8.ofNat sn] = cl at *
      simp (maxSteps := 2000000) -implicitDefEqProofs [-getElem?_pos, List.getElem?_cons_zero, List.getElem?_cons_succ, go_sem, eqV, plen, loadV, storeV, whO, Wh.pay, mkWh, hM, unV, w1, w2, w3, hbs3, hA2, upd]
    · unfold whB moB moN
      rw [if_neg h11, if_neg hw0, if_neg hne, if_neg hne, ey, eo, ed]
      unfold usB
      by_cases hus : w.us = 0
      · rw [if_pos hus, if_pos hus]
        simp [leB_len, clB]
      · rw [if_neg hus, if_neg hus]
        simp [leB_len, clB]
  | true =>
    rw [hm] at hM
    simp only [whO, Wh.pay] at hM
    have heq := hz.2 hm
    have hus : w.us = 0 := by unfold mid at hm; simp only [decide_eq_true_eq] at hm; exact hm.2.2.2
    have hE := fun H xo yo => eqWh w {} H xo yo
    have hb0 := bdW0
    simp only [Wh.pay, Int.cast_ofNat_Int] at hE
    by_cases hw0 : w = {}
    · rw [decide_eq_true hw0] at hE
      refine Tells.of (o := ⟨.normal, [(0, .ro c (.pb b) 1), (4, .ptr 0 0 0 0), (7, .sl 4 0 0 0)], [some (whO w), some nilB, some nilB, some ob4, some nilB]⟩) ⟨0, ?_⟩ ⟨rfl, 4, 0, nilB, [], [], rfl, rfl, rfl, nilB_rw, by simp, ?_⟩
      · generalize hz0 : (AV.pc [.bool false, .int .i64 0, .int .i64 0, .int .i64 0, .int .i64 0, .int .i64 0, .int .i64 0, .int .i64 0]) = pz at *
        simp (maxSteps := 2000000) -implicitDefEqProofs [-getElem?_pos, List.getElem?_cons_zero, List.getElem?_cons_succ, go_sem, eqV, plen, loadV, storeV, -eqV, whO, Wh.pay, mkWh, hM, unV, hb0, hE, assignV, emB]
      · unfold whB moB usB
        rw [if_neg h11, if_pos hw0, if_pos hus]
        rfl
    · rw [decide_eq_false hw0] at hE
      refine Tells.of (o := ⟨.normal, [(0, .ro c (.pb b) 1), (4, .ptr 0 0 0 0), (7, .sl 3 0 4 1), (66, .bool false)], [some (whO w), some nilB, some nilB, some ob4]⟩) ⟨0, ?_⟩ ⟨rfl, 3, 1, ob4, _, [(66, .bool false)], by rw [l4]; rfl, rfl, rfl, hw4, by simp [leB_len], ?_⟩
      · generalize hz0 : (AV.pc [.bool false, .int .i64 0, .int .i64 0, .int .i64 0, .int .i64 0, .int .i64 0, .int .i64 0, .int .i64 0]) = pz at *
        simp (maxSteps := 2000000) -implicitDefEqProofs [-getElem?_pos, List.getElem?_cons_zero, List.getElem?_cons_succ, go_sem, eqV, plen, loadV, storeV, -eqV, whO, Wh.pay, mkWh, hM, unV, hb0, hE]
      · unfold whB moB moN usB
        rw [if_neg h11, if_neg hw0, if_pos heq, if_pos heq, if_pos hus, ey, eo, ed]
        simp [leB_len]

set_option maxRecDepth 100000 in
theorem mt_code (t : Nat) (hc : c = 0 → b = []) (hb : b.length ≤ 100000) (ht : t < 256) (hf : fin w t = true) : ∃ code, Tryd.f25.body = some code ∧
    Tells (Rets fun fr H => ∃ o g ob, getF fr 6 = .sl o 0 (b ++ whB w t).length g ∧ H[o]? = some (some ob) ∧ Rw (.pb (b ++ whB w t)) g ob) X (evT X) 25 0 code [(0, .ro c (.pb b) 1), (1, .agg w.pay), (2, .int .u8 (t : Nat))] [] := by
  refine ⟨_, rfl, ?_⟩
  have hnn := fin_nn hf
  apply Tells.seq (fr' := [(0, .ro c (.pb b) 1), (2, .int .u8 (t : Nat)), (4, .ptr 0 0 0 0)]) (H' := [some (whO w), some nilB])
  · (refine ⟨0, ?_⟩; simp (maxSteps := 2000000) -implicitDefEqProofs [-getElem?_pos, List.getElem?_cons_zero, List.getElem?_cons_succ, go_sem, eqV, plen, loadV, storeV, whO, Wh.pay, assignV, emB])
  apply Tells.seq (fr' := [(0, .ro c (.pb b) 1), (2, .int .u8 (t : Nat)), (4, .ptr 0 0 0 0)]) (H' := [some (whO w), some nilB, some nilB])
  · (refine ⟨0, ?_⟩; simp (maxSteps := 2000000) -implicitDefEqProofs [-getElem?_pos, List.getElem?_cons_zero, List.getElem?_cons_succ, go_sem, eqV, plen, loadV, storeV, assignV, emB])
  apply Tells.andThen (P := mtP c b w t)
  · by_cases h11 : t = 11
    · subst h11
      exact pieceF (mt_span c b w hf) _ rfl
    · exact pieceF (mt_moment c b w t ht h11 hf) _ rfl
  rintro fr H ⟨o, g, ob, own, tl, rfl, h0, ho, hw, how, hB⟩
  have := pieceF (mt_end c b own w H o g ob tl hc hb how h0 ho hw ⟨hnn.2.2.2.2.2.2.2.2.2.2.2.2.1, hnn.2.2.2.2.2.2.2.2.2.2.2.2.2⟩) _ rfl
  rw [hB] at this
  exact this

end

theorem mt_ev {H : AM.Heap} {a : AV} {b : List UInt8} {w : Wh} {t : Nat} (h : Byt H a b) (hb : b.length ≤ 100000) (ht : t < 256) (hf : fin w t = true) :
    ∃ ob, Rw (.pb (b ++ whB w t)) 0 ob ∧ evT X 25 [a, .agg w.pay, .int .u8 (t : Nat)] H = some (.sl H.length 0 (b ++ whB w t).length 0, H ++ [some ob]) := by
  obtain ⟨c, p, xl, hp, hc, hx'⟩ := args_byt (C := X) (f := 25) (i := 0) rfl h (args_wh (f := 25) (i := 1) (w := w) (args_flat (i := 2) (a := .int .u8 (t : Nat)) rfl rfl (args_nil 3)))
  obtain ⟨code, hcode, hr⟩ := mt_code c b w t hc hb ht hf
  obtain ⟨ob, q1, q2⟩ := Ev1.newB (H := H) (n := (b ++ whB w t).length) (l := b ++ whB w t) (rest := []) (evT_below X) Tryd.func25 hcode hx' (by simp [Wh.pay, idsL, ids, hp.ids]) (by simp [gtag]) rfl rfl rfl (by
    obtain ⟨o, ⟨he, o1, g, ob, q1, q3, q4⟩, hrun⟩ := hr
    exact ⟨o, ⟨he, o1, g, ob, by show some [getF o.fr 6] = _; rw [q1], q3, q4⟩, by rw [par25, coB hp]; exact hrun⟩)
  exact ⟨ob, q1, evT_eq q2⟩

end Go.Proofs.YtifgkkfchnfcaaaDoor

/- Walks: the document's value appended. -/
namespace Go.Proofs.YtifgkkfchnfcaaaDoor
open Go.AM
set_option linter.unusedSimpArgs false
set_option linter.unusedVariables false

theorem leB_mod : ∀ n x, leB n (x % 256 ^ n) = leB n x
  | 0, x => rfl
  | n + 1, x => by
    simp only [leB]
    rw [Nat.pow_succ, Nat.mul_comm (256 ^ n) 256, Nat.mod_mul_right_mod, Nat.mod_mul_right_div_self, leB_mod n]

theorem and_mask {x k : Nat} (hx : x < 18446744073709551616) (hk : k ≤ 63) :
    IntKind.u64.wrap ((AM.bits .u64 (x : Int) &&& AM.bits .u64 (((2 ^ k - 1 : Nat)) : Int)).toNat : Nat) = ((x % 2 ^ k : Nat) : Int) := by
  have hb : ∀ v : Nat, v < 18446744073709551616 → (AM.bits .u64 (v : Int)).toNat = v := by
    intro v hv
    unfold AM.bits
    simp [IntKind.bits]
    omega
  have hp : 2 ^ k ≤ 2 ^ 63 := Nat.pow_le_pow_right (by omega) hk
  have e : (AM.bits .u64 (x : Int) &&& AM.bits .u64 (((2 ^ k - 1 : Nat)) : Int)).toNat = x % 2 ^ k := by
    rw [show (AM.bits .u64 (x : Int) &&& AM.bits .u64 (((2 ^ k - 1 : Nat)) : Int)).toNat = (AM.bits .u64 (x : Int)).toNat &&& (AM.bits .u64 (((2 ^ k - 1 : Nat)) : Int)).toNat by simp]
    rw [hb x hx, hb _ (by omega), Nat.and_two_pow_sub_one_eq_mod]
  rw [e]
  have := Nat.mod_lt x (Nat.pow_pos (n := k) (show 0 < 2 by omega))
  rw [wrap_u64 (by omega) (by omega)]

theorem ui_lt (i : Int) : ui i < 18446744073709551616 := by
  have h := ui_eq i
  have : IntKind.u64.wrap i < 18446744073709551616 := by
    unfold IntKind.wrap
    simp [IntKind.signed, IntKind.bits]
    exact Int.emod_lt_of_pos _ (by decide)
  omega

/-- the bits of a value that may be fit its type -/
theorem ok_bits {v : Va} {t : Ty} (h : chkV v t = 0) (hvb : v.b < 18446744073709551616) (hk : v.k = 2 ∨ v.k = 3 ∨ v.k = 4) : v.b < 256 ^ sizeN t.t := by
  rcases chk_ok h with rfl | h
  · exact absurd hk (by decide)
  unfold okVa okVk at h
  rw [if_neg (by omega), if_pos hk] at h
  simp only [Bool.and_eq_true, decide_eq_true_eq] at h
  obtain ⟨h1, h2, h3⟩ := h
  have hs := size_num (t := t.t) (u := t.u) (by omega)
  unfold okB at h3
  generalize sizeN t.t = n at *
  simp only [Bool.or_eq_true, decide_eq_true_eq] at h3
  rcases hs with rfl | rfl | rfl | rfl
  · rcases h3 with h3 | h3
    · omega
    · simpa using h3
  · rcases h3 with h3 | h3
    · omega
    · simpa using h3
  · rcases h3 with h3 | h3
    · omega
    · simpa using h3
  · simpa using hvb

section
variable (c : Nat) (b : List UInt8) (v : Va) (t : Ty)

set_option maxRecDepth 100000 in
set_option maxHeartbeats 4000000 in
theorem rvappend_code (hc : c = 0 → b = []) (hb : b.length ≤ 100000) (ht : t.t < 256) (hvb : v.b < 18446744073709551616) : ∃ code, Tryd.f9.body = some code ∧
    Tells (Rets fun fr H => ∃ o g ob, getF fr 6 = .sl o 0 (apV b v t).1.length g ∧ getF fr 7 = .int .i64 (apV b v t).2 ∧ H[o]? = some (some ob) ∧ Rw (.pb (apV b v t).1) g ob) X (evT X) 9 0 code [(0, .ro c (.pb b) 1), (1, .agg v.pay), (2, .agg t.pay)] [] := by
  refine ⟨_, rfl, ?_⟩
  have hC := rcheck_ev (v := v) (t := t) ht [some (vaO v), some (tyO t), some nilB]
  apply Tells.seq (fr' := [(0, .ro c (.pb b) 1), (4, .ptr 0 0 0 0), (5, .ptr 1 0 0 0)]) (H' := [some (vaO v), some (tyO t), some nilB])
  · (refine ⟨0, ?_⟩; simp (maxSteps := 2000000) -implicitDefEqProofs [-getElem?_pos, List.getElem?_cons_zero, List.getElem?_cons_succ, go_sem, eqV, plen, loadV, storeV, vaO, tyO, Va.pay, Ty.pay, assignV, emB])
  apply Tells.seq (fr' := [(0, .ro c (.pb b) 1), (4, .ptr 0 0 0 0), (5, .ptr 1 0 0 0), (8, .int .i64 (chkV v t))]) (H' := [some (vaO v), some (tyO t), some nilB])
  · simp only [vaO, tyO, Va.pay, Ty.pay] at hC
    generalize chkV v t = ck at *
    (refine ⟨0, ?_⟩; simp (maxSteps := 2000000) -implicitDefEqProofs [-getElem?_pos, List.getElem?_cons_zero, List.getElem?_cons_succ, go_sem, eqV, plen, loadV, storeV, vaO, tyO, Va.pay, Ty.pay, mkVa, mkTy, hC])
  clear hC
  unfold apV
  cases hok : apOk v t with
  | false =>
    rw [if_neg (by simp)]
    refine Tells.of (o := ⟨.ret, [(6, .sl 3 0 0 0), (7, .int .i64 2)], [some (vaO v), some (tyO t), some nilB, some nilB]⟩) ?_ ⟨rfl, 3, 0, nilB, rfl, rfl, rfl, nilB_rw⟩
    apply Run.seq_out (hne := by simp)
    apply Run.seq (fr' := [(0, .ro c (.pb b) 1), (4, .ptr 0 0 0 0), (5, .ptr 1 0 0 0), (25, .bool true)]) (H' := [some (vaO v), some (tyO t), some nilB])
    · unfold apOk at hok
      by_cases h0 : chkV v t = 0
      · rw [h0] at hok ⊢
        simp only [decide_true, Bool.true_and, Bool.not_eq_false', Bool.and_eq_true, decide_eq_true_eq] at hok
        obtain ⟨hk, h6⟩ := hok
        have h6b : ((t.t : Int) != 6) = true := by simp; omega
        (refine ⟨0, ?_⟩; simp (maxSteps := 2000000) -implicitDefEqProofs [-getElem?_pos, List.getElem?_cons_zero, List.getElem?_cons_succ, go_sem, eqV, plen, loadV, storeV, vaO, tyO, Va.pay, Ty.pay, hk, h6b])
      · have h0b : (chkV v t != 0) = true := by simpa using h0
        generalize chkV v t = ck at *
        (refine ⟨0, ?_⟩; simp (maxSteps := 2000000) -implicitDefEqProofs [-getElem?_pos, List.getElem?_cons_zero, List.getElem?_cons_succ, go_sem, eqV, plen, loadV, storeV, vaO, tyO, Va.pay, Ty.pay, h0b])
    refine ⟨0, ?_⟩
    simp (maxSteps := 2000000) -implicitDefEqProofs [-getElem?_pos, List.getElem?_cons_zero, List.getElem?_cons_succ, go_sem, eqV, plen, loadV, storeV, assignV, emB]
  | true =>
  rw [if_pos rfl]
  unfold apOk at hok
  simp only [Bool.and_eq_true, decide_eq_true_eq, Bool.not_eq_true', Bool.and_eq_false_iff, decide_eq_false_iff_not] at hok
  obtain ⟨h0, h06⟩ := hok
  obtain ⟨fs, ff, fl, fk⟩ := ok_facts h0
  have fb := fun h => ok_bits h0 hvb h
  rw [h0]
  apply Tells.seq (fr' := [(0, .ro c (.pb b) 1), (4, .ptr 0 0 0 0), (5, .ptr 1 0 0 0), (25, .bool false)]) (H' := [some (vaO v), some (tyO t), some nilB])
  · by_cases hk : v.k = 0
    · have h6 : t.t = 6 := by
        rcases h06 with h | h
        · exact absurd hk h
        · omega
      (refine ⟨0, ?_⟩; simp (maxSteps := 2000000) -implicitDefEqProofs [-getElem?_pos, List.getElem?_cons_zero, List.getElem?_cons_succ, go_sem, eqV, plen, loadV, storeV, vaO, tyO, Va.pay, Ty.pay, hk, h6])
    · have hkb : (v.k == 0) = false := by simpa using hk
      (refine ⟨0, ?_⟩; simp (maxSteps := 2000000) -implicitDefEqProofs [-getElem?_pos, List.getElem?_cons_zero, List.getElem?_cons_succ, go_sem, eqV, plen, loadV, storeV, vaO, tyO, Va.pay, Ty.pay, hkb])
  have hS := rsize_ev' ht [some (vaO v), some (tyO t), some nilB]
  apply Tells.seq (fr' := [(0, .ro c (.pb b) 1), (4, .ptr 0 0 0 0), (5, .ptr 1 0 0 0), (9, .int .i64 (rsizeN t.t : Nat))]) (H' := [some (vaO v), some (tyO t), some nilB])
  · simp only [vaO, tyO, Va.pay, Ty.pay] at hS
    generalize rsizeN t.t = n at *
    (refine ⟨0, ?_⟩; simp (maxSteps := 2000000) -implicitDefEqProofs [-getElem?_pos, List.getElem?_cons_zero, List.getElem?_cons_succ, go_sem, eqV, plen, loadV, storeV, vaO, tyO, Va.pay, Ty.pay, hS])
  clear hS
  unfold enV
  rcases fk with kv | kv | kv | kv | kv | kv | kv | kv
  · rw [if_neg (by omega), if_neg (by omega), if_neg (by omega), if_neg (by omega), List.append_nil]
    have hb0 := fun H => bs0 H
    have hA0 := app_lit (H := [some (vaO v), some (tyO t), some nilB]) (m := b) (src := .ro c (.pb b) 1) (srcB (.inl rfl)) (by omega)
    have hw0 : Rw (.pb b) 0 ⟨.pb b, 0, .none, 1, true, false, 0⟩ := ⟨rfl, rfl, rfl, rfl, rfl⟩
    generalize (⟨.pb b, 0, .none, 1, true, false, 0⟩ : AM.Obj) = ob0 at *
    refine Tells.of (o := ⟨.ret, [(6, .sl 3 0 b.length 0), (7, .int .i64 0)], [some (vaO v), some (tyO t), some nilB, some ob0]⟩) ⟨0, ?_⟩ ⟨rfl, 3, 0, ob0, rfl, rfl, rfl, hw0⟩
    simp only [vaO, tyO, Va.pay, Ty.pay] at hA0
    rw [kv] at hA0
    generalize rsizeN t.t = n at *
    simp (maxSteps := 2000000) -implicitDefEqProofs [-getElem?_pos, List.getElem?_cons_zero, List.getElem?_cons_succ, go_sem, eqV, plen, loadV, storeV, vaO, tyO, Va.pay, Ty.pay, kv, hb0, hA0, assignV]
  · rw [if_pos kv]
    obtain ⟨s1, s8⟩ := fs (.inl kv)
    have hrs := rsize_eq (t := t.t) (by omega)
    rw [hrs]
    have hn : sizeN t.t = 1 ∨ sizeN t.t = 2 ∨ sizeN t.t = 4 ∨ sizeN t.t = 8 := by have := rsz t.t; omega
    have wu := (ui_eq v.i).symm
    have hult := ui_lt v.i
    rw [← leB_mod (sizeN t.t) (ui v.i)]
    have hxl : ui v.i % 256 ^ sizeN t.t < 256 ^ sizeN t.t := Nat.mod_lt _ (Nat.pow_pos (by omega))
    obtain ⟨ob1, hw1, hF⟩ := rfx_ev (H := [some (vaO v), some (tyO t), some nilB]) (a := .ro c (.pb b) 1) (b := b) (x := ui v.i % 256 ^ sizeN t.t) (n := sizeN t.t) (N := sizeN t.t) (Byt.ro (.inl rfl) hc) rfl (by omega) s1 s8 hxl
    refine Tells.of (o := ⟨.ret, [(6, .sl 3 0 (b.length + sizeN t.t) 0), (7, .int .i64 0)], [some (vaO v), some (tyO t), some nilB, some ob1]⟩) ?_ ⟨rfl, 3, 0, ob1, by simp [getF, leB_len], rfl, rfl, hw1⟩
    apply Run.seq_out (hne := by simp)
    simp only [vaO, tyO, Va.pay, Ty.pay] at hF
    rw [kv] at hF
    clear hw1 hxl hrs s1 s8 fs fb
    generalize hx : ui v.i = x at *
    generalize sizeN t.t = n at *
    generalize b.length = bl at *
    refine ⟨0, ?_⟩
    rcases hn with rfl | rfl | rfl | rfl
    · have hm := and_mask (x := x) (k := 8) hult (by omega)
      rw [show (256 : Nat) ^ 1 = 2 ^ 8 from rfl] at hF
      generalize x % 2 ^ 8 = z at *
      simp only [Nat.reducePow, Nat.reduceSub, Int.cast_ofNat_Int] at hF
      have hm2 := hm
      simp only [go_sem, Nat.reducePow, Nat.reduceSub, Int.cast_ofNat_Int] at hm2
      simp only [BitVec.toNat_and, Nat.reducePow, Nat.reduceSub, Int.cast_ofNat_Int] at hm
      simp (maxSteps := 2000000) -implicitDefEqProofs [-getElem?_pos, List.getElem?_cons_zero, List.getElem?_cons_succ, go_sem, eqV, plen, loadV, storeV, vaO, tyO, Va.pay, Ty.pay, kv, wu, hm, hm2, hF, assignV, show IntKind.u64.bits = 64 from rfl, show IntKind.i64.wrap 8 = 8 from rfl, show IntKind.u64.wrap 8 = 8 from rfl, show IntKind.u64.wrap 256 = 256 from rfl, show IntKind.u64.wrap 255 = 255 from rfl]
    · have hm := and_mask (x := x) (k := 16) hult (by omega)
      rw [show (256 : Nat) ^ 2 = 2 ^ 16 from rfl] at hF
      generalize x % 2 ^ 16 = z at *
      simp only [Nat.reducePow, Nat.reduceSub, Int.cast_ofNat_Int] at hF
      have hm2 := hm
      simp only [go_sem, Nat.reducePow, Nat.reduceSub, Int.cast_ofNat_Int] at hm2
      simp only [BitVec.toNat_and, Nat.reducePow, Nat.reduceSub, Int.cast_ofNat_Int] at hm
      simp (maxSteps := 2000000) -implicitDefEqProofs [-getElem?_pos, List.getElem?_cons_zero, List.getElem?_cons_succ, go_sem, eqV, plen, loadV, storeV, vaO, tyO, Va.pay, Ty.pay, kv, wu, hm, hm2, hF, assignV, show IntKind.u64.bits = 64 from rfl, show IntKind.i64.wrap 16 = 16 from rfl, show IntKind.u64.wrap 16 = 16 from rfl, show IntKind.u64.wrap 65536 = 65536 from rfl, show IntKind.u64.wrap 65535 = 65535 from rfl]
    · have hm := and_mask (x := x) (k := 32) hult (by omega)
      rw [show (256 : Nat) ^ 4 = 2 ^ 32 from rfl] at hF
      generalize x % 2 ^ 32 = z at *
      simp only [Nat.reducePow, Nat.reduceSub, Int.cast_ofNat_Int] at hF
      have hm2 := hm
      simp only [go_sem, Nat.reducePow, Nat.reduceSub, Int.cast_ofNat_Int] at hm2
      simp only [BitVec.toNat_and, Nat.reducePow, Nat.reduceSub, Int.cast_ofNat_Int] at hm
      simp (maxSteps := 2000000) -implicitDefEqProofs [-getElem?_pos, List.getElem?_cons_zero, List.getElem?_cons_succ, go_sem, eqV, plen, loadV, storeV, vaO, tyO, Va.pay, Ty.pay, kv, wu, hm, hm2, hF, assignV, show IntKind.u64.bits = 64 from rfl, show IntKind.i64.wrap 32 = 32 from rfl, show IntKind.u64.wrap 32 = 32 from rfl, show IntKind.u64.wrap 4294967296 = 4294967296 from rfl, show IntKind.u64.wrap 4294967295 = 4294967295 from rfl]
    · rw [show x % 256 ^ 8 = x from Nat.mod_eq_of_lt (by simpa using hult)] at hF
      simp only [Int.cast_ofNat_Int] at hF
      simp (maxSteps := 2000000) -implicitDefEqProofs [-getElem?_pos, List.getElem?_cons_zero, List.getElem?_cons_succ, go_sem, eqV, plen, loadV, storeV, vaO, tyO, Va.pay, Ty.pay, kv, wu, hF, assignV]
  · rw [if_neg (by omega), if_pos (by omega)]
    obtain ⟨s1, s8⟩ := fs (by omega)
    have hxl := fb (by omega)
    have hrs := rsize_eq (t := t.t) (by omega)
    rw [hrs]
    obtain ⟨ob1, hw1, hF⟩ := rfx_ev (H := [some (vaO v), some (tyO t), some nilB]) (a := .ro c (.pb b) 1) (b := b) (x := v.b) (n := sizeN t.t) (N := sizeN t.t) (Byt.ro (.inl rfl) hc) rfl (by omega) s1 s8 hxl
    refine Tells.of (o := ⟨.ret, [(6, .sl 3 0 (b.length + sizeN t.t) 0), (7, .int .i64 0)], [some (vaO v), some (tyO t), some nilB, some ob1]⟩) ?_ ⟨rfl, 3, 0, ob1, by simp [getF, leB_len], rfl, rfl, hw1⟩
    apply Run.seq_out (hne := by simp)
    simp only [vaO, tyO, Va.pay, Ty.pay] at hF
    rw [kv] at hF
    clear hw1 hxl hrs s1 s8 fs fb
    generalize sizeN t.t = n at *
    generalize b.length = bl at *
    refine ⟨0, ?_⟩
    simp (maxSteps := 2000000) -implicitDefEqProofs [-getElem?_pos, List.getElem?_cons_zero, List.getElem?_cons_succ, go_sem, eqV, plen, loadV, storeV, vaO, tyO, Va.pay, Ty.pay, kv, hF, assignV]
  · rw [if_neg (by omega), if_pos (by omega)]
    obtain ⟨s1, s8⟩ := fs (by omega)
    have hxl := fb (by omega)
    have hrs := rsize_eq (t := t.t) (by omega)
    rw [hrs]
    obtain ⟨ob1, hw1, hF⟩ := rfx_ev (H := [some (vaO v), some (tyO t), some nilB]) (a := .ro c (.pb b) 1) (b := b) (x := v.b) (n := sizeN t.t) (N := sizeN t.t) (Byt.ro (.inl rfl) hc) rfl (by omega) s1 s8 hxl
    refine Tells.of (o := ⟨.ret, [(6, .sl 3 0 (b.length + sizeN t.t) 0), (7, .int .i64 0)], [some (vaO v), some (tyO t), some nilB, some ob1]⟩) ?_ ⟨rfl, 3, 0, ob1, by simp [getF, leB_len], rfl, rfl, hw1⟩
    apply Run.seq_out (hne := by simp)
    simp only [vaO, tyO, Va.pay, Ty.pay] at hF
    rw [kv] at hF
    clear hw1 hxl hrs s1 s8 fs fb
    generalize sizeN t.t = n at *
    generalize b.length = bl at *
    refine ⟨0, ?_⟩
    simp (maxSteps := 2000000) -implicitDefEqProofs [-getElem?_pos, List.getElem?_cons_zero, List.getElem?_cons_succ, go_sem, eqV, plen, loadV, storeV, vaO, tyO, Va.pay, Ty.pay, kv, hF, assignV]
  · rw [if_neg (by omega), if_pos (by omega)]
    obtain ⟨s1, s8⟩ := fs (by omega)
    have hxl := fb (by omega)
    have hrs := rsize_eq (t := t.t) (by omega)
    rw [hrs]
    obtain ⟨ob1, hw1, hF⟩ := rfx_ev (H := [some (vaO v), some (tyO t), some nilB]) (a := .ro c (.pb b) 1) (b := b) (x := v.b) (n := sizeN t.t) (N := sizeN t.t) (Byt.ro (.inl rfl) hc) rfl (by omega) s1 s8 hxl
    refine Tells.of (o := ⟨.ret, [(6, .sl 3 0 (b.length + sizeN t.t) 0), (7, .int .i64 0)], [some (vaO v), some (tyO t), some nilB, some ob1]⟩) ?_ ⟨rfl, 3, 0, ob1, by simp [getF, leB_len], rfl, rfl, hw1⟩
    apply Run.seq_out (hne := by simp)
    simp only [vaO, tyO, Va.pay, Ty.pay] at hF
    rw [kv] at hF
    clear hw1 hxl hrs s1 s8 fs fb
    generalize sizeN t.t = n at *
    generalize b.length = bl at *
    refine ⟨0, ?_⟩
    simp (maxSteps := 2000000) -implicitDefEqProofs [-getElem?_pos, List.getElem?_cons_zero, List.getElem?_cons_succ, go_sem, eqV, plen, loadV, storeV, vaO, tyO, Va.pay, Ty.pay, kv, hF, assignV]
  · rw [if_neg (by omega), if_neg (by omega), if_pos (by omega)]
    obtain ⟨ob1, hw1, hF⟩ := mt_ev (H := [some (vaO v), some (tyO t), some nilB]) (a := .ro c (.pb b) 1) (b := b) (w := v.w) (Byt.ro (.inl rfl) hc) (by omega) ht (ff (by omega))
    refine Tells.of (o := ⟨.ret, [(6, .sl 3 0 (b ++ whB v.w t.t).length 0), (7, .int .i64 0)], [some (vaO v), some (tyO t), some nilB, some ob1]⟩) ?_ ⟨rfl, 3, 0, ob1, rfl, rfl, rfl, hw1⟩
    apply Run.seq_out (hne := by simp)
    simp only [vaO, tyO, Va.pay, Ty.pay, Wh.pay] at hF
    rw [kv] at hF
    generalize (b ++ whB v.w t.t).length = m at *
    generalize rsizeN t.t = n at *
    refine ⟨0, ?_⟩
    simp (maxSteps := 2000000) -implicitDefEqProofs [-getElem?_pos, List.getElem?_cons_zero, List.getElem?_cons_succ, go_sem, eqV, plen, loadV, storeV, vaO, tyO, Va.pay, Ty.pay, kv, mkWh, hF, assignV]
  · rw [if_neg (by omega), if_neg (by omega), if_pos (by omega)]
    obtain ⟨ob1, hw1, hF⟩ := mt_ev (H := [some (vaO v), some (tyO t), some nilB]) (a := .ro c (.pb b) 1) (b := b) (w := v.w) (Byt.ro (.inl rfl) hc) (by omega) ht (ff (by omega))
    refine Tells.of (o := ⟨.ret, [(6, .sl 3 0 (b ++ whB v.w t.t).length 0), (7, .int .i64 0)], [some (vaO v), some (tyO t), some nilB, some ob1]⟩) ?_ ⟨rfl, 3, 0, ob1, rfl, rfl, rfl, hw1⟩
    apply Run.seq_out (hne := by simp)
    simp only [vaO, tyO, Va.pay, Ty.pay, Wh.pay] at hF
    rw [kv] at hF
    generalize (b ++ whB v.w t.t).length = m at *
    generalize rsizeN t.t = n at *
    refine ⟨0, ?_⟩
    simp (maxSteps := 2000000) -implicitDefEqProofs [-getElem?_pos, List.getElem?_cons_zero, List.getElem?_cons_succ, go_sem, eqV, plen, loadV, storeV, vaO, tyO, Va.pay, Ty.pay, kv, mkWh, hF, assignV]
  · rw [if_neg (by omega), if_neg (by omega), if_neg (by omega), if_pos kv]
    obtain ⟨ob1, hw1, hA⟩ := rappendText_ev (H := [some (vaO v), some (tyO t), some nilB]) (a := .ro c (.pb b) 1) (b := b) (s := v.t) (Byt.ro (.inl rfl) hc) (by omega) (by have := fl kv; omega)
    refine Tells.of (o := ⟨.ret, [(6, .sl 3 0 (b ++ aT v.t).length 0), (7, .int .i64 0)], [some (vaO v), some (tyO t), some nilB, some ob1]⟩) ?_ ⟨rfl, 3, 0, ob1, rfl, rfl, rfl, hw1⟩
    apply Run.seq_out (hne := by simp)
    simp only [vaO, tyO, Va.pay, Ty.pay] at hA
    rw [kv] at hA
    generalize (b ++ aT v.t).length = m at *
    generalize rsizeN t.t = n at *
    refine ⟨0, ?_⟩
    simp (maxSteps := 2000000) -implicitDefEqProofs [-getElem?_pos, List.getElem?_cons_zero, List.getElem?_cons_succ, go_sem, eqV, plen, loadV, storeV, vaO, tyO, Va.pay, Ty.pay, kv, hA, assignV]

end

theorem rvappend_ev {H : AM.Heap} {a : AV} {b : List UInt8} {v : Va} {t : Ty} (h : Byt H a b) (hb : b.length ≤ 100000) (ht : t.t < 256) (hvb : v.b < 18446744073709551616) :
    ∃ ob, Rw (.pb (apV b v t).1) 0 ob ∧ evT X 9 [a, .agg v.pay, .agg t.pay] H = some (.tup [.sl H.length 0 (apV b v t).1.length 0, .int .i64 (apV b v t).2], H ++ [some ob]) := by
  obtain ⟨c, p, xl, hp, hc, hx'⟩ := args_byt (C := X) (f := 9) (i := 0) rfl h (args_va (f := 9) (i := 1) (v := v) (args_ty (i := 2) (t := t) (args_nil 3)))
  obtain ⟨code, hcode, hr⟩ := rvappend_code c b v t hc hb ht hvb
  obtain ⟨ob, q1, q2⟩ := Ev1.newB (H := H) (n := (apV b v t).1.length) (l := (apV b v t).1) (rest := [.int .i64 (apV b v t).2]) (evT_below X) Tryd.func9 hcode hx' (by simp [Va.pay, Ty.pay, idsL, ids, hp.ids]) (by simp [gtag]) rfl rfl rfl (by
    obtain ⟨o, ⟨he, o1, g, ob, q1, q2, q3, q4⟩, hrun⟩ := hr
    exact ⟨o, ⟨he, o1, g, ob, by show some [getF o.fr 6, getF o.fr 7] = _; rw [q1, q2], q3, q4⟩, by rw [par9, coB hp]; exact hrun⟩)
  exact ⟨ob, q1, evT_eq q2⟩

end Go.Proofs.YtifgkkfchnfcaaaDoor

/- Walks: the document's reader of fields. -/
namespace Go.Proofs.YtifgkkfchnfcaaaDoor
open Go.AM
set_option linter.unusedSimpArgs false
set_option linter.unusedVariables false

/-- the fields' box -/
def bxO (p : AV) (c t tg : Nat) (e : Int) : AM.Obj := ⟨.pc [.ro c p t, .int .i64 e], 0, some 2, 1, false, true, tg⟩
/-- the error, when what was read is wrong -/
def wr (bad : Bool) (e : Int) : Int := if e = 0 ∧ bad = true then 5 else e
/-- bytes off what is left -/
def bts (n : Nat) (s : St) : List UInt8 := if s.2 ≠ 0 ∨ s.1.length < n then List.replicate n 0 else s.1.take n

theorem bts_len (n : Nat) (s : St) : (bts n s).length = n := by
  unfold bts
  split
  · simp
  · rename_i h
    simp; omega

theorem leV_zeros (n : Nat) : leV (List.replicate n 0) = 0 := by
  induction n with
  | zero => rfl
  | succ n ih => rw [List.replicate_succ, leV, ih]; rfl

theorem bts_fx (n : Nat) (s : St) : leV (bts n s) = (fx n s).1 := by
  unfold bts fx
  by_cases h1 : s.2 ≠ 0
  · rw [if_pos (.inl h1), if_pos h1, leV_zeros]
  · rw [if_neg h1]
    by_cases h2 : s.1.length < n
    · rw [if_pos (.inr h2), if_pos h2, leV_zeros]
    · rw [if_neg (by simp only [ne_eq, Decidable.not_not] at h1; omega), if_neg h2]

theorem mkB {n : Nat} (hn : n ≤ 1000000) (H : AM.Heap) : makeSliceV X H 22 (.int .i64 (n : Nat)) (.int .i64 (n : Nat)) = some (.sl H.length 0 n 0, H ++ [some ⟨.pb (List.replicate n 0), 0, some n, 1, true, false, 0⟩]) := by
  have hz : ∀ n, zeroRow X 5 n = some (.pb (List.replicate n 0)) := fun n => by simp [zeroRow, cellsAV, scalars, scalar, idsL, ids, tagsL, tags]
  have h0 : (0 : Int) ≤ n := by omega
  have h1 : (n : Int) ≤ 9223372036854775807 := by omega
  have h2 : (n : Int) ≤ 140737488355328 := by omega
  simp [makeSliceV, hz, h0, h1, h2, rowOf]

theorem slTo {c t n : Nat} {b : List UInt8} (hc : c = 0 → b = []) (hn : n ≤ b.length) (H : AM.Heap) : sliceV X H 22 (.ro c (.pb b) t) none (some (.int .i64 (n : Nat))) = some (.ro (if c = 0 then 0 else 2) (.pb (b.take n)) t) := by
  have hnl : (n : Int) ≤ (b.length : Int) := by omega
  simp [sliceV, bound, plen, pesz, psub, hnl, hn]

theorem slFrom {c t n : Nat} {b : List UInt8} (hc : c = 0 → b = []) (hn : n ≤ b.length) (H : AM.Heap) : sliceV X H 22 (.ro c (.pb b) t) (some (.int .i64 (n : Nat))) none = some (.ro c (.pb (b.drop n)) t) := by
  have hcc : (if c = 0 then 0 else c) = c := by split <;> omega
  have hnl : (n : Int) ≤ (b.length : Int) := by omega
  have hle : n + (b.length - n) ≤ b.length := by omega
  have ht : List.take (b.length - n) (b.drop n) = b.drop n := by rw [List.take_of_length_le (by simp)]
  simp [sliceV, bound, plen, pesz, psub, hnl, hcc, hle, ht]

section
variable (c t tg : Nat) (p : AV) (e : Int) (s : St) (n : Nat) (bad : Bool)

end

theorem jt (c t : Nat) (s : St) : joinTags (tagsOb (rdO c t t s)) = some t := by
  simp [tagsOb, rdO, tags, tagsL, joinTags, joinTag]; omega

section
variable (c t : Nat) (p : AV) (e : Int) (s : St) (n : Nat)

/-- all that is left -/
def rsF (s : St) : List UInt8 := if s.2 ≠ 0 then [] else s.1
def rsO (c t : Nat) (s : St) : AM.Obj := if s.2 ≠ 0 then rdO c t t s else rdN t 0

end

end Go.Proofs.YtifgkkfchnfcaaaDoor

/- Structures: a parameter; places in a heap. -/
namespace Go.Proofs.YtifgkkfchnfcaaaDoor
open Go.AM
set_option linter.unusedSimpArgs false
set_option linter.unusedVariables false

structure Pm where
  t : Ty
  lg : Bool
  v : Va

def Pm.pay (p : Pm) : AV := .pc [.int .u8 (p.t.t : Nat), .bool p.t.u, .bool p.lg, .int .i64 p.v.k, .int .i64 p.v.i, .int .u64 (p.v.b : Nat), .str p.v.t, .bool p.v.w.neg, .int .i64 p.v.w.y, .int .i64 p.v.w.mo, .int .i64 p.v.w.d, .int .i64 p.v.w.h, .int .i64 p.v.w.mi, .int .i64 p.v.w.s, .int .i64 p.v.w.us]
def pmO (p : Pm) : AM.Obj := ⟨p.pay, 0, some 15, 1, false, true, 0⟩
def pmL (l : List Pm) : AV := .pr 15 (l.map Pm.pay)
/-- a parameter that may be -/
def Pm.ok (p : Pm) : Prop := p.t.t < 256 ∧ p.v.b < 18446744073709551616 ∧ -9223372036854775808 ≤ p.v.i ∧ p.v.i < 9223372036854775808
/-- a parameter that Append refuses -/
def Pm.bad (p : Pm) : Bool := decide (chkV p.v p.t ≠ 0) || (p.lg && decide (p.v.k ≠ 0))

theorem at_cat {α : Type} {H r : List α} {j : Nat} {y : α} (h : H[j]? = some y) : (H ++ r)[j]? = some y := by
  rw [List.getElem?_append_left]
  · exact h
  · exact (List.getElem?_eq_some_iff.1 h).1
theorem at_lt {α : Type} {H : List α} {j : Nat} {y : α} (h : H[j]? = some y) : j < H.length := (List.getElem?_eq_some_iff.1 h).1
theorem at_set {α : Type} {H : List α} {j : Nat} {y x : α} (h : H[j]? = some y) : (H.set j x)[j]? = some x := by
  rw [List.getElem?_set_self (at_lt h)]
theorem at_ne {α : Type} {H : List α} {j k : Nat} {y x : α} (h : H[j]? = some y) (hne : k ≠ j) : (H.set k x)[j]? = some y := by
  rw [List.getElem?_set_ne hne]; exact h
theorem take_cat {α β : Type} {l : List α} {i : Nat} {p : α} (f : α → List β) (h : l[i]? = some p) : (l.take (i + 1)).flatMap f = (l.take i).flatMap f ++ f p := by
  rw [List.take_add_one, h]; simp

end Go.Proofs.YtifgkkfchnfcaaaDoor

/- Walks: the closure that reads a number out of a moment's bytes. -/
namespace Go.Proofs.YtifgkkfchnfcaaaDoor
open Go.AM
set_option linter.unusedSimpArgs false
set_option linter.unusedVariables false

/-- so many bytes from a place, as a number -/
def nb (c : List UInt8) (i k : Nat) : Nat := leV ((c.drop i).take k)

theorem nb_lt (c : List UInt8) (i k : Nat) : nb c i k < 256 ^ k := by
  unfold nb
  have h := leV_lt ((c.drop i).take k)
  have : ((c.drop i).take k).length ≤ k := by simp; omega
  exact Nat.lt_of_lt_of_le h (Nat.pow_le_pow_right (by omega) this)

section
variable (c : List UInt8) (i k : Nat) (b1 b2 : AM.Obj)

set_option maxRecDepth 100000 in
theorem number_code (hc : c.length = 13) (hi : i + k ≤ 13) (hk : 1 ≤ k) (hk4 : k ≤ 4) (hp1 : b1.p = .pc [.sl 1 0 13 0]) (hi1 : b1.ids = true) (hg1 : b1.g = 0) (hp2 : b2.p = .pb c) (hi2 : b2.ids = false) (hg2 : b2.g = 0) : ∃ code, Tryd.f52.body = some code ∧
    Run X (evT X) 52 2 code [(0, .int .i64 (i : Nat)), (1, .int .i64 (k : Nat)), (2, .ptr 0 0 0 0)] [some b1, some b2] ⟨.ret, [(5, .int .i64 (nb c i k : Nat))], [some b1, some b2]⟩ := by
  refine ⟨_, rfl, ?_⟩
  have hB : Byt [some b1, some b2] (.sl 1 i (13 - i) 0) (c.drop i) := Byt.part (H := [some b1, some b2]) (o := 1) rfl hg2 hp2 hi2 (by rw [List.take_of_length_le (by simp; omega)]) (by omega)
  have hR := rf_ev (n := k) hB (by simp; omega)
  have hlt := nb_lt c i k
  have h4 : 256 ^ k ≤ 256 ^ 4 := Nat.pow_le_pow_right (by omega) hk4
  have hrf : rfR (c.drop i) (k : Nat) = (((nb c i k : Nat) : Int), 0) := by
    unfold rfR
    rw [if_neg (by omega), if_neg (by simp; omega)]
    rfl
  rw [hrf] at hR
  have w1 : IntKind.i64.wrap ((nb c i k : Nat) : Int) = ((nb c i k : Nat) : Int) := wrap_i64 (by omega) (by omega)
  have hsl : sliceV X [some b1, some b2] 22 (.sl 1 0 13 0) (some (.int .i64 (i : Nat))) none = some (.sl 1 i (13 - i) 0) := by
    have hiI : (i : Int) ≤ 13 := by omega
    simp [sliceV, bound, live, hg2, hp2, pesz, hiI]
  generalize nb c i k = z at *
  generalize 13 - i = n at *
  refine ⟨0, ?_⟩
  simp (maxSteps := 2000000) -implicitDefEqProofs [-getElem?_pos, List.getElem?_cons_zero, List.getElem?_cons_succ, go_sem, eqV, plen, loadV, storeV, hp1, hi1, hg1, hsl, hR, w1]

end

theorem number_ev {H : AM.Heap} {o1 o2 i k g2 : Nat} {I K : Int} {b1 b2 : AM.Obj} {c : List UInt8} (hI : I = (i : Nat)) (hK : K = (k : Nat)) (hc : c.length = 13) (hi : i + k ≤ 13) (hk : 1 ≤ k) (hk4 : k ≤ 4)
    (h1 : H[o1]? = some (some b1)) (hp1 : b1.p = .pc [.sl o2 0 13 g2]) (hi1 : b1.ids = true) (hg1 : b1.g = 0) (ht1 : b1.tg = 0) (h2 : H[o2]? = some (some b2)) (hp2 : b2.p = .pb c) (hi2 : b2.ids = false) (hg2 : b2.g = g2) (ht2 : b2.tg = 0) (hne : o1 ≠ o2) :
    evT X 52 [.int .i64 I, .int .i64 K, .ptr o1 0 0 0] H = some (.int .i64 (nb c i k : Nat), H) := by
  subst hI hK
  obtain ⟨code, hcode, hr⟩ := number_code c i k { b1 with p := .pc [.sl 1 0 13 0], g := 0, tg := 4 } { b2 with g := 0, tg := 4 } hc hi hk hk4 rfl hi1 rfl hp2 hi2 rfl
  exact evT_eq (Ev1.fn2 (C := X) (f := 52) (H := H) (xs := [.int .i64 (i : Nat), .int .i64 (k : Nat)]) (n := 4) (l := [.int .i64 (nb c i k : Nat)]) (rest := []) (evT_below X) Tryd.func52 hcode (fun i => by rfl) h1 hg1 (by rw [hg2]; exact hp1) hi1 ht1 h2 hi2 ht2 hp2 hne rfl rfl (by simp [gtag])
    (by rw [par52]; simpa [coerce, numbered] using hr) (.inr rfl) rfl rfl rfl rfl)

end Go.Proofs.YtifgkkfchnfcaaaDoor

/- Walks: a moment, or a span, read. -/
namespace Go.Proofs.YtifgkkfchnfcaaaDoor
open Go.AM
set_option linter.unusedSimpArgs false
set_option linter.unusedVariables false

/-- the lengths that a moment, a span may have -/
def szL (t : Nat) : List Int := if t = 11 then [0, 8, 12] else [0, 4, 7, 11]
def knW (n t : Nat) : Bool := (szL t).any fun x => (n : Int) == x
/-- the bytes behind the length, with nothing behind them -/
def cW (b : List UInt8) : List UInt8 := let n := (b.headD 0).toNat; ((b.drop 1).take n) ++ List.replicate (13 - n) 0
def spW (c : List UInt8) : Wh := { neg := (c.headD 0).toNat == 1, y := 0, mo := 0, d := (nb c 1 4 : Nat), h := (nb c 5 1 : Nat), mi := (nb c 6 1 : Nat), s := (nb c 7 1 : Nat), us := (nb c 8 4 : Nat) }
def moW (c : List UInt8) : Wh := { neg := false, y := (nb c 0 2 : Nat), mo := (nb c 2 1 : Nat), d := (nb c 3 1 : Nat), h := (nb c 4 1 : Nat), mi := (nb c 5 1 : Nat), s := (nb c 6 1 : Nat), us := (nb c 7 4 : Nat) }
/-- what readWhen tells -/
def rdW (b : List UInt8) (t : Nat) : Wh × Nat × Int :=
  if b.length = 0 then ({}, 0, 4) else if knW (b.headD 0).toNat t = false then ({}, 0, 5) else if b.length < 1 + (b.headD 0).toNat then ({}, 0, 4) else
  if t = 11 then (if 1 < ((cW b).headD 0).toNat then ({}, 0, 5) else if fin (spW (cW b)) t = false then ({}, 0, 5) else (spW (cW b), 1 + (b.headD 0).toNat, 0))
  else if fin (moW (cW b)) t = false then ({}, 0, 5) else (moW (cW b), 1 + (b.headD 0).toNat, 0)

theorem bdSp (a : Bool) (x3 x4 x5 x6 x7 : Int) : buildV X 25 [(0, .bool a), (3, .int .i64 x3), (4, .int .i64 x4), (5, .int .i64 x5), (6, .int .i64 x6), (7, .int .i64 x7)] = some (.agg (.pc [.bool a, .int .i64 0, .int .i64 0, .int .i64 x3, .int .i64 x4, .int .i64 x5, .int .i64 x6, .int .i64 x7])) := by kernel_rfl
theorem bdMo (x1 x2 x3 x4 x5 x6 x7 : Int) : buildV X 25 [(1, .int .i64 x1), (2, .int .i64 x2), (3, .int .i64 x3), (4, .int .i64 x4), (5, .int .i64 x5), (6, .int .i64 x6), (7, .int .i64 x7)] = some (.agg (.pc [.bool false, .int .i64 x1, .int .i64 x2, .int .i64 x3, .int .i64 x4, .int .i64 x5, .int .i64 x6, .int .i64 x7])) := by kernel_rfl

/-- a variable that holds a slice -/
def svO (o n g : Nat) : AM.Obj := ⟨.pc [.sl o 0 n g], 0, some 1, 1, false, true, 0⟩

section
variable (c : Nat) (b : List UInt8) (t : Nat)

def rwFr (n : Nat) (L : List Int) (kd : Bool) (i : Nat) : AM.Frame := [(0, .ro c (.pb b) 1), (1, .int .u8 (t : Nat)), (4, .ptr 0 0 0 0), (7, .ptr 1 0 0 0), (8, .int .i64 (n : Nat)), (10, .bool kd), (27, .ro 1 (.pi .i64 L) 0), (28, .int .i64 (L.length : Nat)), (29, .int .i64 (i : Nat))]

set_option maxRecDepth 100000 in
set_option maxHeartbeats 4000000 in
theorem rw_loop (n : Nat) (L : List Int) (hL : L.length ≤ 100) : ∃ code, ((Tryd.f36.body).bind (codeAt [1, 1, 1, 1, 1, 1, 1, 0, 1])) = some code ∧
    Tells (Goes fun fr H => H = [some (whO {}), some (whO {})] ∧ fr = rwFr c b t n L (L.any fun x => (n : Int) == x) L.length ++ [(30, .bool false)]) X (evT X) 36 0 code (rwFr c b t n L false 0) [some (whO {}), some (whO {})] := by
  refine ⟨_, rfl, ?_⟩
  apply Tells.block
  refine Tells.loopP (fun k fr H => ∃ i, k = L.length - i ∧ i ≤ L.length ∧ H = [some (whO {}), some (whO {})] ∧ fr = rwFr c b t n L ((L.take i).any fun x => (n : Int) == x) i) ?_ (k := L.length) ⟨0, rfl, by omega, rfl, rfl⟩
  rintro k fr H ⟨i, rfl, hi, rfl, rfl⟩
  by_cases hin : i = L.length
  · subst hin
    rw [List.take_length]
    refine Tells.of (o := ⟨.exit 0, rwFr c b t n L (L.any fun x => (n : Int) == x) L.length ++ [(30, .bool false)], _⟩) ⟨0, ?_⟩ (.inr ⟨by simp, rfl, rfl, rfl⟩)
    generalize (L.any fun x => (n : Int) == x) = a at *
    simp (maxSteps := 2000000) -implicitDefEqProofs [-getElem?_pos, List.getElem?_cons_zero, List.getElem?_cons_succ, go_sem, eqV, plen, loadV, storeV, rwFr]
  have hlt : i < L.length := by omega
  have hiI : (i : Int) < (L.length : Int) := by omega
  obtain ⟨x, hx⟩ : ∃ x, L[i]? = some x := ⟨_, List.getElem?_eq_getElem hlt⟩
  have hsn : ((L.take (i + 1)).any fun x => (n : Int) == x) = (((L.take i).any fun x => (n : Int) == x) || ((n : Int) == x)) := by
    rw [List.take_add_one, hx]; simp
  have w1 : IntKind.i64.wrap ((i : Int) + 1) = ((i + 1 : Nat) : Int) := by rw [wrap_i64 (by omega) (by omega)]; omega
  refine Tells.of (o := ⟨.normal, rwFr c b t n L ((L.take (i + 1)).any fun x => (n : Int) == x) (i + 1), _⟩) ⟨0, ?_⟩ (.inl ⟨rfl, L.length - (i + 1), by omega, i + 1, rfl, by omega, rfl, rfl⟩)
  rw [hsn]
  generalize ((L.take i).any fun x => (n : Int) == x) = a at *
  cases a with
  | true => simp (maxSteps := 2000000) -implicitDefEqProofs [-getElem?_pos, List.getElem?_cons_zero, List.getElem?_cons_succ, go_sem, eqV, plen, loadV, storeV, rwFr, hiI, hlt, hx, w1]
  | false =>
    generalize hnx : ((n : Int) == x) = e at *
    simp (maxSteps := 2000000) -implicitDefEqProofs [-getElem?_pos, List.getElem?_cons_zero, List.getElem?_cons_succ, go_sem, eqV, plen, loadV, storeV, rwFr, hiI, hlt, hx, w1, hnx]

end

theorem slMid1 {c t n : Nat} {b : List UInt8} (hc : c = 0 → b = []) (hn : 1 + n ≤ b.length) (H : AM.Heap) : sliceV X H 22 (.ro c (.pb b) t) (some (.int .i64 1)) (some (.int .i64 ((1 + n : Nat) : Int))) = some (.ro (if c = 0 then 0 else 2) (.pb ((b.drop 1).take n)) t) :=
  slMid (m := 1) hn H

theorem cpN {H : AM.Heap} {ob : AM.Obj} {m l : List UInt8} {c t : Nat} (h2 : H[2]? = some (some ob)) (hg : ob.g = 0) (hp : ob.p = .pb m) (hi : ob.ids = false) (hm : m.length = 13) (hl : l.length ≤ 13) :
    copyV X H 22 (.sl 2 0 13 0) (.ro c (.pb l) t) = some (.int .i64 l.length, upd H 2 (some { ob with p := .pb (l ++ m.drop l.length) })) := by
  have hok : okT X 5 = true := by kernel_rfl
  simp [copyV, live, h2, hg, hp, hi, hm, hl, hok]

end Go.Proofs.YtifgkkfchnfcaaaDoor

/- Walks: a moment, or a span, read: whole. -/
namespace Go.Proofs.YtifgkkfchnfcaaaDoor
open Go.AM
set_option linter.unusedSimpArgs false
set_option linter.unusedVariables false

theorem cW_len {b : List UInt8} (h : (b.headD 0).toNat ≤ 12) (hb : 1 + (b.headD 0).toNat ≤ b.length) : (cW b).length = 13 := by
  unfold cW
  simp only [List.length_append, List.length_take, List.length_drop, List.length_replicate]
  omega

theorem knW_le {n t : Nat} (h : knW n t = true) : n ≤ 12 := by
  unfold knW szL at h
  split at h
  · simp at h; omega
  · simp at h; omega

set_option maxRecDepth 100000 in
set_option maxHeartbeats 4000000 in
theorem rw_dy (n : Nat) (y : UInt8) (ys : List UInt8) (ng : Bool) (z1 z5 z6 z7 z8 : Int) (hye : ((y.toNat : Int) == 1) = ng)
    (n1 : ∀ H0 H1 : Option AM.Obj, evT X 52 [.int .i64 1, .int .i64 4, .ptr 3 0 0 0] [H0, H1, some ⟨.pb (y :: ys), 0, some 13, 1, true, false, 0⟩, some (svO 2 13 0)] = some (.int .i64 z1, [H0, H1, some ⟨.pb (y :: ys), 0, some 13, 1, true, false, 0⟩, some (svO 2 13 0)]))
    (n5 : ∀ H0 H1 : Option AM.Obj, evT X 52 [.int .i64 5, .int .i64 1, .ptr 3 0 0 0] [H0, H1, some ⟨.pb (y :: ys), 0, some 13, 1, true, false, 0⟩, some (svO 2 13 0)] = some (.int .i64 z5, [H0, H1, some ⟨.pb (y :: ys), 0, some 13, 1, true, false, 0⟩, some (svO 2 13 0)]))
    (n6 : ∀ H0 H1 : Option AM.Obj, evT X 52 [.int .i64 6, .int .i64 1, .ptr 3 0 0 0] [H0, H1, some ⟨.pb (y :: ys), 0, some 13, 1, true, false, 0⟩, some (svO 2 13 0)] = some (.int .i64 z6, [H0, H1, some ⟨.pb (y :: ys), 0, some 13, 1, true, false, 0⟩, some (svO 2 13 0)]))
    (n7 : ∀ H0 H1 : Option AM.Obj, evT X 52 [.int .i64 7, .int .i64 1, .ptr 3 0 0 0] [H0, H1, some ⟨.pb (y :: ys), 0, some 13, 1, true, false, 0⟩, some (svO 2 13 0)] = some (.int .i64 z7, [H0, H1, some ⟨.pb (y :: ys), 0, some 13, 1, true, false, 0⟩, some (svO 2 13 0)]))
    (n8 : ∀ H0 H1 : Option AM.Obj, evT X 52 [.int .i64 8, .int .i64 4, .ptr 3 0 0 0] [H0, H1, some ⟨.pb (y :: ys), 0, some 13, 1, true, false, 0⟩, some (svO 2 13 0)] = some (.int .i64 z8, [H0, H1, some ⟨.pb (y :: ys), 0, some 13, 1, true, false, 0⟩, some (svO 2 13 0)])) :
    ∃ code, ((Tryd.f36.body).bind (codeAt [1, 1, 1, 1, 1, 1, 1, 1, 1, 1, 1, 1, 1, 0, 1, 0, 1])) = some code ∧ Run X (evT X) 36 0 code [(1, .int .u8 11), (4, .ptr 0 0 0 0), (7, .ptr 1 0 0 0), (8, .int .i64 (n : Nat)), (13, .ptr 3 0 0 0), (14, .fn 52 [.ptr 3 0 0 0]), (62, .bool false)] [some (whO {}), some (whO {}), some ⟨.pb (y :: ys), 0, some 13, 1, true, false, 0⟩, some (svO 2 13 0)]
      ⟨.normal, [(1, .int .u8 11), (4, .ptr 0 0 0 0), (7, .ptr 1 0 0 0), (8, .int .i64 (n : Nat))], [some (whO {}), some (whO { neg := ng, d := z1, h := z5, mi := z6, s := z7, us := z8 }), some ⟨.pb (y :: ys), 0, some 13, 1, true, false, 0⟩, some (svO 2 13 0)]⟩ := by
  refine ⟨_, rfl, ?_⟩
  have hbd := fun a x3 x4 x5 x6 x7 => bdSp a x3 x4 x5 x6 x7
  have hre : ∀ H0 H1 : Option AM.Obj, reach [H0, H1, some ⟨.pb (y :: ys), 0, some 13, 1, true, false, 0⟩, some (svO 2 13 0)] reachFuel [3] [] = [3, 2] := fun H0 H1 => reach_fn2 (o1 := 3) (o2 := 2) rfl rfl rfl rfl rfl (by decide)
  simp only [svO] at hre n1 n5 n6 n7 n8
  apply Run.dy (by simp) keep36_24 (by simp)
  · (conv => lhs; simp (maxSteps := 2000000) -implicitDefEqProofs [-getElem?_pos, List.getElem?_cons_zero, List.getElem?_cons_succ, go_sem, eqV, plen, loadV, storeV, runD, out1, markOf, freeO, quietO, pushes, isAssign, calledV, touched, mentioned, opVals, touchCall, mentionCall, idsAt, Op.operands, ids, idsL, lendArgs, lendV, lend1, lendL, eqH_self, svO, whO, Wh.pay, hye, n1, n5, n6, n7, n8, hbd, hre, flatCells, splice, scalars, upd])
    rfl
  · kernel_rfl
  · rfl

section
variable (c : Nat) (b : List UInt8) (t : Nat)

set_option maxRecDepth 100000 in
set_option maxHeartbeats 4000000 in
theorem rw_end (hc : c = 0 → b = []) (ht : t < 256) (hb0 : b.length ≠ 0) (hk : knW (b.headD 0).toNat t = true) (hb : ¬ b.length < 1 + (b.headD 0).toNat) (hbm : b.length ≤ 90000000) :
    ∃ code, ((Tryd.f36.body).bind (codeAt [1, 1, 1, 1, 1, 1, 1, 1, 1, 1])) = some code ∧
    Tells (Rets fun fr H => getF fr 4 = .ptr 0 0 0 0 ∧ H[0]? = some (some (whO (rdW b t).1)) ∧ getF fr 5 = .int .i64 ((rdW b t).2.1 : Nat) ∧ getF fr 6 = .int .i64 (rdW b t).2.2) X (evT X) 36 0 code
      [(0, .ro c (.pb b) 1), (1, .int .u8 (t : Nat)), (4, .ptr 0 0 0 0), (7, .ptr 1 0 0 0), (8, .int .i64 ((b.headD 0).toNat : Nat)), (47, .bool false)] [some (whO {}), some (whO {})] := by
  refine ⟨_, rfl, ?_⟩
  have hr : rdW b t = if t = 11 then (if 1 < ((cW b).headD 0).toNat then ({}, 0, 5) else if fin (spW (cW b)) t = false then ({}, 0, 5) else (spW (cW b), 1 + (b.headD 0).toNat, 0))
      else if fin (moW (cW b)) t = false then ({}, 0, 5) else (moW (cW b), 1 + (b.headD 0).toNat, 0) := by
    unfold rdW
    rw [if_neg hb0, if_neg (by rw [hk]; simp), if_neg hb]
  generalize rdW b t = R at *
  have hn12 := knW_le hk
  have hcl := cW_len hn12 (by omega)
  have hcw : cW b = ((b.drop 1).take (b.headD 0).toNat) ++ List.replicate (13 - (b.headD 0).toNat) 0 := rfl
  have hM : makeSliceV X [some (whO {}), some (whO {})] 22 (.int .i64 13) (.int .i64 13) = some (.sl 2 0 13 0, [some (whO {}), some (whO {})] ++ [some ⟨.pb (List.replicate 13 0), 0, some 13, 1, true, false, 0⟩]) := mkB (n := 13) (by omega) _
  have hzl : (List.replicate 13 (0 : UInt8)).length = 13 := List.length_replicate
  have hzd : ∀ k, (List.replicate 13 (0 : UInt8)).drop k = List.replicate (13 - k) 0 := fun k => List.drop_replicate
  generalize List.replicate 13 (0 : UInt8) = zr at *
  have hsl := fun H => slMid1 (t := 1) hc (n := (b.headD 0).toNat) (by omega) H
  have htl : ((b.drop 1).take (b.headD 0).toNat).length = (b.headD 0).toNat := by rw [List.length_take, List.length_drop]; omega
  generalize (b.drop 1).take (b.headD 0).toNat = l at *
  generalize hn : (b.headD 0).toNat = n at *
  generalize hcb : cW b = cb at *
  apply Tells.seq (fr' := [(0, .ro c (.pb b) 1), (1, .int .u8 (t : Nat)), (4, .ptr 0 0 0 0), (7, .ptr 1 0 0 0), (8, .int .i64 (n : Nat)), (13, .ptr 3 0 0 0)]) (H' := [some (whO {}), some (whO {}), some ⟨.pb zr, 0, some 13, 1, true, false, 0⟩, some (svO 2 13 0)])
  · simp only [whO, Wh.pay, List.length_cons, List.length_nil, List.cons_append, List.nil_append] at hM
    (refine ⟨0, ?_⟩; simp (maxSteps := 2000000) -implicitDefEqProofs [-getElem?_pos, List.getElem?_cons_zero, List.getElem?_cons_succ, go_sem, eqV, plen, loadV, storeV, whO, Wh.pay, hM, svO])
  have hcp := cpN (H := [some (whO {}), some (whO {}), some ⟨.pb zr, 0, some 13, 1, true, false, 0⟩, some (svO 2 13 0)]) (ob := ⟨.pb zr, 0, some 13, 1, true, false, 0⟩) (m := zr) (l := l) (c := if c = 0 then 0 else 2) (t := 1) rfl rfl rfl rfl hzl (by omega)
  have hdr : l ++ zr.drop l.length = cb := by rw [hcw, htl, hzd]
  rw [hdr] at hcp
  have w1 : IntKind.i64.wrap (1 + (n : Int)) = ((1 + n : Nat) : Int) := by rw [wrap_i64 (by omega) (by omega)]; omega
  apply Tells.seq (fr' := [(1, .int .u8 (t : Nat)), (4, .ptr 0 0 0 0), (7, .ptr 1 0 0 0), (8, .int .i64 (n : Nat)), (13, .ptr 3 0 0 0)]) (H' := [some (whO {}), some (whO {}), some ⟨.pb cb, 0, some 13, 1, true, false, 0⟩, some (svO 2 13 0)])
  · generalize 1 + n = n1 at *
    simp only [whO, Wh.pay, svO, upd, List.set] at hcp
    (refine ⟨0, ?_⟩; simp (maxSteps := 2000000) -implicitDefEqProofs [-getElem?_pos, List.getElem?_cons_zero, List.getElem?_cons_succ, go_sem, eqV, plen, loadV, storeV, whO, Wh.pay, svO, w1, hsl, hcp])
  clear hcp hsl hM hdr
  apply Tells.seq (fr' := [(1, .int .u8 (t : Nat)), (4, .ptr 0 0 0 0), (7, .ptr 1 0 0 0), (8, .int .i64 (n : Nat)), (13, .ptr 3 0 0 0), (14, .fn 52 [.ptr 3 0 0 0])]) (H' := [some (whO {}), some (whO {}), some ⟨.pb cb, 0, some 13, 1, true, false, 0⟩, some (svO 2 13 0)])
  · (refine ⟨0, ?_⟩; simp (maxSteps := 2000000) -implicitDefEqProofs [-getElem?_pos, List.getElem?_cons_zero, List.getElem?_cons_succ, go_sem, eqV, plen, loadV, storeV, scalars])
  have hN : ∀ (H0 H1 : Option AM.Obj) (i k : Nat) (I K : Int), I = (i : Nat) → K = (k : Nat) → i + k ≤ 13 → 1 ≤ k → k ≤ 4 → evT X 52 [.int .i64 I, .int .i64 K, .ptr 3 0 0 0] [H0, H1, some ⟨.pb cb, 0, some 13, 1, true, false, 0⟩, some (svO 2 13 0)] = some (.int .i64 (nb cb i k : Nat), [H0, H1, some ⟨.pb cb, 0, some 13, 1, true, false, 0⟩, some (svO 2 13 0)]) :=
    fun H0 H1 i k I K hI hK h1 h2 h3 => number_ev (H := [H0, H1, some ⟨.pb cb, 0, some 13, 1, true, false, 0⟩, some (svO 2 13 0)]) (o1 := 3) (o2 := 2) (g2 := 0) hI hK hcl h1 h2 h3 rfl rfl rfl rfl rfl rfl rfl rfl rfl rfl (by decide)
  have hF := fun w H => fin_ev w ht H
  apply Tells.or (P := fun fr H => ∃ w : Wh, fr = [(1, .int .u8 (t : Nat)), (4, .ptr 0 0 0 0), (7, .ptr 1 0 0 0), (8, .int .i64 (n : Nat))] ∧ H = [some (whO {}), some (whO w), some ⟨.pb cb, 0, some 13, 1, true, false, 0⟩, some (svO 2 13 0)] ∧ (if t = 11 then ¬ 1 < (cb.headD 0).toNat ∧ w = spW cb else w = moW cb))
  · by_cases h11 : t = 11
    · subst h11
      apply Tells.seq (fr' := [(1, .int .u8 11), (4, .ptr 0 0 0 0), (7, .ptr 1 0 0 0), (8, .int .i64 (n : Nat)), (13, .ptr 3 0 0 0), (14, .fn 52 [.ptr 3 0 0 0]), (58, .bool true)]) (H' := [some (whO {}), some (whO {}), some ⟨.pb cb, 0, some 13, 1, true, false, 0⟩, some (svO 2 13 0)])
      · (refine ⟨0, ?_⟩; simp (maxSteps := 2000000) -implicitDefEqProofs [-getElem?_pos, List.getElem?_cons_zero, List.getElem?_cons_succ, go_sem, eqV, plen, loadV, storeV])
      apply Tells.condT (by simp [evalO, getF])
      obtain ⟨y, ys, rfl⟩ : ∃ y ys, cb = y :: ys := by
        cases cb with
        | nil => simp at hcl
        | cons y ys => exact ⟨y, ys, rfl⟩
      apply Tells.assoc
      by_cases hy : 1 < y.toNat
      · refine Tells.of (o := ⟨.ret, [(4, .ptr 0 0 0 0), (5, .int .i64 0), (6, .int .i64 5)], [some (whO {}), some (whO {}), some ⟨.pb (y :: ys), 0, some 13, 1, true, false, 0⟩, some (svO 2 13 0)]⟩) ⟨0, ?_⟩ (.inr ⟨by simp, rfl, rfl, ?_, ?_, ?_⟩)
        · have hyi : (1 : Int) < (y.toNat : Int) := by omega
          simp (maxSteps := 2000000) -implicitDefEqProofs [-getElem?_pos, List.getElem?_cons_zero, List.getElem?_cons_succ, go_sem, eqV, plen, loadV, storeV, whO, Wh.pay, mkWh, svO, hyi, flatCells, splice, scalars]
        · rw [hr, if_pos rfl, if_pos (show 1 < ((y :: ys).headD 0).toNat from hy)]; rfl
        · rw [hr, if_pos rfl, if_pos (show 1 < ((y :: ys).headD 0).toNat from hy)]; rfl
        · rw [hr, if_pos rfl, if_pos (show 1 < ((y :: ys).headD 0).toNat from hy)]; rfl
      · have hyi : ¬ (1 : Int) < (y.toNat : Int) := by omega
        apply Tells.seq (fr' := [(1, .int .u8 11), (4, .ptr 0 0 0 0), (7, .ptr 1 0 0 0), (8, .int .i64 (n : Nat)), (13, .ptr 3 0 0 0), (14, .fn 52 [.ptr 3 0 0 0]), (62, .bool false)]) (H' := [some (whO {}), some (whO {}), some ⟨.pb (y :: ys), 0, some 13, 1, true, false, 0⟩, some (svO 2 13 0)])
        · (refine ⟨0, ?_⟩; simp (maxSteps := 2000000) -implicitDefEqProofs [-getElem?_pos, List.getElem?_cons_zero, List.getElem?_cons_succ, go_sem, eqV, plen, loadV, storeV, svO, hyi])
        apply Tells.seq (fr' := [(1, .int .u8 11), (4, .ptr 0 0 0 0), (7, .ptr 1 0 0 0), (8, .int .i64 (n : Nat)), (13, .ptr 3 0 0 0), (14, .fn 52 [.ptr 3 0 0 0]), (62, .bool false)]) (H' := [some (whO {}), some (whO {}), some ⟨.pb (y :: ys), 0, some 13, 1, true, false, 0⟩, some (svO 2 13 0)])
        · exact condF (by simp [evalO, getF]) ⟨0, rfl⟩
        refine Tells.of (o := ⟨.normal, [(1, .int .u8 11), (4, .ptr 0 0 0 0), (7, .ptr 1 0 0 0), (8, .int .i64 (n : Nat))], [some (whO {}), some (whO (spW (y :: ys))), some ⟨.pb (y :: ys), 0, some 13, 1, true, false, 0⟩, some (svO 2 13 0)]⟩) ?_ (.inl ⟨rfl, _, rfl, rfl, by rw [if_pos rfl]; exact ⟨show ¬ 1 < y.toNat by omega, rfl⟩⟩)
        have n1 := fun H0 H1 => hN H0 H1 1 4 1 4 rfl rfl (by omega) (by omega) (by omega)
        have n5 := fun H0 H1 => hN H0 H1 5 1 5 1 rfl rfl (by omega) (by omega) (by omega)
        have n6 := fun H0 H1 => hN H0 H1 6 1 6 1 rfl rfl (by omega) (by omega) (by omega)
        have n7 := fun H0 H1 => hN H0 H1 7 1 7 1 rfl rfl (by omega) (by omega) (by omega)
        have n8 := fun H0 H1 => hN H0 H1 8 4 8 4 rfl rfl (by omega) (by omega) (by omega)
        have hye : ((y.toNat : Int) == 1) = (y.toNat == 1) := by
          by_cases h : y.toNat = 1
          · rw [h]; rfl
          · have : (y.toNat == 1) = false := by simpa using h
            rw [this]; exact beq_eq_false_iff_ne.2 (by omega)
        exact piece (rw_dy n y ys _ _ _ _ _ _ hye n1 n5 n6 n7 n8) _ rfl
    · have h11b : ((t : Int) == 11) = false := beq_eq_false_iff_ne.2 (by omega)
      apply Tells.seq (fr' := [(1, .int .u8 (t : Nat)), (4, .ptr 0 0 0 0), (7, .ptr 1 0 0 0), (8, .int .i64 (n : Nat)), (13, .ptr 3 0 0 0), (14, .fn 52 [.ptr 3 0 0 0]), (58, .bool false)]) (H' := [some (whO {}), some (whO {}), some ⟨.pb cb, 0, some 13, 1, true, false, 0⟩, some (svO 2 13 0)])
      · (refine ⟨0, ?_⟩; simp (maxSteps := 2000000) -implicitDefEqProofs [-getElem?_pos, List.getElem?_cons_zero, List.getElem?_cons_succ, go_sem, eqV, plen, loadV, storeV, h11b])
      apply Tells.condF (by simp [evalO, getF])
      refine Tells.of (o := ⟨.normal, [(1, .int .u8 (t : Nat)), (4, .ptr 0 0 0 0), (7, .ptr 1 0 0 0), (8, .int .i64 (n : Nat))], [some (whO {}), some (whO (moW cb)), some ⟨.pb cb, 0, some 13, 1, true, false, 0⟩, some (svO 2 13 0)]⟩) ⟨0, ?_⟩ (.inl ⟨rfl, _, rfl, rfl, by rw [if_neg h11]⟩)
      have n0 := fun H0 H1 => hN H0 H1 0 2 0 2 rfl rfl (by omega) (by omega) (by omega)
      have n2 := fun H0 H1 => hN H0 H1 2 1 2 1 rfl rfl (by omega) (by omega) (by omega)
      have n3 := fun H0 H1 => hN H0 H1 3 1 3 1 rfl rfl (by omega) (by omega) (by omega)
      have n4 := fun H0 H1 => hN H0 H1 4 1 4 1 rfl rfl (by omega) (by omega) (by omega)
      have n5 := fun H0 H1 => hN H0 H1 5 1 5 1 rfl rfl (by omega) (by omega) (by omega)
      have n6 := fun H0 H1 => hN H0 H1 6 1 6 1 rfl rfl (by omega) (by omega) (by omega)
      have n7 := fun H0 H1 => hN H0 H1 7 4 7 4 rfl rfl (by omega) (by omega) (by omega)
      have hbd := fun x1 x2 x3 x4 x5 x6 x7 => bdMo x1 x2 x3 x4 x5 x6 x7
      unfold moW
      generalize nb cb 0 2 = z0 at *
      generalize nb cb 2 1 = z2 at *
      generalize nb cb 3 1 = z3 at *
      generalize nb cb 4 1 = z4 at *
      generalize nb cb 5 1 = z5 at *
      generalize nb cb 6 1 = z6 at *
      generalize nb cb 7 4 = z7 at *
      simp only [svO] at n0 n2 n3 n4 n5 n6 n7
      simp (maxSteps := 2000000) -implicitDefEqProofs [-getElem?_pos, List.getElem?_cons_zero, List.getElem?_cons_succ, go_sem, eqV, plen, loadV, storeV, svO, whO, Wh.pay, n0, n2, n3, n4, n5, n6, n7, hbd, flatCells, splice, scalars]
  rintro fr H ⟨w, rfl, rfl, hw⟩
  have hres : R = if fin w t = false then ({}, 0, 5) else (w, 1 + n, 0) := by
    rw [hr]
    by_cases h11 : t = 11
    · rw [if_pos h11] at hw ⊢
      rw [if_neg hw.1, hw.2]
    · rw [if_neg h11] at hw ⊢
      rw [hw]
  rw [hres]
  have hFw := hF w [some (whO {}), some (whO w), some ⟨.pb cb, 0, some 13, 1, true, false, 0⟩, some (svO 2 13 0)]
  have hbd0 := bdW0
  apply Tells.assoc
  cases hf : fin w t with
  | false =>
    rw [hf] at hFw
    refine Tells.of (o := ⟨.ret, [(4, .ptr 0 0 0 0), (5, .int .i64 0), (6, .int .i64 5)], [some (whO {}), some (whO w), some ⟨.pb cb, 0, some 13, 1, true, false, 0⟩, some (svO 2 13 0)]⟩) ⟨0, ?_⟩ ⟨rfl, rfl, by rw [if_pos rfl]; rfl, by rw [if_pos rfl]; rfl, by rw [if_pos rfl]; rfl⟩
    simp only [whO, Wh.pay] at hFw
    simp (maxSteps := 2000000) -implicitDefEqProofs [-getElem?_pos, List.getElem?_cons_zero, List.getElem?_cons_succ, go_sem, eqV, plen, loadV, storeV, whO, Wh.pay, mkWh, hFw, hbd0, flatCells, splice, scalars]
  | true =>
    rw [hf] at hFw
    refine Tells.of (o := ⟨.ret, [(4, .ptr 0 0 0 0), (5, .int .i64 ((1 + n : Nat) : Int)), (6, .int .i64 0)], [some (whO w), some (whO w), some ⟨.pb cb, 0, some 13, 1, true, false, 0⟩, some (svO 2 13 0)]⟩) ⟨0, ?_⟩ ⟨rfl, rfl, by rw [if_neg (by simp)]; rfl, by rw [if_neg (by simp)]; rfl, by rw [if_neg (by simp)]; rfl⟩
    simp only [whO, Wh.pay] at hFw
    generalize 1 + n = n1 at *
    simp (maxSteps := 2000000) -implicitDefEqProofs [-getElem?_pos, List.getElem?_cons_zero, List.getElem?_cons_succ, go_sem, eqV, plen, loadV, storeV, whO, Wh.pay, mkWh, hFw, w1, flatCells, splice, scalars]

end

end Go.Proofs.YtifgkkfchnfcaaaDoor

/- Walks: a moment, or a span, read: whole; a value read. -/
namespace Go.Proofs.YtifgkkfchnfcaaaDoor
open Go.AM
set_option linter.unusedSimpArgs false
set_option linter.unusedVariables false

theorem bsL4 (H : AM.Heap) : buildSliceV X H 41 4 [(0, .int .i64 0), (1, .int .i64 4), (2, .int .i64 7), (3, .int .i64 11)] = some (.ro 1 (.pi .i64 [0, 4, 7, 11]) 0, H) := by kernel_rfl
theorem bsL3 (H : AM.Heap) : buildSliceV X H 41 3 [(0, .int .i64 0), (1, .int .i64 8), (2, .int .i64 12)] = some (.ro 1 (.pi .i64 [0, 8, 12]) 0, H) := by kernel_rfl

section
variable (c : Nat) (b : List UInt8) (t : Nat)

set_option maxRecDepth 100000 in
set_option maxHeartbeats 4000000 in
theorem rw_code (hc : c = 0 → b = []) (ht : t < 256) (hbm : b.length ≤ 90000000) :
    ∃ code, Tryd.f36.body = some code ∧
    Tells (Rets fun fr H => getF fr 4 = .ptr 0 0 0 0 ∧ H[0]? = some (some (whO (rdW b t).1)) ∧ getF fr 5 = .int .i64 ((rdW b t).2.1 : Nat) ∧ getF fr 6 = .int .i64 (rdW b t).2.2) X (evT X) 36 0 code
      [(0, .ro c (.pb b) 1), (1, .int .u8 (t : Nat))] [] := by
  refine ⟨_, rfl, ?_⟩
  apply Tells.seq (fr' := [(0, .ro c (.pb b) 1), (1, .int .u8 (t : Nat)), (4, .ptr 0 0 0 0)]) (H' := [some (whO {})])
  · (refine ⟨0, ?_⟩; simp (maxSteps := 2000000) -implicitDefEqProofs [-getElem?_pos, List.getElem?_cons_zero, List.getElem?_cons_succ, go_sem, eqV, plen, loadV, storeV, whO, Wh.pay])
  apply Tells.seq (fr' := [(0, .ro c (.pb b) 1), (1, .int .u8 (t : Nat)), (4, .ptr 0 0 0 0), (7, .ptr 1 0 0 0)]) (H' := [some (whO {}), some (whO {})])
  · (refine ⟨0, ?_⟩; simp (maxSteps := 2000000) -implicitDefEqProofs [-getElem?_pos, List.getElem?_cons_zero, List.getElem?_cons_succ, go_sem, eqV, plen, loadV, storeV, whO, Wh.pay])
  apply Tells.assoc
  by_cases hb0 : b.length = 0
  · have hr : rdW b t = ({}, 0, 4) := if_pos hb0
    rw [hr]
    refine Tells.of (o := ⟨.ret, [(4, .ptr 0 0 0 0), (5, .int .i64 0), (6, .int .i64 4)], [some (whO {}), some (whO {})]⟩) ⟨0, ?_⟩ ⟨rfl, rfl, rfl, rfl, rfl⟩
    simp (maxSteps := 2000000) -implicitDefEqProofs [-getElem?_pos, List.getElem?_cons_zero, List.getElem?_cons_succ, go_sem, eqV, plen, loadV, storeV, whO, Wh.pay, mkWh, hb0, flatCells, splice, scalars]
  have hb0i : ((b.length : Int) == 0) = false := beq_eq_false_iff_ne.2 (by omega)
  apply Tells.seq (fr' := [(0, .ro c (.pb b) 1), (1, .int .u8 (t : Nat)), (4, .ptr 0 0 0 0), (7, .ptr 1 0 0 0), (17, .bool false)]) (H' := [some (whO {}), some (whO {})])
  · (refine ⟨0, ?_⟩; simp (maxSteps := 2000000) -implicitDefEqProofs [-getElem?_pos, List.getElem?_cons_zero, List.getElem?_cons_succ, go_sem, eqV, plen, loadV, storeV, hb0i])
  apply Tells.seq (fr' := [(0, .ro c (.pb b) 1), (1, .int .u8 (t : Nat)), (4, .ptr 0 0 0 0), (7, .ptr 1 0 0 0), (17, .bool false)]) (H' := [some (whO {}), some (whO {})])
  · exact condF (by simp [evalO, getF]) ⟨0, rfl⟩
  obtain ⟨y, ys, hby⟩ : ∃ y ys, b = y :: ys := by
    cases b with
    | nil => simp at hb0
    | cons y ys => exact ⟨y, ys, rfl⟩
  have hyh : (b.headD 0).toNat = y.toNat := by rw [hby]; rfl
  have hy0 : b[0]? = some y := by rw [hby]; rfl
  have hyl := y.toNat_lt
  have wy : IntKind.i64.wrap (y.toNat : Int) = (y.toNat : Int) := wrap_i64 (by omega) (by omega)
  have hbpos : (0 : Int) < (b.length : Int) := by omega
  have hbposN : 0 < b.length := by omega
  apply Tells.seq (fr' := [(0, .ro c (.pb b) 1), (1, .int .u8 (t : Nat)), (4, .ptr 0 0 0 0), (7, .ptr 1 0 0 0), (8, .int .i64 (y.toNat : Nat))]) (H' := [some (whO {}), some (whO {})])
  · (refine ⟨0, ?_⟩; simp (maxSteps := 2000000) -implicitDefEqProofs [-getElem?_pos, List.getElem?_cons_zero, List.getElem?_cons_succ, go_sem, eqV, plen, loadV, storeV, hy0, wy, hbpos, hbposN])
  apply Tells.seq (fr' := [(0, .ro c (.pb b) 1), (1, .int .u8 (t : Nat)), (4, .ptr 0 0 0 0), (7, .ptr 1 0 0 0), (8, .int .i64 (y.toNat : Nat)), (9, .ro 1 (.pi .i64 [0, 4, 7, 11]) 0)]) (H' := [some (whO {}), some (whO {})])
  · have h4 := fun H => bsL4 H
    generalize ([0, 4, 7, 11] : List Int) = L at *
    (refine ⟨0, ?_⟩; simp (maxSteps := 2000000) -implicitDefEqProofs [-getElem?_pos, List.getElem?_cons_zero, List.getElem?_cons_succ, go_sem, eqV, plen, loadV, storeV, h4])
  apply Tells.andThen (P := fun fr H => H = [some (whO {}), some (whO {})] ∧ ∃ tl, fr = [(0, .ro c (.pb b) 1), (1, .int .u8 (t : Nat)), (4, .ptr 0 0 0 0), (7, .ptr 1 0 0 0), (8, .int .i64 (y.toNat : Nat)), (9, .ro 1 (.pi .i64 (szL t)) 0)] ++ tl)
  · by_cases h11 : t = 11
    · subst h11
      refine Tells.of (o := ⟨.normal, [(0, .ro c (.pb b) 1), (1, .int .u8 11), (4, .ptr 0 0 0 0), (7, .ptr 1 0 0 0), (8, .int .i64 (y.toNat : Nat)), (9, .ro 1 (.pi .i64 [0, 8, 12]) 0)], _⟩) ⟨0, ?_⟩ ⟨rfl, rfl, [], rfl⟩
      have h3 := fun H => bsL3 H
      generalize ([0, 8, 12] : List Int) = L at *
      generalize ([0, 4, 7, 11] : List Int) = L2 at *
      simp (maxSteps := 2000000) -implicitDefEqProofs [-getElem?_pos, List.getElem?_cons_zero, List.getElem?_cons_succ, go_sem, eqV, plen, loadV, storeV, h3]
    · have h11b : ((t : Int) == 11) = false := beq_eq_false_iff_ne.2 (by omega)
      refine Tells.of (o := ⟨.normal, [(0, .ro c (.pb b) 1), (1, .int .u8 (t : Nat)), (4, .ptr 0 0 0 0), (7, .ptr 1 0 0 0), (8, .int .i64 (y.toNat : Nat)), (9, .ro 1 (.pi .i64 [0, 4, 7, 11]) 0), (25, .bool false)], _⟩) ⟨0, ?_⟩ ⟨rfl, rfl, [(25, .bool false)], by unfold szL; rw [if_neg h11]; rfl⟩
      generalize ([0, 4, 7, 11] : List Int) = L2 at *
      simp (maxSteps := 2000000) -implicitDefEqProofs [-getElem?_pos, List.getElem?_cons_zero, List.getElem?_cons_succ, go_sem, eqV, plen, loadV, storeV, h11b]
  rintro fr H ⟨rfl, tl, rfl⟩
  have hszl : (szL t).length ≤ 100 := by unfold szL; split <;> simp
  apply Tells.seq (fr' := [(0, .ro c (.pb b) 1), (1, .int .u8 (t : Nat)), (4, .ptr 0 0 0 0), (7, .ptr 1 0 0 0), (8, .int .i64 (y.toNat : Nat)), (9, .ro 1 (.pi .i64 (szL t)) 0), (10, .bool false)]) (H' := [some (whO {}), some (whO {})])
  · generalize szL t = L at *
    (refine ⟨0, ?_⟩; simp (maxSteps := 2000000) -implicitDefEqProofs [-getElem?_pos, List.getElem?_cons_zero, List.getElem?_cons_succ, go_sem, eqV, plen, loadV, storeV])
  apply Tells.assoc
  apply Tells.seq (fr' := rwFr c b t y.toNat (szL t) false 0) (H' := [some (whO {}), some (whO {})])
  · unfold rwFr
    generalize szL t = L at *
    (refine ⟨0, ?_⟩; simp (maxSteps := 2000000) -implicitDefEqProofs [-getElem?_pos, List.getElem?_cons_zero, List.getElem?_cons_succ, go_sem, eqV, plen, loadV, storeV])
  apply Tells.andThen (P := fun fr H => H = [some (whO {}), some (whO {})] ∧ fr = rwFr c b t y.toNat (szL t) ((szL t).any fun x => (y.toNat : Int) == x) (szL t).length ++ [(30, .bool false)])
  · exact piece (rw_loop c b t y.toNat (szL t) hszl) _ rfl
  rintro fr H ⟨rfl, rfl⟩
  have hkn : ((szL t).any fun x => (y.toNat : Int) == x) = knW (b.headD 0).toNat t := by rw [hyh]; rfl
  rw [hkn]
  apply Tells.assoc
  cases hk : knW (b.headD 0).toNat t with
  | false =>
    have hr : rdW b t = ({}, 0, 5) := by unfold rdW; rw [if_neg hb0, if_pos hk]
    rw [hr]
    refine Tells.of (o := ⟨.ret, [(4, .ptr 0 0 0 0), (5, .int .i64 0), (6, .int .i64 5)], [some (whO {}), some (whO {})]⟩) ⟨0, ?_⟩ ⟨rfl, rfl, rfl, rfl, rfl⟩
    unfold rwFr
    generalize szL t = L at *
    simp (maxSteps := 2000000) -implicitDefEqProofs [-getElem?_pos, List.getElem?_cons_zero, List.getElem?_cons_succ, go_sem, eqV, plen, loadV, storeV, whO, Wh.pay, mkWh, flatCells, splice, scalars]
  | true =>
  apply Tells.seq (fr' := [(0, .ro c (.pb b) 1), (1, .int .u8 (t : Nat)), (4, .ptr 0 0 0 0), (7, .ptr 1 0 0 0), (8, .int .i64 (y.toNat : Nat)), (41, .bool false)]) (H' := [some (whO {}), some (whO {})])
  · unfold rwFr
    generalize szL t = L at *
    (refine ⟨0, ?_⟩; simp (maxSteps := 2000000) -implicitDefEqProofs [-getElem?_pos, List.getElem?_cons_zero, List.getElem?_cons_succ, go_sem, eqV, plen, loadV, storeV])
  apply Tells.seq (fr' := [(0, .ro c (.pb b) 1), (1, .int .u8 (t : Nat)), (4, .ptr 0 0 0 0), (7, .ptr 1 0 0 0), (8, .int .i64 (y.toNat : Nat)), (41, .bool false)]) (H' := [some (whO {}), some (whO {})])
  · exact condF (by simp [evalO, getF]) ⟨0, rfl⟩
  apply Tells.assoc
  have w1 : IntKind.i64.wrap (1 + (y.toNat : Int)) = ((1 + y.toNat : Nat) : Int) := by rw [wrap_i64 (by omega) (by omega)]; omega
  by_cases hs : b.length < 1 + (b.headD 0).toNat
  · have hr : rdW b t = ({}, 0, 4) := by unfold rdW; rw [if_neg hb0, if_neg (by rw [hk]; simp), if_pos hs]
    rw [hr]
    have hsi : (b.length : Int) < ((1 + y.toNat : Nat) : Int) := by omega
    refine Tells.of (o := ⟨.ret, [(4, .ptr 0 0 0 0), (5, .int .i64 0), (6, .int .i64 4)], [some (whO {}), some (whO {})]⟩) ⟨0, ?_⟩ ⟨rfl, rfl, rfl, rfl, rfl⟩
    generalize 1 + y.toNat = n1 at *
    simp (maxSteps := 2000000) -implicitDefEqProofs [-getElem?_pos, List.getElem?_cons_zero, List.getElem?_cons_succ, go_sem, eqV, plen, loadV, storeV, whO, Wh.pay, mkWh, w1, hsi, flatCells, splice, scalars]
  have hsi : ¬ (b.length : Int) < ((1 + y.toNat : Nat) : Int) := by omega
  apply Tells.seq (fr' := [(0, .ro c (.pb b) 1), (1, .int .u8 (t : Nat)), (4, .ptr 0 0 0 0), (7, .ptr 1 0 0 0), (8, .int .i64 (y.toNat : Nat)), (47, .bool false)]) (H' := [some (whO {}), some (whO {})])
  · generalize 1 + y.toNat = n1 at *
    (refine ⟨0, ?_⟩; simp (maxSteps := 2000000) -implicitDefEqProofs [-getElem?_pos, List.getElem?_cons_zero, List.getElem?_cons_succ, go_sem, eqV, plen, loadV, storeV, w1, hsi])
  apply Tells.seq (fr' := [(0, .ro c (.pb b) 1), (1, .int .u8 (t : Nat)), (4, .ptr 0 0 0 0), (7, .ptr 1 0 0 0), (8, .int .i64 (y.toNat : Nat)), (47, .bool false)]) (H' := [some (whO {}), some (whO {})])
  · exact condF (by simp [evalO, getF]) ⟨0, rfl⟩
  have := piece (rw_end c b t hc ht hb0 hk hs hbm) _ rfl
  rw [hyh] at this
  exact this

end

theorem rw_ev {H : AM.Heap} {a : AV} {b : List UInt8} {t : Nat} (h : Byt H a b) (ht : t < 256) (hbm : b.length ≤ 90000000) :
    evT X 36 [a, .int .u8 (t : Nat)] H = some (.tup [.agg (rdW b t).1.pay, .int .i64 ((rdW b t).2.1 : Nat), .int .i64 (rdW b t).2.2], H) := by
  obtain ⟨c, p, xl, hp, hc, hx'⟩ := args_byt (C := X) (f := 36) (i := 0) rfl h (args_flat (i := 1) (a := .int .u8 (t : Nat)) rfl rfl (args_nil 2))
  obtain ⟨code, hcode, o, ⟨he, q4, q0, q5, q6⟩, hr⟩ := rw_code c b t hc ht hbm
  refine evT_eq (Ev1.toldP (l := [.agg (rdW b t).1.pay, .int .i64 ((rdW b t).2.1 : Nat), .int .i64 (rdW b t).2.2]) (evT_below X) Tryd.func36 hcode hx' (by simp [idsL, ids, hp.ids]) (by simp [gtag]) (by simp [idsL, ids, Wh.pay]) (by simp [tagsL, tags, Wh.pay]) rfl ⟨o, ⟨he, ?_⟩, by rw [par36, coB hp]; exact hr⟩)
  generalize rdW b t = r at *
  show resultsV X o.fr o.H [.cell 4 25, .tmp 5, .tmp 6] = _
  simp only [whO, Wh.pay] at q0
  simp [resultsV, q4, q5, q6, loadV, live, q0, pagg, mkWh, Wh.pay]

end Go.Proofs.YtifgkkfchnfcaaaDoor

/- Walks: a value read. -/
namespace Go.Proofs.YtifgkkfchnfcaaaDoor
open Go.AM
set_option linter.unusedSimpArgs false
set_option linter.unusedVariables false

/-- a number with a sign, of n bytes -/
def sgV (x : Int) (n : Nat) : Int := Int.fdiv (IntKind.i64.wrap (IntKind.u64.wrap (x * 2 ^ (64 - 8 * n)))) (2 ^ (64 - 8 * n))

/-- what a value's reading tells -/
def rdV (b : List UInt8) (t : Ty) : Va × Nat × Int :=
  if kindN t.t t.u < 0 then ({}, 0, 2) else if kindN t.t t.u = 0 then ({}, 0, 0) else
  if kindN t.t t.u = 5 ∨ kindN t.t t.u = 6 then (if (rdW b t.t).2.2 ≠ 0 then ({}, 0, (rdW b t.t).2.2) else ({ k := kindN t.t t.u, w := (rdW b t.t).1 }, (rdW b t.t).2.1, 0)) else
  if kindN t.t t.u = 7 then (if (rdT b).2.2 ≠ 0 then ({}, 0, (rdT b).2.2) else if 16777216 < (rdT b).1.length then ({}, 0, 5) else ({ k := 7, t := (rdT b).1 }, (rdT b).2.1, 0)) else
  if (rfR b (sizeN t.t)).2 ≠ 0 then ({}, 0, (rfR b (sizeN t.t)).2) else
  if kindN t.t t.u = 1 then ({ k := 1, i := sgV (rfR b (sizeN t.t)).1 (sizeN t.t) }, sizeN t.t, 0) else ({ k := kindN t.t t.u, b := (rfR b (sizeN t.t)).1.toNat }, sizeN t.t, 0)

theorem bvV0 : buildV X 27 [] = some (.agg (Va.pay {})) := by kernel_rfl
theorem bvVw (k : Int) (w : Wh) : buildV X 27 [(0, .int .i64 k), (4, .agg w.pay)] = some (.agg (Va.pay { k := k, w := w })) := by
  obtain ⟨neg, y, mo, d, h, mi, s, us⟩ := w
  kernel_rfl
theorem bvVt (k : Int) (s : List UInt8) : buildV X 27 [(0, .int .i64 k), (3, .str s)] = some (.agg (Va.pay { k := k, t := s })) := by kernel_rfl
theorem bvVi (k i : Int) : buildV X 27 [(0, .int .i64 k), (1, .int .i64 i)] = some (.agg (Va.pay { k := k, i := i })) := by kernel_rfl
theorem bvVb (k : Int) (x : Nat) : buildV X 27 [(0, .int .i64 k), (2, .int .u64 (x : Nat))] = some (.agg (Va.pay { k := k, b := x })) := by kernel_rfl

section
variable (c : Nat) (b : List UInt8) (t : Ty)

/-- what Read leaves -/
def rvQ (r : Va × Nat × Int) (fr : AM.Frame) (H : AM.Heap) : Prop := getF fr 4 = .ptr 1 0 0 0 ∧ H[1]? = some (some (vaO r.1)) ∧ getF fr 5 = .int .i64 (r.2.1 : Nat) ∧ getF fr 6 = .int .i64 r.2.2

set_option maxRecDepth 100000 in
set_option maxHeartbeats 4000000 in
theorem vread_num (hc : c = 0 → b = []) (ht : t.t < 256) (hbm : b.length ≤ 90000000) (hk : kindN t.t t.u = 1 ∨ kindN t.t t.u = 2 ∨ kindN t.t t.u = 3 ∨ kindN t.t t.u = 4) :
    ∃ code, ((Tryd.f17.body).bind (codeAt [1, 1, 1])) = some code ∧
    Tells (Rets (rvQ (rdV b t))) X (evT X) 17 0 code [(0, .ro c (.pb b) 1), (3, .ptr 0 0 0 0), (4, .ptr 1 0 0 0), (7, .int .i64 (kindN t.t t.u)), (45, .bool false)] [some (tyO t), some (vaO {})] := by
  refine ⟨_, rfl, ?_⟩
  have hr : rdV b t = if (rfR b (sizeN t.t)).2 ≠ 0 then ({}, 0, (rfR b (sizeN t.t)).2) else
      if kindN t.t t.u = 1 then ({ k := 1, i := sgV (rfR b (sizeN t.t)).1 (sizeN t.t) }, sizeN t.t, 0) else ({ k := kindN t.t t.u, b := (rfR b (sizeN t.t)).1.toNat }, sizeN t.t, 0) := by
    unfold rdV
    rw [if_neg (by omega), if_neg (by omega), if_neg (by omega), if_neg (by omega)]
  rw [hr]
  have hsz := size_num (t := t.t) (u := t.u) hk
  have hS := size_ev' ht [some (tyO t), some (vaO {})]
  have hB : Byt [some (tyO t), some (vaO {})] (.ro c (.pb b) 1) b := Byt.ro (.inl rfl) hc
  have hR := rf_ev (n := sizeN t.t) hB hbm
  have hx0 : 0 ≤ (rfR b (sizeN t.t)).1 ∧ (rfR b (sizeN t.t)).1 < 18446744073709551616 := by
    unfold rfR
    split
    · simp
    · split
      · simp
      · have h := leV_lt (b.take ((sizeN t.t : Nat) : Int).toNat)
        simp only [Int.toNat_natCast] at h ⊢
        have h2 : (b.take (sizeN t.t)).length ≤ 8 := by simp; omega
        have h3 : 256 ^ (b.take (sizeN t.t)).length ≤ 256 ^ 8 := Nat.pow_le_pow_right (by omega) h2
        omega
  generalize hsn : sizeN t.t = n at *
  generalize hrr : rfR b (n : Nat) = r at *
  obtain ⟨x, e⟩ := r
  simp only at *
  obtain ⟨xn, rfl⟩ : ∃ xn : Nat, x = (xn : Int) := ⟨x.toNat, by omega⟩
  apply Tells.seq (fr' := [(0, .ro c (.pb b) 1), (4, .ptr 1 0 0 0), (7, .int .i64 (kindN t.t t.u)), (14, .int .i64 (n : Nat))]) (H' := [some (tyO t), some (vaO {})])
  · simp only [tyO, Ty.pay, vaO, Va.pay, Int.cast_ofNat_Int] at hS
    generalize kindN t.t t.u = k at *
    (refine ⟨0, ?_⟩; simp (maxSteps := 2000000) -implicitDefEqProofs [-getElem?_pos, List.getElem?_cons_zero, List.getElem?_cons_succ, go_sem, eqV, plen, loadV, storeV, tyO, Ty.pay, vaO, Va.pay, hS])
  apply Tells.seq (fr' := [(4, .ptr 1 0 0 0), (6, .int .i64 e), (7, .int .i64 (kindN t.t t.u)), (14, .int .i64 (n : Nat)), (15, .int .u64 (xn : Nat))]) (H' := [some (tyO t), some (vaO {})])
  · simp only [tyO, Ty.pay, vaO, Va.pay, Int.cast_ofNat_Int] at hR
    generalize kindN t.t t.u = k at *
    (refine ⟨0, ?_⟩; simp (maxSteps := 2000000) -implicitDefEqProofs [-getElem?_pos, List.getElem?_cons_zero, List.getElem?_cons_succ, go_sem, eqV, plen, loadV, storeV, tyO, Ty.pay, vaO, Va.pay, hR])
  have hb0 := bvV0
  apply Tells.assoc
  by_cases he : e = 0
  case neg =>
    rw [if_pos he]
    have heb : (e != 0) = true := by simpa using he
    refine Tells.of (o := ⟨.ret, [(4, .ptr 1 0 0 0), (5, .int .i64 0), (6, .int .i64 e)], [some (tyO t), some (vaO {})]⟩) ⟨0, ?_⟩ ⟨rfl, rfl, rfl, rfl, rfl⟩
    simp only [Va.pay, Int.cast_ofNat_Int] at hb0
    generalize kindN t.t t.u = k at *
    simp (maxSteps := 2000000) -implicitDefEqProofs [-getElem?_pos, List.getElem?_cons_zero, List.getElem?_cons_succ, go_sem, eqV, plen, loadV, storeV, tyO, Ty.pay, vaO, Va.pay, heb, hb0, mkVa, flatCells, splice, scalars]
  rw [if_neg (by simpa using he)]
  subst he
  apply Tells.seq (fr' := [(4, .ptr 1 0 0 0), (6, .int .i64 0), (7, .int .i64 (kindN t.t t.u)), (14, .int .i64 (n : Nat)), (15, .int .u64 (xn : Nat)), (77, .bool false)]) (H' := [some (tyO t), some (vaO {})])
  · generalize kindN t.t t.u = k at *
    (refine ⟨0, ?_⟩; simp (maxSteps := 2000000) -implicitDefEqProofs [-getElem?_pos, List.getElem?_cons_zero, List.getElem?_cons_succ, go_sem, eqV, plen, loadV, storeV])
  apply Tells.seq (fr' := [(4, .ptr 1 0 0 0), (6, .int .i64 0), (7, .int .i64 (kindN t.t t.u)), (14, .int .i64 (n : Nat)), (15, .int .u64 (xn : Nat)), (77, .bool false)]) (H' := [some (tyO t), some (vaO {})])
  · exact condF (by simp [evalO, getF]) ⟨0, rfl⟩
  apply Tells.assoc
  by_cases hk1 : kindN t.t t.u = 1
  · rw [if_pos hk1, hk1]
    apply Tells.seq (fr' := [(4, .ptr 1 0 0 0), (7, .int .i64 1), (14, .int .i64 (n : Nat)), (15, .int .u64 (xn : Nat)), (81, .bool true)]) (H' := [some (tyO t), some (vaO {})])
    · (refine ⟨0, ?_⟩; simp (maxSteps := 2000000) -implicitDefEqProofs [-getElem?_pos, List.getElem?_cons_zero, List.getElem?_cons_succ, go_sem, eqV, plen, loadV, storeV])
    refine Tells.seqOut (Tells.condT (by simp [evalO, getF]) ?_) (fun o h => by rw [h.1]; simp)
    have w1 : IntKind.i64.wrap (8 * (n : Int)) = ((8 * n : Nat) : Int) := by rw [wrap_i64 (by omega) (by omega)]; omega
    have w2 : IntKind.i64.wrap (64 - ((8 * n : Nat) : Int)) = ((64 - 8 * n : Nat) : Int) := by rw [wrap_i64 (by omega) (by omega)]; omega
    have hsg : sgV (xn : Int) n = Int.fdiv (IntKind.i64.wrap (IntKind.u64.wrap ((xn : Int) * 2 ^ (64 - 8 * n)))) (2 ^ (64 - 8 * n)) := rfl
    have hsh0 : ¬ ((64 - 8 * n : Nat) : Int) < 0 := by omega
    have hmin : min (64 - 8 * n) 64 = 64 - 8 * n := by omega
    generalize hsh : 64 - 8 * n = sh at *
    generalize h8 : 8 * n = n8 at *
    apply Tells.seq (fr' := [(4, .ptr 1 0 0 0), (7, .int .i64 1), (14, .int .i64 (n : Nat)), (15, .int .u64 (xn : Nat)), (16, .int .i64 (sh : Nat))]) (H' := [some (tyO t), some (vaO {})])
    · (refine ⟨0, ?_⟩; simp (maxSteps := 2000000) -implicitDefEqProofs [-getElem?_pos, List.getElem?_cons_zero, List.getElem?_cons_succ, go_sem, eqV, plen, loadV, storeV, w1, w2])
    have hbi := fun k i => bvVi k i
    refine Tells.of (o := ⟨.ret, [(4, .ptr 1 0 0 0), (5, .int .i64 (n : Nat)), (6, .int .i64 0)], [some (tyO t), some (vaO { k := 1, i := sgV (xn : Int) n })]⟩) ⟨0, ?_⟩ ⟨rfl, rfl, rfl, rfl, rfl⟩
    rw [hsg]
    simp only [Va.pay, Int.cast_ofNat_Int] at hbi
    generalize hz : IntKind.u64.wrap ((xn : Int) * 2 ^ sh) = z at *
    generalize hz2 : IntKind.i64.wrap z = z2 at *
    simp (maxSteps := 2000000) -implicitDefEqProofs [-getElem?_pos, List.getElem?_cons_zero, List.getElem?_cons_succ, go_sem, eqV, plen, loadV, storeV, tyO, Ty.pay, vaO, Va.pay, hsh0, hmin, hz, hz2, hbi, mkVa, flatCells, splice, scalars, show IntKind.u64.bits = 64 from rfl, show IntKind.i64.bits = 64 from rfl]
  · rw [if_neg hk1]
    have hk1b : (kindN t.t t.u == 1) = false := beq_eq_false_iff_ne.2 hk1
    generalize kindN t.t t.u = k at *
    apply Tells.seq (fr' := [(4, .ptr 1 0 0 0), (7, .int .i64 k), (14, .int .i64 (n : Nat)), (15, .int .u64 (xn : Nat)), (81, .bool false)]) (H' := [some (tyO t), some (vaO {})])
    · (refine ⟨0, ?_⟩; simp (maxSteps := 2000000) -implicitDefEqProofs [-getElem?_pos, List.getElem?_cons_zero, List.getElem?_cons_succ, go_sem, eqV, plen, loadV, storeV, hk1b])
    apply Tells.seq (fr' := [(4, .ptr 1 0 0 0), (7, .int .i64 k), (14, .int .i64 (n : Nat)), (15, .int .u64 (xn : Nat)), (81, .bool false)]) (H' := [some (tyO t), some (vaO {})])
    · exact condF (by simp [evalO, getF]) ⟨0, rfl⟩
    have hbb := fun k x => bvVb k x
    refine Tells.of (o := ⟨.ret, [(4, .ptr 1 0 0 0), (5, .int .i64 (n : Nat)), (6, .int .i64 0)], [some (tyO t), some (vaO { k := k, b := xn })]⟩) ⟨0, ?_⟩ ⟨rfl, rfl, by simp, rfl, rfl⟩
    simp only [Va.pay, Int.cast_ofNat_Int] at hbb
    simp (maxSteps := 2000000) -implicitDefEqProofs [-getElem?_pos, List.getElem?_cons_zero, List.getElem?_cons_succ, go_sem, eqV, plen, loadV, storeV, tyO, Ty.pay, vaO, Va.pay, hbb, mkVa, flatCells, splice, scalars]

end

end Go.Proofs.YtifgkkfchnfcaaaDoor
