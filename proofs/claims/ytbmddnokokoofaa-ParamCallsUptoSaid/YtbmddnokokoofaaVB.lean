/- Walks: the document's moment, appended. -/
import Derived.Test.YtbmddnokokoofaaVA
namespace Go.Proofs.Ytbmddnokokoofaa
open Go.AM
set_option linter.unusedSimpArgs false
set_option linter.unusedVariables false

noncomputable def mtO : Option Code := ((((Try.f50.body).bind cR).bind cR).bind cL)

def mtP (c : Nat) (b : List UInt8) (w : Wh) (t : Nat) (fr : AM.Frame) (H : AM.Heap) : Prop :=
  ∃ o g ob own tl, fr = [(0, .ro c (.pb b) 1), (4, .ptr 0 0 0 0), (7, .sl o 0 own.length g)] ++ tl ∧ H[0]? = some (some (whO w)) ∧ H[o]? = some (some ob) ∧ Rw (.pb own) g ob ∧ own.length ≤ 100 ∧ (UInt8.ofNat (own ++ usB w).length :: (own ++ usB w)) = whB w t

theorem span_zero {w : Wh} (hf : fin w 11 = true) : (w.d = 0 ∧ mid w = true) ↔ w = {} := by
  unfold fin btw at hf
  simp only [Bool.and_eq_true, decide_eq_true_eq, if_true, Bool.not_eq_true', Bool.and_eq_false_iff] at hf
  unfold mid
  obtain ⟨neg, y, mo, d, h, mi, s, us⟩ := w
  simp only [decide_eq_true_eq, Wh.mk.injEq] at *
  constructor
  · rintro ⟨h1, h2, h3, h4, h5⟩
    refine ⟨?_, hf.2.1, hf.2.2.1, h1, h2, h3, h4, h5⟩
    rcases hf.2.2.2.2 with h6 | h6 | h6
    · exact h6
    · simp only [decide_eq_false_iff_not] at h6; exact absurd h1 h6
    · unfold mid at h6; simp only [decide_eq_false_iff_not] at h6; exact absurd ⟨h2, h3, h4, h5⟩ h6
  · rintro ⟨h1, h2, h3, h4, h5, h6, h7, h8⟩
    exact ⟨h4, h5, h6, h7, h8⟩

section
variable (c : Nat) (b : List UInt8) (w : Wh)

set_option maxRecDepth 100000 in
set_option maxHeartbeats 4000000 in
theorem mt_span (hf : fin w 11 = true) : ∃ code, mtO = some code ∧ Tells (Goes (mtP c b w 11)) X (evT X) 50 0 code [(0, .ro c (.pb b) 1), (2, .int .u8 11), (4, .ptr 0 0 0 0)] [some (whO w), some nilB, some nilB] := by
  refine ⟨_, rfl, ?_⟩
  have hck : clk w = true := by unfold fin at hf; simp only [Bool.and_eq_true] at hf; exact hf.1
  have hM := fun H => mid_ev hck H
  have hz := span_zero hf
  obtain ⟨n1, n2, n3, n4, n5, n6, n7, n8, n9, n10, n11, n12, n13, n14⟩ := fin_nn hf
  apply Tells.seq (fr' := [(0, .ro c (.pb b) 1), (4, .ptr 0 0 0 0), (10, .bool true)]) (H' := [some (whO w), some nilB, some nilB])
  · (refine ⟨0, ?_⟩; simp (maxSteps := 2000000) -implicitDefEqProofs [-getElem?_pos, List.getElem?_cons_zero, List.getElem?_cons_succ, go_sem, eqV, plen, loadV, storeV])
  apply tcondT (by simp [evalO, getF])
  apply Tells.seq
  · (refine ⟨0, ?_⟩; conv => lhs; simp (maxSteps := 2000000) -implicitDefEqProofs [-getElem?_pos, List.getElem?_cons_zero, List.getElem?_cons_succ, go_sem, eqV, plen, loadV, storeV])
  generalize hy : (if w.neg then (1 : UInt8) else 0) = y at *
  apply Tells.andThen (P := fun fr H => ∃ tl, fr = [(0, .ro c (.pb b) 1), (4, .ptr 0 0 0 0), (8, .int .u8 (y.toNat : Nat))] ++ tl ∧ H = [some (whO w), some nilB, some nilB])
  · cases hn : w.neg with
    | true =>
      rw [hn] at hy
      refine Tells.of (o := ⟨.normal, [(0, .ro c (.pb b) 1), (4, .ptr 0 0 0 0), (8, .int .u8 1)], [some (whO w), some nilB, some nilB]⟩) ⟨0, ?_⟩ ⟨rfl, [], by rw [← hy]; rfl, rfl⟩
      simp (maxSteps := 2000000) -implicitDefEqProofs [-getElem?_pos, List.getElem?_cons_zero, List.getElem?_cons_succ, go_sem, eqV, plen, loadV, storeV, whO, Wh.pay, hn]
    | false =>
      rw [hn] at hy
      refine Tells.of (o := ⟨.normal, [(0, .ro c (.pb b) 1), (4, .ptr 0 0 0 0), (8, .int .u8 0), (12, .bool false)], [some (whO w), some nilB, some nilB]⟩) ⟨0, ?_⟩ ⟨rfl, [(12, .bool false)], by rw [← hy]; rfl, rfl⟩
      simp (maxSteps := 2000000) -implicitDefEqProofs [-getElem?_pos, List.getElem?_cons_zero, List.getElem?_cons_succ, go_sem, eqV, plen, loadV, storeV, whO, Wh.pay, hn]
  rintro fr H ⟨tl, rfl, rfl⟩
  obtain ⟨dn, hdn⟩ : ∃ n : Nat, w.d = (n : Int) := ⟨w.d.toNat, by omega⟩
  obtain ⟨hn, hhn⟩ : ∃ n : Nat, w.h = (n : Int) := ⟨w.h.toNat, by omega⟩
  obtain ⟨mn, hmn⟩ : ∃ n : Nat, w.mi = (n : Int) := ⟨w.mi.toNat, by omega⟩
  obtain ⟨sn, hsn⟩ : ∃ n : Nat, w.s = (n : Int) := ⟨w.s.toNat, by omega⟩
  have ed : w.d.toNat = dn := by rw [hdn]; simp
  obtain ⟨ob3, hw3, hF⟩ := rfx_ev (H := [some (whO w), some nilB, some nilB]) (a := .ro 1 (.pb [y]) 0) (b := [y]) (x := dn) (n := 4) (N := 4) (Byt.ro (.inl rfl) (by omega)) rfl (by simp) (by omega) (by omega) (by omega)
  have hcl : clB w = [UInt8.ofNat hn, UInt8.ofNat mn, UInt8.ofNat sn] := by unfold clB; rw [hhn, hmn, hsn]; simp
  obtain ⟨ob4, hw4, hA⟩ := app_b (H := [some (whO w), some nilB, some nilB, some ob3]) (o := 3) (m := clB w) (src := .ro 1 (.pb (clB w)) 0) rfl hw3 (.inl rfl) (by simp [leB_len, clB])
  have l3 : ([y] ++ leB 4 dn).length = 5 := by simp [leB_len]
  rw [l3, hcl] at hA
  apply Tells.seq (fr' := [(0, .ro c (.pb b) 1), (4, .ptr 0 0 0 0), (7, .sl 3 0 8 1)]) (H' := [some (whO w), some nilB, some nilB, some ob4])
  · have hbs := fun H => bs1 H y
    have wd : IntKind.u64.wrap w.d = (dn : Int) := by rw [hdn]; exact wrap_u64 (by omega) (by omega)
    have w1 : IntKind.u8.wrap w.h = (hn : Int) := by rw [hhn]; exact wrap_u8 (by omega) (by omega)
    have w2 : IntKind.u8.wrap w.mi = (mn : Int) := by rw [hmn]; exact wrap_u8 (by omega) (by omega)
    have w3 : IntKind.u8.wrap w.s = (sn : Int) := by rw [hsn]; exact wrap_u8 (by omega) (by omega)
    have hbs3 := fun H => bs3n H hn mn sn (by omega) (by omega) (by omega)
    have hg3 := hw3.g
    have hi3 := hw3.ids
    have hp3 := hw3.p
    simp only [List.length_cons, List.length_nil, whO, Wh.pay, List.cons_append, List.nil_append] at hF hA
    clear hM hw4 hcl
    generalize [UInt8.ofNat hn, UInt8.ofNat mn, UInt8.ofNat sn] = cl at *
    apply Run.dy (by simp) keep50_6 (by simp)
    · (conv => lhs; simp (maxSteps := 2000000) -implicitDefEqProofs [-getElem?_pos, List.getElem?_cons_zero, List.getElem?_cons_succ, go_sem, eqV, plen, loadV, storeV, runD, out1, markOf, freeO, quietO, pushes, isAssign, calledV, touched, mentioned, opVals, touchCall, mentionCall, idsAt, Op.operands, ids, idsL, lendArgs, lendV, lend1, lendL, whO, Wh.pay, hbs, hbs3, wd, w1, w2, w3, hF, hA, upd, assignV, reach_none, hg3, hi3, hp3])
      rfl
    · kernel_rfl
    · rfl
  simp only [whO, Wh.pay] at hM
  by_cases hw0 : w = {}
  · have hb := hz.2 hw0
    rw [hb.2] at hM
    refine Tells.of (o := ⟨.normal, [(0, .ro c (.pb b) 1), (4, .ptr 0 0 0 0), (7, .sl 4 0 0 0)], [some (whO w), some nilB, some nilB, some ob4, some nilB]⟩) ⟨0, ?_⟩ ⟨rfl, 4, 0, nilB, [], [], rfl, rfl, rfl, nilB_rw, by simp, ?_⟩
    · have hd0 := hb.1
      rw [hd0] at hM
      simp (maxSteps := 2000000) -implicitDefEqProofs [-getElem?_pos, List.getElem?_cons_zero, List.getElem?_cons_succ, go_sem, eqV, plen, loadV, storeV, whO, Wh.pay, mkWh, hd0, hM, assignV, emB]
    · unfold whB spB usB
      rw [if_pos rfl, if_pos hw0]
      subst hw0
      rfl
  · refine Tells.of (o := ⟨.normal, [(0, .ro c (.pb b) 1), (4, .ptr 0 0 0 0), (7, .sl 3 0 8 1), (36, .bool false)], [some (whO w), some nilB, some nilB, some ob4]⟩) ⟨0, ?_⟩ ⟨rfl, 3, 1, ob4, [y] ++ leB 4 dn ++ clB w, [(36, .bool false)], by simp [leB_len, clB], rfl, rfl, hw4, by simp [leB_len, clB], ?_⟩
    · by_cases hd0 : w.d = 0
      · have hm : mid w = false := by
          cases hm : mid w with
          | false => rfl
          | true => exact absurd (hz.1 ⟨hd0, hm⟩) hw0
        rw [hm, hd0] at hM
        simp (maxSteps := 2000000) -implicitDefEqProofs [-getElem?_pos, List.getElem?_cons_zero, List.getElem?_cons_succ, go_sem, eqV, plen, loadV, storeV, whO, Wh.pay, mkWh, hd0, hM]
      · have hd0b : (w.d == 0) = false := by simpa using hd0
        simp (maxSteps := 2000000) -implicitDefEqProofs [-getElem?_pos, List.getElem?_cons_zero, List.getElem?_cons_succ, go_sem, eqV, plen, loadV, storeV, whO, Wh.pay, hd0b]
    · unfold whB spB
      rw [if_pos rfl, if_neg hw0, hy, ed]
      unfold usB
      by_cases hus : w.us = 0
      · rw [if_pos hus, if_pos hus]
        simp [leB_len, clB]
      · rw [if_neg hus, if_neg hus]
        simp [leB_len, clB]

theorem mo_mid {t : Nat} (h11 : t ≠ 11) (hf : fin w t = true) : (w = { y := w.y, mo := w.mo, d := w.d }) ↔ mid w = true := by
  unfold fin at hf
  rw [if_neg h11] at hf
  simp only [Bool.and_eq_true, Bool.not_eq_true'] at hf
  have hn := hf.2.1
  unfold mid
  obtain ⟨neg, y, mo, d, h, mi, s, us⟩ := w
  simp only [decide_eq_true_eq, Wh.mk.injEq, true_and] at *
  constructor
  · rintro ⟨_, h1, h2, h3, h4⟩; exact ⟨h1, h2, h3, h4⟩
  · rintro ⟨h1, h2, h3, h4⟩; exact ⟨hn, h1, h2, h3, h4⟩

set_option maxRecDepth 100000 in
set_option maxHeartbeats 4000000 in
theorem mt_moment (t : Nat) (ht : t < 256) (h11 : t ≠ 11) (hf : fin w t = true) : ∃ code, mtO = some code ∧ Tells (Goes (mtP c b w t)) X (evT X) 50 0 code [(0, .ro c (.pb b) 1), (2, .int .u8 (t : Nat)), (4, .ptr 0 0 0 0)] [some (whO w), some nilB, some nilB] := by
  refine ⟨_, rfl, ?_⟩
  have hck : clk w = true := by unfold fin at hf; simp only [Bool.and_eq_true] at hf; exact hf.1
  have hM := fun H => mid_ev hck H
  have hz := mo_mid w h11 hf
  have h11b : ((t : Int) == 11) = false := by simp; omega
  obtain ⟨n1, n2, n3, n4, n5, n6, n7, n8, n9, n10, n11, n12, n13, n14⟩ := fin_nn hf
  apply Tells.seq (fr' := [(0, .ro c (.pb b) 1), (4, .ptr 0 0 0 0), (10, .bool false)]) (H' := [some (whO w), some nilB, some nilB])
  · (refine ⟨0, ?_⟩; simp (maxSteps := 2000000) -implicitDefEqProofs [-getElem?_pos, List.getElem?_cons_zero, List.getElem?_cons_succ, go_sem, eqV, plen, loadV, storeV, h11b])
  apply tcondF (by simp [evalO, getF])
  obtain ⟨yn, hyn⟩ : ∃ n : Nat, w.y = (n : Int) := ⟨w.y.toNat, by omega⟩
  obtain ⟨on, hon⟩ : ∃ n : Nat, w.mo = (n : Int) := ⟨w.mo.toNat, by omega⟩
  obtain ⟨dn, hdn⟩ : ∃ n : Nat, w.d = (n : Int) := ⟨w.d.toNat, by omega⟩
  obtain ⟨hn, hhn⟩ : ∃ n : Nat, w.h = (n : Int) := ⟨w.h.toNat, by omega⟩
  obtain ⟨mn, hmn⟩ : ∃ n : Nat, w.mi = (n : Int) := ⟨w.mi.toNat, by omega⟩
  obtain ⟨sn, hsn⟩ : ∃ n : Nat, w.s = (n : Int) := ⟨w.s.toNat, by omega⟩
  have ey : w.y.toNat = yn := by rw [hyn]; simp
  have eo : w.mo.toNat = on := by rw [hon]; simp
  have ed : w.d.toNat = dn := by rw [hdn]; simp
  obtain ⟨ob3, hw3, hF⟩ := rfx_ev (H := [some (whO w), some nilB, some nilB]) (a := .ro 0 .pn 0) (b := []) (x := yn) (n := 2) (N := 2) Byt.nil rfl (by simp) (by omega) (by omega) (by omega)
  obtain ⟨ob4, hw4, hA⟩ := app_b (H := [some (whO w), some nilB, some nilB, some ob3]) (o := 3) (m := [UInt8.ofNat on, UInt8.ofNat dn]) (src := .ro 1 (.pb [UInt8.ofNat on, UInt8.ofNat dn]) 0) rfl hw3 (.inl rfl) (by simp [leB_len])
  have hcl : clB w = [UInt8.ofNat hn, UInt8.ofNat mn, UInt8.ofNat sn] := by unfold clB; rw [hhn, hmn, hsn]; simp
  obtain ⟨ob5, hw5, hA2⟩ := app_b (H := [some (whO w), some nilB, some nilB, some ob4]) (o := 3) (m := clB w) (src := .ro 1 (.pb (clB w)) 0) rfl hw4 (.inl rfl) (by simp [leB_len, clB])
  have l3 : (([] : List UInt8) ++ leB 2 yn).length = 2 := by simp [leB_len]
  have l4 : (([] : List UInt8) ++ leB 2 yn ++ [UInt8.ofNat on, UInt8.ofNat dn]).length = 4 := by simp [leB_len]
  rw [l3] at hA
  rw [l4, hcl] at hA2
  apply Tells.seq (fr' := [(0, .ro c (.pb b) 1), (4, .ptr 0 0 0 0), (7, .sl 3 0 4 1)]) (H' := [some (whO w), some nilB, some nilB, some ob4])
  · have wd : IntKind.u64.wrap w.y = (yn : Int) := by rw [hyn]; exact wrap_u64 (by omega) (by omega)
    have w1 : IntKind.u8.wrap w.mo = (on : Int) := by rw [hon]; exact wrap_u8 (by omega) (by omega)
    have w2 : IntKind.u8.wrap w.d = (dn : Int) := by rw [hdn]; exact wrap_u8 (by omega) (by omega)
    have hbs2 := fun H => bs2n H on dn (by omega) (by omega)
    have hg3 := hw3.g
    have hi3 := hw3.ids
    have hp3 := hw3.p
    simp only [List.length_cons, List.length_nil, whO, Wh.pay, List.cons_append, List.nil_append, Nat.zero_add] at hF hA
    clear hM hw4 hcl hA2 hw5
    generalize [UInt8.ofNat on, UInt8.ofNat dn] = od at *
    apply Run.dy (by simp) keep50_9 (by simp)
    · (conv => lhs; simp (maxSteps := 2000000) -implicitDefEqProofs [-getElem?_pos, List.getElem?_cons_zero, List.getElem?_cons_succ, go_sem, eqV, plen, loadV, storeV, runD, out1, markOf, freeO, quietO, pushes, isAssign, calledV, touched, mentioned, opVals, touchCall, mentionCall, idsAt, Op.operands, ids, idsL, lendArgs, lendV, lend1, lendL, whO, Wh.pay, hbs2, wd, w1, w2, hF, hA, upd, assignV, reach_none, hg3, hi3, hp3])
      rfl
    · kernel_rfl
    · rfl
  have hg4 := hw4.g
  unfold mtP
  cases hm : mid w with
  | false =>
    rw [hm] at hM
    simp only [whO, Wh.pay] at hM
    have hne : ¬ w = { y := w.y, mo := w.mo, d := w.d } := fun h => by rw [hz.1 h] at hm; cases hm
    have hw0 : ¬ w = {} := fun h => hne (by rw [h])
    refine Tells.of (o := ⟨.normal, [(0, .ro c (.pb b) 1), (4, .ptr 0 0 0 0), (7, .sl 3 0 7 2)], [some (whO w), some nilB, some nilB, some ob5]⟩) ⟨0, ?_⟩ ⟨rfl, 3, 2, ob5, _, [], by rw [List.length_append, l4, hcl]; rfl, rfl, rfl, hw5, by simp [leB_len, clB], ?_⟩
    · have w1 : IntKind.u8.wrap w.h = (hn : Int) := by rw [hhn]; exact wrap_u8 (by omega) (by omega)
      have w2 : IntKind.u8.wrap w.mi = (mn : Int) := by rw [hmn]; exact wrap_u8 (by omega) (by omega)
      have w3 : IntKind.u8.wrap w.s = (sn : Int) := by rw [hsn]; exact wrap_u8 (by omega) (by omega)
      have hbs3 := fun H => bs3n H hn mn sn (by omega) (by omega) (by omega)
      simp only [List.length_cons, List.length_nil, whO, Wh.pay] at hA2
      generalize [UInt8.ofNat hn, UInt8.ofNat mn, UInt8.ofNat sn] = cl at *
      simp (maxSteps := 2000000) -implicitDefEqProofs [-getElem?_pos, List.getElem?_cons_zero, List.getElem?_cons_succ, go_sem, eqV, plen, loadV, storeV, whO, Wh.pay, mkWh, hM, unV, w1, w2, w3, hbs3, hA2, upd]
    · unfold whB moB moN
      rw [if_neg h11, if_neg hw0, if_neg hne, if_neg hne, ey, eo, ed]
      unfold usB
      by_cases hus : w.us = 0
      · rw [if_pos hus, if_pos hus]
        simp [leB_len, clB]
      · rw [if_neg hus, if_neg hus]
        simp [leB_len, clB]
  | true =>
    rw [hm] at hM
    simp only [whO, Wh.pay] at hM
    have heq := hz.2 hm
    have hus : w.us = 0 := by unfold mid at hm; simp only [decide_eq_true_eq] at hm; exact hm.2.2.2
    have hE := fun H xo yo => eqWh w {} H xo yo
    have hb0 := bdW0
    simp only [Wh.pay, Int.cast_ofNat_Int] at hE
    by_cases hw0 : w = {}
    · rw [decide_eq_true hw0] at hE
      refine Tells.of (o := ⟨.normal, [(0, .ro c (.pb b) 1), (4, .ptr 0 0 0 0), (7, .sl 4 0 0 0)], [some (whO w), some nilB, some nilB, some ob4, some nilB]⟩) ⟨0, ?_⟩ ⟨rfl, 4, 0, nilB, [], [], rfl, rfl, rfl, nilB_rw, by simp, ?_⟩
      · generalize hz0 : (AV.pc [.bool false, .int .i64 0, .int .i64 0, .int .i64 0, .int .i64 0, .int .i64 0, .int .i64 0, .int .i64 0]) = pz at *
        simp (maxSteps := 2000000) -implicitDefEqProofs [-getElem?_pos, List.getElem?_cons_zero, List.getElem?_cons_succ, go_sem, eqV, plen, loadV, storeV, -eqV, whO, Wh.pay, mkWh, hM, unV, hb0, hE, assignV, emB]
      · unfold whB moB usB
        rw [if_neg h11, if_pos hw0, if_pos hus]
        rfl
    · rw [decide_eq_false hw0] at hE
      refine Tells.of (o := ⟨.normal, [(0, .ro c (.pb b) 1), (4, .ptr 0 0 0 0), (7, .sl 3 0 4 1), (66, .bool false)], [some (whO w), some nilB, some nilB, some ob4]⟩) ⟨0, ?_⟩ ⟨rfl, 3, 1, ob4, _, [(66, .bool false)], by rw [l4]; rfl, rfl, rfl, hw4, by simp [leB_len], ?_⟩
      · generalize hz0 : (AV.pc [.bool false, .int .i64 0, .int .i64 0, .int .i64 0, .int .i64 0, .int .i64 0, .int .i64 0, .int .i64 0]) = pz at *
        simp (maxSteps := 2000000) -implicitDefEqProofs [-getElem?_pos, List.getElem?_cons_zero, List.getElem?_cons_succ, go_sem, eqV, plen, loadV, storeV, -eqV, whO, Wh.pay, mkWh, hM, unV, hb0, hE]
      · unfold whB moB moN usB
        rw [if_neg h11, if_neg hw0, if_pos heq, if_pos heq, if_pos hus, ey, eo, ed]
        simp [leB_len]

set_option maxRecDepth 100000 in
theorem mt_code (t : Nat) (hc : c = 0 → b = []) (hb : b.length ≤ 100000) (ht : t < 256) (hf : fin w t = true) : ∃ code, Try.f50.body = some code ∧
    Tells (Rets fun fr H => ∃ o g ob, getF fr 6 = .sl o 0 (b ++ whB w t).length g ∧ H[o]? = some (some ob) ∧ Rw (.pb (b ++ whB w t)) g ob) X (evT X) 50 0 code [(0, .ro c (.pb b) 1), (1, .agg w.pay), (2, .int .u8 (t : Nat))] [] := by
  refine ⟨_, rfl, ?_⟩
  have hnn := fin_nn hf
  apply Tells.seq (fr' := [(0, .ro c (.pb b) 1), (2, .int .u8 (t : Nat)), (4, .ptr 0 0 0 0)]) (H' := [some (whO w), some nilB])
  · (refine ⟨0, ?_⟩; simp (maxSteps := 2000000) -implicitDefEqProofs [-getElem?_pos, List.getElem?_cons_zero, List.getElem?_cons_succ, go_sem, eqV, plen, loadV, storeV, whO, Wh.pay, assignV, emB])
  apply Tells.seq (fr' := [(0, .ro c (.pb b) 1), (2, .int .u8 (t : Nat)), (4, .ptr 0 0 0 0)]) (H' := [some (whO w), some nilB, some nilB])
  · (refine ⟨0, ?_⟩; simp (maxSteps := 2000000) -implicitDefEqProofs [-getElem?_pos, List.getElem?_cons_zero, List.getElem?_cons_succ, go_sem, eqV, plen, loadV, storeV, assignV, emB])
  apply Tells.andThen (P := mtP c b w t)
  · by_cases h11 : t = 11
    · subst h11
      exact pieceF (mt_span c b w hf) _ rfl
    · exact pieceF (mt_moment c b w t ht h11 hf) _ rfl
  rintro fr H ⟨o, g, ob, own, tl, rfl, h0, ho, hw, how, hB⟩
  have := pieceF (mt_end c b own w H o g ob tl hc hb how h0 ho hw ⟨hnn.2.2.2.2.2.2.2.2.2.2.2.2.1, hnn.2.2.2.2.2.2.2.2.2.2.2.2.2⟩) _ rfl
  rw [hB] at this
  exact this

end

theorem mt_ev {H : AM.Heap} {a : AV} {b : List UInt8} {w : Wh} {t : Nat} (h : Byt H a b) (hb : b.length ≤ 100000) (ht : t < 256) (hf : fin w t = true) :
    ∃ ob, Rw (.pb (b ++ whB w t)) 0 ob ∧ evT X 50 [a, .agg w.pay, .int .u8 (t : Nat)] H = some (.sl H.length 0 (b ++ whB w t).length 0, H ++ [some ob]) := by
  obtain ⟨c, p, xl, hp, hc, hx'⟩ := args_byt (C := X) (f := 50) (i := 0) rfl h (args_wh (f := 50) (i := 1) (w := w) (args_flat (i := 2) (a := .int .u8 (t : Nat)) rfl rfl (args_nil 3)))
  obtain ⟨code, hcode, hr⟩ := mt_code c b w t hc hb ht hf
  obtain ⟨ob, q1, q2⟩ := Ev1.newB (H := H) (n := (b ++ whB w t).length) (l := b ++ whB w t) (rest := []) (evT_below X) Try.func50 hcode hx' (by simp [Wh.pay, idsL, ids, hp.ids]) (by simp [gtag]) rfl rfl rfl (by
    obtain ⟨o, ⟨he, o1, g, ob, q1, q3, q4⟩, hrun⟩ := hr
    exact ⟨o, ⟨he, o1, g, ob, by show some [getF o.fr 6] = _; rw [q1], q3, q4⟩, by rw [par50, coB hp]; exact hrun⟩)
  exact ⟨ob, q1, evT_eq q2⟩

end Go.Proofs.Ytbmddnokokoofaa
