/- V8 to U1: texts of this claim, one behind the other; what each shows stands at its head. -/
import Derived.Test.YtifgkkfchnfcaaaDoorMg2
/- Walks: a moment, or a span, appended to what is handed over. -/
namespace Go.Proofs.YtifgkkfchnfcaaaDoor
open Go.AM
set_option linter.unusedSimpArgs false
set_option linter.unusedVariables false

/-- hours, minutes, seconds -/
def clB (w : Wh) : List UInt8 := [UInt8.ofNat w.h.toNat, UInt8.ofNat w.mi.toNat, UInt8.ofNat w.s.toNat]
def usB (w : Wh) : List UInt8 := if w.us = 0 then [] else leB 4 w.us.toNat
/-- a span's bytes -/
def spB (w : Wh) : List UInt8 := if w = {} then [0] else ((if w.us = 0 then 8 else 12) :: (if w.neg then 1 else 0) :: leB 4 w.d.toNat) ++ clB w ++ usB w
/-- how many bytes a moment has -/
def moN (w : Wh) : UInt8 := if w = { y := w.y, mo := w.mo, d := w.d } then 4 else if w.us = 0 then 7 else 11
/-- a moment's bytes -/
def moB (w : Wh) : List UInt8 := if w = {} then [0] else (moN w :: (leB 2 w.y.toNat ++ [UInt8.ofNat w.mo.toNat, UInt8.ofNat w.d.toNat])) ++ (if w = { y := w.y, mo := w.mo, d := w.d } then [] else clB w) ++ usB w
def whB (w : Wh) (t : Nat) : List UInt8 := if t = 11 then spB w else moB w

theorem bs3n (H : AM.Heap) (a b c : Nat) (ha : a < 256) (hb : b < 256) (hc : c < 256) : buildSliceV X H 22 3 [(0, .int .u8 (a : Nat)), (1, .int .u8 (b : Nat)), (2, .int .u8 (c : Nat))] = some (.ro 1 (.pb [UInt8.ofNat a, UInt8.ofNat b, UInt8.ofNat c]) 0, H) := by
  have h1 : (a : Int) < 256 := by omega
  have h2 : (b : Int) < 256 := by omega
  have h3 : (c : Int) < 256 := by omega
  simp [buildSliceV, setParts, litRow, mkRow, asBytes, cellsAV, cellsOf, scalars, scalar, idsL, ids, tagsL, tags, joinTags, h1, h2, h3]
theorem bs2n (H : AM.Heap) (a b : Nat) (ha : a < 256) (hb : b < 256) : buildSliceV X H 22 2 [(0, .int .u8 (a : Nat)), (1, .int .u8 (b : Nat))] = some (.ro 1 (.pb [UInt8.ofNat a, UInt8.ofNat b]) 0, H) := by
  have h1 : (a : Int) < 256 := by omega
  have h2 : (b : Int) < 256 := by omega
  simp [buildSliceV, setParts, litRow, mkRow, asBytes, cellsAV, cellsOf, scalars, scalar, idsL, ids, tagsL, tags, joinTags, h1, h2]
theorem bsK (H : AM.Heap) (y : UInt8) (k : Int) (h : (y.toNat : Int) = k) : buildSliceV X H 22 1 [(0, .int .u8 k)] = some (.ro 1 (.pb [y]) 0, H) := by
  subst h; exact bs1 H y

theorem fin_nn {w : Wh} {t : Nat} (h : fin w t = true) : 0 ≤ w.y ∧ w.y < 65536 ∧ 0 ≤ w.mo ∧ w.mo < 256 ∧ 0 ≤ w.d ∧ w.d < 256 ∧ 0 ≤ w.h ∧ w.h < 256 ∧ 0 ≤ w.mi ∧ w.mi < 256 ∧ 0 ≤ w.s ∧ w.s < 256 ∧ 0 ≤ w.us ∧ w.us < 4294967296 := by
  unfold fin clk btw at h
  simp only [Bool.and_eq_true, decide_eq_true_eq] at h
  obtain ⟨⟨h1, h2, h3, h4⟩, h5⟩ := h
  by_cases h11 : t = 11
  · rw [if_pos h11] at h5
    simp only [Bool.and_eq_true, decide_eq_true_eq] at h5
    omega
  · rw [if_neg h11] at h5
    simp only [Bool.and_eq_true, decide_eq_true_eq] at h5
    omega

theorem tcondT {Q : AM.Out → Prop} {C : Ctx} {T : Cf} {f m : Nat} {fr : AM.Frame} {H : AM.Heap} {c : Operand} {a b : Code} (hc : evalO C fr c = .bool true) (h : Tells Q C T f m a fr H) : Tells Q C T f m (.cond c a b) fr H := by
  obtain ⟨o, hq, ho⟩ := h
  exact ⟨o, hq, condT hc ho⟩
theorem tcondF {Q : AM.Out → Prop} {C : Ctx} {T : Cf} {f m : Nat} {fr : AM.Frame} {H : AM.Heap} {c : Operand} {a b : Code} (hc : evalO C fr c = .bool false) (h : Tells Q C T f m b fr H) : Tells Q C T f m (.cond c a b) fr H := by
  obtain ⟨o, hq, ho⟩ := h
  exact ⟨o, hq, condF hc ho⟩

section
variable (l : List UInt8) (w : Wh) (tg : Nat)

def wnP (M : List UInt8) (l : List UInt8) (w : Wh) (tg : Nat) (fr : AM.Frame) (H : AM.Heap) : Prop :=
  ∃ ob' g' tl, fr = (0, .sl 0 0 (l ++ M).length g') :: (4, .ptr 1 0 0 0) :: tl ∧ H = [some ob', some (whO w), some nilB] ∧ RwT (.pb (l ++ M)) (g' + 1) tg { ob' with g := ob'.g + 1 } ∧ 1 ≤ g'

noncomputable def wnO : Option Code := ((Tryd.f21.body).bind cR).bind cL

set_option maxRecDepth 100000 in
set_option maxHeartbeats 4000000 in
theorem span_code (ob : AM.Obj) (hw : RwT (.pb l) 0 tg ob) (hl : l.length ≤ 80000000) (hf : fin w 11 = true) (hz : w ≠ {}) : ∃ code, wnO = some code ∧
    Tells (Goes fun fr H => ∃ ob' g', fr = [(0, .sl 0 0 (l.length + 9) g'), (4, .ptr 1 0 0 0)] ∧ H = [some ob', some (whO w), some nilB] ∧ RwT (.pb (l ++ (((if w.us = 0 then 8 else 12) :: (if w.neg then 1 else 0) :: leB 4 w.d.toNat) ++ clB w))) g' tg ob' ∧ 1 ≤ g')
      X (evT X) 21 1 code [(0, .sl 0 0 l.length 0), (2, .int .u8 11), (4, .ptr 1 0 0 0)] [some ob, some (whO w), some nilB] := by
  refine ⟨_, rfl, ?_⟩
  have hE := fun H xo yo => eqWh w {} H xo yo
  rw [decide_eq_false hz] at hE
  simp only [Wh.pay, Int.cast_ofNat_Int] at hE
  have hb0 := bdW0
  obtain ⟨n1, n2, n3, n4, n5, n6, n7, n8, n9, n10, n11, n12, n13, n14⟩ := fin_nn hf
  apply Tells.seq (fr' := [(0, .sl 0 0 l.length 0), (4, .ptr 1 0 0 0), (10, .bool true)]) (H' := [some ob, some (whO w), some nilB])
  · (refine ⟨0, ?_⟩; simp (maxSteps := 2000000) -implicitDefEqProofs [-getElem?_pos, List.getElem?_cons_zero, List.getElem?_cons_succ, go_sem, eqV, plen, loadV, storeV])
  apply tcondT (by simp [evalO, getF])
  generalize hM : (if w.us = 0 then (8 : UInt8) else 12) = M0 at *
  generalize hy : (if w.neg then (1 : UInt8) else 0) = y at *
  obtain ⟨ob1, hw1, hA0⟩ := app_t (H := [some ob, some (whO w), some nilB]) (o := 0) (m := [M0]) (src := .ro 1 (.pb [M0]) 0) rfl hw (.inl rfl) (by simp; omega)
  apply Tells.seq (fr' := [(0, .sl 0 0 (l.length + 1) 1), (4, .ptr 1 0 0 0)]) (H' := [some ob1, some (whO w), some nilB])
  · refine Run.block (id := 0) ?_ (by simp)
    simp only [List.length_cons, List.length_nil] at hA0
    by_cases hus : w.us = 0
    · rw [if_pos hus] at hM
      have hbs := fun H => bsK H M0 8 (by rw [← hM]; rfl)
      generalize hz0 : (AV.pc [.bool false, .int .i64 0, .int .i64 0, .int .i64 0, .int .i64 0, .int .i64 0, .int .i64 0, .int .i64 0]) = pz at *
      simp only [whO, Wh.pay] at hA0
      rw [hus] at hE hA0
      (refine ⟨0, ?_⟩; simp (maxSteps := 2000000) -implicitDefEqProofs [-getElem?_pos, List.getElem?_cons_zero, List.getElem?_cons_succ, go_sem, eqV, plen, loadV, storeV, -eqV, whO, Wh.pay, mkWh, hb0, hE, hus, hbs, hA0, upd])
    · rw [if_neg hus] at hM
      have husb : (w.us == 0) = false := by simpa using hus
      have hbs := fun H => bsK H M0 12 (by rw [← hM]; rfl)
      generalize hz0 : (AV.pc [.bool false, .int .i64 0, .int .i64 0, .int .i64 0, .int .i64 0, .int .i64 0, .int .i64 0, .int .i64 0]) = pz at *
      simp only [whO, Wh.pay] at hA0
      (refine ⟨0, ?_⟩; simp (maxSteps := 2000000) -implicitDefEqProofs [-getElem?_pos, List.getElem?_cons_zero, List.getElem?_cons_succ, go_sem, eqV, plen, loadV, storeV, -eqV, whO, Wh.pay, mkWh, hb0, hE, husb, hbs, hA0, upd])
  clear hA0 hE hb0
  apply Tells.seq
  · (refine ⟨0, ?_⟩; conv => lhs; simp (maxSteps := 2000000) -implicitDefEqProofs [-getElem?_pos, List.getElem?_cons_zero, List.getElem?_cons_succ, go_sem, eqV, plen, loadV, storeV])
  apply Tells.andThen (P := fun fr H => ∃ tl, fr = [(0, .sl 0 0 (l.length + 1) 1), (4, .ptr 1 0 0 0), (7, .int .u8 (y.toNat : Nat))] ++ tl ∧ H = [some ob1, some (whO w), some nilB])
  · cases hn : w.neg with
    | true =>
      rw [hn] at hy
      refine Tells.of (o := ⟨.normal, [(0, .sl 0 0 (l.length + 1) 1), (4, .ptr 1 0 0 0), (7, .int .u8 1)], [some ob1, some (whO w), some nilB]⟩) ⟨0, ?_⟩ ⟨rfl, [], by rw [← hy]; rfl, rfl⟩
      simp (maxSteps := 2000000) -implicitDefEqProofs [-getElem?_pos, List.getElem?_cons_zero, List.getElem?_cons_succ, go_sem, eqV, plen, loadV, storeV, whO, Wh.pay, hn]
    | false =>
      rw [hn] at hy
      refine Tells.of (o := ⟨.normal, [(0, .sl 0 0 (l.length + 1) 1), (4, .ptr 1 0 0 0), (7, .int .u8 0), (29, .bool false)], [some ob1, some (whO w), some nilB]⟩) ⟨0, ?_⟩ ⟨rfl, [(29, .bool false)], by rw [← hy]; rfl, rfl⟩
      simp (maxSteps := 2000000) -implicitDefEqProofs [-getElem?_pos, List.getElem?_cons_zero, List.getElem?_cons_succ, go_sem, eqV, plen, loadV, storeV, whO, Wh.pay, hn]
  rintro fr H ⟨tl, rfl, rfl⟩
  obtain ⟨dn, hdn⟩ : ∃ n : Nat, w.d = (n : Int) := ⟨w.d.toNat, by omega⟩
  obtain ⟨hn, hhn⟩ : ∃ n : Nat, w.h = (n : Int) := ⟨w.h.toNat, by omega⟩
  obtain ⟨mn, hmn⟩ : ∃ n : Nat, w.mi = (n : Int) := ⟨w.mi.toNat, by omega⟩
  obtain ⟨sn, hsn⟩ : ∃ n : Nat, w.s = (n : Int) := ⟨w.s.toNat, by omega⟩
  obtain ⟨ob2, hw2, hA1⟩ := app_t (H := [some ob1, some (whO w), some nilB]) (o := 0) (m := [y]) (src := .ro 1 (.pb [y]) 0) rfl hw1 (.inl rfl) (by simp; omega)
  obtain ⟨ob3, hw3, hF⟩ := vfixed_ev (H := [some ob2, some (whO w), some nilB]) (o := 0) (x := dn) (n := 4) (N := 4) rfl hw2 rfl (by simp; omega) (by omega) (by omega)
  obtain ⟨ob4, hw4, hA2⟩ := app_t (H := [some ob3, some (whO w), some nilB]) (o := 0) (m := clB w) (src := .ro 1 (.pb (clB w)) 0) rfl hw3 (.inl rfl) (by simp [leB_len, clB]; omega)
  have l1 : (l ++ [M0]).length = l.length + 1 := by simp
  have l2 : (l ++ [M0] ++ [y]).length = l.length + 2 := by simp
  have l3 : (l ++ [M0] ++ [y] ++ leB 4 dn).length = l.length + 6 := by simp [leB_len]
  rw [l1] at hA1
  rw [l2] at hF
  rw [l3] at hA2
  apply Tells.seq (fr' := [(0, .sl 0 0 (l.length + 6) 3), (4, .ptr 1 0 0 0)]) (H' := [some ob3, some (whO w), some nilB])
  · have hbs := fun H => bs1 H y
    have wd : IntKind.u64.wrap w.d = (dn : Int) := by rw [hdn]; exact wrap_u64 (by omega) (by omega)
    have hre : reach [some ob2, some (whO w), some nilB] reachFuel [0] [] = [0] := reach_box rfl (by rw [hw2.p]; rfl)
    have hg1 := hw1.g
    have hp1 := hw1.p
    have hi1 := hw1.ids
    have hg2 := hw2.g
    have hp2 := hw2.p
    have hi2 := hw2.ids
    simp only [List.length_cons, List.length_nil, whO, Wh.pay] at hA1 hF hre
    clear hw hw1 hw2 hw3 hw4 hA2 l1 l2 l3
    apply Run.dy (by simp) keep21_10 (by simp)
    · (conv => lhs; simp (maxSteps := 2000000) -implicitDefEqProofs [-getElem?_pos, List.getElem?_cons_zero, List.getElem?_cons_succ, go_sem, eqV, plen, loadV, storeV, runD, out1, markOf, freeO, quietO, pushes, isAssign, calledV, touched, mentioned, opVals, touchCall, mentionCall, idsAt, Op.operands, ids, idsL, lendArgs, lendV, lend1, lendL, eqH_self, whO, Wh.pay, hbs, hA1, upd, wd, hF, assignV, reach_none, hre, hg1, hi1, hg2, hi2])
      rfl
    · kernel_rfl
    · rfl
  refine Tells.of (o := ⟨.normal, [(0, .sl 0 0 (l.length + 9) 4), (4, .ptr 1 0 0 0)], [some ob4, some (whO w), some nilB]⟩) ⟨0, ?_⟩ ⟨rfl, ob4, 4, rfl, rfl, ?_, by omega⟩
  · have w1 : IntKind.u8.wrap w.h = (hn : Int) := by rw [hhn]; exact wrap_u8 (by omega) (by omega)
    have w2 : IntKind.u8.wrap w.mi = (mn : Int) := by rw [hmn]; exact wrap_u8 (by omega) (by omega)
    have w3 : IntKind.u8.wrap w.s = (sn : Int) := by rw [hsn]; exact wrap_u8 (by omega) (by omega)
    have hbs := fun H => bs3n H hn mn sn (by omega) (by omega) (by omega)
    have hcl : clB w = [UInt8.ofNat hn, UInt8.ofNat mn, UInt8.ofNat sn] := by unfold clB; rw [hhn, hmn, hsn]; simp
    rw [hcl] at hA2
    simp only [List.length_cons, List.length_nil, whO, Wh.pay] at hA2
    generalize [UInt8.ofNat hn, UInt8.ofNat mn, UInt8.ofNat sn] = cl at *
    simp (maxSteps := 2000000) -implicitDefEqProofs [-getElem?_pos, List.getElem?_cons_zero, List.getElem?_cons_succ, go_sem, eqV, plen, loadV, storeV, whO, Wh.pay, w1, w2, w3, hbs, hA2, upd]
  · have e : w.d.toNat = dn := by rw [hdn]; simp
    rw [e]
    simpa using hw4

def moM (w : Wh) : List UInt8 := (moN w :: (leB 2 w.y.toNat ++ [UInt8.ofNat w.mo.toNat, UInt8.ofNat w.d.toNat])) ++ (if w = { y := w.y, mo := w.mo, d := w.d } then [] else clB w)

set_option maxRecDepth 100000 in
set_option maxHeartbeats 4000000 in
theorem moment_code (t : Nat) (ob : AM.Obj) (hw : RwT (.pb l) 0 tg ob) (hl : l.length ≤ 80000000) (ht : t < 256) (h11 : t ≠ 11) (hf : fin w t = true) (hz : w ≠ {}) : ∃ code, wnO = some code ∧
    Tells (Goes fun fr H => ∃ ob' g' tl, fr = [(0, .sl 0 0 (l ++ moM w).length g'), (4, .ptr 1 0 0 0)] ++ tl ∧ H = [some ob', some (whO w), some nilB] ∧ RwT (.pb (l ++ moM w)) g' tg ob' ∧ 1 ≤ g')
      X (evT X) 21 1 code [(0, .sl 0 0 l.length 0), (2, .int .u8 (t : Nat)), (4, .ptr 1 0 0 0)] [some ob, some (whO w), some nilB] := by
  refine ⟨_, rfl, ?_⟩
  have hE := fun H xo yo => eqWh w {} H xo yo
  rw [decide_eq_false hz] at hE
  have hE2 := fun H xo yo => eqWh w { y := w.y, mo := w.mo, d := w.d } H xo yo
  simp only [Wh.pay, Int.cast_ofNat_Int] at hE hE2
  have hb0 := bdW0
  have hb3 := bdW3 w.y w.mo w.d
  obtain ⟨n1, n2, n3, n4, n5, n6, n7, n8, n9, n10, n11, n12, n13, n14⟩ := fin_nn hf
  have h11b : ((t : Int) == 11) = false := by simp; omega
  apply Tells.seq (fr' := [(0, .sl 0 0 l.length 0), (4, .ptr 1 0 0 0), (10, .bool false)]) (H' := [some ob, some (whO w), some nilB])
  · (refine ⟨0, ?_⟩; simp (maxSteps := 2000000) -implicitDefEqProofs [-getElem?_pos, List.getElem?_cons_zero, List.getElem?_cons_succ, go_sem, eqV, plen, loadV, storeV, h11b])
  apply tcondF (by simp [evalO, getF])
  apply Tells.seq
  · (refine ⟨0, ?_⟩; conv => lhs; simp (maxSteps := 2000000) -implicitDefEqProofs [-getElem?_pos, List.getElem?_cons_zero, List.getElem?_cons_succ, go_sem, eqV, plen, loadV, storeV])
  unfold moM
  have hmn : moN w = if decide (w = { y := w.y, mo := w.mo, d := w.d }) = true then 4 else if w.us = 0 then 7 else 11 := by
    unfold moN
    simp only [decide_eq_true_eq]
  have hif : (if w = { y := w.y, mo := w.mo, d := w.d } then ([] : List UInt8) else clB w) = if decide (w = { y := w.y, mo := w.mo, d := w.d }) = true then [] else clB w := by
    simp only [decide_eq_true_eq]
  rw [hif]
  clear hif
  generalize decide (w = { y := w.y, mo := w.mo, d := w.d }) = e at *
  generalize moN w = N at *
  apply Tells.andThen (P := fun fr H => ∃ tl, fr = [(0, .sl 0 0 l.length 0), (4, .ptr 1 0 0 0), (8, .int .u8 (N.toNat : Nat))] ++ tl ∧ H = [some ob, some (whO w), some nilB])
  · generalize hz0 : (AV.pc [.bool false, .int .i64 0, .int .i64 0, .int .i64 0, .int .i64 0, .int .i64 0, .int .i64 0, .int .i64 0]) = pz at *
    generalize hz3 : (AV.pc [.bool false, .int .i64 w.y, .int .i64 w.mo, .int .i64 w.d, .int .i64 0, .int .i64 0, .int .i64 0, .int .i64 0]) = p3 at *
    cases e with
    | true =>
      rw [if_pos rfl] at hmn
      refine Tells.of (o := ⟨.normal, [(0, .sl 0 0 l.length 0), (4, .ptr 1 0 0 0), (8, .int .u8 4)], [some ob, some (whO w), some nilB]⟩) (Run.block (id := 1) ⟨0, ?_⟩ (by simp)) ⟨rfl, [], by rw [hmn]; rfl, rfl⟩
      simp (maxSteps := 2000000) -implicitDefEqProofs [-getElem?_pos, List.getElem?_cons_zero, List.getElem?_cons_succ, go_sem, eqV, plen, loadV, storeV, -eqV, whO, Wh.pay, mkWh, hb0, hb3, hE, hE2]
    | false =>
      rw [if_neg (by simp)] at hmn
      by_cases hus : w.us = 0
      · rw [if_pos hus] at hmn
        refine Tells.of (o := ⟨.normal, [(0, .sl 0 0 l.length 0), (4, .ptr 1 0 0 0), (8, .int .u8 7)], [some ob, some (whO w), some nilB]⟩) (Run.block (id := 1) ⟨0, ?_⟩ (by simp)) ⟨rfl, [], by rw [hmn]; rfl, rfl⟩
        rw [hus] at hE hE2
        simp (maxSteps := 2000000) -implicitDefEqProofs [-getElem?_pos, List.getElem?_cons_zero, List.getElem?_cons_succ, go_sem, eqV, plen, loadV, storeV, -eqV, whO, Wh.pay, mkWh, hb0, hb3, hE, hE2, hus]
      · rw [if_neg hus] at hmn
        have husb : (w.us == 0) = false := by simpa using hus
        refine Tells.of (o := ⟨.normal, [(0, .sl 0 0 l.length 0), (4, .ptr 1 0 0 0), (8, .int .u8 11), (67, .bool false)], [some ob, some (whO w), some nilB]⟩) (Run.block (id := 1) ⟨0, ?_⟩ (by simp)) ⟨rfl, [(67, .bool false)], by rw [hmn]; rfl, rfl⟩
        simp (maxSteps := 2000000) -implicitDefEqProofs [-getElem?_pos, List.getElem?_cons_zero, List.getElem?_cons_succ, go_sem, eqV, plen, loadV, storeV, -eqV, whO, Wh.pay, mkWh, hb0, hb3, hE, hE2, husb]
  clear hE hE2 hb0 hb3
  rintro fr H ⟨tl, rfl, rfl⟩
  obtain ⟨yn, hyn⟩ : ∃ n : Nat, w.y = (n : Int) := ⟨w.y.toNat, by omega⟩
  obtain ⟨on, hon⟩ : ∃ n : Nat, w.mo = (n : Int) := ⟨w.mo.toNat, by omega⟩
  obtain ⟨dn, hdn⟩ : ∃ n : Nat, w.d = (n : Int) := ⟨w.d.toNat, by omega⟩
  obtain ⟨hn, hhn⟩ : ∃ n : Nat, w.h = (n : Int) := ⟨w.h.toNat, by omega⟩
  obtain ⟨mn, hmnn⟩ : ∃ n : Nat, w.mi = (n : Int) := ⟨w.mi.toNat, by omega⟩
  obtain ⟨sn, hsn⟩ : ∃ n : Nat, w.s = (n : Int) := ⟨w.s.toNat, by omega⟩
  have ey : w.y.toNat = yn := by rw [hyn]; simp
  have eo : w.mo.toNat = on := by rw [hon]; simp
  have ed : w.d.toNat = dn := by rw [hdn]; simp
  rw [ey, eo, ed]
  obtain ⟨ob1, hw1, hA1⟩ := app_t (H := [some ob, some (whO w), some nilB]) (o := 0) (m := [N]) (src := .ro 1 (.pb [N]) 0) rfl hw (.inl rfl) (by simp; omega)
  obtain ⟨ob2, hw2, hF⟩ := vfixed_ev (H := [some ob1, some (whO w), some nilB]) (o := 0) (x := yn) (n := 2) (N := 2) rfl hw1 rfl (by simp; omega) (by omega) (by omega)
  obtain ⟨ob3, hw3, hA2⟩ := app_t (H := [some ob2, some (whO w), some nilB]) (o := 0) (m := [UInt8.ofNat on, UInt8.ofNat dn]) (src := .ro 1 (.pb [UInt8.ofNat on, UInt8.ofNat dn]) 0) rfl hw2 (.inl rfl) (by simp [leB_len]; omega)
  obtain ⟨ob4, hw4, hA3⟩ := app_t (H := [some ob3, some (whO w), some nilB]) (o := 0) (m := clB w) (src := .ro 1 (.pb (clB w)) 0) rfl hw3 (.inl rfl) (by simp [leB_len, clB]; omega)
  have l1 : (l ++ [N]).length = l.length + 1 := by simp
  have l2 : (l ++ [N] ++ leB 2 yn).length = l.length + 3 := by simp [leB_len]
  have l3 : (l ++ [N] ++ leB 2 yn ++ [UInt8.ofNat on, UInt8.ofNat dn]).length = l.length + 5 := by simp [leB_len]
  rw [l1] at hF
  rw [l2] at hA2
  rw [l3] at hA3
  apply Tells.seq (fr' := [(0, .sl 0 0 (l.length + 5) 3), (4, .ptr 1 0 0 0), (8, .int .u8 (N.toNat : Nat))]) (H' := [some ob3, some (whO w), some nilB])
  · have hbs := fun H => bs1 H N
    have hbs2 := fun H => bs2n H on dn (by omega) (by omega)
    have wd : IntKind.u64.wrap w.y = (yn : Int) := by rw [hyn]; exact wrap_u64 (by omega) (by omega)
    have w1 : IntKind.u8.wrap w.mo = (on : Int) := by rw [hon]; exact wrap_u8 (by omega) (by omega)
    have w2 : IntKind.u8.wrap w.d = (dn : Int) := by rw [hdn]; exact wrap_u8 (by omega) (by omega)
    have hre : reach [some ob1, some (whO w), some nilB] reachFuel [0] [] = [0] := reach_box rfl (by rw [hw1.p]; rfl)
    have hg1 := hw.g
    have hi1 := hw.ids
    have hg2 := hw1.g
    have hi2 := hw1.ids
    have hg3 := hw2.g
    have hi3 := hw2.ids
    have hq1 := hw1.p
    simp only [List.length_cons, List.length_nil, whO, Wh.pay] at hA1 hF hre hA2
    clear hw hw1 hw2 hw3 hw4 hA3 l1 l2 l3
    generalize [UInt8.ofNat on, UInt8.ofNat dn] = od at *
    apply Run.dy (by simp) keep21_19 (by simp)
    · (conv => lhs; simp (maxSteps := 2000000) -implicitDefEqProofs [-getElem?_pos, List.getElem?_cons_zero, List.getElem?_cons_succ, go_sem, eqV, plen, loadV, storeV, runD, out1, markOf, freeO, quietO, pushes, isAssign, calledV, touched, mentioned, opVals, touchCall, mentionCall, idsAt, Op.operands, ids, idsL, lendArgs, lendV, lend1, lendL, eqH_self, whO, Wh.pay, hbs, hbs2, hA1, upd, wd, w1, w2, hF, hA2, assignV, reach_none, hre, hg1, hi1, hg2, hi2, hg3, hi3, hq1])
      rfl
    · kernel_rfl
    · rfl
  cases e with
  | true =>
    rw [if_pos rfl] at hmn ⊢
    subst hmn
    refine Tells.of (o := ⟨.normal, [(0, .sl 0 0 (l.length + 5) 3), (4, .ptr 1 0 0 0), (88, .bool false)], [some ob3, some (whO w), some nilB]⟩) ⟨0, ?_⟩ ⟨rfl, ob3, 3, [(88, .bool false)], by simp [leB_len], rfl, by simpa using hw3, by omega⟩
    simp (maxSteps := 2000000) -implicitDefEqProofs [-getElem?_pos, List.getElem?_cons_zero, List.getElem?_cons_succ, go_sem, eqV, plen, loadV, storeV, whO, Wh.pay, show ((4 : UInt8).toNat : Int) = 4 from rfl]
  | false =>
    rw [if_neg (by simp)] at hmn ⊢
    have hN4 : (4 : Int) < (N.toNat : Int) := by
      rw [hmn]; split <;> decide
    have hcl : clB w = [UInt8.ofNat hn, UInt8.ofNat mn, UInt8.ofNat sn] := by unfold clB; rw [hhn, hmnn, hsn]; simp
    rw [hcl] at hA3 hw4 ⊢
    refine Tells.of (o := ⟨.normal, [(0, .sl 0 0 (l.length + 8) 4), (4, .ptr 1 0 0 0)], [some ob4, some (whO w), some nilB]⟩) ⟨0, ?_⟩ ⟨rfl, ob4, 4, [], by simp [leB_len], rfl, by simpa using hw4, by omega⟩
    have w1 : IntKind.u8.wrap w.h = (hn : Int) := by rw [hhn]; exact wrap_u8 (by omega) (by omega)
    have w2 : IntKind.u8.wrap w.mi = (mn : Int) := by rw [hmnn]; exact wrap_u8 (by omega) (by omega)
    have w3 : IntKind.u8.wrap w.s = (sn : Int) := by rw [hsn]; exact wrap_u8 (by omega) (by omega)
    have hbs := fun H => bs3n H hn mn sn (by omega) (by omega) (by omega)
    simp only [List.length_cons, List.length_nil, whO, Wh.pay] at hA3
    generalize [UInt8.ofNat hn, UInt8.ofNat mn, UInt8.ofNat sn] = cl at *
    simp (maxSteps := 2000000) -implicitDefEqProofs [-getElem?_pos, List.getElem?_cons_zero, List.getElem?_cons_succ, go_sem, eqV, plen, loadV, storeV, whO, Wh.pay, hN4, w1, w2, w3, hbs, hA3, upd]

/-- what stands behind the clock, and returns -/
noncomputable def wnE : Option Code := ((Tryd.f21.body).bind cR).bind cR

set_option maxRecDepth 100000 in
set_option maxHeartbeats 4000000 in
theorem end_code (M : List UInt8) (g : Nat) (tl : AM.Frame) (ob : AM.Obj) (hw : RwT (.pb (l ++ M)) g tg ob) (hg : 1 ≤ g) (hl : (l ++ M).length ≤ 80000100) (hu : 0 ≤ w.us ∧ w.us < 4294967296) : ∃ code, wnE = some code ∧
    Tells (Rets fun fr H => ∃ ob' g' R, getF fr 6 = .sl 0 0 (l ++ (M ++ usB w)).length g' ∧ H = some ob' :: R ∧ RwT (.pb (l ++ (M ++ usB w))) g' tg ob' ∧ 1 ≤ g')
      X (evT X) 21 1 code ([(0, .sl 0 0 (l ++ M).length g), (4, .ptr 1 0 0 0)] ++ tl) [some ob, some (whO w), some nilB] := by
  refine ⟨_, rfl, ?_⟩
  have hg0 := hw.g
  unfold usB
  by_cases hus : w.us = 0
  · rw [if_pos hus, List.append_nil]
    refine Tells.of (o := ⟨.ret, [(6, .sl 0 0 (l ++ M).length g)], [some ob, some (whO w), some nilB]⟩) ⟨0, ?_⟩ ⟨rfl, ob, g, _, rfl, rfl, hw, hg⟩
    generalize (l ++ M).length = n at *
    simp (maxSteps := 2000000) -implicitDefEqProofs [-getElem?_pos, List.getElem?_cons_zero, List.getElem?_cons_succ, go_sem, eqV, plen, loadV, storeV, whO, Wh.pay, hus, assignV]
  · rw [if_neg hus]
    have husb : (w.us != 0) = true := by simpa using hus
    obtain ⟨un, hun⟩ : ∃ n : Nat, w.us = (n : Int) := ⟨w.us.toNat, by omega⟩
    have eu : w.us.toNat = un := by rw [hun]; simp
    rw [eu, ← List.append_assoc]
    have wd : IntKind.u64.wrap w.us = (un : Int) := by rw [hun]; exact wrap_u64 (by omega) (by omega)
    obtain ⟨ob2, hw2, hF⟩ := vfixed_ev (H := [some ob, some (whO w), some nilB]) (o := 0) (x := un) (n := 4) (N := 4) rfl hw rfl (by omega) (by omega) (by omega)
    refine Tells.of (o := ⟨.ret, [(6, .sl 0 0 ((l ++ M).length + 4) (g + 1))], [some ob2, some (whO w), some nilB]⟩) ⟨0, ?_⟩ ⟨rfl, ob2, g + 1, _, by rw [List.length_append (bs := leB 4 un), leB_len]; rfl, rfl, hw2, by omega⟩
    generalize (l ++ M).length = n at *
    simp only [whO, Wh.pay] at hF
    simp (maxSteps := 2000000) -implicitDefEqProofs [-getElem?_pos, List.getElem?_cons_zero, List.getElem?_cons_succ, go_sem, eqV, plen, loadV, storeV, whO, Wh.pay, husb, wd, hF, assignV, upd]

set_option maxRecDepth 100000 in
set_option maxHeartbeats 4000000 in
theorem when_code (t : Nat) (ob : AM.Obj) (hw : RwT (.pb l) 0 tg ob) (hl : l.length ≤ 80000000) (ht : t < 256) (hf : fin w t = true) : ∃ code, Tryd.f21.body = some code ∧
    Tells (Rets fun fr H => ∃ ob' g' R, getF fr 6 = .sl 0 0 (l ++ whB w t).length g' ∧ H = some ob' :: R ∧ RwT (.pb (l ++ whB w t)) g' tg ob' ∧ 1 ≤ g')
      X (evT X) 21 1 code [(0, .sl 0 0 l.length 0), (1, .agg w.pay), (2, .int .u8 (t : Nat))] [some ob] := by
  refine ⟨_, rfl, ?_⟩
  have hnn := fin_nn hf
  apply Tells.seq (fr' := [(0, .sl 0 0 l.length 0), (2, .int .u8 (t : Nat)), (4, .ptr 1 0 0 0)]) (H' := [some ob, some (whO w), some nilB])
  · (refine ⟨0, ?_⟩; simp (maxSteps := 2000000) -implicitDefEqProofs [-getElem?_pos, List.getElem?_cons_zero, List.getElem?_cons_succ, go_sem, eqV, plen, loadV, storeV, whO, Wh.pay, assignV, emB])
  by_cases hz : w = {}
  · have hwb : whB w t = [0] := by unfold whB spB moB; rw [if_pos hz, if_pos hz]; simp
    rw [hwb]
    obtain ⟨ob1, hw1, hA1⟩ := app_t (H := [some ob, some (whO w), some nilB]) (o := 0) (m := [0]) (src := .ro 1 (.pb [0]) 0) rfl hw (.inl rfl) (by simp; omega)
    have hE := fun H xo yo => eqWh w {} H xo yo
    rw [decide_eq_true hz] at hE
    simp only [Wh.pay, Int.cast_ofNat_Int] at hE
    have hb0 := bdW0
    have hbs := fun H => bsK H 0 0 rfl
    have hg1 := hw1.g
    refine Tells.of (o := ⟨.ret, [(6, .sl 0 0 (l.length + 1) 1)], [some ob1, some (whO w), some nilB]⟩) ?_ ⟨rfl, ob1, 1, _, by simp [getF], rfl, hw1, by omega⟩
    apply Run.seq_out (hne := by simp)
    simp only [List.length_cons, List.length_nil, whO, Wh.pay] at hA1
    generalize hz0 : (AV.pc [.bool false, .int .i64 0, .int .i64 0, .int .i64 0, .int .i64 0, .int .i64 0, .int .i64 0, .int .i64 0]) = pz at *
    by_cases h11 : t = 11
    · subst h11
      apply Run.seq (fr' := [(0, .sl 0 0 l.length 0), (4, .ptr 1 0 0 0), (10, .bool true)]) (H' := [some ob, some (whO w), some nilB])
      · (refine ⟨0, ?_⟩; simp (maxSteps := 2000000) -implicitDefEqProofs [-getElem?_pos, List.getElem?_cons_zero, List.getElem?_cons_succ, go_sem, eqV, plen, loadV, storeV])
      refine condT (by simp [evalO, getF]) ?_
      apply Run.seq_out (hne := by simp)
      refine Run.block ?_ (by simp)
      refine ⟨0, ?_⟩
      simp (maxSteps := 2000000) -implicitDefEqProofs [-getElem?_pos, List.getElem?_cons_zero, List.getElem?_cons_succ, go_sem, eqV, plen, loadV, storeV, -eqV, whO, Wh.pay, mkWh, hb0, hE, hbs, hA1, upd, assignV]
    · have h11b : ((t : Int) == 11) = false := by simp; omega
      apply Run.seq (fr' := [(0, .sl 0 0 l.length 0), (4, .ptr 1 0 0 0), (10, .bool false)]) (H' := [some ob, some (whO w), some nilB])
      · (refine ⟨0, ?_⟩; simp (maxSteps := 2000000) -implicitDefEqProofs [-getElem?_pos, List.getElem?_cons_zero, List.getElem?_cons_succ, go_sem, eqV, plen, loadV, storeV, h11b])
      refine condF (by simp [evalO, getF]) ?_
      apply Run.seq
      · (refine ⟨0, ?_⟩; conv => lhs; simp (maxSteps := 2000000) -implicitDefEqProofs [-getElem?_pos, List.getElem?_cons_zero, List.getElem?_cons_succ, go_sem, eqV, plen, loadV, storeV])
      apply Run.seq_out (hne := by simp)
      refine Run.block ?_ (by simp)
      refine ⟨0, ?_⟩
      simp (maxSteps := 2000000) -implicitDefEqProofs [-getElem?_pos, List.getElem?_cons_zero, List.getElem?_cons_succ, go_sem, eqV, plen, loadV, storeV, -eqV, whO, Wh.pay, mkWh, hb0, hE, hbs, hA1, upd, assignV]
  · by_cases h11 : t = 11
    · subst h11
      have hwb : whB w 11 = ((if w.us = 0 then 8 else 12) :: (if w.neg then 1 else 0) :: leB 4 w.d.toNat) ++ clB w ++ usB w := by unfold whB spB; rw [if_pos rfl, if_neg hz]
      rw [hwb]
      refine Tells.andThen (pieceF (span_code l w tg ob hw hl hf hz) _ rfl) ?_
      rintro fr H ⟨ob', g', rfl, rfl, hw', hg'⟩
      have hle : (l ++ (((if w.us = 0 then 8 else 12) :: (if w.neg then 1 else 0) :: leB 4 w.d.toNat) ++ clB w)).length = l.length + 9 := by simp [leB_len, clB]
      have := pieceF (end_code l w tg _ g' [] ob' hw' hg' (by omega) ⟨hnn.2.2.2.2.2.2.2.2.2.2.2.2.1, hnn.2.2.2.2.2.2.2.2.2.2.2.2.2⟩) _ rfl
      rw [hle] at this
      exact this
    · have hwb : whB w t = moM w ++ usB w := by unfold whB moB moM; rw [if_neg h11, if_neg hz]
      rw [hwb]
      refine Tells.andThen (pieceF (moment_code l w tg t ob hw hl ht h11 hf hz) _ rfl) ?_
      rintro fr H ⟨ob', g', tl, rfl, rfl, hw', hg'⟩
      have hle : (l ++ moM w).length ≤ l.length + 8 := by
        unfold moM
        split <;> simp [leB_len, clB]
      exact pieceF (end_code l w tg _ g' tl ob' hw' hg' (by omega) ⟨hnn.2.2.2.2.2.2.2.2.2.2.2.2.1, hnn.2.2.2.2.2.2.2.2.2.2.2.2.2⟩) _ rfl

end

end Go.Proofs.YtifgkkfchnfcaaaDoor

/- Walks: the check's choice. -/
namespace Go.Proofs.YtifgkkfchnfcaaaDoor
open Go.AM
set_option linter.unusedSimpArgs false
set_option linter.unusedVariables false

set_option maxRecDepth 100000 in
set_option maxHeartbeats 4000000 in
theorem ck1 (v : Va) (t : Ty) (k : Int) (n : Nat) (hbd : -1 ≤ k ∧ k ≤ 7) (hk0 : ¬ k < 0) (hsz : k = 1 ∨ k = 2 ∨ k = 3 ∨ k = 4 → n = 1 ∨ n = 2 ∨ n = 4 ∨ n = 8) (hF : evT X 34 [.agg v.w.pay, .int .u8 (t.t : Nat)] [some (vaO v), some (tyO t)] = some (.bool (fin v.w t.t), [some (vaO v), some (tyO t)])) (k1 : v.k = 1) : ∃ code, ckO = some code ∧
    Tells (Goes (ckP v t k n)) X (evT X) 15 0 code (ckFr k (v.k == k) (8 * n)) [some (vaO v), some (tyO t)] := by
  refine ⟨_, rfl, ?_⟩
  unfold ckP okVk
  rw [if_pos k1]
  by_cases hk1 : k = 1
  case neg =>
    have hkb : ((1 : Int) == k) = false := by simp; omega
    rw [decide_eq_false hk1]
    refine Tells.of (o := ⟨.normal, [(6, .bool false)], [some (vaO v), some (tyO t)]⟩) ⟨0, ?_⟩ ⟨rfl, rfl, .inl rfl⟩
    generalize 8 * n = n8 at *
    simp (maxSteps := 2000000) -implicitDefEqProofs [-getElem?_pos, List.getElem?_cons_zero, List.getElem?_cons_succ, go_sem, eqV, plen, loadV, storeV, vaO, tyO, Va.pay, ckFr, k1, hkb]
  subst hk1
  have hEq := fun H xo yo => eqVa v { k := 1, i := v.i } H xo yo
  have hbi := bdVi 1 v.i
  generalize hpz : (({ k := 1, i := v.i } : Va).pay) = pz at *
  generalize decide (v = { k := 1, i := v.i }) = e at *
  simp only [Va.pay] at hEq
  rw [k1] at hEq
  cases e with
  | false =>
    refine Tells.of (o := ⟨.normal, [(6, .bool false)], [some (vaO v), some (tyO t)]⟩) ⟨0, ?_⟩ ⟨rfl, rfl, .inl (by simp)⟩
    generalize 8 * n = n8 at *
    simp (maxSteps := 2000000) -implicitDefEqProofs [-getElem?_pos, List.getElem?_cons_zero, List.getElem?_cons_succ, go_sem, eqV, plen, loadV, storeV, -eqV, vaO, tyO, Va.pay, ckFr, k1, mkVa, hbi, hEq]
  | true =>
  have hn := hsz (.inl rfl)
  unfold okI
  rcases hn with rfl | rfl | rfl | rfl
  · have hq := fdiv_q (i := v.i) (m := 7) _ rfl
    have e1 : (decide (8 ≤ 1) || decide (-(2 ^ (8 * 1 - 1)) ≤ v.i ∧ v.i < 2 ^ (8 * 1 - 1))) = ((v.i.fdiv 128 == 0) || (v.i.fdiv 128 == -1)) := by rw [show (128 : Int) = 2 ^ 7 from rfl, hq]; simp
    rw [e1]
    clear e1 hq
    generalize hq2 : v.i.fdiv 128 = q at *
    by_cases q0 : q = 0
    · refine Tells.of (o := ⟨.normal, [(6, .bool true)], [some (vaO v), some (tyO t)]⟩) ⟨0, ?_⟩ ⟨rfl, rfl, .inl (by simp [q0])⟩
      simp (maxSteps := 2000000) -implicitDefEqProofs [-getElem?_pos, List.getElem?_cons_zero, List.getElem?_cons_succ, go_sem, eqV, plen, loadV, storeV, -eqV, vaO, tyO, Va.pay, ckFr, k1, mkVa, hbi, hEq, hq2, q0, minmax, show IntKind.i64.bits = 64 from rfl, show IntKind.i64.wrap 7 = 7 from rfl, show IntKind.i64.wrap 15 = 15 from rfl, show IntKind.i64.wrap 31 = 31 from rfl, show IntKind.i64.wrap 63 = 63 from rfl]
    have q0b : (q == 0) = false := by simpa using q0
    by_cases q1 : q = -1
    · refine Tells.of (o := ⟨.normal, [(6, .bool true)], [some (vaO v), some (tyO t)]⟩) ⟨0, ?_⟩ ⟨rfl, rfl, .inl (by simp [q1])⟩
      simp (maxSteps := 2000000) -implicitDefEqProofs [-getElem?_pos, List.getElem?_cons_zero, List.getElem?_cons_succ, go_sem, eqV, plen, loadV, storeV, -eqV, vaO, tyO, Va.pay, ckFr, k1, mkVa, hbi, hEq, hq2, q1, minmax, show IntKind.i64.bits = 64 from rfl, show IntKind.i64.wrap 7 = 7 from rfl, show IntKind.i64.wrap 15 = 15 from rfl, show IntKind.i64.wrap 31 = 31 from rfl, show IntKind.i64.wrap 63 = 63 from rfl]
    have q1b : (q == -1) = false := by simpa using q1
    refine Tells.of (o := ⟨.normal, [(6, .bool false)], [some (vaO v), some (tyO t)]⟩) ⟨0, ?_⟩ ⟨rfl, rfl, .inl (by simp [q0, q1])⟩
    simp (maxSteps := 2000000) -implicitDefEqProofs [-getElem?_pos, List.getElem?_cons_zero, List.getElem?_cons_succ, go_sem, eqV, plen, loadV, storeV, -eqV, vaO, tyO, Va.pay, ckFr, k1, mkVa, hbi, hEq, hq2, q0b, q1b, minmax, show IntKind.i64.bits = 64 from rfl, show IntKind.i64.wrap 7 = 7 from rfl, show IntKind.i64.wrap 15 = 15 from rfl, show IntKind.i64.wrap 31 = 31 from rfl, show IntKind.i64.wrap 63 = 63 from rfl]
  · have hq := fdiv_q (i := v.i) (m := 15) _ rfl
    have e1 : (decide (8 ≤ 2) || decide (-(2 ^ (8 * 2 - 1)) ≤ v.i ∧ v.i < 2 ^ (8 * 2 - 1))) = ((v.i.fdiv 32768 == 0) || (v.i.fdiv 32768 == -1)) := by rw [show (32768 : Int) = 2 ^ 15 from rfl, hq]; simp
    rw [e1]
    clear e1 hq
    generalize hq2 : v.i.fdiv 32768 = q at *
    by_cases q0 : q = 0
    · refine Tells.of (o := ⟨.normal, [(6, .bool true)], [some (vaO v), some (tyO t)]⟩) ⟨0, ?_⟩ ⟨rfl, rfl, .inl (by simp [q0])⟩
      simp (maxSteps := 2000000) -implicitDefEqProofs [-getElem?_pos, List.getElem?_cons_zero, List.getElem?_cons_succ, go_sem, eqV, plen, loadV, storeV, -eqV, vaO, tyO, Va.pay, ckFr, k1, mkVa, hbi, hEq, hq2, q0, minmax, show IntKind.i64.bits = 64 from rfl, show IntKind.i64.wrap 7 = 7 from rfl, show IntKind.i64.wrap 15 = 15 from rfl, show IntKind.i64.wrap 31 = 31 from rfl, show IntKind.i64.wrap 63 = 63 from rfl]
    have q0b : (q == 0) = false := by simpa using q0
    by_cases q1 : q = -1
    · refine Tells.of (o := ⟨.normal, [(6, .bool true)], [some (vaO v), some (tyO t)]⟩) ⟨0, ?_⟩ ⟨rfl, rfl, .inl (by simp [q1])⟩
      simp (maxSteps := 2000000) -implicitDefEqProofs [-getElem?_pos, List.getElem?_cons_zero, List.getElem?_cons_succ, go_sem, eqV, plen, loadV, storeV, -eqV, vaO, tyO, Va.pay, ckFr, k1, mkVa, hbi, hEq, hq2, q1, minmax, show IntKind.i64.bits = 64 from rfl, show IntKind.i64.wrap 7 = 7 from rfl, show IntKind.i64.wrap 15 = 15 from rfl, show IntKind.i64.wrap 31 = 31 from rfl, show IntKind.i64.wrap 63 = 63 from rfl]
    have q1b : (q == -1) = false := by simpa using q1
    refine Tells.of (o := ⟨.normal, [(6, .bool false)], [some (vaO v), some (tyO t)]⟩) ⟨0, ?_⟩ ⟨rfl, rfl, .inl (by simp [q0, q1])⟩
    simp (maxSteps := 2000000) -implicitDefEqProofs [-getElem?_pos, List.getElem?_cons_zero, List.getElem?_cons_succ, go_sem, eqV, plen, loadV, storeV, -eqV, vaO, tyO, Va.pay, ckFr, k1, mkVa, hbi, hEq, hq2, q0b, q1b, minmax, show IntKind.i64.bits = 64 from rfl, show IntKind.i64.wrap 7 = 7 from rfl, show IntKind.i64.wrap 15 = 15 from rfl, show IntKind.i64.wrap 31 = 31 from rfl, show IntKind.i64.wrap 63 = 63 from rfl]
  · have hq := fdiv_q (i := v.i) (m := 31) _ rfl
    have e1 : (decide (8 ≤ 4) || decide (-(2 ^ (8 * 4 - 1)) ≤ v.i ∧ v.i < 2 ^ (8 * 4 - 1))) = ((v.i.fdiv 2147483648 == 0) || (v.i.fdiv 2147483648 == -1)) := by rw [show (2147483648 : Int) = 2 ^ 31 from rfl, hq]; simp
    rw [e1]
    clear e1 hq
    generalize hq2 : v.i.fdiv 2147483648 = q at *
    by_cases q0 : q = 0
    · refine Tells.of (o := ⟨.normal, [(6, .bool true)], [some (vaO v), some (tyO t)]⟩) ⟨0, ?_⟩ ⟨rfl, rfl, .inl (by simp [q0])⟩
      simp (maxSteps := 2000000) -implicitDefEqProofs [-getElem?_pos, List.getElem?_cons_zero, List.getElem?_cons_succ, go_sem, eqV, plen, loadV, storeV, -eqV, vaO, tyO, Va.pay, ckFr, k1, mkVa, hbi, hEq, hq2, q0, minmax, show IntKind.i64.bits = 64 from rfl, show IntKind.i64.wrap 7 = 7 from rfl, show IntKind.i64.wrap 15 = 15 from rfl, show IntKind.i64.wrap 31 = 31 from rfl, show IntKind.i64.wrap 63 = 63 from rfl]
    have q0b : (q == 0) = false := by simpa using q0
    by_cases q1 : q = -1
    · refine Tells.of (o := ⟨.normal, [(6, .bool true)], [some (vaO v), some (tyO t)]⟩) ⟨0, ?_⟩ ⟨rfl, rfl, .inl (by simp [q1])⟩
      simp (maxSteps := 2000000) -implicitDefEqProofs [-getElem?_pos, List.getElem?_cons_zero, List.getElem?_cons_succ, go_sem, eqV, plen, loadV, storeV, -eqV, vaO, tyO, Va.pay, ckFr, k1, mkVa, hbi, hEq, hq2, q1, minmax, show IntKind.i64.bits = 64 from rfl, show IntKind.i64.wrap 7 = 7 from rfl, show IntKind.i64.wrap 15 = 15 from rfl, show IntKind.i64.wrap 31 = 31 from rfl, show IntKind.i64.wrap 63 = 63 from rfl]
    have q1b : (q == -1) = false := by simpa using q1
    refine Tells.of (o := ⟨.normal, [(6, .bool false)], [some (vaO v), some (tyO t)]⟩) ⟨0, ?_⟩ ⟨rfl, rfl, .inl (by simp [q0, q1])⟩
    simp (maxSteps := 2000000) -implicitDefEqProofs [-getElem?_pos, List.getElem?_cons_zero, List.getElem?_cons_succ, go_sem, eqV, plen, loadV, storeV, -eqV, vaO, tyO, Va.pay, ckFr, k1, mkVa, hbi, hEq, hq2, q0b, q1b, minmax, show IntKind.i64.bits = 64 from rfl, show IntKind.i64.wrap 7 = 7 from rfl, show IntKind.i64.wrap 15 = 15 from rfl, show IntKind.i64.wrap 31 = 31 from rfl, show IntKind.i64.wrap 63 = 63 from rfl]
  · have e1 : (decide (8 ≤ 8) || decide (-(2 ^ (8 * 8 - 1)) ≤ v.i ∧ v.i < 2 ^ (8 * 8 - 1))) = true := by simp
    rw [e1]
    refine Tells.of (o := ⟨.normal, [(6, .bool true)], [some (vaO v), some (tyO t)]⟩) ⟨0, ?_⟩ ⟨rfl, rfl, .inl (by simp)⟩
    simp (maxSteps := 2000000) -implicitDefEqProofs [-getElem?_pos, List.getElem?_cons_zero, List.getElem?_cons_succ, go_sem, eqV, plen, loadV, storeV, -eqV, vaO, tyO, Va.pay, ckFr, k1, mkVa, hbi, hEq, minmax, show IntKind.i64.bits = 64 from rfl, show IntKind.i64.wrap 7 = 7 from rfl, show IntKind.i64.wrap 15 = 15 from rfl, show IntKind.i64.wrap 31 = 31 from rfl, show IntKind.i64.wrap 63 = 63 from rfl]

end Go.Proofs.YtifgkkfchnfcaaaDoor

/- Walks: the check's choice. -/
namespace Go.Proofs.YtifgkkfchnfcaaaDoor
open Go.AM
set_option linter.unusedSimpArgs false
set_option linter.unusedVariables false

set_option maxRecDepth 100000 in
set_option maxHeartbeats 4000000 in
theorem ck234 (v : Va) (t : Ty) (k : Int) (n : Nat) (hbd : -1 ≤ k ∧ k ≤ 7) (hk0 : ¬ k < 0) (hsz : k = 1 ∨ k = 2 ∨ k = 3 ∨ k = 4 → n = 1 ∨ n = 2 ∨ n = 4 ∨ n = 8) (hF : evT X 34 [.agg v.w.pay, .int .u8 (t.t : Nat)] [some (vaO v), some (tyO t)] = some (.bool (fin v.w t.t), [some (vaO v), some (tyO t)])) (k234 : v.k = 2 ∨ v.k = 3 ∨ v.k = 4) : ∃ code, ckO = some code ∧
    Tells (Goes (ckP v t k n)) X (evT X) 15 0 code (ckFr k (v.k == k) (8 * n)) [some (vaO v), some (tyO t)] := by
  refine ⟨_, rfl, ?_⟩
  unfold ckP okVk
  have k1 : ¬ v.k = 1 := by omega
  rw [if_neg k1, if_pos k234]
  by_cases hk1 : k = v.k
  case neg =>
    have hkb : (v.k == k) = false := by simp; omega
    rw [decide_eq_false hk1]
    refine Tells.of (o := ⟨.normal, [(6, .bool false)], [some (vaO v), some (tyO t)]⟩) ⟨0, ?_⟩ ⟨rfl, rfl, .inl rfl⟩
    generalize 8 * n = n8 at *
    rcases k234 with kv | kv | kv
    · rw [kv] at hkb
      simp (maxSteps := 2000000) -implicitDefEqProofs [-getElem?_pos, List.getElem?_cons_zero, List.getElem?_cons_succ, go_sem, eqV, plen, loadV, storeV, vaO, tyO, Va.pay, ckFr, kv, hkb]
    · rw [kv] at hkb
      simp (maxSteps := 2000000) -implicitDefEqProofs [-getElem?_pos, List.getElem?_cons_zero, List.getElem?_cons_succ, go_sem, eqV, plen, loadV, storeV, vaO, tyO, Va.pay, ckFr, kv, hkb]
    · rw [kv] at hkb
      simp (maxSteps := 2000000) -implicitDefEqProofs [-getElem?_pos, List.getElem?_cons_zero, List.getElem?_cons_succ, go_sem, eqV, plen, loadV, storeV, vaO, tyO, Va.pay, ckFr, kv, hkb]
  subst hk1
  have hn := hsz (by omega)
  have hEq := fun H xo yo => eqVa v { k := v.k, b := v.b } H xo yo
  have hbi := bdVb v.k v.b
  generalize hpz : (({ k := v.k, b := v.b } : Va).pay) = pz at *
  generalize decide (v = { k := v.k, b := v.b }) = e at *
  simp only [Va.pay] at hEq
  cases e with
  | false =>
    refine Tells.of (o := ⟨.normal, [(6, .bool false)], [some (vaO v), some (tyO t)]⟩) ⟨0, ?_⟩ ⟨rfl, rfl, .inl (by simp)⟩
    generalize 8 * n = n8 at *
    rcases k234 with kv | kv | kv
    · rw [kv] at hEq hbi
      simp (maxSteps := 2000000) -implicitDefEqProofs [-getElem?_pos, List.getElem?_cons_zero, List.getElem?_cons_succ, go_sem, eqV, plen, loadV, storeV, -eqV, vaO, tyO, Va.pay, ckFr, kv, mkVa, hbi, hEq]
    · rw [kv] at hEq hbi
      simp (maxSteps := 2000000) -implicitDefEqProofs [-getElem?_pos, List.getElem?_cons_zero, List.getElem?_cons_succ, go_sem, eqV, plen, loadV, storeV, -eqV, vaO, tyO, Va.pay, ckFr, kv, mkVa, hbi, hEq]
    · rw [kv] at hEq hbi
      simp (maxSteps := 2000000) -implicitDefEqProofs [-getElem?_pos, List.getElem?_cons_zero, List.getElem?_cons_succ, go_sem, eqV, plen, loadV, storeV, -eqV, vaO, tyO, Va.pay, ckFr, kv, mkVa, hbi, hEq]
  | true =>
  unfold okB
  clear hpz
  have main : ∀ kk : Int, v.k = kk → (kk = 2 ∨ kk = 3 ∨ kk = 4) → True := fun _ _ _ => trivial
  rcases hn with rfl | rfl | rfl | rfl
  · have e1 : (decide (8 ≤ 1) || decide (v.b < 2 ^ (8 * 1))) = ((v.b / 256 : Nat) == 0) := by rw [Bool.eq_iff_iff]; first | (simp; done) | (simp; omega)
    rw [e1]
    clear e1
    have hd : Int.fdiv (v.b : Int) 256 = ((v.b / 256 : Nat) : Int) := by
      rw [Int.fdiv_eq_ediv_of_nonneg _ (by decide)]; exact (Int.natCast_ediv _ _).symm
    generalize v.b / 256 = q at *
    have hqb : ((q : Int) == 0) = (q == 0) := by rw [Bool.eq_iff_iff]; simp
    generalize hqq : (q == 0) = qb at *
    refine Tells.of (o := ⟨.normal, [(6, .bool qb)], [some (vaO v), some (tyO t)]⟩) ⟨0, ?_⟩ ⟨rfl, rfl, .inl (by simp)⟩
    rcases k234 with kv | kv | kv
    · rw [kv] at hEq hbi
      simp (maxSteps := 2000000) -implicitDefEqProofs [-getElem?_pos, List.getElem?_cons_zero, List.getElem?_cons_succ, go_sem, eqV, plen, loadV, storeV, -eqV, vaO, tyO, Va.pay, ckFr, kv, mkVa, hbi, hEq, hd, hqb, show IntKind.u64.bits = 64 from rfl]
    · rw [kv] at hEq hbi
      simp (maxSteps := 2000000) -implicitDefEqProofs [-getElem?_pos, List.getElem?_cons_zero, List.getElem?_cons_succ, go_sem, eqV, plen, loadV, storeV, -eqV, vaO, tyO, Va.pay, ckFr, kv, mkVa, hbi, hEq, hd, hqb, show IntKind.u64.bits = 64 from rfl]
    · rw [kv] at hEq hbi
      simp (maxSteps := 2000000) -implicitDefEqProofs [-getElem?_pos, List.getElem?_cons_zero, List.getElem?_cons_succ, go_sem, eqV, plen, loadV, storeV, -eqV, vaO, tyO, Va.pay, ckFr, kv, mkVa, hbi, hEq, hd, hqb, show IntKind.u64.bits = 64 from rfl]
  · have e1 : (decide (8 ≤ 2) || decide (v.b < 2 ^ (8 * 2))) = ((v.b / 65536 : Nat) == 0) := by rw [Bool.eq_iff_iff]; first | (simp; done) | (simp; omega)
    rw [e1]
    clear e1
    have hd : Int.fdiv (v.b : Int) 65536 = ((v.b / 65536 : Nat) : Int) := by
      rw [Int.fdiv_eq_ediv_of_nonneg _ (by decide)]; exact (Int.natCast_ediv _ _).symm
    generalize v.b / 65536 = q at *
    have hqb : ((q : Int) == 0) = (q == 0) := by rw [Bool.eq_iff_iff]; simp
    generalize hqq : (q == 0) = qb at *
    refine Tells.of (o := ⟨.normal, [(6, .bool qb)], [some (vaO v), some (tyO t)]⟩) ⟨0, ?_⟩ ⟨rfl, rfl, .inl (by simp)⟩
    rcases k234 with kv | kv | kv
    · rw [kv] at hEq hbi
      simp (maxSteps := 2000000) -implicitDefEqProofs [-getElem?_pos, List.getElem?_cons_zero, List.getElem?_cons_succ, go_sem, eqV, plen, loadV, storeV, -eqV, vaO, tyO, Va.pay, ckFr, kv, mkVa, hbi, hEq, hd, hqb, show IntKind.u64.bits = 64 from rfl]
    · rw [kv] at hEq hbi
      simp (maxSteps := 2000000) -implicitDefEqProofs [-getElem?_pos, List.getElem?_cons_zero, List.getElem?_cons_succ, go_sem, eqV, plen, loadV, storeV, -eqV, vaO, tyO, Va.pay, ckFr, kv, mkVa, hbi, hEq, hd, hqb, show IntKind.u64.bits = 64 from rfl]
    · rw [kv] at hEq hbi
      simp (maxSteps := 2000000) -implicitDefEqProofs [-getElem?_pos, List.getElem?_cons_zero, List.getElem?_cons_succ, go_sem, eqV, plen, loadV, storeV, -eqV, vaO, tyO, Va.pay, ckFr, kv, mkVa, hbi, hEq, hd, hqb, show IntKind.u64.bits = 64 from rfl]
  · have e1 : (decide (8 ≤ 4) || decide (v.b < 2 ^ (8 * 4))) = ((v.b / 4294967296 : Nat) == 0) := by rw [Bool.eq_iff_iff]; first | (simp; done) | (simp; omega)
    rw [e1]
    clear e1
    have hd : Int.fdiv (v.b : Int) 4294967296 = ((v.b / 4294967296 : Nat) : Int) := by
      rw [Int.fdiv_eq_ediv_of_nonneg _ (by decide)]; exact (Int.natCast_ediv _ _).symm
    generalize v.b / 4294967296 = q at *
    have hqb : ((q : Int) == 0) = (q == 0) := by rw [Bool.eq_iff_iff]; simp
    generalize hqq : (q == 0) = qb at *
    refine Tells.of (o := ⟨.normal, [(6, .bool qb)], [some (vaO v), some (tyO t)]⟩) ⟨0, ?_⟩ ⟨rfl, rfl, .inl (by simp)⟩
    rcases k234 with kv | kv | kv
    · rw [kv] at hEq hbi
      simp (maxSteps := 2000000) -implicitDefEqProofs [-getElem?_pos, List.getElem?_cons_zero, List.getElem?_cons_succ, go_sem, eqV, plen, loadV, storeV, -eqV, vaO, tyO, Va.pay, ckFr, kv, mkVa, hbi, hEq, hd, hqb, show IntKind.u64.bits = 64 from rfl]
    · rw [kv] at hEq hbi
      simp (maxSteps := 2000000) -implicitDefEqProofs [-getElem?_pos, List.getElem?_cons_zero, List.getElem?_cons_succ, go_sem, eqV, plen, loadV, storeV, -eqV, vaO, tyO, Va.pay, ckFr, kv, mkVa, hbi, hEq, hd, hqb, show IntKind.u64.bits = 64 from rfl]
    · rw [kv] at hEq hbi
      simp (maxSteps := 2000000) -implicitDefEqProofs [-getElem?_pos, List.getElem?_cons_zero, List.getElem?_cons_succ, go_sem, eqV, plen, loadV, storeV, -eqV, vaO, tyO, Va.pay, ckFr, kv, mkVa, hbi, hEq, hd, hqb, show IntKind.u64.bits = 64 from rfl]
  · have e1 : (decide (8 ≤ 8) || decide (v.b < 2 ^ (8 * 8))) = true := by simp
    rw [e1]
    refine Tells.of (o := ⟨.normal, [(6, .bool true)], [some (vaO v), some (tyO t)]⟩) ⟨0, ?_⟩ ⟨rfl, rfl, .inl (by simp)⟩
    rcases k234 with kv | kv | kv
    · rw [kv] at hEq hbi
      simp (maxSteps := 2000000) -implicitDefEqProofs [-getElem?_pos, List.getElem?_cons_zero, List.getElem?_cons_succ, go_sem, eqV, plen, loadV, storeV, -eqV, vaO, tyO, Va.pay, ckFr, kv, mkVa, hbi, hEq]
    · rw [kv] at hEq hbi
      simp (maxSteps := 2000000) -implicitDefEqProofs [-getElem?_pos, List.getElem?_cons_zero, List.getElem?_cons_succ, go_sem, eqV, plen, loadV, storeV, -eqV, vaO, tyO, Va.pay, ckFr, kv, mkVa, hbi, hEq]
    · rw [kv] at hEq hbi
      simp (maxSteps := 2000000) -implicitDefEqProofs [-getElem?_pos, List.getElem?_cons_zero, List.getElem?_cons_succ, go_sem, eqV, plen, loadV, storeV, -eqV, vaO, tyO, Va.pay, ckFr, kv, mkVa, hbi, hEq]

end Go.Proofs.YtifgkkfchnfcaaaDoor

/- Walks: the check's choice. -/
namespace Go.Proofs.YtifgkkfchnfcaaaDoor
open Go.AM
set_option linter.unusedSimpArgs false
set_option linter.unusedVariables false

set_option maxRecDepth 100000 in
set_option maxHeartbeats 4000000 in
theorem ckR (v : Va) (t : Ty) (k : Int) (n : Nat) (hbd : -1 ≤ k ∧ k ≤ 7) (hk0 : ¬ k < 0) (hsz : k = 1 ∨ k = 2 ∨ k = 3 ∨ k = 4 → n = 1 ∨ n = 2 ∨ n = 4 ∨ n = 8) (hF : evT X 34 [.agg v.w.pay, .int .u8 (t.t : Nat)] [some (vaO v), some (tyO t)] = some (.bool (fin v.w t.t), [some (vaO v), some (tyO t)])) (k1 : ¬ v.k = 1) (k234 : ¬ (v.k = 2 ∨ v.k = 3 ∨ v.k = 4)) : ∃ code, ckO = some code ∧
    Tells (Goes (ckP v t k n)) X (evT X) 15 0 code (ckFr k (v.k == k) (8 * n)) [some (vaO v), some (tyO t)] := by
  refine ⟨_, rfl, ?_⟩
  unfold ckP okVk
  have k1b : (v.k == 1) = false := by simpa using k1
  rw [if_neg k1]
  have k2b : (v.k == 2) = false := by simp; omega
  have k3b : (v.k == 3) = false := by simp; omega
  have k4b : (v.k == 4) = false := by simp; omega
  rw [if_neg k234]
  generalize 8 * n = n8 at *
  by_cases k56 : v.k = 5 ∨ v.k = 6
  · rw [if_pos k56]
    by_cases hk1 : k = v.k
    case neg =>
      have hkb : (v.k == k) = false := by simp; omega
      rw [decide_eq_false hk1]
      refine Tells.of (o := ⟨.normal, [(6, .bool false)], [some (vaO v), some (tyO t)]⟩) ⟨0, ?_⟩ ⟨rfl, rfl, .inl rfl⟩
      rcases k56 with kv | kv
      · rw [kv] at hkb
        simp (maxSteps := 2000000) -implicitDefEqProofs [-getElem?_pos, List.getElem?_cons_zero, List.getElem?_cons_succ, go_sem, eqV, plen, loadV, storeV, vaO, tyO, Va.pay, ckFr, kv, hkb]
      · rw [kv] at hkb
        simp (maxSteps := 2000000) -implicitDefEqProofs [-getElem?_pos, List.getElem?_cons_zero, List.getElem?_cons_succ, go_sem, eqV, plen, loadV, storeV, vaO, tyO, Va.pay, ckFr, kv, hkb]
    subst hk1
    have hEq := fun H xo yo => eqVa v { k := v.k, w := v.w } H xo yo
    have hbi := bdVw v.k v.w
    generalize hpz : (({ k := v.k, w := v.w } : Va).pay) = pz at *
    generalize decide (v = { k := v.k, w := v.w }) = e at *
    clear hpz
    simp only [Va.pay] at hEq
    simp only [Wh.pay] at hbi
    cases e with
    | false =>
      refine Tells.of (o := ⟨.normal, [(6, .bool false)], [some (vaO v), some (tyO t)]⟩) ⟨0, ?_⟩ ⟨rfl, rfl, .inl (by simp)⟩
      rcases k56 with kv | kv
      · rw [kv] at hEq hbi
        simp (maxSteps := 2000000) -implicitDefEqProofs [-getElem?_pos, List.getElem?_cons_zero, List.getElem?_cons_succ, go_sem, eqV, plen, loadV, storeV, -eqV, vaO, tyO, Va.pay, ckFr, kv, mkVa, mkWh, hbi, hEq]
      · rw [kv] at hEq hbi
        simp (maxSteps := 2000000) -implicitDefEqProofs [-getElem?_pos, List.getElem?_cons_zero, List.getElem?_cons_succ, go_sem, eqV, plen, loadV, storeV, -eqV, vaO, tyO, Va.pay, ckFr, kv, mkVa, mkWh, hbi, hEq]
    | true =>
    refine Tells.of (o := ⟨.normal, [(6, .bool (fin v.w t.t))], [some (vaO v), some (tyO t)]⟩) ⟨0, ?_⟩ ⟨rfl, rfl, .inl (by simp)⟩
    simp only [vaO, tyO, Va.pay, Ty.pay, Wh.pay] at hF
    generalize fin v.w t.t = fb at *
    rcases k56 with kv | kv
    · rw [kv] at hEq hbi hF
      simp (maxSteps := 2000000) -implicitDefEqProofs [-getElem?_pos, List.getElem?_cons_zero, List.getElem?_cons_succ, go_sem, eqV, plen, loadV, storeV, -eqV, vaO, tyO, Va.pay, Ty.pay, ckFr, kv, mkVa, mkWh, hbi, hEq, hF]
    · rw [kv] at hEq hbi hF
      simp (maxSteps := 2000000) -implicitDefEqProofs [-getElem?_pos, List.getElem?_cons_zero, List.getElem?_cons_succ, go_sem, eqV, plen, loadV, storeV, -eqV, vaO, tyO, Va.pay, Ty.pay, ckFr, kv, mkVa, mkWh, hbi, hEq, hF]
  have k5b : (v.k == 5) = false := by simp; omega
  have k6b : (v.k == 6) = false := by simp; omega
  rw [if_neg k56]
  by_cases k7 : v.k = 7
  · rw [if_pos k7]
    by_cases hk1 : k = 7
    case neg =>
      have hkb : ((7 : Int) == k) = false := by simp; omega
      rw [decide_eq_false hk1]
      refine Tells.of (o := ⟨.normal, [(6, .bool false)], [some (vaO v), some (tyO t)]⟩) ⟨0, ?_⟩ ⟨rfl, rfl, .inl rfl⟩
      simp (maxSteps := 2000000) -implicitDefEqProofs [-getElem?_pos, List.getElem?_cons_zero, List.getElem?_cons_succ, go_sem, eqV, plen, loadV, storeV, vaO, tyO, Va.pay, ckFr, k7, hkb]
    subst hk1
    have hEq := fun H xo yo => eqVa v { k := 7, t := v.t } H xo yo
    have hbi := bdVt 7 v.t
    generalize hpz : (({ k := 7, t := v.t } : Va).pay) = pz at *
    generalize decide (v = { k := 7, t := v.t }) = e at *
    clear hpz
    simp only [Va.pay] at hEq
    rw [k7] at hEq
    cases e with
    | false =>
      refine Tells.of (o := ⟨.normal, [(6, .bool false)], [some (vaO v), some (tyO t)]⟩) ⟨0, ?_⟩ ⟨rfl, rfl, .inl (by simp)⟩
      simp (maxSteps := 2000000) -implicitDefEqProofs [-getElem?_pos, List.getElem?_cons_zero, List.getElem?_cons_succ, go_sem, eqV, plen, loadV, storeV, -eqV, vaO, tyO, Va.pay, ckFr, k7, mkVa, hbi, hEq]
    | true =>
    have hl : decide ((v.t.length : Int) ≤ 16777216) = decide (v.t.length ≤ 16777216) := by rw [decide_eq_decide]; omega
    generalize decide (v.t.length ≤ 16777216) = lb at *
    refine Tells.of (o := ⟨.normal, [(6, .bool lb)], [some (vaO v), some (tyO t)]⟩) ⟨0, ?_⟩ ⟨rfl, rfl, .inl (by simp)⟩
    simp (maxSteps := 2000000) -implicitDefEqProofs [-getElem?_pos, List.getElem?_cons_zero, List.getElem?_cons_succ, go_sem, eqV, plen, loadV, storeV, -eqV, vaO, tyO, Va.pay, ckFr, k7, mkVa, hbi, hEq, hl]
  have k7b : (v.k == 7) = false := by simpa using k7
  rw [if_neg k7]
  by_cases k0 : v.k = 0
  · refine Tells.of (o := ⟨.normal, [(6, .bool false)], [some (vaO v), some (tyO t)]⟩) ⟨0, ?_⟩ ⟨rfl, rfl, .inl rfl⟩
    simp (maxSteps := 2000000) -implicitDefEqProofs [-getElem?_pos, List.getElem?_cons_zero, List.getElem?_cons_succ, go_sem, eqV, plen, loadV, storeV, vaO, tyO, Va.pay, ckFr, k0]
  have k0b : (v.k == 0) = false := by simpa using k0
  have hkb : (v.k == k) = false := by simp; omega
  refine Tells.of (o := ⟨.normal, [(2, .ptr 0 0 0 0), (5, .int .i64 k), (6, .bool false), (103, .bool false)], [some (vaO v), some (tyO t)]⟩) ⟨0, ?_⟩ ⟨rfl, rfl, .inr rfl⟩
  simp (maxSteps := 2000000) -implicitDefEqProofs [-getElem?_pos, List.getElem?_cons_zero, List.getElem?_cons_succ, go_sem, eqV, plen, loadV, storeV, vaO, tyO, Va.pay, ckFr, hkb, k0b, k1b, k2b, k3b, k4b, k5b, k6b, k7b]

end Go.Proofs.YtifgkkfchnfcaaaDoor

/- Walks: the check of a value, whole. -/
namespace Go.Proofs.YtifgkkfchnfcaaaDoor
open Go.AM
set_option linter.unusedSimpArgs false
set_option linter.unusedVariables false

theorem pieceT {O : Option Code} {P : Code → Prop} (h : ∃ code, O = some code ∧ P code) (code' : Code) (h' : O = some code') : P code' := by
  obtain ⟨c, h1, h2⟩ := h
  rw [h'] at h1
  exact (Option.some.inj h1) ▸ h2

section
variable (v : Va) (t : Ty)

set_option maxRecDepth 100000 in
set_option maxHeartbeats 4000000 in
theorem check_code (ht : t.t < 256) (hb : v.b < 18446744073709551616) (hi : -9223372036854775808 ≤ v.i ∧ v.i < 9223372036854775808) : ∃ code, Tryd.f15.body = some code ∧
    Tells (Rets fun fr H => getF fr 4 = .int .i64 (chkV v t)) X (evT X) 15 0 code [(0, .agg v.pay), (1, .agg t.pay)] [] := by
  refine ⟨_, rfl, ?_⟩
  have hK := kind_ev ht [some (vaO v), some (tyO t)]
  have hS := size_ev' ht [some (vaO v), some (tyO t)]
  have hF := fin_ev v.w ht [some (vaO v), some (tyO t)]
  have hbd := kind_bd t.t t.u
  have hsz := size_num (t := t.t) (u := t.u)
  have hn8 : sizeN t.t ≤ 8 := by unfold sizeN; repeat' split
                                 all_goals omega
  unfold chkV okVa
  apply Tells.seq (fr' := [(2, .ptr 0 0 0 0), (3, .ptr 1 0 0 0)]) (H' := [some (vaO v), some (tyO t)])
  · (refine ⟨0, ?_⟩; simp (maxSteps := 2000000) -implicitDefEqProofs [-getElem?_pos, List.getElem?_cons_zero, List.getElem?_cons_succ, go_sem, eqV, plen, loadV, storeV, vaO, tyO, Va.pay, Ty.pay])
  apply Tells.seq (fr' := [(2, .ptr 0 0 0 0), (3, .ptr 1 0 0 0), (5, .int .i64 (kindN t.t t.u))]) (H' := [some (vaO v), some (tyO t)])
  · clear hS hF
    simp only [vaO, tyO, Va.pay, Ty.pay] at hK
    generalize kindN t.t t.u = k at *
    (refine ⟨0, ?_⟩; simp (maxSteps := 2000000) -implicitDefEqProofs [-getElem?_pos, List.getElem?_cons_zero, List.getElem?_cons_succ, go_sem, eqV, plen, loadV, storeV, vaO, tyO, Va.pay, Ty.pay, mkTy, hK])
  clear hK
  generalize kindN t.t t.u = k at *
  by_cases hk0 : k < 0
  · rw [if_pos hk0]
    refine Tells.of (o := ⟨.ret, [(4, .int .i64 2)], [some (vaO v), some (tyO t)]⟩) ?_ ⟨rfl, rfl⟩
    apply Run.seq_out (hne := by simp)
    refine ⟨0, ?_⟩
    simp (maxSteps := 2000000) -implicitDefEqProofs [-getElem?_pos, List.getElem?_cons_zero, List.getElem?_cons_succ, go_sem, eqV, plen, loadV, storeV, hk0]
  rw [if_neg hk0]
  apply Tells.seq (fr' := [(2, .ptr 0 0 0 0), (3, .ptr 1 0 0 0), (5, .int .i64 k), (11, .bool false)]) (H' := [some (vaO v), some (tyO t)])
  · (refine ⟨0, ?_⟩; simp (maxSteps := 2000000) -implicitDefEqProofs [-getElem?_pos, List.getElem?_cons_zero, List.getElem?_cons_succ, go_sem, eqV, plen, loadV, storeV, hk0])
  have hE0 := fun H xo yo => eqVa v {} H xo yo
  by_cases hz : v = {}
  · rw [if_pos hz]
    rw [decide_eq_true hz] at hE0
    refine Tells.of (o := ⟨.ret, [(4, .int .i64 0)], [some (vaO v), some (tyO t)]⟩) ?_ ⟨rfl, rfl⟩
    apply Run.seq_out (hne := by simp)
    apply Run.seq (fr' := [(2, .ptr 0 0 0 0), (3, .ptr 1 0 0 0), (5, .int .i64 k), (14, .bool true)]) (H' := [some (vaO v), some (tyO t)])
    · have hb0 := bdV0
      have hE := hE0
      generalize hpz : (({} : Va).pay) = pz at *
      simp only [Va.pay] at hE
      (refine ⟨0, ?_⟩; simp (maxSteps := 2000000) -implicitDefEqProofs [-getElem?_pos, List.getElem?_cons_zero, List.getElem?_cons_succ, go_sem, eqV, plen, loadV, storeV, -eqV, vaO, tyO, Va.pay, mkVa, hb0, hE])
    refine ⟨0, ?_⟩
    simp (maxSteps := 2000000) -implicitDefEqProofs [-getElem?_pos, List.getElem?_cons_zero, List.getElem?_cons_succ, go_sem, eqV, plen, loadV, storeV]
  rw [if_neg hz]
  rw [decide_eq_false hz] at hE0
  apply Tells.seq (fr' := [(2, .ptr 0 0 0 0), (3, .ptr 1 0 0 0), (5, .int .i64 k), (14, .bool false)]) (H' := [some (vaO v), some (tyO t)])
  · have hb0 := bdV0
    have hE := hE0
    generalize hpz : (({} : Va).pay) = pz at *
    simp only [Va.pay] at hE
    (refine ⟨0, ?_⟩; simp (maxSteps := 2000000) -implicitDefEqProofs [-getElem?_pos, List.getElem?_cons_zero, List.getElem?_cons_succ, go_sem, eqV, plen, loadV, storeV, -eqV, vaO, tyO, Va.pay, mkVa, hb0, hE])
  clear hE0
  apply Tells.seq (fr' := [(2, .ptr 0 0 0 0), (3, .ptr 1 0 0 0), (5, .int .i64 k), (6, .bool (v.k == k))]) (H' := [some (vaO v), some (tyO t)])
  · (refine ⟨0, ?_⟩; simp (maxSteps := 2000000) -implicitDefEqProofs [-getElem?_pos, List.getElem?_cons_zero, List.getElem?_cons_succ, go_sem, eqV, plen, loadV, storeV, vaO, tyO, Va.pay])
  generalize hsn : sizeN t.t = n at *
  have w8 : IntKind.i64.wrap (8 * (n : Int)) = ((8 * n : Nat) : Int) := by rw [wrap_i64 (by omega) (by omega)]; omega
  apply Tells.seq (fr' := ckFr k (v.k == k) (8 * n)) (H' := [some (vaO v), some (tyO t)])
  · simp only [vaO, tyO, Va.pay, Ty.pay] at hS
    generalize 8 * n = n8 at *
    (refine ⟨0, ?_⟩; simp (maxSteps := 2000000) -implicitDefEqProofs [-getElem?_pos, List.getElem?_cons_zero, List.getElem?_cons_succ, go_sem, eqV, plen, loadV, storeV, vaO, tyO, Va.pay, Ty.pay, hS, w8, ckFr])
  clear hS
  have main : ∃ code, ckO = some code ∧ Tells (Goes (ckP v t k n)) X (evT X) 15 0 code (ckFr k (v.k == k) (8 * n)) [some (vaO v), some (tyO t)] := by
    by_cases k1 : v.k = 1
    · exact ck1 v t k n hbd hk0 hsz hF k1
    by_cases k234 : v.k = 2 ∨ v.k = 3 ∨ v.k = 4
    · exact ck234 v t k n hbd hk0 hsz hF k234
    exact ckR v t k n hbd hk0 hsz hF k1 k234
  apply Tells.andThen (P := ckP v t k n)
  · exact pieceT main _ rfl
  rintro fr H ⟨rfl, hfr⟩
  generalize okVk v k n t.t = ok at *
  cases ok with
  | true =>
    refine Tells.of (o := ⟨.ret, [(4, .int .i64 0)], [some (vaO v), some (tyO t)]⟩) ⟨0, ?_⟩ ⟨rfl, rfl⟩
    rcases hfr with rfl | rfl
    · simp (maxSteps := 2000000) -implicitDefEqProofs [-getElem?_pos, List.getElem?_cons_zero, List.getElem?_cons_succ, go_sem, eqV, plen, loadV, storeV, unV]
    · simp (maxSteps := 2000000) -implicitDefEqProofs [-getElem?_pos, List.getElem?_cons_zero, List.getElem?_cons_succ, go_sem, eqV, plen, loadV, storeV, unV]
  | false =>
    refine Tells.of (o := ⟨.ret, [(4, .int .i64 2)], [some (vaO v), some (tyO t)]⟩) ⟨0, ?_⟩ ⟨rfl, rfl⟩
    rcases hfr with rfl | rfl
    · simp (maxSteps := 2000000) -implicitDefEqProofs [-getElem?_pos, List.getElem?_cons_zero, List.getElem?_cons_succ, go_sem, eqV, plen, loadV, storeV, unV]
    · simp (maxSteps := 2000000) -implicitDefEqProofs [-getElem?_pos, List.getElem?_cons_zero, List.getElem?_cons_succ, go_sem, eqV, plen, loadV, storeV, unV]

end

theorem check_ev {v : Va} {t : Ty} (ht : t.t < 256) (hb : v.b < 18446744073709551616) (hi : -9223372036854775808 ≤ v.i ∧ v.i < 9223372036854775808) (H : AM.Heap) : evT X 15 [.agg v.pay, .agg t.pay] H = some (.int .i64 (chkV v t), H) := by
  obtain ⟨code, hcode, o, ⟨he, h4⟩, hr⟩ := check_code v t ht hb hi
  exact evT_eq (Ev1.toldP (l := [.int .i64 (chkV v t)]) (evT_below X) Tryd.func15 hcode (args_va (i := 0) (args_ty (i := 1) (args_nil 2))) (by simp [Va.pay, Ty.pay, idsL, ids]) (by simp [gtag]) rfl rfl rfl ⟨o, ⟨he, by show some [getF o.fr 4] = _; rw [h4]⟩, hr⟩)

end Go.Proofs.YtifgkkfchnfcaaaDoor

/- Walks: a value appended. -/
namespace Go.Proofs.YtifgkkfchnfcaaaDoor
open Go.AM
set_option linter.unusedSimpArgs false
set_option linter.unusedVariables false

theorem when_ev {H : AM.Heap} {o g tg t : Nat} {ob : AM.Obj} {l : List UInt8} {w : Wh} (ho : H[o]? = some (some ob)) (hw : RwT (.pb l) g tg ob) (hl : l.length ≤ 80000000) (ht : t < 256) (hf : fin w t = true) :
    ∃ ob', RwT (.pb (l ++ whB w t)) (g + 1) tg ob' ∧ evT X 21 [.sl o 0 l.length g, .agg w.pay, .int .u8 (t : Nat)] H = some (.sl o 0 (l ++ whB w t).length (g + 1), upd H o (some ob')) := by
  obtain ⟨code, hcode, ⟨out, ⟨he, ob', g', R, q1, q2, q3, q4⟩, hrun⟩⟩ := when_code l w 4 t { ob with g := 0, tg := 4 } ⟨hw.p, rfl, hw.row, hw.ids, rfl⟩ hl ht hf
  refine ⟨{ ob' with g := g + 1, tg := tg }, ⟨q3.p, rfl, q3.row, q3.ids, rfl⟩, evT_eq ?_⟩
  have := Ev1.rwB (C := X) (f := 21) (H := H) (o := o) (off := 0) (len := l.length) (g := g) (ob := ob) (ob1 := ob') (xs := [.agg w.pay, .int .u8 (t : Nat)]) (ys := [.agg w.pay, .int .u8 (t : Nat)]) (n := 4) (rest := []) (restH := R) (off1 := 0) (n1 := (l ++ whB w t).length) (g1 := g')
    (evT_below X) Tryd.func21 hcode rfl ho hw.g hw.ids (by rw [hw.p]; rfl) (args_wh (i := 1) (args_flat rfl rfl (args_nil 3))) (by simp [Wh.pay, idsL, ids]) rfl rfl (by simp [gtag])
    (by rw [par21]; simpa [coerce, numbered] using hrun) (.inr he) (by show some [getF out.fr 6] = _; rw [q1]) q2 q3.g q3.ids (by rw [q3.p]; rfl) (.inr q3.tg) rfl rfl rfl
  rw [if_neg (by omega), q3.tg, hw.tg] at this
  exact this

/-- a number as it is written -/
def ui (i : Int) : Nat := (IntKind.u64.wrap i).toNat
theorem ui_eq (i : Int) : ((ui i : Nat) : Int) = IntKind.u64.wrap i := by
  unfold ui
  have : 0 ≤ IntKind.u64.wrap i := by
    unfold IntKind.wrap
    simp [IntKind.signed, IntKind.bits]
    exact Int.emod_nonneg _ (by decide)
  omega

/-- a value's bytes -/
def enV (v : Va) (t : Ty) : List UInt8 :=
  if v.k = 1 then leB (sizeN t.t) (ui v.i) else if v.k = 2 ∨ v.k = 3 ∨ v.k = 4 then leB (sizeN t.t) v.b else if v.k = 5 ∨ v.k = 6 then whB v.w t.t else if v.k = 7 then aT v.t else []
/-- may it be written? -/
def apOk (v : Va) (t : Ty) : Bool := decide (chkV v t = 0) && !(decide (v.k = 0) && decide (t.t ≠ 6))
def apV (b : List UInt8) (v : Va) (t : Ty) : List UInt8 × Int := if apOk v t then (b ++ enV v t, 0) else ([], 2)

theorem chk_ok {v : Va} {t : Ty} (h : chkV v t = 0) : v = {} ∨ okVa v t = true := by
  unfold chkV at h
  by_cases h1 : kindN t.t t.u < 0
  · rw [if_pos h1] at h; cases h
  rw [if_neg h1] at h
  by_cases h2 : v = {}
  · exact .inl h2
  rw [if_neg h2] at h
  cases h3 : okVa v t with
  | true => exact .inr rfl
  | false => rw [h3] at h; cases h

/-- what a value that may be holds -/
theorem ok_facts {v : Va} {t : Ty} (h : chkV v t = 0) : ((v.k = 1 ∨ v.k = 2 ∨ v.k = 3 ∨ v.k = 4) → 1 ≤ sizeN t.t ∧ sizeN t.t ≤ 8) ∧ ((v.k = 5 ∨ v.k = 6) → fin v.w t.t = true) ∧ (v.k = 7 → v.t.length ≤ 16777216) ∧ (v.k = 0 ∨ v.k = 1 ∨ v.k = 2 ∨ v.k = 3 ∨ v.k = 4 ∨ v.k = 5 ∨ v.k = 6 ∨ v.k = 7) := by
  rcases chk_ok h with rfl | h
  · refine ⟨fun h => ?_, fun h => ?_, fun h => ?_, .inl rfl⟩
    · exact absurd h (by decide)
    · exact absurd h (by decide)
    · exact absurd h (by decide)
  unfold okVa okVk at h
  by_cases k1 : v.k = 1
  · rw [if_pos k1] at h
    simp only [Bool.and_eq_true, decide_eq_true_eq] at h
    have := size_num (t := t.t) (u := t.u) (.inl h.1)
    exact ⟨fun _ => by omega, fun h => by omega, fun h => by omega, by omega⟩
  rw [if_neg k1] at h
  by_cases k2 : v.k = 2 ∨ v.k = 3 ∨ v.k = 4
  · rw [if_pos k2] at h
    simp only [Bool.and_eq_true, decide_eq_true_eq] at h
    have := size_num (t := t.t) (u := t.u) (by omega)
    exact ⟨fun _ => by omega, fun h => by omega, fun h => by omega, by omega⟩
  rw [if_neg k2] at h
  by_cases k5 : v.k = 5 ∨ v.k = 6
  · rw [if_pos k5] at h
    simp only [Bool.and_eq_true, decide_eq_true_eq] at h
    exact ⟨fun h => by omega, fun _ => h.2.2, fun h => by omega, by omega⟩
  rw [if_neg k5] at h
  by_cases k7 : v.k = 7
  · rw [if_pos k7] at h
    simp only [Bool.and_eq_true, decide_eq_true_eq] at h
    exact ⟨fun h => by omega, fun h => by omega, fun _ => h.2.2, by omega⟩
  rw [if_neg k7] at h
  cases h

section
variable (c : Nat) (b : List UInt8) (v : Va) (t : Ty)

set_option maxRecDepth 100000 in
set_option maxHeartbeats 4000000 in
theorem vappend_code (hc : c = 0 → b = []) (hb : b.length ≤ 30000000) (ht : t.t < 256) (hvb : v.b < 18446744073709551616) (hi : -9223372036854775808 ≤ v.i ∧ v.i < 9223372036854775808) : ∃ code, Tryd.f7.body = some code ∧
    Tells (Rets fun fr H => ∃ o g ob, getF fr 6 = .sl o 0 (apV b v t).1.length g ∧ getF fr 7 = .int .i64 (apV b v t).2 ∧ H[o]? = some (some ob) ∧ Rw (.pb (apV b v t).1) g ob) X (evT X) 7 0 code [(0, .ro c (.pb b) 1), (1, .agg v.pay), (2, .agg t.pay)] [] := by
  refine ⟨_, rfl, ?_⟩
  have hC := check_ev (v := v) (t := t) ht hvb hi [some (vaO v), some (tyO t), some nilB]
  apply Tells.seq (fr' := [(0, .ro c (.pb b) 1), (4, .ptr 0 0 0 0), (5, .ptr 1 0 0 0)]) (H' := [some (vaO v), some (tyO t), some nilB])
  · (refine ⟨0, ?_⟩; simp (maxSteps := 2000000) -implicitDefEqProofs [-getElem?_pos, List.getElem?_cons_zero, List.getElem?_cons_succ, go_sem, eqV, plen, loadV, storeV, vaO, tyO, Va.pay, Ty.pay, assignV, emB])
  apply Tells.assoc
  apply Tells.seq (fr' := [(0, .ro c (.pb b) 1), (4, .ptr 0 0 0 0), (5, .ptr 1 0 0 0), (8, .int .i64 (chkV v t))]) (H' := [some (vaO v), some (tyO t), some nilB])
  · simp only [vaO, tyO, Va.pay, Ty.pay] at hC
    generalize chkV v t = ck at *
    (refine ⟨0, ?_⟩; simp (maxSteps := 2000000) -implicitDefEqProofs [-getElem?_pos, List.getElem?_cons_zero, List.getElem?_cons_succ, go_sem, eqV, plen, loadV, storeV, vaO, tyO, Va.pay, Ty.pay, mkVa, mkTy, hC])
  clear hC
  unfold apV
  cases hok : apOk v t with
  | false =>
    rw [if_neg (by simp)]
    refine Tells.of (o := ⟨.ret, [(6, .sl 3 0 0 0), (7, .int .i64 2)], [some (vaO v), some (tyO t), some nilB, some nilB]⟩) ?_ ⟨rfl, 3, 0, nilB, rfl, rfl, rfl, nilB_rw⟩
    apply Run.seq_out (hne := by simp)
    apply Run.seq (fr' := [(0, .ro c (.pb b) 1), (4, .ptr 0 0 0 0), (5, .ptr 1 0 0 0), (24, .bool true)]) (H' := [some (vaO v), some (tyO t), some nilB])
    · unfold apOk at hok
      by_cases h0 : chkV v t = 0
      · rw [h0] at hok ⊢
        simp only [decide_true, Bool.true_and, Bool.not_eq_false', Bool.and_eq_true, decide_eq_true_eq] at hok
        obtain ⟨hk, h6⟩ := hok
        have h6b : ((t.t : Int) != 6) = true := by simp; omega
        (refine ⟨0, ?_⟩; simp (maxSteps := 2000000) -implicitDefEqProofs [-getElem?_pos, List.getElem?_cons_zero, List.getElem?_cons_succ, go_sem, eqV, plen, loadV, storeV, vaO, tyO, Va.pay, Ty.pay, hk, h6b])
      · have h0b : (chkV v t != 0) = true := by simpa using h0
        generalize chkV v t = ck at *
        (refine ⟨0, ?_⟩; simp (maxSteps := 2000000) -implicitDefEqProofs [-getElem?_pos, List.getElem?_cons_zero, List.getElem?_cons_succ, go_sem, eqV, plen, loadV, storeV, vaO, tyO, Va.pay, Ty.pay, h0b])
    refine ⟨0, ?_⟩
    simp (maxSteps := 2000000) -implicitDefEqProofs [-getElem?_pos, List.getElem?_cons_zero, List.getElem?_cons_succ, go_sem, eqV, plen, loadV, storeV, assignV, emB]
  | true =>
  rw [if_pos rfl]
  unfold apOk at hok
  simp only [Bool.and_eq_true, decide_eq_true_eq, Bool.not_eq_true', Bool.and_eq_false_iff, decide_eq_false_iff_not] at hok
  obtain ⟨h0, h06⟩ := hok
  obtain ⟨fs, ff, fl, fk⟩ := ok_facts h0
  rw [h0]
  apply Tells.seq (fr' := [(0, .ro c (.pb b) 1), (4, .ptr 0 0 0 0), (5, .ptr 1 0 0 0), (24, .bool false)]) (H' := [some (vaO v), some (tyO t), some nilB])
  · by_cases hk : v.k = 0
    · have h6 : t.t = 6 := by
        rcases h06 with h | h
        · exact absurd hk h
        · omega
      (refine ⟨0, ?_⟩; simp (maxSteps := 2000000) -implicitDefEqProofs [-getElem?_pos, List.getElem?_cons_zero, List.getElem?_cons_succ, go_sem, eqV, plen, loadV, storeV, vaO, tyO, Va.pay, Ty.pay, hk, h6])
    · have hkb : (v.k == 0) = false := by simpa using hk
      (refine ⟨0, ?_⟩; simp (maxSteps := 2000000) -implicitDefEqProofs [-getElem?_pos, List.getElem?_cons_zero, List.getElem?_cons_succ, go_sem, eqV, plen, loadV, storeV, vaO, tyO, Va.pay, Ty.pay, hkb])
  obtain ⟨ob0, hw0, hA0⟩ := clone_ev (H := [some (vaO v), some (tyO t), some nilB]) (a := .ro c (.pb b) 1) (b := b) (Byt.ro (.inl rfl) hc) (by omega)
  apply Tells.seq (fr' := [(4, .ptr 0 0 0 0), (5, .ptr 1 0 0 0), (9, .sl 3 0 b.length 0)]) (H' := [some (vaO v), some (tyO t), some nilB, some ob0])
  · simp only [vaO, tyO, Va.pay, Ty.pay] at hA0
    (refine ⟨0, ?_⟩; simp (maxSteps := 2000000) -implicitDefEqProofs [-getElem?_pos, List.getElem?_cons_zero, List.getElem?_cons_succ, go_sem, eqV, plen, loadV, storeV, vaO, tyO, Va.pay, Ty.pay, hA0, assignV])
  clear hA0
  have hS := size_ev' ht [some (vaO v), some (tyO t), some nilB, some ob0]
  have hre : reach [some (vaO v), some (tyO t), some nilB, some ob0] reachFuel [3] [] = [3] := reach_box rfl (by rw [hw0.p]; rfl)
  have hg0 := hw0.g
  have hp0 := hw0.p
  have hi0 := hw0.ids
  unfold enV
  rcases fk with kv | kv | kv | kv | kv | kv | kv | kv
  · -- nothing
    rw [if_neg (by omega), if_neg (by omega), if_neg (by omega), if_neg (by omega), List.append_nil]
    refine Tells.of (o := ⟨.ret, [(6, .sl 3 0 b.length 0), (7, .int .i64 0)], [some (vaO v), some (tyO t), some nilB, some ob0]⟩) ⟨0, ?_⟩ ⟨rfl, 3, 0, ob0, rfl, rfl, rfl, hw0⟩
    simp (maxSteps := 2000000) -implicitDefEqProofs [-getElem?_pos, List.getElem?_cons_zero, List.getElem?_cons_succ, go_sem, eqV, plen, loadV, storeV, vaO, Va.pay, kv, assignV]
  · -- a number with a sign
    rw [if_pos kv]
    obtain ⟨s1, s8⟩ := fs (.inl kv)
    generalize hsn : sizeN t.t = n at *
    obtain ⟨ob1, hw1, hF⟩ := vfixed_ev (H := [some (vaO v), some (tyO t), some nilB, some ob0]) (o := 3) (x := ui v.i) (n := n) (N := n) rfl hw0.rwt rfl (by omega) s1 s8
    have wu := (ui_eq v.i).symm
    refine Tells.of (o := ⟨.ret, [(6, .sl 3 0 (b.length + n) 1), (7, .int .i64 0)], [some (vaO v), some (tyO t), some nilB, some ob1]⟩) ?_ ⟨rfl, 3, 1, ob1, by simp [getF, leB_len], rfl, rfl, hw1.rw⟩
    apply Run.seq_out (hne := by simp)
    apply Run.seq (fr' := [(4, .ptr 0 0 0 0), (5, .ptr 1 0 0 0), (9, .sl 3 0 b.length 0), (28, .int .i64 1)]) (H' := [some (vaO v), some (tyO t), some nilB, some ob0])
    · (refine ⟨0, ?_⟩; simp (maxSteps := 2000000) -implicitDefEqProofs [-getElem?_pos, List.getElem?_cons_zero, List.getElem?_cons_succ, go_sem, eqV, plen, loadV, storeV, vaO, Va.pay, kv])
    refine Run.block ?_ (by simp)
    apply Run.seq (fr' := [(4, .ptr 0 0 0 0), (5, .ptr 1 0 0 0), (9, .sl 3 0 b.length 0), (28, .int .i64 1), (29, .bool true)]) (H' := [some (vaO v), some (tyO t), some nilB, some ob0])
    · (refine ⟨0, ?_⟩; simp (maxSteps := 2000000) -implicitDefEqProofs [-getElem?_pos, List.getElem?_cons_zero, List.getElem?_cons_succ, go_sem, eqV, plen, loadV, storeV])
    refine condT (by simp [evalO, getF]) ?_
    apply Run.seq (fr' := [(6, .sl 3 0 (b.length + n) 1), (7, .int .i64 0)]) (H' := [some (vaO v), some (tyO t), some nilB, some ob1])
    · simp only [vaO, tyO, Va.pay, Ty.pay] at hS hF hre
      apply Run.dy (by simp) keep7_7 (by simp)
      · (conv => lhs; simp (maxSteps := 2000000) -implicitDefEqProofs [-getElem?_pos, List.getElem?_cons_zero, List.getElem?_cons_succ, go_sem, eqV, plen, loadV, storeV, runD, out1, markOf, freeO, quietO, pushes, isAssign, calledV, touched, mentioned, opVals, touchCall, mentionCall, idsAt, Op.operands, ids, idsL, lendArgs, lendV, lend1, lendL, eqH_self, vaO, tyO, Va.pay, Ty.pay, wu, hS, hF, upd, assignV, reach_none, hre, hg0, hi0, hp0])
        rfl
      · kernel_rfl
      · rfl
    exact ⟨0, rfl⟩
  · -- bits
    rw [if_neg (by omega), if_pos (by omega)]
    obtain ⟨s1, s8⟩ := fs (by omega)
    generalize hsn : sizeN t.t = n at *
    obtain ⟨ob1, hw1, hF⟩ := vfixed_ev (H := [some (vaO v), some (tyO t), some nilB, some ob0]) (o := 3) (x := v.b) (n := n) (N := n) rfl hw0.rwt rfl (by omega) s1 s8
    refine Tells.of (o := ⟨.ret, [(6, .sl 3 0 (b.length + n) 1), (7, .int .i64 0)], [some (vaO v), some (tyO t), some nilB, some ob1]⟩) ?_ ⟨rfl, 3, 1, ob1, by simp [getF, leB_len], rfl, rfl, hw1.rw⟩
    apply Run.seq_out (hne := by simp)
    apply Run.seq (fr' := [(4, .ptr 0 0 0 0), (5, .ptr 1 0 0 0), (9, .sl 3 0 b.length 0), (28, .int .i64 2)]) (H' := [some (vaO v), some (tyO t), some nilB, some ob0])
    · (refine ⟨0, ?_⟩; simp (maxSteps := 2000000) -implicitDefEqProofs [-getElem?_pos, List.getElem?_cons_zero, List.getElem?_cons_succ, go_sem, eqV, plen, loadV, storeV, vaO, Va.pay, kv])
    refine Run.block ?_ (by simp)
    apply Run.seq (fr' := [(4, .ptr 0 0 0 0), (5, .ptr 1 0 0 0), (9, .sl 3 0 b.length 0), (28, .int .i64 2), (29, .bool false)]) (H' := [some (vaO v), some (tyO t), some nilB, some ob0])
    · (refine ⟨0, ?_⟩; simp (maxSteps := 2000000) -implicitDefEqProofs [-getElem?_pos, List.getElem?_cons_zero, List.getElem?_cons_succ, go_sem, eqV, plen, loadV, storeV])
    refine condF (by simp [evalO, getF]) ?_
    apply Run.seq (fr' := [(4, .ptr 0 0 0 0), (5, .ptr 1 0 0 0), (9, .sl 3 0 b.length 0), (28, .int .i64 2), (39, .bool true)]) (H' := [some (vaO v), some (tyO t), some nilB, some ob0])
    · (refine ⟨0, ?_⟩; simp (maxSteps := 2000000) -implicitDefEqProofs [-getElem?_pos, List.getElem?_cons_zero, List.getElem?_cons_succ, go_sem, eqV, plen, loadV, storeV])
    refine condT (by simp [evalO, getF]) ?_
    apply Run.seq (fr' := [(6, .sl 3 0 (b.length + n) 1), (7, .int .i64 0)]) (H' := [some (vaO v), some (tyO t), some nilB, some ob1])
    · simp only [vaO, tyO, Va.pay, Ty.pay] at hS hF hre
      apply Run.dy (by simp) keep7_11 (by simp)
      · (conv => lhs; simp (maxSteps := 2000000) -implicitDefEqProofs [-getElem?_pos, List.getElem?_cons_zero, List.getElem?_cons_succ, go_sem, eqV, plen, loadV, storeV, runD, out1, markOf, freeO, quietO, pushes, isAssign, calledV, touched, mentioned, opVals, touchCall, mentionCall, idsAt, Op.operands, ids, idsL, lendArgs, lendV, lend1, lendL, eqH_self, vaO, tyO, Va.pay, Ty.pay, hS, hF, upd, assignV, reach_none, hre, hg0, hi0, hp0])
        rfl
      · kernel_rfl
      · rfl
    exact ⟨0, rfl⟩
  · -- bits
    rw [if_neg (by omega), if_pos (by omega)]
    obtain ⟨s1, s8⟩ := fs (by omega)
    generalize hsn : sizeN t.t = n at *
    obtain ⟨ob1, hw1, hF⟩ := vfixed_ev (H := [some (vaO v), some (tyO t), some nilB, some ob0]) (o := 3) (x := v.b) (n := n) (N := n) rfl hw0.rwt rfl (by omega) s1 s8
    refine Tells.of (o := ⟨.ret, [(6, .sl 3 0 (b.length + n) 1), (7, .int .i64 0)], [some (vaO v), some (tyO t), some nilB, some ob1]⟩) ?_ ⟨rfl, 3, 1, ob1, by simp [getF, leB_len], rfl, rfl, hw1.rw⟩
    apply Run.seq_out (hne := by simp)
    apply Run.seq (fr' := [(4, .ptr 0 0 0 0), (5, .ptr 1 0 0 0), (9, .sl 3 0 b.length 0), (28, .int .i64 3)]) (H' := [some (vaO v), some (tyO t), some nilB, some ob0])
    · (refine ⟨0, ?_⟩; simp (maxSteps := 2000000) -implicitDefEqProofs [-getElem?_pos, List.getElem?_cons_zero, List.getElem?_cons_succ, go_sem, eqV, plen, loadV, storeV, vaO, Va.pay, kv])
    refine Run.block ?_ (by simp)
    apply Run.seq (fr' := [(4, .ptr 0 0 0 0), (5, .ptr 1 0 0 0), (9, .sl 3 0 b.length 0), (28, .int .i64 3), (29, .bool false)]) (H' := [some (vaO v), some (tyO t), some nilB, some ob0])
    · (refine ⟨0, ?_⟩; simp (maxSteps := 2000000) -implicitDefEqProofs [-getElem?_pos, List.getElem?_cons_zero, List.getElem?_cons_succ, go_sem, eqV, plen, loadV, storeV])
    refine condF (by simp [evalO, getF]) ?_
    apply Run.seq (fr' := [(4, .ptr 0 0 0 0), (5, .ptr 1 0 0 0), (9, .sl 3 0 b.length 0), (28, .int .i64 3), (39, .bool true)]) (H' := [some (vaO v), some (tyO t), some nilB, some ob0])
    · (refine ⟨0, ?_⟩; simp (maxSteps := 2000000) -implicitDefEqProofs [-getElem?_pos, List.getElem?_cons_zero, List.getElem?_cons_succ, go_sem, eqV, plen, loadV, storeV])
    refine condT (by simp [evalO, getF]) ?_
    apply Run.seq (fr' := [(6, .sl 3 0 (b.length + n) 1), (7, .int .i64 0)]) (H' := [some (vaO v), some (tyO t), some nilB, some ob1])
    · simp only [vaO, tyO, Va.pay, Ty.pay] at hS hF hre
      apply Run.dy (by simp) keep7_11 (by simp)
      · (conv => lhs; simp (maxSteps := 2000000) -implicitDefEqProofs [-getElem?_pos, List.getElem?_cons_zero, List.getElem?_cons_succ, go_sem, eqV, plen, loadV, storeV, runD, out1, markOf, freeO, quietO, pushes, isAssign, calledV, touched, mentioned, opVals, touchCall, mentionCall, idsAt, Op.operands, ids, idsL, lendArgs, lendV, lend1, lendL, eqH_self, vaO, tyO, Va.pay, Ty.pay, hS, hF, upd, assignV, reach_none, hre, hg0, hi0, hp0])
        rfl
      · kernel_rfl
      · rfl
    exact ⟨0, rfl⟩
  · -- bits
    rw [if_neg (by omega), if_pos (by omega)]
    obtain ⟨s1, s8⟩ := fs (by omega)
    generalize hsn : sizeN t.t = n at *
    obtain ⟨ob1, hw1, hF⟩ := vfixed_ev (H := [some (vaO v), some (tyO t), some nilB, some ob0]) (o := 3) (x := v.b) (n := n) (N := n) rfl hw0.rwt rfl (by omega) s1 s8
    refine Tells.of (o := ⟨.ret, [(6, .sl 3 0 (b.length + n) 1), (7, .int .i64 0)], [some (vaO v), some (tyO t), some nilB, some ob1]⟩) ?_ ⟨rfl, 3, 1, ob1, by simp [getF, leB_len], rfl, rfl, hw1.rw⟩
    apply Run.seq_out (hne := by simp)
    apply Run.seq (fr' := [(4, .ptr 0 0 0 0), (5, .ptr 1 0 0 0), (9, .sl 3 0 b.length 0), (28, .int .i64 4)]) (H' := [some (vaO v), some (tyO t), some nilB, some ob0])
    · (refine ⟨0, ?_⟩; simp (maxSteps := 2000000) -implicitDefEqProofs [-getElem?_pos, List.getElem?_cons_zero, List.getElem?_cons_succ, go_sem, eqV, plen, loadV, storeV, vaO, Va.pay, kv])
    refine Run.block ?_ (by simp)
    apply Run.seq (fr' := [(4, .ptr 0 0 0 0), (5, .ptr 1 0 0 0), (9, .sl 3 0 b.length 0), (28, .int .i64 4), (29, .bool false)]) (H' := [some (vaO v), some (tyO t), some nilB, some ob0])
    · (refine ⟨0, ?_⟩; simp (maxSteps := 2000000) -implicitDefEqProofs [-getElem?_pos, List.getElem?_cons_zero, List.getElem?_cons_succ, go_sem, eqV, plen, loadV, storeV])
    refine condF (by simp [evalO, getF]) ?_
    apply Run.seq (fr' := [(4, .ptr 0 0 0 0), (5, .ptr 1 0 0 0), (9, .sl 3 0 b.length 0), (28, .int .i64 4), (39, .bool true)]) (H' := [some (vaO v), some (tyO t), some nilB, some ob0])
    · (refine ⟨0, ?_⟩; simp (maxSteps := 2000000) -implicitDefEqProofs [-getElem?_pos, List.getElem?_cons_zero, List.getElem?_cons_succ, go_sem, eqV, plen, loadV, storeV])
    refine condT (by simp [evalO, getF]) ?_
    apply Run.seq (fr' := [(6, .sl 3 0 (b.length + n) 1), (7, .int .i64 0)]) (H' := [some (vaO v), some (tyO t), some nilB, some ob1])
    · simp only [vaO, tyO, Va.pay, Ty.pay] at hS hF hre
      apply Run.dy (by simp) keep7_11 (by simp)
      · (conv => lhs; simp (maxSteps := 2000000) -implicitDefEqProofs [-getElem?_pos, List.getElem?_cons_zero, List.getElem?_cons_succ, go_sem, eqV, plen, loadV, storeV, runD, out1, markOf, freeO, quietO, pushes, isAssign, calledV, touched, mentioned, opVals, touchCall, mentionCall, idsAt, Op.operands, ids, idsL, lendArgs, lendV, lend1, lendL, eqH_self, vaO, tyO, Va.pay, Ty.pay, hS, hF, upd, assignV, reach_none, hre, hg0, hi0, hp0])
        rfl
      · kernel_rfl
      · rfl
    exact ⟨0, rfl⟩
  · -- a moment, a span
    rw [if_neg (by omega), if_neg (by omega), if_pos (by omega)]
    obtain ⟨ob1, hw1, hF⟩ := when_ev (H := [some (vaO v), some (tyO t), some nilB, some ob0]) (o := 3) rfl hw0.rwt (by omega) ht (ff (by omega))
    refine Tells.of (o := ⟨.ret, [(6, .sl 3 0 (b ++ whB v.w t.t).length 1), (7, .int .i64 0)], [some (vaO v), some (tyO t), some nilB, some ob1]⟩) ?_ ⟨rfl, 3, 1, ob1, rfl, rfl, rfl, hw1.rw⟩
    apply Run.seq_out (hne := by simp)
    simp only [vaO, tyO, Va.pay, Ty.pay, Wh.pay] at hF
    rw [kv] at hF
    generalize (b ++ whB v.w t.t).length = n at *
    refine ⟨0, ?_⟩
    simp (maxSteps := 2000000) -implicitDefEqProofs [-getElem?_pos, List.getElem?_cons_zero, List.getElem?_cons_succ, go_sem, eqV, plen, loadV, storeV, vaO, tyO, Va.pay, Ty.pay, kv, mkWh, hF, upd, assignV]
  · -- a moment, a span
    rw [if_neg (by omega), if_neg (by omega), if_pos (by omega)]
    obtain ⟨ob1, hw1, hF⟩ := when_ev (H := [some (vaO v), some (tyO t), some nilB, some ob0]) (o := 3) rfl hw0.rwt (by omega) ht (ff (by omega))
    refine Tells.of (o := ⟨.ret, [(6, .sl 3 0 (b ++ whB v.w t.t).length 1), (7, .int .i64 0)], [some (vaO v), some (tyO t), some nilB, some ob1]⟩) ?_ ⟨rfl, 3, 1, ob1, rfl, rfl, rfl, hw1.rw⟩
    apply Run.seq_out (hne := by simp)
    simp only [vaO, tyO, Va.pay, Ty.pay, Wh.pay] at hF
    rw [kv] at hF
    generalize (b ++ whB v.w t.t).length = n at *
    refine ⟨0, ?_⟩
    simp (maxSteps := 2000000) -implicitDefEqProofs [-getElem?_pos, List.getElem?_cons_zero, List.getElem?_cons_succ, go_sem, eqV, plen, loadV, storeV, vaO, tyO, Va.pay, Ty.pay, kv, mkWh, hF, upd, assignV]
  · -- a text
    rw [if_neg (by omega), if_neg (by omega), if_neg (by omega), if_pos kv]
    obtain ⟨ob1, hw1, hA⟩ := appendText_ev (H := [some (vaO v), some (tyO t), some nilB, some ob0]) (a := .sl 3 0 b.length 0) (b := b) (s := v.t) (Byt.whole rfl hw0) (by omega) (by have := fl kv; omega)
    refine Tells.of (o := ⟨.ret, [(6, .sl 4 0 (b ++ aT v.t).length 0), (7, .int .i64 0)], [some (vaO v), some (tyO t), some nilB, some ob0, some ob1]⟩) ?_ ⟨rfl, 4, 0, ob1, rfl, rfl, rfl, hw1⟩
    apply Run.seq_out (hne := by simp)
    simp only [vaO, tyO, Va.pay, Ty.pay] at hA
    rw [kv] at hA
    generalize (b ++ aT v.t).length = n at *
    refine ⟨0, ?_⟩
    simp (maxSteps := 2000000) -implicitDefEqProofs [-getElem?_pos, List.getElem?_cons_zero, List.getElem?_cons_succ, go_sem, eqV, plen, loadV, storeV, vaO, tyO, Va.pay, Ty.pay, kv, hA, assignV]

end

theorem vappend_ev {H : AM.Heap} {a : AV} {b : List UInt8} {v : Va} {t : Ty} (h : Byt H a b) (hb : b.length ≤ 30000000) (ht : t.t < 256) (hvb : v.b < 18446744073709551616) (hi : -9223372036854775808 ≤ v.i ∧ v.i < 9223372036854775808) :
    ∃ ob, Rw (.pb (apV b v t).1) 0 ob ∧ evT X 7 [a, .agg v.pay, .agg t.pay] H = some (.tup [.sl H.length 0 (apV b v t).1.length 0, .int .i64 (apV b v t).2], H ++ [some ob]) := by
  obtain ⟨c, p, xl, hp, hc, hx'⟩ := args_byt (C := X) (f := 7) (i := 0) rfl h (args_va (f := 7) (i := 1) (v := v) (args_ty (i := 2) (t := t) (args_nil 3)))
  obtain ⟨code, hcode, hr⟩ := vappend_code c b v t hc hb ht hvb hi
  obtain ⟨ob, q1, q2⟩ := Ev1.newB (H := H) (n := (apV b v t).1.length) (l := (apV b v t).1) (rest := [.int .i64 (apV b v t).2]) (evT_below X) Tryd.func7 hcode hx' (by simp [Va.pay, Ty.pay, idsL, ids, hp.ids]) (by simp [gtag]) rfl rfl rfl (by
    obtain ⟨o, ⟨he, o1, g, ob, q1, q2, q3, q4⟩, hrun⟩ := hr
    exact ⟨o, ⟨he, o1, g, ob, by show some [getF o.fr 6, getF o.fr 7] = _; rw [q1, q2], q3, q4⟩, by rw [par7, coB hp]; exact hrun⟩)
  exact ⟨ob, q1, evT_eq q2⟩

end Go.Proofs.YtifgkkfchnfcaaaDoor

/- Plain: a counted text that is written is read back; less is too short. -/
namespace Go.Proofs.YtifgkkfchnfcaaaDoor
open Go.AM
set_option linter.unusedSimpArgs false
set_option linter.unusedVariables false

theorem lvB (n x : Nat) (r : List UInt8) : (leB n x ++ r).take n = leB n x := by
  have := List.take_left (l₁ := leB n x) (l₂ := r)
  rw [leB_len] at this; exact this
theorem aI_small {n : Nat} (h : n ≤ 250) : aI n = [UInt8.ofNat n] := by
  unfold aI frm; rw [if_pos h]; simp only [leB, if_true, List.nil_append]; rw [Nat.mod_eq_of_lt (by omega)]
theorem aI_large {x : Nat} (hx : x < 18446744073709551616) (h1 : ¬ x ≤ 250) : ∃ q n, aI x = UInt8.ofNat q :: leB n x ∧ szI x = n + 1 ∧ 252 ≤ q ∧ q ≤ 254 ∧ bsz q = n ∧ x < 256 ^ n := by
  obtain ⟨h2, h3, h4, h5⟩ := frm_ok hx
  have key : ∃ q n, frm x = (q, n) ∧ szI x = n + 1 ∧ 252 ≤ q ∧ q ≤ 254 ∧ bsz q = n := by
    unfold frm szI
    rw [if_neg h1, if_neg h1]
    by_cases h6 : x < 65536
    · rw [if_pos h6, if_pos h6]; exact ⟨252, 2, rfl, rfl, by omega, by omega, rfl⟩
    · rw [if_neg h6, if_neg h6]
      by_cases h7 : x < 16777216
      · rw [if_pos h7, if_pos h7]; exact ⟨253, 3, rfl, rfl, by omega, by omega, rfl⟩
      · rw [if_neg h7, if_neg h7]; exact ⟨254, 8, rfl, rfl, by omega, by omega, rfl⟩
  obtain ⟨q, n, hf, hs, q1, q2, hb⟩ := key
  rw [hf] at h4
  exact ⟨q, n, by unfold aI; rw [hf]; simp only; rw [if_neg (by omega)]; rfl, hs, q1, q2, hb, h4⟩
/-- a counted number's reading -/
theorem rdI_back {x : Nat} (hx : x < 18446744073709551616) (r : List UInt8) : rdI (aI x ++ r) = (x, szI x, 0) := by
  by_cases h1 : x ≤ 250
  · rw [aI_small h1]
    have e : (UInt8.ofNat x).toNat = x := by simp; omega
    have hs : szI x = 1 := by unfold szI; rw [if_pos h1]
    simp only [List.cons_append, List.nil_append, rdI_cons, e]
    rw [if_neg (by omega), if_pos h1, hs]
  · obtain ⟨q, n, hai, hs, q1, q2, hb, h4⟩ := aI_large hx h1
    have e : (UInt8.ofNat q).toNat = q := by simp; omega
    rw [hai, List.cons_append, rdI_cons, e, if_neg (by omega), if_neg (by omega), hb]
    unfold rdN'
    rw [if_neg (by simp [leB_len]), hs, lvB, leV_leB, Nat.mod_eq_of_lt h4]
/-- cut within -/
theorem rdI_less {x k : Nat} (hx : x < 18446744073709551616) (hk : k < szI x) : rdI ((aI x).take k) = (0, 0, 4) := by
  by_cases h1 : x ≤ 250
  · have hs : szI x = 1 := by unfold szI; rw [if_pos h1]
    obtain rfl : k = 0 := by omega
    rfl
  · obtain ⟨q, n, hai, hs, q1, q2, hb, h4⟩ := aI_large hx h1
    have e : (UInt8.ofNat q).toNat = q := by simp; omega
    rw [hai]
    match k with
    | 0 => rfl
    | k + 1 =>
      rw [List.take_succ_cons, rdI_cons, e, if_neg (by omega), if_neg (by omega), hb]
      unfold rdN'
      rw [if_pos (by rw [List.length_take, leB_len]; omega)]
theorem aT_size (s : List UInt8) : (aT s).length = szI s.length + s.length := by simp [aT, aI_len]
theorem rdT_back {s : List UInt8} (hs : s.length < 18446744073709551616) (r : List UInt8) : rdT (aT s ++ r) = (s, (aT s).length, 0) := by
  unfold rdT aT
  rw [List.append_assoc, rdI_back hs]
  have hl := aI_len s.length
  simp only [ne_eq, not_true_eq_false, if_false]
  rw [if_neg (by simp [hl])]
  have e : (aI s.length ++ (s ++ r)).drop (szI s.length) = s ++ r := by rw [← hl, List.drop_left]
  rw [e, List.take_left]
  simp [hl]
theorem rdT_less {s : List UInt8} {k : Nat} (hs : s.length < 18446744073709551616) (hk : k < (aT s).length) : rdT ((aT s).take k) = ([], 0, 4) := by
  rw [aT_size] at hk
  by_cases h1 : k < szI s.length
  · unfold rdT aT
    rw [List.take_append_of_le_length (by rw [aI_len]; omega), rdI_less hs h1]
    rfl
  · have hI : rdI ((aT s).take k) = (s.length, szI s.length, 0) := by
      unfold aT
      rw [List.take_append, List.take_of_length_le (by rw [aI_len]; omega)]
      exact rdI_back hs _
    unfold rdT
    rw [hI]
    simp only [ne_eq, not_true_eq_false, if_false]
    rw [if_pos (by rw [List.length_take, aT_size]; omega)]

end Go.Proofs.YtifgkkfchnfcaaaDoor

/- Plain: numbers, moments and spans that are written are read back; less is too short. -/
namespace Go.Proofs.YtifgkkfchnfcaaaDoor
open Go.AM
set_option linter.unusedSimpArgs false
set_option linter.unusedVariables false

theorem rfR_back {n : Nat} (x : Nat) (E : List UInt8) (h1 : 1 ≤ n) (h8 : n ≤ 8) : rfR (leB n x ++ E) (n : Nat) = (((x % 256 ^ n : Nat) : Int), 0) := by
  unfold rfR
  rw [if_neg (by omega), if_neg (by rw [List.length_append, leB_len]; omega), Int.toNat_natCast, lvB, leV_leB]
theorem rfR_less {n k : Nat} (x : Nat) (h1 : 1 ≤ n) (h8 : n ≤ 8) (hk : k < n) : rfR ((leB n x).take k) (n : Nat) = (0, 4) := by
  unfold rfR
  rw [if_neg (by omega), if_pos (by rw [List.length_take, leB_len]; omega)]

theorem sg_back {i : Int} {n : Nat} (hn : n = 1 ∨ n = 2 ∨ n = 4 ∨ n = 8) (h1 : -9223372036854775808 ≤ i) (h2 : i < 9223372036854775808) (ok : okI i n = true) : sgV (((ui i % 256 ^ n : Nat) : Nat) : Int) n = i := by
  have hu := ui_eq i
  unfold okI at ok
  simp only [Bool.or_eq_true, decide_eq_true_eq] at ok
  have hw : IntKind.u64.wrap i = i % 18446744073709551616 := by simp [IntKind.wrap, IntKind.signed, IntKind.bits]
  rw [hw] at hu
  generalize ui i = u at *
  have hb : ∀ x : Int, IntKind.u64.wrap x = x % 18446744073709551616 := fun x => by simp [IntKind.wrap, IntKind.signed, IntKind.bits]
  have hi : ∀ x : Int, 0 ≤ x → x < 18446744073709551616 → IntKind.i64.wrap x = if x < 9223372036854775808 then x else x - 18446744073709551616 := by
    intro x h0 h1
    have e : x % 18446744073709551616 = x := by omega
    by_cases hx : x < 9223372036854775808
    · rw [if_pos hx]
      simp [IntKind.wrap, IntKind.signed, IntKind.bits, e]
      omega
    · rw [if_neg hx]
      simp [IntKind.wrap, IntKind.signed, IntKind.bits, e]
      omega
  unfold sgV
  rcases hn with rfl | rfl | rfl | rfl
  · simp only [Nat.reduceSub, Nat.reduceMul, Nat.reducePow, Int.reducePow] at ok ⊢
    rw [hb, hi _ (by omega) (by omega), Int.fdiv_eq_ediv_of_nonneg _ (by omega)]
    split <;> omega
  · simp only [Nat.reduceSub, Nat.reduceMul, Nat.reducePow, Int.reducePow] at ok ⊢
    rw [hb, hi _ (by omega) (by omega), Int.fdiv_eq_ediv_of_nonneg _ (by omega)]
    split <;> omega
  · simp only [Nat.reduceSub, Nat.reduceMul, Nat.reducePow, Int.reducePow] at ok ⊢
    rw [hb, hi _ (by omega) (by omega), Int.fdiv_eq_ediv_of_nonneg _ (by omega)]
    split <;> omega
  · simp only [Nat.reduceSub, Nat.reduceMul, Nat.reducePow, Int.reducePow] at ok ⊢
    rw [hb, hi _ (by omega) (by omega), Int.fdiv_eq_ediv_of_nonneg _ (by omega)]
    split <;> omega

end Go.Proofs.YtifgkkfchnfcaaaDoor
