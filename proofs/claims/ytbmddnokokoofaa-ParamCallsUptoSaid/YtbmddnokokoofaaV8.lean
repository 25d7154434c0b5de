/- Walks: a moment, or a span, appended to what is handed over. -/
import Derived.Test.YtbmddnokokoofaaV7
import Derived.Test.YtbmddnokokoofaaV2
import Derived.Test.YtbmddnokokoofaaF3
namespace Go.Proofs.Ytbmddnokokoofaa
open Go.AM
set_option linter.unusedSimpArgs false
set_option linter.unusedVariables false

/-- hours, minutes, seconds -/
def clB (w : Wh) : List UInt8 := [UInt8.ofNat w.h.toNat, UInt8.ofNat w.mi.toNat, UInt8.ofNat w.s.toNat]
def usB (w : Wh) : List UInt8 := if w.us = 0 then [] else leB 4 w.us.toNat
/-- a span's bytes -/
def spB (w : Wh) : List UInt8 := if w = {} then [0] else ((if w.us = 0 then 8 else 12) :: (if w.neg then 1 else 0) :: leB 4 w.d.toNat) ++ clB w ++ usB w
/-- how many bytes a moment has -/
def moN (w : Wh) : UInt8 := if w = { y := w.y, mo := w.mo, d := w.d } then 4 else if w.us = 0 then 7 else 11
/-- a moment's bytes -/
def moB (w : Wh) : List UInt8 := if w = {} then [0] else (moN w :: (leB 2 w.y.toNat ++ [UInt8.ofNat w.mo.toNat, UInt8.ofNat w.d.toNat])) ++ (if w = { y := w.y, mo := w.mo, d := w.d } then [] else clB w) ++ usB w
def whB (w : Wh) (t : Nat) : List UInt8 := if t = 11 then spB w else moB w

theorem bs3n (H : AM.Heap) (a b c : Nat) (ha : a < 256) (hb : b < 256) (hc : c < 256) : buildSliceV X H 22 3 [(0, .int .u8 (a : Nat)), (1, .int .u8 (b : Nat)), (2, .int .u8 (c : Nat))] = some (.ro 1 (.pb [UInt8.ofNat a, UInt8.ofNat b, UInt8.ofNat c]) 0, H) := by
  have h1 : (a : Int) < 256 := by omega
  have h2 : (b : Int) < 256 := by omega
  have h3 : (c : Int) < 256 := by omega
  simp [buildSliceV, setParts, litRow, mkRow, asBytes, cellsAV, cellsOf, scalars, scalar, idsL, ids, tagsL, tags, joinTags, h1, h2, h3]
theorem bs2n (H : AM.Heap) (a b : Nat) (ha : a < 256) (hb : b < 256) : buildSliceV X H 22 2 [(0, .int .u8 (a : Nat)), (1, .int .u8 (b : Nat))] = some (.ro 1 (.pb [UInt8.ofNat a, UInt8.ofNat b]) 0, H) := by
  have h1 : (a : Int) < 256 := by omega
  have h2 : (b : Int) < 256 := by omega
  simp [buildSliceV, setParts, litRow, mkRow, asBytes, cellsAV, cellsOf, scalars, scalar, idsL, ids, tagsL, tags, joinTags, h1, h2]
theorem bsK (H : AM.Heap) (y : UInt8) (k : Int) (h : (y.toNat : Int) = k) : buildSliceV X H 22 1 [(0, .int .u8 k)] = some (.ro 1 (.pb [y]) 0, H) := by
  subst h; exact bs1 H y

theorem fin_nn {w : Wh} {t : Nat} (h : fin w t = true) : 0 ≤ w.y ∧ w.y < 65536 ∧ 0 ≤ w.mo ∧ w.mo < 256 ∧ 0 ≤ w.d ∧ w.d < 256 ∧ 0 ≤ w.h ∧ w.h < 256 ∧ 0 ≤ w.mi ∧ w.mi < 256 ∧ 0 ≤ w.s ∧ w.s < 256 ∧ 0 ≤ w.us ∧ w.us < 4294967296 := by
  unfold fin clk btw at h
  simp only [Bool.and_eq_true, decide_eq_true_eq] at h
  obtain ⟨⟨h1, h2, h3, h4⟩, h5⟩ := h
  by_cases h11 : t = 11
  · rw [if_pos h11] at h5
    simp only [Bool.and_eq_true, decide_eq_true_eq] at h5
    omega
  · rw [if_neg h11] at h5
    simp only [Bool.and_eq_true, decide_eq_true_eq] at h5
    omega

theorem tcondT {Q : AM.Out → Prop} {C : Ctx} {T : Cf} {f m : Nat} {fr : AM.Frame} {H : AM.Heap} {c : Operand} {a b : Code} (hc : evalO C fr c = .bool true) (h : Tells Q C T f m a fr H) : Tells Q C T f m (.cond c a b) fr H := by
  obtain ⟨o, hq, ho⟩ := h
  exact ⟨o, hq, condT hc ho⟩
theorem tcondF {Q : AM.Out → Prop} {C : Ctx} {T : Cf} {f m : Nat} {fr : AM.Frame} {H : AM.Heap} {c : Operand} {a b : Code} (hc : evalO C fr c = .bool false) (h : Tells Q C T f m b fr H) : Tells Q C T f m (.cond c a b) fr H := by
  obtain ⟨o, hq, ho⟩ := h
  exact ⟨o, hq, condF hc ho⟩

section
variable (l : List UInt8) (w : Wh) (tg : Nat)

def wnP (M : List UInt8) (l : List UInt8) (w : Wh) (tg : Nat) (fr : AM.Frame) (H : AM.Heap) : Prop :=
  ∃ ob' g' tl, fr = (0, .sl 0 0 (l ++ M).length g') :: (4, .ptr 1 0 0 0) :: tl ∧ H = [some ob', some (whO w), some nilB] ∧ RwT (.pb (l ++ M)) (g' + 1) tg { ob' with g := ob'.g + 1 } ∧ 1 ≤ g'

noncomputable def wnO : Option Code := ((Try.f40.body).bind cR).bind cL

set_option maxRecDepth 100000 in
set_option maxHeartbeats 4000000 in
theorem span_code (ob : AM.Obj) (hw : RwT (.pb l) 0 tg ob) (hl : l.length ≤ 80000000) (hf : fin w 11 = true) (hz : w ≠ {}) : ∃ code, wnO = some code ∧
    Tells (Goes fun fr H => ∃ ob' g', fr = [(0, .sl 0 0 (l.length + 9) g'), (4, .ptr 1 0 0 0)] ∧ H = [some ob', some (whO w), some nilB] ∧ RwT (.pb (l ++ (((if w.us = 0 then 8 else 12) :: (if w.neg then 1 else 0) :: leB 4 w.d.toNat) ++ clB w))) g' tg ob' ∧ 1 ≤ g')
      X (evT X) 40 1 code [(0, .sl 0 0 l.length 0), (2, .int .u8 11), (4, .ptr 1 0 0 0)] [some ob, some (whO w), some nilB] := by
  refine ⟨_, rfl, ?_⟩
  have hE := fun H xo yo => eqWh w {} H xo yo
  rw [decide_eq_false hz] at hE
  simp only [Wh.pay, Int.cast_ofNat_Int] at hE
  have hb0 := bdW0
  obtain ⟨n1, n2, n3, n4, n5, n6, n7, n8, n9, n10, n11, n12, n13, n14⟩ := fin_nn hf
  apply Tells.seq (fr' := [(0, .sl 0 0 l.length 0), (4, .ptr 1 0 0 0), (10, .bool true)]) (H' := [some ob, some (whO w), some nilB])
  · (refine ⟨0, ?_⟩; simp (maxSteps := 2000000) -implicitDefEqProofs [-getElem?_pos, List.getElem?_cons_zero, List.getElem?_cons_succ, go_sem, eqV, plen, loadV, storeV])
  apply tcondT (by simp [evalO, getF])
  generalize hM : (if w.us = 0 then (8 : UInt8) else 12) = M0 at *
  generalize hy : (if w.neg then (1 : UInt8) else 0) = y at *
  obtain ⟨ob1, hw1, hA0⟩ := app_t (H := [some ob, some (whO w), some nilB]) (o := 0) (m := [M0]) (src := .ro 1 (.pb [M0]) 0) rfl hw (.inl rfl) (by simp; omega)
  apply Tells.seq (fr' := [(0, .sl 0 0 (l.length + 1) 1), (4, .ptr 1 0 0 0)]) (H' := [some ob1, some (whO w), some nilB])
  · refine Run.block (id := 0) ?_ (by simp)
    simp only [List.length_cons, List.length_nil] at hA0
    by_cases hus : w.us = 0
    · rw [if_pos hus] at hM
      have hbs := fun H => bsK H M0 8 (by rw [← hM]; rfl)
      generalize hz0 : (AV.pc [.bool false, .int .i64 0, .int .i64 0, .int .i64 0, .int .i64 0, .int .i64 0, .int .i64 0, .int .i64 0]) = pz at *
      simp only [whO, Wh.pay] at hA0
      rw [hus] at hE hA0
      (refine ⟨0, ?_⟩; simp (maxSteps := 2000000) -implicitDefEqProofs [-getElem?_pos, List.getElem?_cons_zero, List.getElem?_cons_succ, go_sem, eqV, plen, loadV, storeV, -eqV, whO, Wh.pay, mkWh, hb0, hE, hus, hbs, hA0, upd])
    · rw [if_neg hus] at hM
      have husb : (w.us == 0) = false := by simpa using hus
      have hbs := fun H => bsK H M0 12 (by rw [← hM]; rfl)
      generalize hz0 : (AV.pc [.bool false, .int .i64 0, .int .i64 0, .int .i64 0, .int .i64 0, .int .i64 0, .int .i64 0, .int .i64 0]) = pz at *
      simp only [whO, Wh.pay] at hA0
      (refine ⟨0, ?_⟩; simp (maxSteps := 2000000) -implicitDefEqProofs [-getElem?_pos, List.getElem?_cons_zero, List.getElem?_cons_succ, go_sem, eqV, plen, loadV, storeV, -eqV, whO, Wh.pay, mkWh, hb0, hE, husb, hbs, hA0, upd])
  clear hA0 hE hb0
  apply Tells.seq
  · (refine ⟨0, ?_⟩; conv => lhs; simp (maxSteps := 2000000) -implicitDefEqProofs [-getElem?_pos, List.getElem?_cons_zero, List.getElem?_cons_succ, go_sem, eqV, plen, loadV, storeV])
  apply Tells.andThen (P := fun fr H => ∃ tl, fr = [(0, .sl 0 0 (l.length + 1) 1), (4, .ptr 1 0 0 0), (7, .int .u8 (y.toNat : Nat))] ++ tl ∧ H = [some ob1, some (whO w), some nilB])
  · cases hn : w.neg with
    | true =>
      rw [hn] at hy
      refine Tells.of (o := ⟨.normal, [(0, .sl 0 0 (l.length + 1) 1), (4, .ptr 1 0 0 0), (7, .int .u8 1)], [some ob1, some (whO w), some nilB]⟩) ⟨0, ?_⟩ ⟨rfl, [], by rw [← hy]; rfl, rfl⟩
      simp (maxSteps := 2000000) -implicitDefEqProofs [-getElem?_pos, List.getElem?_cons_zero, List.getElem?_cons_succ, go_sem, eqV, plen, loadV, storeV, whO, Wh.pay, hn]
    | false =>
      rw [hn] at hy
      refine Tells.of (o := ⟨.normal, [(0, .sl 0 0 (l.length + 1) 1), (4, .ptr 1 0 0 0), (7, .int .u8 0), (29, .bool false)], [some ob1, some (whO w), some nilB]⟩) ⟨0, ?_⟩ ⟨rfl, [(29, .bool false)], by rw [← hy]; rfl, rfl⟩
      simp (maxSteps := 2000000) -implicitDefEqProofs [-getElem?_pos, List.getElem?_cons_zero, List.getElem?_cons_succ, go_sem, eqV, plen, loadV, storeV, whO, Wh.pay, hn]
  rintro fr H ⟨tl, rfl, rfl⟩
  obtain ⟨dn, hdn⟩ : ∃ n : Nat, w.d = (n : Int) := ⟨w.d.toNat, by omega⟩
  obtain ⟨hn, hhn⟩ : ∃ n : Nat, w.h = (n : Int) := ⟨w.h.toNat, by omega⟩
  obtain ⟨mn, hmn⟩ : ∃ n : Nat, w.mi = (n : Int) := ⟨w.mi.toNat, by omega⟩
  obtain ⟨sn, hsn⟩ : ∃ n : Nat, w.s = (n : Int) := ⟨w.s.toNat, by omega⟩
  obtain ⟨ob2, hw2, hA1⟩ := app_t (H := [some ob1, some (whO w), some nilB]) (o := 0) (m := [y]) (src := .ro 1 (.pb [y]) 0) rfl hw1 (.inl rfl) (by simp; omega)
  obtain ⟨ob3, hw3, hF⟩ := vfixed_ev (H := [some ob2, some (whO w), some nilB]) (o := 0) (x := dn) (n := 4) (N := 4) rfl hw2 rfl (by simp; omega) (by omega) (by omega)
  obtain ⟨ob4, hw4, hA2⟩ := app_t (H := [some ob3, some (whO w), some nilB]) (o := 0) (m := clB w) (src := .ro 1 (.pb (clB w)) 0) rfl hw3 (.inl rfl) (by simp [leB_len, clB]; omega)
  have l1 : (l ++ [M0]).length = l.length + 1 := by simp
  have l2 : (l ++ [M0] ++ [y]).length = l.length + 2 := by simp
  have l3 : (l ++ [M0] ++ [y] ++ leB 4 dn).length = l.length + 6 := by simp [leB_len]
  rw [l1] at hA1
  rw [l2] at hF
  rw [l3] at hA2
  apply Tells.seq (fr' := [(0, .sl 0 0 (l.length + 6) 3), (4, .ptr 1 0 0 0)]) (H' := [some ob3, some (whO w), some nilB])
  · have hbs := fun H => bs1 H y
    have wd : IntKind.u64.wrap w.d = (dn : Int) := by rw [hdn]; exact wrap_u64 (by omega) (by omega)
    have hre : reach [some ob2, some (whO w), some nilB] reachFuel [0] [] = [0] := reach_box rfl (by rw [hw2.p]; rfl)
    have hg1 := hw1.g
    have hp1 := hw1.p
    have hi1 := hw1.ids
    have hg2 := hw2.g
    have hp2 := hw2.p
    have hi2 := hw2.ids
    simp only [List.length_cons, List.length_nil, whO, Wh.pay] at hA1 hF hre
    clear hw hw1 hw2 hw3 hw4 hA2 l1 l2 l3
    apply Run.dy (by simp) keep40_10 (by simp)
    · (conv => lhs; simp (maxSteps := 2000000) -implicitDefEqProofs [-getElem?_pos, List.getElem?_cons_zero, List.getElem?_cons_succ, go_sem, eqV, plen, loadV, storeV, runD, out1, markOf, freeO, quietO, pushes, isAssign, calledV, touched, mentioned, opVals, touchCall, mentionCall, idsAt, Op.operands, ids, idsL, lendArgs, lendV, lend1, lendL, whO, Wh.pay, hbs, hA1, upd, wd, hF, assignV, reach_none, hre, hg1, hi1, hg2, hi2])
      rfl
    · kernel_rfl
    · rfl
  refine Tells.of (o := ⟨.normal, [(0, .sl 0 0 (l.length + 9) 4), (4, .ptr 1 0 0 0)], [some ob4, some (whO w), some nilB]⟩) ⟨0, ?_⟩ ⟨rfl, ob4, 4, rfl, rfl, ?_, by omega⟩
  · have w1 : IntKind.u8.wrap w.h = (hn : Int) := by rw [hhn]; exact wrap_u8 (by omega) (by omega)
    have w2 : IntKind.u8.wrap w.mi = (mn : Int) := by rw [hmn]; exact wrap_u8 (by omega) (by omega)
    have w3 : IntKind.u8.wrap w.s = (sn : Int) := by rw [hsn]; exact wrap_u8 (by omega) (by omega)
    have hbs := fun H => bs3n H hn mn sn (by omega) (by omega) (by omega)
    have hcl : clB w = [UInt8.ofNat hn, UInt8.ofNat mn, UInt8.ofNat sn] := by unfold clB; rw [hhn, hmn, hsn]; simp
    rw [hcl] at hA2
    simp only [List.length_cons, List.length_nil, whO, Wh.pay] at hA2
    generalize [UInt8.ofNat hn, UInt8.ofNat mn, UInt8.ofNat sn] = cl at *
    simp (maxSteps := 2000000) -implicitDefEqProofs [-getElem?_pos, List.getElem?_cons_zero, List.getElem?_cons_succ, go_sem, eqV, plen, loadV, storeV, whO, Wh.pay, w1, w2, w3, hbs, hA2, upd]
  · have e : w.d.toNat = dn := by rw [hdn]; simp
    rw [e]
    simpa using hw4

def moM (w : Wh) : List UInt8 := (moN w :: (leB 2 w.y.toNat ++ [UInt8.ofNat w.mo.toNat, UInt8.ofNat w.d.toNat])) ++ (if w = { y := w.y, mo := w.mo, d := w.d } then [] else clB w)

set_option maxRecDepth 100000 in
set_option maxHeartbeats 4000000 in
theorem moment_code (t : Nat) (ob : AM.Obj) (hw : RwT (.pb l) 0 tg ob) (hl : l.length ≤ 80000000) (ht : t < 256) (h11 : t ≠ 11) (hf : fin w t = true) (hz : w ≠ {}) : ∃ code, wnO = some code ∧
    Tells (Goes fun fr H => ∃ ob' g' tl, fr = [(0, .sl 0 0 (l ++ moM w).length g'), (4, .ptr 1 0 0 0)] ++ tl ∧ H = [some ob', some (whO w), some nilB] ∧ RwT (.pb (l ++ moM w)) g' tg ob' ∧ 1 ≤ g')
      X (evT X) 40 1 code [(0, .sl 0 0 l.length 0), (2, .int .u8 (t : Nat)), (4, .ptr 1 0 0 0)] [some ob, some (whO w), some nilB] := by
  refine ⟨_, rfl, ?_⟩
  have hE := fun H xo yo => eqWh w {} H xo yo
  rw [decide_eq_false hz] at hE
  have hE2 := fun H xo yo => eqWh w { y := w.y, mo := w.mo, d := w.d } H xo yo
  simp only [Wh.pay, Int.cast_ofNat_Int] at hE hE2
  have hb0 := bdW0
  have hb3 := bdW3 w.y w.mo w.d
  obtain ⟨n1, n2, n3, n4, n5, n6, n7, n8, n9, n10, n11, n12, n13, n14⟩ := fin_nn hf
  have h11b : ((t : Int) == 11) = false := by simp; omega
  apply Tells.seq (fr' := [(0, .sl 0 0 l.length 0), (4, .ptr 1 0 0 0), (10, .bool false)]) (H' := [some ob, some (whO w), some nilB])
  · (refine ⟨0, ?_⟩; simp (maxSteps := 2000000) -implicitDefEqProofs [-getElem?_pos, List.getElem?_cons_zero, List.getElem?_cons_succ, go_sem, eqV, plen, loadV, storeV, h11b])
  apply tcondF (by simp [evalO, getF])
  apply Tells.seq
  · (refine ⟨0, ?_⟩; conv => lhs; simp (maxSteps := 2000000) -implicitDefEqProofs [-getElem?_pos, List.getElem?_cons_zero, List.getElem?_cons_succ, go_sem, eqV, plen, loadV, storeV])
  unfold moM
  have hmn : moN w = if decide (w = { y := w.y, mo := w.mo, d := w.d }) = true then 4 else if w.us = 0 then 7 else 11 := by
    unfold moN
    simp only [decide_eq_true_eq]
  have hif : (if w = { y := w.y, mo := w.mo, d := w.d } then ([] : List UInt8) else clB w) = if decide (w = { y := w.y, mo := w.mo, d := w.d }) = true then [] else clB w := by
    simp only [decide_eq_true_eq]
  rw [hif]
  clear hif
  generalize decide (w = { y := w.y, mo := w.mo, d := w.d }) = e at *
  generalize moN w = N at *
  apply Tells.andThen (P := fun fr H => ∃ tl, fr = [(0, .sl 0 0 l.length 0), (4, .ptr 1 0 0 0), (8, .int .u8 (N.toNat : Nat))] ++ tl ∧ H = [some ob, some (whO w), some nilB])
  · generalize hz0 : (AV.pc [.bool false, .int .i64 0, .int .i64 0, .int .i64 0, .int .i64 0, .int .i64 0, .int .i64 0, .int .i64 0]) = pz at *
    generalize hz3 : (AV.pc [.bool false, .int .i64 w.y, .int .i64 w.mo, .int .i64 w.d, .int .i64 0, .int .i64 0, .int .i64 0, .int .i64 0]) = p3 at *
    cases e with
    | true =>
      rw [if_pos rfl] at hmn
      refine Tells.of (o := ⟨.normal, [(0, .sl 0 0 l.length 0), (4, .ptr 1 0 0 0), (8, .int .u8 4)], [some ob, some (whO w), some nilB]⟩) (Run.block (id := 1) ⟨0, ?_⟩ (by simp)) ⟨rfl, [], by rw [hmn]; rfl, rfl⟩
      simp (maxSteps := 2000000) -implicitDefEqProofs [-getElem?_pos, List.getElem?_cons_zero, List.getElem?_cons_succ, go_sem, eqV, plen, loadV, storeV, -eqV, whO, Wh.pay, mkWh, hb0, hb3, hE, hE2]
    | false =>
      rw [if_neg (by simp)] at hmn
      by_cases hus : w.us = 0
      · rw [if_pos hus] at hmn
        refine Tells.of (o := ⟨.normal, [(0, .sl 0 0 l.length 0), (4, .ptr 1 0 0 0), (8, .int .u8 7)], [some ob, some (whO w), some nilB]⟩) (Run.block (id := 1) ⟨0, ?_⟩ (by simp)) ⟨rfl, [], by rw [hmn]; rfl, rfl⟩
        rw [hus] at hE hE2
        simp (maxSteps := 2000000) -implicitDefEqProofs [-getElem?_pos, List.getElem?_cons_zero, List.getElem?_cons_succ, go_sem, eqV, plen, loadV, storeV, -eqV, whO, Wh.pay, mkWh, hb0, hb3, hE, hE2, hus]
      · rw [if_neg hus] at hmn
        have husb : (w.us == 0) = false := by simpa using hus
        refine Tells.of (o := ⟨.normal, [(0, .sl 0 0 l.length 0), (4, .ptr 1 0 0 0), (8, .int .u8 11), (67, .bool false)], [some ob, some (whO w), some nilB]⟩) (Run.block (id := 1) ⟨0, ?_⟩ (by simp)) ⟨rfl, [(67, .bool false)], by rw [hmn]; rfl, rfl⟩
        simp (maxSteps := 2000000) -implicitDefEqProofs [-getElem?_pos, List.getElem?_cons_zero, List.getElem?_cons_succ, go_sem, eqV, plen, loadV, storeV, -eqV, whO, Wh.pay, mkWh, hb0, hb3, hE, hE2, husb]
  clear hE hE2 hb0 hb3
  rintro fr H ⟨tl, rfl, rfl⟩
  obtain ⟨yn, hyn⟩ : ∃ n : Nat, w.y = (n : Int) := ⟨w.y.toNat, by omega⟩
  obtain ⟨on, hon⟩ : ∃ n : Nat, w.mo = (n : Int) := ⟨w.mo.toNat, by omega⟩
  obtain ⟨dn, hdn⟩ : ∃ n : Nat, w.d = (n : Int) := ⟨w.d.toNat, by omega⟩
  obtain ⟨hn, hhn⟩ : ∃ n : Nat, w.h = (n : Int) := ⟨w.h.toNat, by omega⟩
  obtain ⟨mn, hmnn⟩ : ∃ n : Nat, w.mi = (n : Int) := ⟨w.mi.toNat, by omega⟩
  obtain ⟨sn, hsn⟩ : ∃ n : Nat, w.s = (n : Int) := ⟨w.s.toNat, by omega⟩
  have ey : w.y.toNat = yn := by rw [hyn]; simp
  have eo : w.mo.toNat = on := by rw [hon]; simp
  have ed : w.d.toNat = dn := by rw [hdn]; simp
  rw [ey, eo, ed]
  obtain ⟨ob1, hw1, hA1⟩ := app_t (H := [some ob, some (whO w), some nilB]) (o := 0) (m := [N]) (src := .ro 1 (.pb [N]) 0) rfl hw (.inl rfl) (by simp; omega)
  obtain ⟨ob2, hw2, hF⟩ := vfixed_ev (H := [some ob1, some (whO w), some nilB]) (o := 0) (x := yn) (n := 2) (N := 2) rfl hw1 rfl (by simp; omega) (by omega) (by omega)
  obtain ⟨ob3, hw3, hA2⟩ := app_t (H := [some ob2, some (whO w), some nilB]) (o := 0) (m := [UInt8.ofNat on, UInt8.ofNat dn]) (src := .ro 1 (.pb [UInt8.ofNat on, UInt8.ofNat dn]) 0) rfl hw2 (.inl rfl) (by simp [leB_len]; omega)
  obtain ⟨ob4, hw4, hA3⟩ := app_t (H := [some ob3, some (whO w), some nilB]) (o := 0) (m := clB w) (src := .ro 1 (.pb (clB w)) 0) rfl hw3 (.inl rfl) (by simp [leB_len, clB]; omega)
  have l1 : (l ++ [N]).length = l.length + 1 := by simp
  have l2 : (l ++ [N] ++ leB 2 yn).length = l.length + 3 := by simp [leB_len]
  have l3 : (l ++ [N] ++ leB 2 yn ++ [UInt8.ofNat on, UInt8.ofNat dn]).length = l.length + 5 := by simp [leB_len]
  rw [l1] at hF
  rw [l2] at hA2
  rw [l3] at hA3
  apply Tells.seq (fr' := [(0, .sl 0 0 (l.length + 5) 3), (4, .ptr 1 0 0 0), (8, .int .u8 (N.toNat : Nat))]) (H' := [some ob3, some (whO w), some nilB])
  · have hbs := fun H => bs1 H N
    have hbs2 := fun H => bs2n H on dn (by omega) (by omega)
    have wd : IntKind.u64.wrap w.y = (yn : Int) := by rw [hyn]; exact wrap_u64 (by omega) (by omega)
    have w1 : IntKind.u8.wrap w.mo = (on : Int) := by rw [hon]; exact wrap_u8 (by omega) (by omega)
    have w2 : IntKind.u8.wrap w.d = (dn : Int) := by rw [hdn]; exact wrap_u8 (by omega) (by omega)
    have hre : reach [some ob1, some (whO w), some nilB] reachFuel [0] [] = [0] := reach_box rfl (by rw [hw1.p]; rfl)
    have hg1 := hw.g
    have hi1 := hw.ids
    have hg2 := hw1.g
    have hi2 := hw1.ids
    have hg3 := hw2.g
    have hi3 := hw2.ids
    have hq1 := hw1.p
    simp only [List.length_cons, List.length_nil, whO, Wh.pay] at hA1 hF hre hA2
    clear hw hw1 hw2 hw3 hw4 hA3 l1 l2 l3
    generalize [UInt8.ofNat on, UInt8.ofNat dn] = od at *
    apply Run.dy (by simp) keep40_19 (by simp)
    · (conv => lhs; simp (maxSteps := 2000000) -implicitDefEqProofs [-getElem?_pos, List.getElem?_cons_zero, List.getElem?_cons_succ, go_sem, eqV, plen, loadV, storeV, runD, out1, markOf, freeO, quietO, pushes, isAssign, calledV, touched, mentioned, opVals, touchCall, mentionCall, idsAt, Op.operands, ids, idsL, lendArgs, lendV, lend1, lendL, whO, Wh.pay, hbs, hbs2, hA1, upd, wd, w1, w2, hF, hA2, assignV, reach_none, hre, hg1, hi1, hg2, hi2, hg3, hi3, hq1])
      rfl
    · kernel_rfl
    · rfl
  cases e with
  | true =>
    rw [if_pos rfl] at hmn ⊢
    subst hmn
    refine Tells.of (o := ⟨.normal, [(0, .sl 0 0 (l.length + 5) 3), (4, .ptr 1 0 0 0), (88, .bool false)], [some ob3, some (whO w), some nilB]⟩) ⟨0, ?_⟩ ⟨rfl, ob3, 3, [(88, .bool false)], by simp [leB_len], rfl, by simpa using hw3, by omega⟩
    simp (maxSteps := 2000000) -implicitDefEqProofs [-getElem?_pos, List.getElem?_cons_zero, List.getElem?_cons_succ, go_sem, eqV, plen, loadV, storeV, whO, Wh.pay, show ((4 : UInt8).toNat : Int) = 4 from rfl]
  | false =>
    rw [if_neg (by simp)] at hmn ⊢
    have hN4 : (4 : Int) < (N.toNat : Int) := by
      rw [hmn]; split <;> decide
    have hcl : clB w = [UInt8.ofNat hn, UInt8.ofNat mn, UInt8.ofNat sn] := by unfold clB; rw [hhn, hmnn, hsn]; simp
    rw [hcl] at hA3 hw4 ⊢
    refine Tells.of (o := ⟨.normal, [(0, .sl 0 0 (l.length + 8) 4), (4, .ptr 1 0 0 0)], [some ob4, some (whO w), some nilB]⟩) ⟨0, ?_⟩ ⟨rfl, ob4, 4, [], by simp [leB_len], rfl, by simpa using hw4, by omega⟩
    have w1 : IntKind.u8.wrap w.h = (hn : Int) := by rw [hhn]; exact wrap_u8 (by omega) (by omega)
    have w2 : IntKind.u8.wrap w.mi = (mn : Int) := by rw [hmnn]; exact wrap_u8 (by omega) (by omega)
    have w3 : IntKind.u8.wrap w.s = (sn : Int) := by rw [hsn]; exact wrap_u8 (by omega) (by omega)
    have hbs := fun H => bs3n H hn mn sn (by omega) (by omega) (by omega)
    simp only [List.length_cons, List.length_nil, whO, Wh.pay] at hA3
    generalize [UInt8.ofNat hn, UInt8.ofNat mn, UInt8.ofNat sn] = cl at *
    simp (maxSteps := 2000000) -implicitDefEqProofs [-getElem?_pos, List.getElem?_cons_zero, List.getElem?_cons_succ, go_sem, eqV, plen, loadV, storeV, whO, Wh.pay, hN4, w1, w2, w3, hbs, hA3, upd]

/-- what stands behind the clock, and returns -/
noncomputable def wnE : Option Code := ((Try.f40.body).bind cR).bind cR

set_option maxRecDepth 100000 in
set_option maxHeartbeats 4000000 in
theorem end_code (M : List UInt8) (g : Nat) (tl : AM.Frame) (ob : AM.Obj) (hw : RwT (.pb (l ++ M)) g tg ob) (hg : 1 ≤ g) (hl : (l ++ M).length ≤ 80000100) (hu : 0 ≤ w.us ∧ w.us < 4294967296) : ∃ code, wnE = some code ∧
    Tells (Rets fun fr H => ∃ ob' g' R, getF fr 6 = .sl 0 0 (l ++ (M ++ usB w)).length g' ∧ H = some ob' :: R ∧ RwT (.pb (l ++ (M ++ usB w))) g' tg ob' ∧ 1 ≤ g')
      X (evT X) 40 1 code ([(0, .sl 0 0 (l ++ M).length g), (4, .ptr 1 0 0 0)] ++ tl) [some ob, some (whO w), some nilB] := by
  refine ⟨_, rfl, ?_⟩
  have hg0 := hw.g
  unfold usB
  by_cases hus : w.us = 0
  · rw [if_pos hus, List.append_nil]
    refine Tells.of (o := ⟨.ret, [(6, .sl 0 0 (l ++ M).length g)], [some ob, some (whO w), some nilB]⟩) ⟨0, ?_⟩ ⟨rfl, ob, g, _, rfl, rfl, hw, hg⟩
    generalize (l ++ M).length = n at *
    simp (maxSteps := 2000000) -implicitDefEqProofs [-getElem?_pos, List.getElem?_cons_zero, List.getElem?_cons_succ, go_sem, eqV, plen, loadV, storeV, whO, Wh.pay, hus, assignV]
  · rw [if_neg hus]
    have husb : (w.us != 0) = true := by simpa using hus
    obtain ⟨un, hun⟩ : ∃ n : Nat, w.us = (n : Int) := ⟨w.us.toNat, by omega⟩
    have eu : w.us.toNat = un := by rw [hun]; simp
    rw [eu, ← List.append_assoc]
    have wd : IntKind.u64.wrap w.us = (un : Int) := by rw [hun]; exact wrap_u64 (by omega) (by omega)
    obtain ⟨ob2, hw2, hF⟩ := vfixed_ev (H := [some ob, some (whO w), some nilB]) (o := 0) (x := un) (n := 4) (N := 4) rfl hw rfl (by omega) (by omega) (by omega)
    refine Tells.of (o := ⟨.ret, [(6, .sl 0 0 ((l ++ M).length + 4) (g + 1))], [some ob2, some (whO w), some nilB]⟩) ⟨0, ?_⟩ ⟨rfl, ob2, g + 1, _, by rw [List.length_append (bs := leB 4 un), leB_len]; rfl, rfl, hw2, by omega⟩
    generalize (l ++ M).length = n at *
    simp only [whO, Wh.pay] at hF
    simp (maxSteps := 2000000) -implicitDefEqProofs [-getElem?_pos, List.getElem?_cons_zero, List.getElem?_cons_succ, go_sem, eqV, plen, loadV, storeV, whO, Wh.pay, husb, wd, hF, assignV, upd]

set_option maxRecDepth 100000 in
set_option maxHeartbeats 4000000 in
theorem when_code (t : Nat) (ob : AM.Obj) (hw : RwT (.pb l) 0 tg ob) (hl : l.length ≤ 80000000) (ht : t < 256) (hf : fin w t = true) : ∃ code, Try.f40.body = some code ∧
    Tells (Rets fun fr H => ∃ ob' g' R, getF fr 6 = .sl 0 0 (l ++ whB w t).length g' ∧ H = some ob' :: R ∧ RwT (.pb (l ++ whB w t)) g' tg ob' ∧ 1 ≤ g')
      X (evT X) 40 1 code [(0, .sl 0 0 l.length 0), (1, .agg w.pay), (2, .int .u8 (t : Nat))] [some ob] := by
  refine ⟨_, rfl, ?_⟩
  have hnn := fin_nn hf
  apply Tells.seq (fr' := [(0, .sl 0 0 l.length 0), (2, .int .u8 (t : Nat)), (4, .ptr 1 0 0 0)]) (H' := [some ob, some (whO w), some nilB])
  · (refine ⟨0, ?_⟩; simp (maxSteps := 2000000) -implicitDefEqProofs [-getElem?_pos, List.getElem?_cons_zero, List.getElem?_cons_succ, go_sem, eqV, plen, loadV, storeV, whO, Wh.pay, assignV, emB])
  by_cases hz : w = {}
  · have hwb : whB w t = [0] := by unfold whB spB moB; rw [if_pos hz, if_pos hz]; simp
    rw [hwb]
    obtain ⟨ob1, hw1, hA1⟩ := app_t (H := [some ob, some (whO w), some nilB]) (o := 0) (m := [0]) (src := .ro 1 (.pb [0]) 0) rfl hw (.inl rfl) (by simp; omega)
    have hE := fun H xo yo => eqWh w {} H xo yo
    rw [decide_eq_true hz] at hE
    simp only [Wh.pay, Int.cast_ofNat_Int] at hE
    have hb0 := bdW0
    have hbs := fun H => bsK H 0 0 rfl
    have hg1 := hw1.g
    refine Tells.of (o := ⟨.ret, [(6, .sl 0 0 (l.length + 1) 1)], [some ob1, some (whO w), some nilB]⟩) ?_ ⟨rfl, ob1, 1, _, by simp [getF], rfl, hw1, by omega⟩
    apply Run.seq_out (hne := by simp)
    simp only [List.length_cons, List.length_nil, whO, Wh.pay] at hA1
    generalize hz0 : (AV.pc [.bool false, .int .i64 0, .int .i64 0, .int .i64 0, .int .i64 0, .int .i64 0, .int .i64 0, .int .i64 0]) = pz at *
    by_cases h11 : t = 11
    · subst h11
      apply Run.seq (fr' := [(0, .sl 0 0 l.length 0), (4, .ptr 1 0 0 0), (10, .bool true)]) (H' := [some ob, some (whO w), some nilB])
      · (refine ⟨0, ?_⟩; simp (maxSteps := 2000000) -implicitDefEqProofs [-getElem?_pos, List.getElem?_cons_zero, List.getElem?_cons_succ, go_sem, eqV, plen, loadV, storeV])
      refine condT (by simp [evalO, getF]) ?_
      apply Run.seq_out (hne := by simp)
      refine Run.block ?_ (by simp)
      refine ⟨0, ?_⟩
      simp (maxSteps := 2000000) -implicitDefEqProofs [-getElem?_pos, List.getElem?_cons_zero, List.getElem?_cons_succ, go_sem, eqV, plen, loadV, storeV, -eqV, whO, Wh.pay, mkWh, hb0, hE, hbs, hA1, upd, assignV]
    · have h11b : ((t : Int) == 11) = false := by simp; omega
      apply Run.seq (fr' := [(0, .sl 0 0 l.length 0), (4, .ptr 1 0 0 0), (10, .bool false)]) (H' := [some ob, some (whO w), some nilB])
      · (refine ⟨0, ?_⟩; simp (maxSteps := 2000000) -implicitDefEqProofs [-getElem?_pos, List.getElem?_cons_zero, List.getElem?_cons_succ, go_sem, eqV, plen, loadV, storeV, h11b])
      refine condF (by simp [evalO, getF]) ?_
      apply Run.seq
      · (refine ⟨0, ?_⟩; conv => lhs; simp (maxSteps := 2000000) -implicitDefEqProofs [-getElem?_pos, List.getElem?_cons_zero, List.getElem?_cons_succ, go_sem, eqV, plen, loadV, storeV])
      apply Run.seq_out (hne := by simp)
      refine Run.block ?_ (by simp)
      refine ⟨0, ?_⟩
      simp (maxSteps := 2000000) -implicitDefEqProofs [-getElem?_pos, List.getElem?_cons_zero, List.getElem?_cons_succ, go_sem, eqV, plen, loadV, storeV, -eqV, whO, Wh.pay, mkWh, hb0, hE, hbs, hA1, upd, assignV]
  · by_cases h11 : t = 11
    · subst h11
      have hwb : whB w 11 = ((if w.us = 0 then 8 else 12) :: (if w.neg then 1 else 0) :: leB 4 w.d.toNat) ++ clB w ++ usB w := by unfold whB spB; rw [if_pos rfl, if_neg hz]
      rw [hwb]
      refine Tells.andThen (pieceF (span_code l w tg ob hw hl hf hz) _ rfl) ?_
      rintro fr H ⟨ob', g', rfl, rfl, hw', hg'⟩
      have hle : (l ++ (((if w.us = 0 then 8 else 12) :: (if w.neg then 1 else 0) :: leB 4 w.d.toNat) ++ clB w)).length = l.length + 9 := by simp [leB_len, clB]
      have := pieceF (end_code l w tg _ g' [] ob' hw' hg' (by omega) ⟨hnn.2.2.2.2.2.2.2.2.2.2.2.2.1, hnn.2.2.2.2.2.2.2.2.2.2.2.2.2⟩) _ rfl
      rw [hle] at this
      exact this
    · have hwb : whB w t = moM w ++ usB w := by unfold whB moB moM; rw [if_neg h11, if_neg hz]
      rw [hwb]
      refine Tells.andThen (pieceF (moment_code l w tg t ob hw hl ht h11 hf hz) _ rfl) ?_
      rintro fr H ⟨ob', g', tl, rfl, rfl, hw', hg'⟩
      have hle : (l ++ moM w).length ≤ l.length + 8 := by
        unfold moM
        split <;> simp [leB_len, clB]
      exact pieceF (end_code l w tg _ g' tl ob' hw' hg' (by omega) ⟨hnn.2.2.2.2.2.2.2.2.2.2.2.2.1, hnn.2.2.2.2.2.2.2.2.2.2.2.2.2⟩) _ rfl

end

end Go.Proofs.Ytbmddnokokoofaa
