/- Walks: kinds and sizes of types; moments that may be. -/
import Derived.Test.YtbmddnokokoofaaL3
import Derived.Test.YtbmddnokokoofaaL4
import Derived.Test.YtbmddnokokoofaaCN
namespace Go.Proofs.Ytbmddnokokoofaa
open Go.AM
set_option linter.unusedSimpArgs false
set_option linter.unusedVariables false

structure Wh where
  neg : Bool := false
  y : Int := 0
  mo : Int := 0
  d : Int := 0
  h : Int := 0
  mi : Int := 0
  s : Int := 0
  us : Int := 0
  deriving DecidableEq

structure Va where
  k : Int := 0
  i : Int := 0
  b : Nat := 0
  t : List UInt8 := []
  w : Wh := {}
  deriving DecidableEq

structure Ty where
  t : Nat
  u : Bool

def Wh.pay (w : Wh) : AV := .pc [.bool w.neg, .int .i64 w.y, .int .i64 w.mo, .int .i64 w.d, .int .i64 w.h, .int .i64 w.mi, .int .i64 w.s, .int .i64 w.us]
def Va.pay (v : Va) : AV := .pc [.int .i64 v.k, .int .i64 v.i, .int .u64 (v.b : Nat), .str v.t, .bool v.w.neg, .int .i64 v.w.y, .int .i64 v.w.mo, .int .i64 v.w.d, .int .i64 v.w.h, .int .i64 v.w.mi, .int .i64 v.w.s, .int .i64 v.w.us]
def Ty.pay (t : Ty) : AV := .pc [.int .u8 (t.t : Nat), .bool t.u]
def whO (w : Wh) : AM.Obj := ⟨w.pay, 0, some 8, 1, false, true, 0⟩
def vaO (v : Va) : AM.Obj := ⟨v.pay, 0, some 12, 1, false, true, 0⟩
def tyO (t : Ty) : AM.Obj := ⟨t.pay, 0, some 2, 1, false, true, 0⟩

theorem mkWh (l : List AV) : mkAgg X 30 l = some (.pc l) := by kernel_rfl
theorem mkVa (l : List AV) : mkAgg X 32 l = some (.pc l) := by kernel_rfl
theorem mkTy (l : List AV) : mkAgg X 27 l = some (.pc l) := by kernel_rfl

theorem args_wh {f i : Nat} {H : AM.Heap} {w : Wh} {r ys : List AV} {xs : List Lent} (hr : lendArgs X f H (i + 1) r = some (ys, xs)) (hrw : X.rw f i = false := by rfl) :
    lendArgs X f H i (.agg w.pay :: r) = some (.agg w.pay :: ys, ⟨[], []⟩ :: xs) := by
  simp [lendArgs, hrw, hr, lendV, Wh.pay, lendL, lend1, tags]
theorem args_va {f i : Nat} {H : AM.Heap} {v : Va} {r ys : List AV} {xs : List Lent} (hr : lendArgs X f H (i + 1) r = some (ys, xs)) (hrw : X.rw f i = false := by rfl) :
    lendArgs X f H i (.agg v.pay :: r) = some (.agg v.pay :: ys, ⟨[], []⟩ :: xs) := by
  simp [lendArgs, hrw, hr, lendV, Va.pay, lendL, lend1, tags]
theorem args_ty {f i : Nat} {H : AM.Heap} {t : Ty} {r ys : List AV} {xs : List Lent} (hr : lendArgs X f H (i + 1) r = some (ys, xs)) (hrw : X.rw f i = false := by rfl) :
    lendArgs X f H i (.agg t.pay :: r) = some (.agg t.pay :: ys, ⟨[], []⟩ :: xs) := by
  simp [lendArgs, hrw, hr, lendV, Ty.pay, lendL, lend1, tags]

/-- a type's kind -/
def kindN (t : Nat) (u : Bool) : Int := if kn t = false then -1 else if t = 1 ∨ t = 2 ∨ t = 13 ∨ t = 3 ∨ t = 9 ∨ t = 8 then (if u then 2 else 1) else if t = 4 then 3 else if t = 5 then 4 else if t = 7 ∨ t = 10 ∨ t = 12 then 5 else if t = 11 then 6 else if t = 6 then 0 else 7
/-- how many bytes a number's type has -/
def sizeN (t : Nat) : Nat := if t = 1 then 1 else if t = 2 ∨ t = 13 then 2 else if t = 3 ∨ t = 9 ∨ t = 4 then 4 else if t = 8 ∨ t = 5 then 8 else 0
def rsizeN (t : Nat) : Nat := if t = 1 then 1 else if t = 2 ∨ t = 13 then 2 else if t = 3 ∨ t = 9 ∨ t = 4 then 4 else 8

theorem rowNames : RowsOk X [⟨42, [], .agg (.pc nmL), []⟩] :=
  RowsOk.cons (T := fun _ _ _ => none) (n := 50) Below.none RowsOk.nil (by kernel_rfl)

theorem kind_each {j : Nat} (hj : j < 512) (H : AM.Heap) : Ev1 X 36 [.agg (.pc [.int .u8 ((j / 2 : Nat) : Int), .bool (j % 2 == 1)])] H (.int .i64 (kindN (j / 2) (j % 2 == 1)), H) :=
  Ev1.each (T := tabF [⟨42, [], .agg (.pc nmL), []⟩]) (tabF_below rowNames) (n := 60) (f := 36) (N := 512) (a := fun j => .agg (.pc [.int .u8 ((j / 2 : Nat) : Int), .bool (j % 2 == 1)])) (v := fun j => .int .i64 (kindN (j / 2) (j % 2 == 1))) (by kernel_rfl) (fun _ => rfl) hj H

theorem kind_ev {t : Ty} (ht : t.t < 256) (H : AM.Heap) : evT X 36 [.agg t.pay] H = some (.int .i64 (kindN t.t t.u), H) := by
  obtain ⟨t, u⟩ := t
  simp only at ht
  have h1 : (2 * t + (if u then 1 else 0)) / 2 = t := by split <;> omega
  have h2 : ((2 * t + (if u then 1 else 0)) % 2 == 1) = u := by
    cases u
    · simp
    · simp only [if_true]
      rw [show (2 * t + 1) % 2 = 1 by omega]; rfl
  have := kind_each (j := 2 * t + (if u then 1 else 0)) (by split <;> omega) H
  rw [h1, h2] at this
  exact evT_eq this

theorem rkind_each {j : Nat} (hj : j < 512) (H : AM.Heap) : Ev1 X 46 [.agg (.pc [.int .u8 ((j / 2 : Nat) : Int), .bool (j % 2 == 1)])] H (.int .i64 (kindN (j / 2) (j % 2 == 1)), H) :=
  Ev1.each (T := fun _ _ _ => none) Below.none (n := 60) (f := 46) (N := 512) (a := fun j => .agg (.pc [.int .u8 ((j / 2 : Nat) : Int), .bool (j % 2 == 1)])) (v := fun j => .int .i64 (kindN (j / 2) (j % 2 == 1))) (by kernel_rfl) (fun _ => rfl) hj H

theorem rkind_ev {t : Ty} (ht : t.t < 256) (H : AM.Heap) : evT X 46 [.agg t.pay] H = some (.int .i64 (kindN t.t t.u), H) := by
  obtain ⟨t, u⟩ := t
  simp only at ht
  have h1 : (2 * t + (if u then 1 else 0)) / 2 = t := by split <;> omega
  have h2 : ((2 * t + (if u then 1 else 0)) % 2 == 1) = u := by
    cases u
    · simp
    · simp only [if_true]
      rw [show (2 * t + 1) % 2 = 1 by omega]; rfl
  have := rkind_each (j := 2 * t + (if u then 1 else 0)) (by split <;> omega) H
  rw [h1, h2] at this
  exact evT_eq this

theorem size_ev' {k : Nat} (hk : k < 256) (H : AM.Heap) : evT X 37 [.int .u8 (k : Nat)] H = some (.int .i64 (sizeN k : Nat), H) :=
  evT_eq (Ev1.each (T := fun _ _ _ => none) Below.none (n := 50) (f := 37) (N := 256) (a := fun k => .int .u8 (k : Nat)) (v := fun k => .int .i64 (sizeN k : Nat)) (by kernel_rfl) (fun _ => rfl) hk H)

theorem rsize_ev' {k : Nat} (hk : k < 256) (H : AM.Heap) : evT X 47 [.int .u8 (k : Nat)] H = some (.int .i64 (rsizeN k : Nat), H) :=
  evT_eq (Ev1.each (T := fun _ _ _ => none) Below.none (n := 50) (f := 47) (N := 256) (a := fun k => .int .u8 (k : Nat)) (v := fun k => .int .i64 (rsizeN k : Nat)) (by kernel_rfl) (fun _ => rfl) hk H)

/-- is a number between? -/
def btw (x l m : Int) : Bool := decide (l ≤ x ∧ x ≤ m)

set_option maxRecDepth 100000 in
theorem btw_code (x l m : Int) : ∃ code, Try.f54.body = some code ∧
    Run X (evT X) 54 0 code [(0, .int .i64 x), (1, .int .i64 l), (2, .int .i64 m)] [] ⟨.ret, [(6, .bool (btw x l m))], []⟩ := by
  refine ⟨_, rfl, 0, ?_⟩
  unfold btw
  by_cases h : l ≤ x
  · simp (maxSteps := 2000000) -implicitDefEqProofs [-getElem?_pos, List.getElem?_cons_zero, List.getElem?_cons_succ, go_sem, eqV, plen, loadV, storeV, h]
  · simp (maxSteps := 2000000) -implicitDefEqProofs [-getElem?_pos, List.getElem?_cons_zero, List.getElem?_cons_succ, go_sem, eqV, plen, loadV, storeV, h]

theorem btw_ev (x l m : Int) (H : AM.Heap) : evT X 54 [.int .i64 x, .int .i64 l, .int .i64 m] H = some (.bool (btw x l m), H) := by
  obtain ⟨code, hcode, hr⟩ := btw_code x l m
  exact evT_eq (Ev1.toldP (l := [.bool (btw x l m)]) (evT_below X) Try.func54 hcode (args_flat (i := 0) rfl rfl (args_flat (i := 1) rfl rfl (args_flat (i := 2) rfl rfl (args_nil 3)))) rfl (by simp [gtag]) rfl rfl rfl ⟨_, ⟨rfl, rfl⟩, hr⟩)

/-- may a time of day be? -/
def clk (w : Wh) : Bool := btw w.h 0 23 && (btw w.mi 0 59 && (btw w.s 0 59 && btw w.us 0 999999))
/-- is there no time of day? -/
def mid (w : Wh) : Bool := decide (w.h = 0 ∧ w.mi = 0 ∧ w.s = 0 ∧ w.us = 0)

section
variable (w : Wh)

set_option maxRecDepth 100000 in
theorem clock_code : ∃ code, Try.f53.body = some code ∧
    Run X (evT X) 53 0 code [(0, .agg w.pay)] [] ⟨.ret, [(2, .bool (clk w))], [some (whO w)]⟩ := by
  refine ⟨_, rfl, 0, ?_⟩
  have hB := btw_ev
  unfold clk
  cases h1 : btw w.h 0 23 with
  | false => simp (maxSteps := 2000000) -implicitDefEqProofs [-getElem?_pos, List.getElem?_cons_zero, List.getElem?_cons_succ, go_sem, eqV, plen, loadV, storeV, whO, Wh.pay, hB, h1]
  | true =>
  cases h2 : btw w.mi 0 59 with
  | false => simp (maxSteps := 2000000) -implicitDefEqProofs [-getElem?_pos, List.getElem?_cons_zero, List.getElem?_cons_succ, go_sem, eqV, plen, loadV, storeV, whO, Wh.pay, hB, h1, h2]
  | true =>
  cases h3 : btw w.s 0 59 with
  | false => simp (maxSteps := 2000000) -implicitDefEqProofs [-getElem?_pos, List.getElem?_cons_zero, List.getElem?_cons_succ, go_sem, eqV, plen, loadV, storeV, whO, Wh.pay, hB, h1, h2, h3]
  | true => simp (maxSteps := 2000000) -implicitDefEqProofs [-getElem?_pos, List.getElem?_cons_zero, List.getElem?_cons_succ, go_sem, eqV, plen, loadV, storeV, whO, Wh.pay, hB, h1, h2, h3]

set_option maxRecDepth 100000 in
theorem rclock_code : ∃ code, Try.f59.body = some code ∧
    Run X (evT X) 59 0 code [(0, .agg w.pay)] [] ⟨.ret, [(2, .bool (clk w))], [some (whO w)]⟩ := by
  refine ⟨_, rfl, 0, ?_⟩
  unfold clk btw
  by_cases h1 : 0 ≤ w.h
  case neg => simp (maxSteps := 2000000) -implicitDefEqProofs [-getElem?_pos, List.getElem?_cons_zero, List.getElem?_cons_succ, go_sem, eqV, plen, loadV, storeV, whO, Wh.pay, h1]
  by_cases h2 : w.h ≤ 23
  case neg => simp (maxSteps := 2000000) -implicitDefEqProofs [-getElem?_pos, List.getElem?_cons_zero, List.getElem?_cons_succ, go_sem, eqV, plen, loadV, storeV, whO, Wh.pay, h1, h2]
  by_cases h3 : 0 ≤ w.mi
  case neg => simp (maxSteps := 2000000) -implicitDefEqProofs [-getElem?_pos, List.getElem?_cons_zero, List.getElem?_cons_succ, go_sem, eqV, plen, loadV, storeV, whO, Wh.pay, h1, h2, h3]
  by_cases h4 : w.mi ≤ 59
  case neg => simp (maxSteps := 2000000) -implicitDefEqProofs [-getElem?_pos, List.getElem?_cons_zero, List.getElem?_cons_succ, go_sem, eqV, plen, loadV, storeV, whO, Wh.pay, h1, h2, h3, h4]
  by_cases h5 : 0 ≤ w.s
  case neg => simp (maxSteps := 2000000) -implicitDefEqProofs [-getElem?_pos, List.getElem?_cons_zero, List.getElem?_cons_succ, go_sem, eqV, plen, loadV, storeV, whO, Wh.pay, h1, h2, h3, h4, h5]
  by_cases h6 : w.s ≤ 59
  case neg => simp (maxSteps := 2000000) -implicitDefEqProofs [-getElem?_pos, List.getElem?_cons_zero, List.getElem?_cons_succ, go_sem, eqV, plen, loadV, storeV, whO, Wh.pay, h1, h2, h3, h4, h5, h6]
  by_cases h7 : 0 ≤ w.us
  case neg => simp (maxSteps := 2000000) -implicitDefEqProofs [-getElem?_pos, List.getElem?_cons_zero, List.getElem?_cons_succ, go_sem, eqV, plen, loadV, storeV, whO, Wh.pay, h1, h2, h3, h4, h5, h6, h7]
  simp (maxSteps := 2000000) -implicitDefEqProofs [-getElem?_pos, List.getElem?_cons_zero, List.getElem?_cons_succ, go_sem, eqV, plen, loadV, storeV, whO, Wh.pay, h1, h2, h3, h4, h5, h6, h7]

set_option maxRecDepth 100000 in
theorem mid_code (hc : clk w = true) : ∃ code, Try.f60.body = some code ∧
    Run X (evT X) 60 0 code [(0, .agg w.pay)] [] ⟨.ret, [(2, .bool (mid w))], [some (whO w)]⟩ := by
  refine ⟨_, rfl, 0, ?_⟩
  unfold clk btw at hc
  simp only [Bool.and_eq_true, decide_eq_true_eq] at hc
  unfold mid
  have w1 : IntKind.i64.wrap (w.h + w.mi) = w.h + w.mi := wrap_i64 (by omega) (by omega)
  have w2 : IntKind.i64.wrap (w.h + w.mi + w.s) = w.h + w.mi + w.s := wrap_i64 (by omega) (by omega)
  have w3 : IntKind.i64.wrap (w.h + w.mi + w.s + w.us) = w.h + w.mi + w.s + w.us := wrap_i64 (by omega) (by omega)
  have e : (w.h + w.mi + w.s + w.us == 0) = decide (w.h = 0 ∧ w.mi = 0 ∧ w.s = 0 ∧ w.us = 0) := by
    rw [Bool.eq_iff_iff, beq_iff_eq, decide_eq_true_eq]; omega
  simp (maxSteps := 2000000) -implicitDefEqProofs [-getElem?_pos, List.getElem?_cons_zero, List.getElem?_cons_succ, go_sem, eqV, plen, loadV, storeV, whO, Wh.pay, w1, w2, w3, e]

end

theorem clock_ev (w : Wh) (H : AM.Heap) : evT X 53 [.agg w.pay] H = some (.bool (clk w), H) := by
  obtain ⟨code, hcode, hr⟩ := clock_code w
  exact evT_eq (Ev1.toldP (l := [.bool (clk w)]) (evT_below X) Try.func53 hcode (args_wh (i := 0) (args_nil 1)) (by simp [Wh.pay, idsL, ids]) (by simp [gtag]) rfl rfl rfl ⟨_, ⟨rfl, rfl⟩, hr⟩)
theorem rclock_ev (w : Wh) (H : AM.Heap) : evT X 59 [.agg w.pay] H = some (.bool (clk w), H) := by
  obtain ⟨code, hcode, hr⟩ := rclock_code w
  exact evT_eq (Ev1.toldP (l := [.bool (clk w)]) (evT_below X) Try.func59 hcode (args_wh (i := 0) (args_nil 1)) (by simp [Wh.pay, idsL, ids]) (by simp [gtag]) rfl rfl rfl ⟨_, ⟨rfl, rfl⟩, hr⟩)
theorem mid_ev {w : Wh} (hc : clk w = true) (H : AM.Heap) : evT X 60 [.agg w.pay] H = some (.bool (mid w), H) := by
  obtain ⟨code, hcode, hr⟩ := mid_code w hc
  exact evT_eq (Ev1.toldP (l := [.bool (mid w)]) (evT_below X) Try.func60 hcode (args_wh (i := 0) (args_nil 1)) (by simp [Wh.pay, idsL, ids]) (by simp [gtag]) rfl rfl rfl ⟨_, ⟨rfl, rfl⟩, hr⟩)

end Go.Proofs.Ytbmddnokokoofaa
