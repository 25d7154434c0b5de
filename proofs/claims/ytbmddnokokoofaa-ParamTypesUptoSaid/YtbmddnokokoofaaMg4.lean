/- V3c to R2: texts of this claim, one behind the other; what each shows stands at its head. -/
import Derived.Test.YtbmddnokokoofaaAm4
import Derived.Test.YtbmddnokokoofaaMg3
/- Walks: the check's choice. -/
namespace Go.Proofs.Ytbmddnokokoofaa
open Go.AM
set_option linter.unusedSimpArgs false
set_option linter.unusedVariables false

set_option maxRecDepth 100000 in
set_option maxHeartbeats 4000000 in
theorem ckR (v : Va) (t : Ty) (k : Int) (n : Nat) (hbd : -1 ≤ k ∧ k ≤ 7) (hk0 : ¬ k < 0) (hsz : k = 1 ∨ k = 2 ∨ k = 3 ∨ k = 4 → n = 1 ∨ n = 2 ∨ n = 4 ∨ n = 8) (hF : evT X 38 [.agg v.w.pay, .int .u8 (t.t : Nat)] [some (vaO v), some (tyO t)] = some (.bool (fin v.w t.t), [some (vaO v), some (tyO t)])) (k1 : ¬ v.k = 1) (k234 : ¬ (v.k = 2 ∨ v.k = 3 ∨ v.k = 4)) : ∃ code, ckO = some code ∧
    Tells (Goes (ckP v t k n)) X (evT X) 19 0 code (ckFr k (v.k == k) (8 * n)) [some (vaO v), some (tyO t)] := by
  refine ⟨_, rfl, ?_⟩
  unfold ckP okVk
  have k1b : (v.k == 1) = false := by simpa using k1
  rw [if_neg k1]
  have k2b : (v.k == 2) = false := by simp; omega
  have k3b : (v.k == 3) = false := by simp; omega
  have k4b : (v.k == 4) = false := by simp; omega
  rw [if_neg k234]
  generalize 8 * n = n8 at *
  by_cases k56 : v.k = 5 ∨ v.k = 6
  · rw [if_pos k56]
    by_cases hk1 : k = v.k
    case neg =>
      have hkb : (v.k == k) = false := by simp; omega
      rw [decide_eq_false hk1]
      refine Tells.of (o := ⟨.normal, [(6, .bool false)], [some (vaO v), some (tyO t)]⟩) ⟨0, ?_⟩ ⟨rfl, rfl, .inl rfl⟩
      rcases k56 with kv | kv
      · rw [kv] at hkb
        simp (maxSteps := 2000000) -implicitDefEqProofs [-getElem?_pos, List.getElem?_cons_zero, List.getElem?_cons_succ, go_sem, eqV, plen, loadV, storeV, vaO, tyO, Va.pay, ckFr, kv, hkb]
      · rw [kv] at hkb
        simp (maxSteps := 2000000) -implicitDefEqProofs [-getElem?_pos, List.getElem?_cons_zero, List.getElem?_cons_succ, go_sem, eqV, plen, loadV, storeV, vaO, tyO, Va.pay, ckFr, kv, hkb]
    subst hk1
    have hEq := fun H xo yo => eqVa v { k := v.k, w := v.w } H xo yo
    have hbi := bdVw v.k v.w
    generalize hpz : (({ k := v.k, w := v.w } : Va).pay) = pz at *
    generalize decide (v = { k := v.k, w := v.w }) = e at *
    clear hpz
    simp only [Va.pay] at hEq
    simp only [Wh.pay] at hbi
    cases e with
    | false =>
      refine Tells.of (o := ⟨.normal, [(6, .bool false)], [some (vaO v), some (tyO t)]⟩) ⟨0, ?_⟩ ⟨rfl, rfl, .inl (by simp)⟩
      rcases k56 with kv | kv
      · rw [kv] at hEq hbi
        simp (maxSteps := 2000000) -implicitDefEqProofs [-getElem?_pos, List.getElem?_cons_zero, List.getElem?_cons_succ, go_sem, eqV, plen, loadV, storeV, -eqV, vaO, tyO, Va.pay, ckFr, kv, mkVa, mkWh, hbi, hEq]
      · rw [kv] at hEq hbi
        simp (maxSteps := 2000000) -implicitDefEqProofs [-getElem?_pos, List.getElem?_cons_zero, List.getElem?_cons_succ, go_sem, eqV, plen, loadV, storeV, -eqV, vaO, tyO, Va.pay, ckFr, kv, mkVa, mkWh, hbi, hEq]
    | true =>
    refine Tells.of (o := ⟨.normal, [(6, .bool (fin v.w t.t))], [some (vaO v), some (tyO t)]⟩) ⟨0, ?_⟩ ⟨rfl, rfl, .inl (by simp)⟩
    simp only [vaO, tyO, Va.pay, Ty.pay, Wh.pay] at hF
    generalize fin v.w t.t = fb at *
    rcases k56 with kv | kv
    · rw [kv] at hEq hbi hF
      simp (maxSteps := 2000000) -implicitDefEqProofs [-getElem?_pos, List.getElem?_cons_zero, List.getElem?_cons_succ, go_sem, eqV, plen, loadV, storeV, -eqV, vaO, tyO, Va.pay, Ty.pay, ckFr, kv, mkVa, mkWh, hbi, hEq, hF]
    · rw [kv] at hEq hbi hF
      simp (maxSteps := 2000000) -implicitDefEqProofs [-getElem?_pos, List.getElem?_cons_zero, List.getElem?_cons_succ, go_sem, eqV, plen, loadV, storeV, -eqV, vaO, tyO, Va.pay, Ty.pay, ckFr, kv, mkVa, mkWh, hbi, hEq, hF]
  have k5b : (v.k == 5) = false := by simp; omega
  have k6b : (v.k == 6) = false := by simp; omega
  rw [if_neg k56]
  by_cases k7 : v.k = 7
  · rw [if_pos k7]
    by_cases hk1 : k = 7
    case neg =>
      have hkb : ((7 : Int) == k) = false := by simp; omega
      rw [decide_eq_false hk1]
      refine Tells.of (o := ⟨.normal, [(6, .bool false)], [some (vaO v), some (tyO t)]⟩) ⟨0, ?_⟩ ⟨rfl, rfl, .inl rfl⟩
      simp (maxSteps := 2000000) -implicitDefEqProofs [-getElem?_pos, List.getElem?_cons_zero, List.getElem?_cons_succ, go_sem, eqV, plen, loadV, storeV, vaO, tyO, Va.pay, ckFr, k7, hkb]
    subst hk1
    have hEq := fun H xo yo => eqVa v { k := 7, t := v.t } H xo yo
    have hbi := bdVt 7 v.t
    generalize hpz : (({ k := 7, t := v.t } : Va).pay) = pz at *
    generalize decide (v = { k := 7, t := v.t }) = e at *
    clear hpz
    simp only [Va.pay] at hEq
    rw [k7] at hEq
    cases e with
    | false =>
      refine Tells.of (o := ⟨.normal, [(6, .bool false)], [some (vaO v), some (tyO t)]⟩) ⟨0, ?_⟩ ⟨rfl, rfl, .inl (by simp)⟩
      simp (maxSteps := 2000000) -implicitDefEqProofs [-getElem?_pos, List.getElem?_cons_zero, List.getElem?_cons_succ, go_sem, eqV, plen, loadV, storeV, -eqV, vaO, tyO, Va.pay, ckFr, k7, mkVa, hbi, hEq]
    | true =>
    have hl : decide ((v.t.length : Int) ≤ 16777216) = decide (v.t.length ≤ 16777216) := by rw [decide_eq_decide]; omega
    generalize decide (v.t.length ≤ 16777216) = lb at *
    refine Tells.of (o := ⟨.normal, [(6, .bool lb)], [some (vaO v), some (tyO t)]⟩) ⟨0, ?_⟩ ⟨rfl, rfl, .inl (by simp)⟩
    simp (maxSteps := 2000000) -implicitDefEqProofs [-getElem?_pos, List.getElem?_cons_zero, List.getElem?_cons_succ, go_sem, eqV, plen, loadV, storeV, -eqV, vaO, tyO, Va.pay, ckFr, k7, mkVa, hbi, hEq, hl]
  have k7b : (v.k == 7) = false := by simpa using k7
  rw [if_neg k7]
  by_cases k0 : v.k = 0
  · refine Tells.of (o := ⟨.normal, [(6, .bool false)], [some (vaO v), some (tyO t)]⟩) ⟨0, ?_⟩ ⟨rfl, rfl, .inl rfl⟩
    simp (maxSteps := 2000000) -implicitDefEqProofs [-getElem?_pos, List.getElem?_cons_zero, List.getElem?_cons_succ, go_sem, eqV, plen, loadV, storeV, vaO, tyO, Va.pay, ckFr, k0]
  have k0b : (v.k == 0) = false := by simpa using k0
  have hkb : (v.k == k) = false := by simp; omega
  refine Tells.of (o := ⟨.normal, [(2, .ptr 0 0 0 0), (5, .int .i64 k), (6, .bool false), (103, .bool false)], [some (vaO v), some (tyO t)]⟩) ⟨0, ?_⟩ ⟨rfl, rfl, .inr rfl⟩
  simp (maxSteps := 2000000) -implicitDefEqProofs [-getElem?_pos, List.getElem?_cons_zero, List.getElem?_cons_succ, go_sem, eqV, plen, loadV, storeV, vaO, tyO, Va.pay, ckFr, hkb, k0b, k1b, k2b, k3b, k4b, k5b, k6b, k7b]

end Go.Proofs.Ytbmddnokokoofaa

/- Walks: the check of a value, whole. -/
namespace Go.Proofs.Ytbmddnokokoofaa
open Go.AM
set_option linter.unusedSimpArgs false
set_option linter.unusedVariables false

theorem pieceT {O : Option Code} {P : Code → Prop} (h : ∃ code, O = some code ∧ P code) (code' : Code) (h' : O = some code') : P code' := by
  obtain ⟨c, h1, h2⟩ := h
  rw [h'] at h1
  exact (Option.some.inj h1) ▸ h2

section
variable (v : Va) (t : Ty)

set_option maxRecDepth 100000 in
set_option maxHeartbeats 4000000 in
theorem check_code (ht : t.t < 256) (hb : v.b < 18446744073709551616) (hi : -9223372036854775808 ≤ v.i ∧ v.i < 9223372036854775808) : ∃ code, Try.f19.body = some code ∧
    Tells (Rets fun fr H => getF fr 4 = .int .i64 (chkV v t)) X (evT X) 19 0 code [(0, .agg v.pay), (1, .agg t.pay)] [] := by
  refine ⟨_, rfl, ?_⟩
  have hK := kind_ev ht [some (vaO v), some (tyO t)]
  have hS := size_ev' ht [some (vaO v), some (tyO t)]
  have hF := fin_ev v.w ht [some (vaO v), some (tyO t)]
  have hbd := kind_bd t.t t.u
  have hsz := size_num (t := t.t) (u := t.u)
  have hn8 : sizeN t.t ≤ 8 := by unfold sizeN; repeat' split
                                 all_goals omega
  unfold chkV okVa
  apply Tells.seq (fr' := [(2, .ptr 0 0 0 0), (3, .ptr 1 0 0 0)]) (H' := [some (vaO v), some (tyO t)])
  · (refine ⟨0, ?_⟩; simp (maxSteps := 2000000) -implicitDefEqProofs [-getElem?_pos, List.getElem?_cons_zero, List.getElem?_cons_succ, go_sem, eqV, plen, loadV, storeV, vaO, tyO, Va.pay, Ty.pay])
  apply Tells.seq (fr' := [(2, .ptr 0 0 0 0), (3, .ptr 1 0 0 0), (5, .int .i64 (kindN t.t t.u))]) (H' := [some (vaO v), some (tyO t)])
  · clear hS hF
    simp only [vaO, tyO, Va.pay, Ty.pay] at hK
    generalize kindN t.t t.u = k at *
    (refine ⟨0, ?_⟩; simp (maxSteps := 2000000) -implicitDefEqProofs [-getElem?_pos, List.getElem?_cons_zero, List.getElem?_cons_succ, go_sem, eqV, plen, loadV, storeV, vaO, tyO, Va.pay, Ty.pay, mkTy, hK])
  clear hK
  generalize kindN t.t t.u = k at *
  by_cases hk0 : k < 0
  · rw [if_pos hk0]
    refine Tells.of (o := ⟨.ret, [(4, .int .i64 2)], [some (vaO v), some (tyO t)]⟩) ?_ ⟨rfl, rfl⟩
    apply Run.seq_out (hne := by simp)
    refine ⟨0, ?_⟩
    simp (maxSteps := 2000000) -implicitDefEqProofs [-getElem?_pos, List.getElem?_cons_zero, List.getElem?_cons_succ, go_sem, eqV, plen, loadV, storeV, hk0]
  rw [if_neg hk0]
  apply Tells.seq (fr' := [(2, .ptr 0 0 0 0), (3, .ptr 1 0 0 0), (5, .int .i64 k), (11, .bool false)]) (H' := [some (vaO v), some (tyO t)])
  · (refine ⟨0, ?_⟩; simp (maxSteps := 2000000) -implicitDefEqProofs [-getElem?_pos, List.getElem?_cons_zero, List.getElem?_cons_succ, go_sem, eqV, plen, loadV, storeV, hk0])
  have hE0 := fun H xo yo => eqVa v {} H xo yo
  by_cases hz : v = {}
  · rw [if_pos hz]
    rw [decide_eq_true hz] at hE0
    refine Tells.of (o := ⟨.ret, [(4, .int .i64 0)], [some (vaO v), some (tyO t)]⟩) ?_ ⟨rfl, rfl⟩
    apply Run.seq_out (hne := by simp)
    apply Run.seq (fr' := [(2, .ptr 0 0 0 0), (3, .ptr 1 0 0 0), (5, .int .i64 k), (14, .bool true)]) (H' := [some (vaO v), some (tyO t)])
    · have hb0 := bdV0
      have hE := hE0
      generalize hpz : (({} : Va).pay) = pz at *
      simp only [Va.pay] at hE
      (refine ⟨0, ?_⟩; simp (maxSteps := 2000000) -implicitDefEqProofs [-getElem?_pos, List.getElem?_cons_zero, List.getElem?_cons_succ, go_sem, eqV, plen, loadV, storeV, -eqV, vaO, tyO, Va.pay, mkVa, hb0, hE])
    refine ⟨0, ?_⟩
    simp (maxSteps := 2000000) -implicitDefEqProofs [-getElem?_pos, List.getElem?_cons_zero, List.getElem?_cons_succ, go_sem, eqV, plen, loadV, storeV]
  rw [if_neg hz]
  rw [decide_eq_false hz] at hE0
  apply Tells.seq (fr' := [(2, .ptr 0 0 0 0), (3, .ptr 1 0 0 0), (5, .int .i64 k), (14, .bool false)]) (H' := [some (vaO v), some (tyO t)])
  · have hb0 := bdV0
    have hE := hE0
    generalize hpz : (({} : Va).pay) = pz at *
    simp only [Va.pay] at hE
    (refine ⟨0, ?_⟩; simp (maxSteps := 2000000) -implicitDefEqProofs [-getElem?_pos, List.getElem?_cons_zero, List.getElem?_cons_succ, go_sem, eqV, plen, loadV, storeV, -eqV, vaO, tyO, Va.pay, mkVa, hb0, hE])
  clear hE0
  apply Tells.seq (fr' := [(2, .ptr 0 0 0 0), (3, .ptr 1 0 0 0), (5, .int .i64 k), (6, .bool (v.k == k))]) (H' := [some (vaO v), some (tyO t)])
  · (refine ⟨0, ?_⟩; simp (maxSteps := 2000000) -implicitDefEqProofs [-getElem?_pos, List.getElem?_cons_zero, List.getElem?_cons_succ, go_sem, eqV, plen, loadV, storeV, vaO, tyO, Va.pay])
  generalize hsn : sizeN t.t = n at *
  have w8 : IntKind.i64.wrap (8 * (n : Int)) = ((8 * n : Nat) : Int) := by rw [wrap_i64 (by omega) (by omega)]; omega
  apply Tells.seq (fr' := ckFr k (v.k == k) (8 * n)) (H' := [some (vaO v), some (tyO t)])
  · simp only [vaO, tyO, Va.pay, Ty.pay] at hS
    generalize 8 * n = n8 at *
    (refine ⟨0, ?_⟩; simp (maxSteps := 2000000) -implicitDefEqProofs [-getElem?_pos, List.getElem?_cons_zero, List.getElem?_cons_succ, go_sem, eqV, plen, loadV, storeV, vaO, tyO, Va.pay, Ty.pay, hS, w8, ckFr])
  clear hS
  have main : ∃ code, ckO = some code ∧ Tells (Goes (ckP v t k n)) X (evT X) 19 0 code (ckFr k (v.k == k) (8 * n)) [some (vaO v), some (tyO t)] := by
    by_cases k1 : v.k = 1
    · exact ck1 v t k n hbd hk0 hsz hF k1
    by_cases k234 : v.k = 2 ∨ v.k = 3 ∨ v.k = 4
    · exact ck234 v t k n hbd hk0 hsz hF k234
    exact ckR v t k n hbd hk0 hsz hF k1 k234
  apply Tells.andThen (P := ckP v t k n)
  · exact pieceT main _ rfl
  rintro fr H ⟨rfl, hfr⟩
  generalize okVk v k n t.t = ok at *
  cases ok with
  | true =>
    refine Tells.of (o := ⟨.ret, [(4, .int .i64 0)], [some (vaO v), some (tyO t)]⟩) ⟨0, ?_⟩ ⟨rfl, rfl⟩
    rcases hfr with rfl | rfl
    · simp (maxSteps := 2000000) -implicitDefEqProofs [-getElem?_pos, List.getElem?_cons_zero, List.getElem?_cons_succ, go_sem, eqV, plen, loadV, storeV, unV]
    · simp (maxSteps := 2000000) -implicitDefEqProofs [-getElem?_pos, List.getElem?_cons_zero, List.getElem?_cons_succ, go_sem, eqV, plen, loadV, storeV, unV]
  | false =>
    refine Tells.of (o := ⟨.ret, [(4, .int .i64 2)], [some (vaO v), some (tyO t)]⟩) ⟨0, ?_⟩ ⟨rfl, rfl⟩
    rcases hfr with rfl | rfl
    · simp (maxSteps := 2000000) -implicitDefEqProofs [-getElem?_pos, List.getElem?_cons_zero, List.getElem?_cons_succ, go_sem, eqV, plen, loadV, storeV, unV]
    · simp (maxSteps := 2000000) -implicitDefEqProofs [-getElem?_pos, List.getElem?_cons_zero, List.getElem?_cons_succ, go_sem, eqV, plen, loadV, storeV, unV]

end

theorem check_ev {v : Va} {t : Ty} (ht : t.t < 256) (hb : v.b < 18446744073709551616) (hi : -9223372036854775808 ≤ v.i ∧ v.i < 9223372036854775808) (H : AM.Heap) : evT X 19 [.agg v.pay, .agg t.pay] H = some (.int .i64 (chkV v t), H) := by
  obtain ⟨code, hcode, o, ⟨he, h4⟩, hr⟩ := check_code v t ht hb hi
  exact evT_eq (Ev1.toldP (l := [.int .i64 (chkV v t)]) (evT_below X) Try.func19 hcode (args_va (i := 0) (args_ty (i := 1) (args_nil 2))) (by simp [Va.pay, Ty.pay, idsL, ids]) (by simp [gtag]) rfl rfl rfl ⟨o, ⟨he, by show some [getF o.fr 4] = _; rw [h4]⟩, hr⟩)

end Go.Proofs.Ytbmddnokokoofaa

/- Walks: a value appended. -/
namespace Go.Proofs.Ytbmddnokokoofaa
open Go.AM
set_option linter.unusedSimpArgs false
set_option linter.unusedVariables false

theorem when_ev {H : AM.Heap} {o g tg t : Nat} {ob : AM.Obj} {l : List UInt8} {w : Wh} (ho : H[o]? = some (some ob)) (hw : RwT (.pb l) g tg ob) (hl : l.length ≤ 80000000) (ht : t < 256) (hf : fin w t = true) :
    ∃ ob', RwT (.pb (l ++ whB w t)) (g + 1) tg ob' ∧ evT X 40 [.sl o 0 l.length g, .agg w.pay, .int .u8 (t : Nat)] H = some (.sl o 0 (l ++ whB w t).length (g + 1), upd H o (some ob')) := by
  obtain ⟨code, hcode, ⟨out, ⟨he, ob', g', R, q1, q2, q3, q4⟩, hrun⟩⟩ := when_code l w 4 t { ob with g := 0, tg := 4 } ⟨hw.p, rfl, hw.row, hw.ids, rfl⟩ hl ht hf
  refine ⟨{ ob' with g := g + 1, tg := tg }, ⟨q3.p, rfl, q3.row, q3.ids, rfl⟩, evT_eq ?_⟩
  have := Ev1.rwB (C := X) (f := 40) (H := H) (o := o) (off := 0) (len := l.length) (g := g) (ob := ob) (ob1 := ob') (xs := [.agg w.pay, .int .u8 (t : Nat)]) (ys := [.agg w.pay, .int .u8 (t : Nat)]) (n := 4) (rest := []) (restH := R) (off1 := 0) (n1 := (l ++ whB w t).length) (g1 := g')
    (evT_below X) Try.func40 hcode rfl ho hw.g hw.ids (by rw [hw.p]; rfl) (args_wh (i := 1) (args_flat rfl rfl (args_nil 3))) (by simp [Wh.pay, idsL, ids]) rfl rfl (by simp [gtag])
    (by rw [par40]; simpa [coerce, numbered] using hrun) (.inr he) (by show some [getF out.fr 6] = _; rw [q1]) q2 q3.g q3.ids (by rw [q3.p]; rfl) (.inr q3.tg) rfl rfl rfl
  rw [if_neg (by omega), q3.tg, hw.tg] at this
  exact this

/-- a number as it is written -/
def ui (i : Int) : Nat := (IntKind.u64.wrap i).toNat
theorem ui_eq (i : Int) : ((ui i : Nat) : Int) = IntKind.u64.wrap i := by
  unfold ui
  have : 0 ≤ IntKind.u64.wrap i := by
    unfold IntKind.wrap
    simp [IntKind.signed, IntKind.bits]
    exact Int.emod_nonneg _ (by decide)
  omega

/-- a value's bytes -/
def enV (v : Va) (t : Ty) : List UInt8 :=
  if v.k = 1 then leB (sizeN t.t) (ui v.i) else if v.k = 2 ∨ v.k = 3 ∨ v.k = 4 then leB (sizeN t.t) v.b else if v.k = 5 ∨ v.k = 6 then whB v.w t.t else if v.k = 7 then aT v.t else []
/-- may it be written? -/
def apOk (v : Va) (t : Ty) : Bool := decide (chkV v t = 0) && !(decide (v.k = 0) && decide (t.t ≠ 6))
def apV (b : List UInt8) (v : Va) (t : Ty) : List UInt8 × Int := if apOk v t then (b ++ enV v t, 0) else ([], 2)

theorem chk_ok {v : Va} {t : Ty} (h : chkV v t = 0) : v = {} ∨ okVa v t = true := by
  unfold chkV at h
  by_cases h1 : kindN t.t t.u < 0
  · rw [if_pos h1] at h; cases h
  rw [if_neg h1] at h
  by_cases h2 : v = {}
  · exact .inl h2
  rw [if_neg h2] at h
  cases h3 : okVa v t with
  | true => exact .inr rfl
  | false => rw [h3] at h; cases h

/-- what a value that may be holds -/
theorem ok_facts {v : Va} {t : Ty} (h : chkV v t = 0) : ((v.k = 1 ∨ v.k = 2 ∨ v.k = 3 ∨ v.k = 4) → 1 ≤ sizeN t.t ∧ sizeN t.t ≤ 8) ∧ ((v.k = 5 ∨ v.k = 6) → fin v.w t.t = true) ∧ (v.k = 7 → v.t.length ≤ 16777216) ∧ (v.k = 0 ∨ v.k = 1 ∨ v.k = 2 ∨ v.k = 3 ∨ v.k = 4 ∨ v.k = 5 ∨ v.k = 6 ∨ v.k = 7) := by
  rcases chk_ok h with rfl | h
  · refine ⟨fun h => ?_, fun h => ?_, fun h => ?_, .inl rfl⟩
    · exact absurd h (by decide)
    · exact absurd h (by decide)
    · exact absurd h (by decide)
  unfold okVa okVk at h
  by_cases k1 : v.k = 1
  · rw [if_pos k1] at h
    simp only [Bool.and_eq_true, decide_eq_true_eq] at h
    have := size_num (t := t.t) (u := t.u) (.inl h.1)
    exact ⟨fun _ => by omega, fun h => by omega, fun h => by omega, by omega⟩
  rw [if_neg k1] at h
  by_cases k2 : v.k = 2 ∨ v.k = 3 ∨ v.k = 4
  · rw [if_pos k2] at h
    simp only [Bool.and_eq_true, decide_eq_true_eq] at h
    have := size_num (t := t.t) (u := t.u) (by omega)
    exact ⟨fun _ => by omega, fun h => by omega, fun h => by omega, by omega⟩
  rw [if_neg k2] at h
  by_cases k5 : v.k = 5 ∨ v.k = 6
  · rw [if_pos k5] at h
    simp only [Bool.and_eq_true, decide_eq_true_eq] at h
    exact ⟨fun h => by omega, fun _ => h.2.2, fun h => by omega, by omega⟩
  rw [if_neg k5] at h
  by_cases k7 : v.k = 7
  · rw [if_pos k7] at h
    simp only [Bool.and_eq_true, decide_eq_true_eq] at h
    exact ⟨fun h => by omega, fun h => by omega, fun _ => h.2.2, by omega⟩
  rw [if_neg k7] at h
  cases h

section
variable (c : Nat) (b : List UInt8) (v : Va) (t : Ty)

set_option maxRecDepth 100000 in
set_option maxHeartbeats 4000000 in
theorem vappend_code (hc : c = 0 → b = []) (hb : b.length ≤ 30000000) (ht : t.t < 256) (hvb : v.b < 18446744073709551616) (hi : -9223372036854775808 ≤ v.i ∧ v.i < 9223372036854775808) : ∃ code, Try.f21.body = some code ∧
    Tells (Rets fun fr H => ∃ o g ob, getF fr 6 = .sl o 0 (apV b v t).1.length g ∧ getF fr 7 = .int .i64 (apV b v t).2 ∧ H[o]? = some (some ob) ∧ Rw (.pb (apV b v t).1) g ob) X (evT X) 21 0 code [(0, .ro c (.pb b) 1), (1, .agg v.pay), (2, .agg t.pay)] [] := by
  refine ⟨_, rfl, ?_⟩
  have hC := check_ev (v := v) (t := t) ht hvb hi [some (vaO v), some (tyO t), some nilB]
  apply Tells.seq (fr' := [(0, .ro c (.pb b) 1), (4, .ptr 0 0 0 0), (5, .ptr 1 0 0 0)]) (H' := [some (vaO v), some (tyO t), some nilB])
  · (refine ⟨0, ?_⟩; simp (maxSteps := 2000000) -implicitDefEqProofs [-getElem?_pos, List.getElem?_cons_zero, List.getElem?_cons_succ, go_sem, eqV, plen, loadV, storeV, vaO, tyO, Va.pay, Ty.pay, assignV, emB])
  apply Tells.assoc
  apply Tells.seq (fr' := [(0, .ro c (.pb b) 1), (4, .ptr 0 0 0 0), (5, .ptr 1 0 0 0), (8, .int .i64 (chkV v t))]) (H' := [some (vaO v), some (tyO t), some nilB])
  · simp only [vaO, tyO, Va.pay, Ty.pay] at hC
    generalize chkV v t = ck at *
    (refine ⟨0, ?_⟩; simp (maxSteps := 2000000) -implicitDefEqProofs [-getElem?_pos, List.getElem?_cons_zero, List.getElem?_cons_succ, go_sem, eqV, plen, loadV, storeV, vaO, tyO, Va.pay, Ty.pay, mkVa, mkTy, hC])
  clear hC
  unfold apV
  cases hok : apOk v t with
  | false =>
    rw [if_neg (by simp)]
    refine Tells.of (o := ⟨.ret, [(6, .sl 3 0 0 0), (7, .int .i64 2)], [some (vaO v), some (tyO t), some nilB, some nilB]⟩) ?_ ⟨rfl, 3, 0, nilB, rfl, rfl, rfl, nilB_rw⟩
    apply Run.seq_out (hne := by simp)
    apply Run.seq (fr' := [(0, .ro c (.pb b) 1), (4, .ptr 0 0 0 0), (5, .ptr 1 0 0 0), (24, .bool true)]) (H' := [some (vaO v), some (tyO t), some nilB])
    · unfold apOk at hok
      by_cases h0 : chkV v t = 0
      · rw [h0] at hok ⊢
        simp only [decide_true, Bool.true_and, Bool.not_eq_false', Bool.and_eq_true, decide_eq_true_eq] at hok
        obtain ⟨hk, h6⟩ := hok
        have h6b : ((t.t : Int) != 6) = true := by simp; omega
        (refine ⟨0, ?_⟩; simp (maxSteps := 2000000) -implicitDefEqProofs [-getElem?_pos, List.getElem?_cons_zero, List.getElem?_cons_succ, go_sem, eqV, plen, loadV, storeV, vaO, tyO, Va.pay, Ty.pay, hk, h6b])
      · have h0b : (chkV v t != 0) = true := by simpa using h0
        generalize chkV v t = ck at *
        (refine ⟨0, ?_⟩; simp (maxSteps := 2000000) -implicitDefEqProofs [-getElem?_pos, List.getElem?_cons_zero, List.getElem?_cons_succ, go_sem, eqV, plen, loadV, storeV, vaO, tyO, Va.pay, Ty.pay, h0b])
    refine ⟨0, ?_⟩
    simp (maxSteps := 2000000) -implicitDefEqProofs [-getElem?_pos, List.getElem?_cons_zero, List.getElem?_cons_succ, go_sem, eqV, plen, loadV, storeV, assignV, emB]
  | true =>
  rw [if_pos rfl]
  unfold apOk at hok
  simp only [Bool.and_eq_true, decide_eq_true_eq, Bool.not_eq_true', Bool.and_eq_false_iff, decide_eq_false_iff_not] at hok
  obtain ⟨h0, h06⟩ := hok
  obtain ⟨fs, ff, fl, fk⟩ := ok_facts h0
  rw [h0]
  apply Tells.seq (fr' := [(0, .ro c (.pb b) 1), (4, .ptr 0 0 0 0), (5, .ptr 1 0 0 0), (24, .bool false)]) (H' := [some (vaO v), some (tyO t), some nilB])
  · by_cases hk : v.k = 0
    · have h6 : t.t = 6 := by
        rcases h06 with h | h
        · exact absurd hk h
        · omega
      (refine ⟨0, ?_⟩; simp (maxSteps := 2000000) -implicitDefEqProofs [-getElem?_pos, List.getElem?_cons_zero, List.getElem?_cons_succ, go_sem, eqV, plen, loadV, storeV, vaO, tyO, Va.pay, Ty.pay, hk, h6])
    · have hkb : (v.k == 0) = false := by simpa using hk
      (refine ⟨0, ?_⟩; simp (maxSteps := 2000000) -implicitDefEqProofs [-getElem?_pos, List.getElem?_cons_zero, List.getElem?_cons_succ, go_sem, eqV, plen, loadV, storeV, vaO, tyO, Va.pay, Ty.pay, hkb])
  obtain ⟨ob0, hw0, hA0⟩ := clone_ev (H := [some (vaO v), some (tyO t), some nilB]) (a := .ro c (.pb b) 1) (b := b) (Byt.ro (.inl rfl) hc) (by omega)
  apply Tells.seq (fr' := [(4, .ptr 0 0 0 0), (5, .ptr 1 0 0 0), (9, .sl 3 0 b.length 0)]) (H' := [some (vaO v), some (tyO t), some nilB, some ob0])
  · simp only [vaO, tyO, Va.pay, Ty.pay] at hA0
    (refine ⟨0, ?_⟩; simp (maxSteps := 2000000) -implicitDefEqProofs [-getElem?_pos, List.getElem?_cons_zero, List.getElem?_cons_succ, go_sem, eqV, plen, loadV, storeV, vaO, tyO, Va.pay, Ty.pay, hA0, assignV])
  clear hA0
  have hS := size_ev' ht [some (vaO v), some (tyO t), some nilB, some ob0]
  have hre : reach [some (vaO v), some (tyO t), some nilB, some ob0] reachFuel [3] [] = [3] := reach_box rfl (by rw [hw0.p]; rfl)
  have hg0 := hw0.g
  have hp0 := hw0.p
  have hi0 := hw0.ids
  unfold enV
  rcases fk with kv | kv | kv | kv | kv | kv | kv | kv
  · -- nothing
    rw [if_neg (by omega), if_neg (by omega), if_neg (by omega), if_neg (by omega), List.append_nil]
    refine Tells.of (o := ⟨.ret, [(6, .sl 3 0 b.length 0), (7, .int .i64 0)], [some (vaO v), some (tyO t), some nilB, some ob0]⟩) ⟨0, ?_⟩ ⟨rfl, 3, 0, ob0, rfl, rfl, rfl, hw0⟩
    simp (maxSteps := 2000000) -implicitDefEqProofs [-getElem?_pos, List.getElem?_cons_zero, List.getElem?_cons_succ, go_sem, eqV, plen, loadV, storeV, vaO, Va.pay, kv, assignV]
  · -- a number with a sign
    rw [if_pos kv]
    obtain ⟨s1, s8⟩ := fs (.inl kv)
    generalize hsn : sizeN t.t = n at *
    obtain ⟨ob1, hw1, hF⟩ := vfixed_ev (H := [some (vaO v), some (tyO t), some nilB, some ob0]) (o := 3) (x := ui v.i) (n := n) (N := n) rfl hw0.rwt rfl (by omega) s1 s8
    have wu := (ui_eq v.i).symm
    refine Tells.of (o := ⟨.ret, [(6, .sl 3 0 (b.length + n) 1), (7, .int .i64 0)], [some (vaO v), some (tyO t), some nilB, some ob1]⟩) ?_ ⟨rfl, 3, 1, ob1, by simp [getF, leB_len], rfl, rfl, hw1.rw⟩
    apply Run.seq_out (hne := by simp)
    apply Run.seq (fr' := [(4, .ptr 0 0 0 0), (5, .ptr 1 0 0 0), (9, .sl 3 0 b.length 0), (28, .int .i64 1)]) (H' := [some (vaO v), some (tyO t), some nilB, some ob0])
    · (refine ⟨0, ?_⟩; simp (maxSteps := 2000000) -implicitDefEqProofs [-getElem?_pos, List.getElem?_cons_zero, List.getElem?_cons_succ, go_sem, eqV, plen, loadV, storeV, vaO, Va.pay, kv])
    refine Run.block ?_ (by simp)
    apply Run.seq (fr' := [(4, .ptr 0 0 0 0), (5, .ptr 1 0 0 0), (9, .sl 3 0 b.length 0), (28, .int .i64 1), (29, .bool true)]) (H' := [some (vaO v), some (tyO t), some nilB, some ob0])
    · (refine ⟨0, ?_⟩; simp (maxSteps := 2000000) -implicitDefEqProofs [-getElem?_pos, List.getElem?_cons_zero, List.getElem?_cons_succ, go_sem, eqV, plen, loadV, storeV])
    refine condT (by simp [evalO, getF]) ?_
    apply Run.seq (fr' := [(6, .sl 3 0 (b.length + n) 1), (7, .int .i64 0)]) (H' := [some (vaO v), some (tyO t), some nilB, some ob1])
    · simp only [vaO, tyO, Va.pay, Ty.pay] at hS hF hre
      apply Run.dy (by simp) keep21_7 (by simp)
      · (conv => lhs; simp (maxSteps := 2000000) -implicitDefEqProofs [-getElem?_pos, List.getElem?_cons_zero, List.getElem?_cons_succ, go_sem, eqV, plen, loadV, storeV, runD, out1, markOf, freeO, quietO, pushes, isAssign, calledV, touched, mentioned, opVals, touchCall, mentionCall, idsAt, Op.operands, ids, idsL, lendArgs, lendV, lend1, lendL, eqH_self, vaO, tyO, Va.pay, Ty.pay, wu, hS, hF, upd, assignV, reach_none, hre, hg0, hi0, hp0])
        rfl
      · kernel_rfl
      · rfl
    exact ⟨0, rfl⟩
  · -- bits
    rw [if_neg (by omega), if_pos (by omega)]
    obtain ⟨s1, s8⟩ := fs (by omega)
    generalize hsn : sizeN t.t = n at *
    obtain ⟨ob1, hw1, hF⟩ := vfixed_ev (H := [some (vaO v), some (tyO t), some nilB, some ob0]) (o := 3) (x := v.b) (n := n) (N := n) rfl hw0.rwt rfl (by omega) s1 s8
    refine Tells.of (o := ⟨.ret, [(6, .sl 3 0 (b.length + n) 1), (7, .int .i64 0)], [some (vaO v), some (tyO t), some nilB, some ob1]⟩) ?_ ⟨rfl, 3, 1, ob1, by simp [getF, leB_len], rfl, rfl, hw1.rw⟩
    apply Run.seq_out (hne := by simp)
    apply Run.seq (fr' := [(4, .ptr 0 0 0 0), (5, .ptr 1 0 0 0), (9, .sl 3 0 b.length 0), (28, .int .i64 2)]) (H' := [some (vaO v), some (tyO t), some nilB, some ob0])
    · (refine ⟨0, ?_⟩; simp (maxSteps := 2000000) -implicitDefEqProofs [-getElem?_pos, List.getElem?_cons_zero, List.getElem?_cons_succ, go_sem, eqV, plen, loadV, storeV, vaO, Va.pay, kv])
    refine Run.block ?_ (by simp)
    apply Run.seq (fr' := [(4, .ptr 0 0 0 0), (5, .ptr 1 0 0 0), (9, .sl 3 0 b.length 0), (28, .int .i64 2), (29, .bool false)]) (H' := [some (vaO v), some (tyO t), some nilB, some ob0])
    · (refine ⟨0, ?_⟩; simp (maxSteps := 2000000) -implicitDefEqProofs [-getElem?_pos, List.getElem?_cons_zero, List.getElem?_cons_succ, go_sem, eqV, plen, loadV, storeV])
    refine condF (by simp [evalO, getF]) ?_
    apply Run.seq (fr' := [(4, .ptr 0 0 0 0), (5, .ptr 1 0 0 0), (9, .sl 3 0 b.length 0), (28, .int .i64 2), (39, .bool true)]) (H' := [some (vaO v), some (tyO t), some nilB, some ob0])
    · (refine ⟨0, ?_⟩; simp (maxSteps := 2000000) -implicitDefEqProofs [-getElem?_pos, List.getElem?_cons_zero, List.getElem?_cons_succ, go_sem, eqV, plen, loadV, storeV])
    refine condT (by simp [evalO, getF]) ?_
    apply Run.seq (fr' := [(6, .sl 3 0 (b.length + n) 1), (7, .int .i64 0)]) (H' := [some (vaO v), some (tyO t), some nilB, some ob1])
    · simp only [vaO, tyO, Va.pay, Ty.pay] at hS hF hre
      apply Run.dy (by simp) keep21_11 (by simp)
      · (conv => lhs; simp (maxSteps := 2000000) -implicitDefEqProofs [-getElem?_pos, List.getElem?_cons_zero, List.getElem?_cons_succ, go_sem, eqV, plen, loadV, storeV, runD, out1, markOf, freeO, quietO, pushes, isAssign, calledV, touched, mentioned, opVals, touchCall, mentionCall, idsAt, Op.operands, ids, idsL, lendArgs, lendV, lend1, lendL, eqH_self, vaO, tyO, Va.pay, Ty.pay, hS, hF, upd, assignV, reach_none, hre, hg0, hi0, hp0])
        rfl
      · kernel_rfl
      · rfl
    exact ⟨0, rfl⟩
  · -- bits
    rw [if_neg (by omega), if_pos (by omega)]
    obtain ⟨s1, s8⟩ := fs (by omega)
    generalize hsn : sizeN t.t = n at *
    obtain ⟨ob1, hw1, hF⟩ := vfixed_ev (H := [some (vaO v), some (tyO t), some nilB, some ob0]) (o := 3) (x := v.b) (n := n) (N := n) rfl hw0.rwt rfl (by omega) s1 s8
    refine Tells.of (o := ⟨.ret, [(6, .sl 3 0 (b.length + n) 1), (7, .int .i64 0)], [some (vaO v), some (tyO t), some nilB, some ob1]⟩) ?_ ⟨rfl, 3, 1, ob1, by simp [getF, leB_len], rfl, rfl, hw1.rw⟩
    apply Run.seq_out (hne := by simp)
    apply Run.seq (fr' := [(4, .ptr 0 0 0 0), (5, .ptr 1 0 0 0), (9, .sl 3 0 b.length 0), (28, .int .i64 3)]) (H' := [some (vaO v), some (tyO t), some nilB, some ob0])
    · (refine ⟨0, ?_⟩; simp (maxSteps := 2000000) -implicitDefEqProofs [-getElem?_pos, List.getElem?_cons_zero, List.getElem?_cons_succ, go_sem, eqV, plen, loadV, storeV, vaO, Va.pay, kv])
    refine Run.block ?_ (by simp)
    apply Run.seq (fr' := [(4, .ptr 0 0 0 0), (5, .ptr 1 0 0 0), (9, .sl 3 0 b.length 0), (28, .int .i64 3), (29, .bool false)]) (H' := [some (vaO v), some (tyO t), some nilB, some ob0])
    · (refine ⟨0, ?_⟩; simp (maxSteps := 2000000) -implicitDefEqProofs [-getElem?_pos, List.getElem?_cons_zero, List.getElem?_cons_succ, go_sem, eqV, plen, loadV, storeV])
    refine condF (by simp [evalO, getF]) ?_
    apply Run.seq (fr' := [(4, .ptr 0 0 0 0), (5, .ptr 1 0 0 0), (9, .sl 3 0 b.length 0), (28, .int .i64 3), (39, .bool true)]) (H' := [some (vaO v), some (tyO t), some nilB, some ob0])
    · (refine ⟨0, ?_⟩; simp (maxSteps := 2000000) -implicitDefEqProofs [-getElem?_pos, List.getElem?_cons_zero, List.getElem?_cons_succ, go_sem, eqV, plen, loadV, storeV])
    refine condT (by simp [evalO, getF]) ?_
    apply Run.seq (fr' := [(6, .sl 3 0 (b.length + n) 1), (7, .int .i64 0)]) (H' := [some (vaO v), some (tyO t), some nilB, some ob1])
    · simp only [vaO, tyO, Va.pay, Ty.pay] at hS hF hre
      apply Run.dy (by simp) keep21_11 (by simp)
      · (conv => lhs; simp (maxSteps := 2000000) -implicitDefEqProofs [-getElem?_pos, List.getElem?_cons_zero, List.getElem?_cons_succ, go_sem, eqV, plen, loadV, storeV, runD, out1, markOf, freeO, quietO, pushes, isAssign, calledV, touched, mentioned, opVals, touchCall, mentionCall, idsAt, Op.operands, ids, idsL, lendArgs, lendV, lend1, lendL, eqH_self, vaO, tyO, Va.pay, Ty.pay, hS, hF, upd, assignV, reach_none, hre, hg0, hi0, hp0])
        rfl
      · kernel_rfl
      · rfl
    exact ⟨0, rfl⟩
  · -- bits
    rw [if_neg (by omega), if_pos (by omega)]
    obtain ⟨s1, s8⟩ := fs (by omega)
    generalize hsn : sizeN t.t = n at *
    obtain ⟨ob1, hw1, hF⟩ := vfixed_ev (H := [some (vaO v), some (tyO t), some nilB, some ob0]) (o := 3) (x := v.b) (n := n) (N := n) rfl hw0.rwt rfl (by omega) s1 s8
    refine Tells.of (o := ⟨.ret, [(6, .sl 3 0 (b.length + n) 1), (7, .int .i64 0)], [some (vaO v), some (tyO t), some nilB, some ob1]⟩) ?_ ⟨rfl, 3, 1, ob1, by simp [getF, leB_len], rfl, rfl, hw1.rw⟩
    apply Run.seq_out (hne := by simp)
    apply Run.seq (fr' := [(4, .ptr 0 0 0 0), (5, .ptr 1 0 0 0), (9, .sl 3 0 b.length 0), (28, .int .i64 4)]) (H' := [some (vaO v), some (tyO t), some nilB, some ob0])
    · (refine ⟨0, ?_⟩; simp (maxSteps := 2000000) -implicitDefEqProofs [-getElem?_pos, List.getElem?_cons_zero, List.getElem?_cons_succ, go_sem, eqV, plen, loadV, storeV, vaO, Va.pay, kv])
    refine Run.block ?_ (by simp)
    apply Run.seq (fr' := [(4, .ptr 0 0 0 0), (5, .ptr 1 0 0 0), (9, .sl 3 0 b.length 0), (28, .int .i64 4), (29, .bool false)]) (H' := [some (vaO v), some (tyO t), some nilB, some ob0])
    · (refine ⟨0, ?_⟩; simp (maxSteps := 2000000) -implicitDefEqProofs [-getElem?_pos, List.getElem?_cons_zero, List.getElem?_cons_succ, go_sem, eqV, plen, loadV, storeV])
    refine condF (by simp [evalO, getF]) ?_
    apply Run.seq (fr' := [(4, .ptr 0 0 0 0), (5, .ptr 1 0 0 0), (9, .sl 3 0 b.length 0), (28, .int .i64 4), (39, .bool true)]) (H' := [some (vaO v), some (tyO t), some nilB, some ob0])
    · (refine ⟨0, ?_⟩; simp (maxSteps := 2000000) -implicitDefEqProofs [-getElem?_pos, List.getElem?_cons_zero, List.getElem?_cons_succ, go_sem, eqV, plen, loadV, storeV])
    refine condT (by simp [evalO, getF]) ?_
    apply Run.seq (fr' := [(6, .sl 3 0 (b.length + n) 1), (7, .int .i64 0)]) (H' := [some (vaO v), some (tyO t), some nilB, some ob1])
    · simp only [vaO, tyO, Va.pay, Ty.pay] at hS hF hre
      apply Run.dy (by simp) keep21_11 (by simp)
      · (conv => lhs; simp (maxSteps := 2000000) -implicitDefEqProofs [-getElem?_pos, List.getElem?_cons_zero, List.getElem?_cons_succ, go_sem, eqV, plen, loadV, storeV, runD, out1, markOf, freeO, quietO, pushes, isAssign, calledV, touched, mentioned, opVals, touchCall, mentionCall, idsAt, Op.operands, ids, idsL, lendArgs, lendV, lend1, lendL, eqH_self, vaO, tyO, Va.pay, Ty.pay, hS, hF, upd, assignV, reach_none, hre, hg0, hi0, hp0])
        rfl
      · kernel_rfl
      · rfl
    exact ⟨0, rfl⟩
  · -- a moment, a span
    rw [if_neg (by omega), if_neg (by omega), if_pos (by omega)]
    obtain ⟨ob1, hw1, hF⟩ := when_ev (H := [some (vaO v), some (tyO t), some nilB, some ob0]) (o := 3) rfl hw0.rwt (by omega) ht (ff (by omega))
    refine Tells.of (o := ⟨.ret, [(6, .sl 3 0 (b ++ whB v.w t.t).length 1), (7, .int .i64 0)], [some (vaO v), some (tyO t), some nilB, some ob1]⟩) ?_ ⟨rfl, 3, 1, ob1, rfl, rfl, rfl, hw1.rw⟩
    apply Run.seq_out (hne := by simp)
    simp only [vaO, tyO, Va.pay, Ty.pay, Wh.pay] at hF
    rw [kv] at hF
    generalize (b ++ whB v.w t.t).length = n at *
    refine ⟨0, ?_⟩
    simp (maxSteps := 2000000) -implicitDefEqProofs [-getElem?_pos, List.getElem?_cons_zero, List.getElem?_cons_succ, go_sem, eqV, plen, loadV, storeV, vaO, tyO, Va.pay, Ty.pay, kv, mkWh, hF, upd, assignV]
  · -- a moment, a span
    rw [if_neg (by omega), if_neg (by omega), if_pos (by omega)]
    obtain ⟨ob1, hw1, hF⟩ := when_ev (H := [some (vaO v), some (tyO t), some nilB, some ob0]) (o := 3) rfl hw0.rwt (by omega) ht (ff (by omega))
    refine Tells.of (o := ⟨.ret, [(6, .sl 3 0 (b ++ whB v.w t.t).length 1), (7, .int .i64 0)], [some (vaO v), some (tyO t), some nilB, some ob1]⟩) ?_ ⟨rfl, 3, 1, ob1, rfl, rfl, rfl, hw1.rw⟩
    apply Run.seq_out (hne := by simp)
    simp only [vaO, tyO, Va.pay, Ty.pay, Wh.pay] at hF
    rw [kv] at hF
    generalize (b ++ whB v.w t.t).length = n at *
    refine ⟨0, ?_⟩
    simp (maxSteps := 2000000) -implicitDefEqProofs [-getElem?_pos, List.getElem?_cons_zero, List.getElem?_cons_succ, go_sem, eqV, plen, loadV, storeV, vaO, tyO, Va.pay, Ty.pay, kv, mkWh, hF, upd, assignV]
  · -- a text
    rw [if_neg (by omega), if_neg (by omega), if_neg (by omega), if_pos kv]
    obtain ⟨ob1, hw1, hA⟩ := appendText_ev (H := [some (vaO v), some (tyO t), some nilB, some ob0]) (a := .sl 3 0 b.length 0) (b := b) (s := v.t) (Byt.whole rfl hw0) (by omega) (by have := fl kv; omega)
    refine Tells.of (o := ⟨.ret, [(6, .sl 4 0 (b ++ aT v.t).length 0), (7, .int .i64 0)], [some (vaO v), some (tyO t), some nilB, some ob0, some ob1]⟩) ?_ ⟨rfl, 4, 0, ob1, rfl, rfl, rfl, hw1⟩
    apply Run.seq_out (hne := by simp)
    simp only [vaO, tyO, Va.pay, Ty.pay] at hA
    rw [kv] at hA
    generalize (b ++ aT v.t).length = n at *
    refine ⟨0, ?_⟩
    simp (maxSteps := 2000000) -implicitDefEqProofs [-getElem?_pos, List.getElem?_cons_zero, List.getElem?_cons_succ, go_sem, eqV, plen, loadV, storeV, vaO, tyO, Va.pay, Ty.pay, kv, hA, assignV]

end

theorem vappend_ev {H : AM.Heap} {a : AV} {b : List UInt8} {v : Va} {t : Ty} (h : Byt H a b) (hb : b.length ≤ 30000000) (ht : t.t < 256) (hvb : v.b < 18446744073709551616) (hi : -9223372036854775808 ≤ v.i ∧ v.i < 9223372036854775808) :
    ∃ ob, Rw (.pb (apV b v t).1) 0 ob ∧ evT X 21 [a, .agg v.pay, .agg t.pay] H = some (.tup [.sl H.length 0 (apV b v t).1.length 0, .int .i64 (apV b v t).2], H ++ [some ob]) := by
  obtain ⟨c, p, xl, hp, hc, hx'⟩ := args_byt (C := X) (f := 21) (i := 0) rfl h (args_va (f := 21) (i := 1) (v := v) (args_ty (i := 2) (t := t) (args_nil 3)))
  obtain ⟨code, hcode, hr⟩ := vappend_code c b v t hc hb ht hvb hi
  obtain ⟨ob, q1, q2⟩ := Ev1.newB (H := H) (n := (apV b v t).1.length) (l := (apV b v t).1) (rest := [.int .i64 (apV b v t).2]) (evT_below X) Try.func21 hcode hx' (by simp [Va.pay, Ty.pay, idsL, ids, hp.ids]) (by simp [gtag]) rfl rfl rfl (by
    obtain ⟨o, ⟨he, o1, g, ob, q1, q2, q3, q4⟩, hrun⟩ := hr
    exact ⟨o, ⟨he, o1, g, ob, by show some [getF o.fr 6, getF o.fr 7] = _; rw [q1, q2], q3, q4⟩, by rw [par21, coB hp]; exact hrun⟩)
  exact ⟨ob, q1, evT_eq q2⟩

end Go.Proofs.Ytbmddnokokoofaa

/- Plain: a counted text that is written is read back; less is too short. -/
namespace Go.Proofs.Ytbmddnokokoofaa
open Go.AM
set_option linter.unusedSimpArgs false
set_option linter.unusedVariables false

theorem lvB (n x : Nat) (r : List UInt8) : (leB n x ++ r).take n = leB n x := by
  have := List.take_left (l₁ := leB n x) (l₂ := r)
  rw [leB_len] at this; exact this
theorem aI_small {n : Nat} (h : n ≤ 250) : aI n = [UInt8.ofNat n] := by
  unfold aI frm; rw [if_pos h]; simp only [leB, if_true, List.nil_append]; rw [Nat.mod_eq_of_lt (by omega)]
theorem aI_large {x : Nat} (hx : x < 18446744073709551616) (h1 : ¬ x ≤ 250) : ∃ q n, aI x = UInt8.ofNat q :: leB n x ∧ szI x = n + 1 ∧ 252 ≤ q ∧ q ≤ 254 ∧ bsz q = n ∧ x < 256 ^ n := by
  obtain ⟨h2, h3, h4, h5⟩ := frm_ok hx
  have key : ∃ q n, frm x = (q, n) ∧ szI x = n + 1 ∧ 252 ≤ q ∧ q ≤ 254 ∧ bsz q = n := by
    unfold frm szI
    rw [if_neg h1, if_neg h1]
    by_cases h6 : x < 65536
    · rw [if_pos h6, if_pos h6]; exact ⟨252, 2, rfl, rfl, by omega, by omega, rfl⟩
    · rw [if_neg h6, if_neg h6]
      by_cases h7 : x < 16777216
      · rw [if_pos h7, if_pos h7]; exact ⟨253, 3, rfl, rfl, by omega, by omega, rfl⟩
      · rw [if_neg h7, if_neg h7]; exact ⟨254, 8, rfl, rfl, by omega, by omega, rfl⟩
  obtain ⟨q, n, hf, hs, q1, q2, hb⟩ := key
  rw [hf] at h4
  exact ⟨q, n, by unfold aI; rw [hf]; simp only; rw [if_neg (by omega)]; rfl, hs, q1, q2, hb, h4⟩
/-- a counted number's reading -/
theorem rdI_back {x : Nat} (hx : x < 18446744073709551616) (r : List UInt8) : rdI (aI x ++ r) = (x, szI x, 0) := by
  by_cases h1 : x ≤ 250
  · rw [aI_small h1]
    have e : (UInt8.ofNat x).toNat = x := by simp; omega
    have hs : szI x = 1 := by unfold szI; rw [if_pos h1]
    simp only [List.cons_append, List.nil_append, rdI_cons, e]
    rw [if_neg (by omega), if_pos h1, hs]
  · obtain ⟨q, n, hai, hs, q1, q2, hb, h4⟩ := aI_large hx h1
    have e : (UInt8.ofNat q).toNat = q := by simp; omega
    rw [hai, List.cons_append, rdI_cons, e, if_neg (by omega), if_neg (by omega), hb]
    unfold rdN'
    rw [if_neg (by simp [leB_len]), hs, lvB, leV_leB, Nat.mod_eq_of_lt h4]
/-- cut within -/
theorem rdI_less {x k : Nat} (hx : x < 18446744073709551616) (hk : k < szI x) : rdI ((aI x).take k) = (0, 0, 4) := by
  by_cases h1 : x ≤ 250
  · have hs : szI x = 1 := by unfold szI; rw [if_pos h1]
    obtain rfl : k = 0 := by omega
    rfl
  · obtain ⟨q, n, hai, hs, q1, q2, hb, h4⟩ := aI_large hx h1
    have e : (UInt8.ofNat q).toNat = q := by simp; omega
    rw [hai]
    match k with
    | 0 => rfl
    | k + 1 =>
      rw [List.take_succ_cons, rdI_cons, e, if_neg (by omega), if_neg (by omega), hb]
      unfold rdN'
      rw [if_pos (by rw [List.length_take, leB_len]; omega)]
theorem aT_size (s : List UInt8) : (aT s).length = szI s.length + s.length := by simp [aT, aI_len]
theorem rdT_back {s : List UInt8} (hs : s.length < 18446744073709551616) (r : List UInt8) : rdT (aT s ++ r) = (s, (aT s).length, 0) := by
  unfold rdT aT
  rw [List.append_assoc, rdI_back hs]
  have hl := aI_len s.length
  simp only [ne_eq, not_true_eq_false, if_false]
  rw [if_neg (by simp [hl])]
  have e : (aI s.length ++ (s ++ r)).drop (szI s.length) = s ++ r := by rw [← hl, List.drop_left]
  rw [e, List.take_left]
  simp [hl]
theorem rdT_less {s : List UInt8} {k : Nat} (hs : s.length < 18446744073709551616) (hk : k < (aT s).length) : rdT ((aT s).take k) = ([], 0, 4) := by
  rw [aT_size] at hk
  by_cases h1 : k < szI s.length
  · unfold rdT aT
    rw [List.take_append_of_le_length (by rw [aI_len]; omega), rdI_less hs h1]
    rfl
  · have hI : rdI ((aT s).take k) = (s.length, szI s.length, 0) := by
      unfold aT
      rw [List.take_append, List.take_of_length_le (by rw [aI_len]; omega)]
      exact rdI_back hs _
    unfold rdT
    rw [hI]
    simp only [ne_eq, not_true_eq_false, if_false]
    rw [if_pos (by rw [List.length_take, aT_size]; omega)]

end Go.Proofs.Ytbmddnokokoofaa

/- Plain: numbers, moments and spans that are written are read back; less is too short. -/
namespace Go.Proofs.Ytbmddnokokoofaa
open Go.AM
set_option linter.unusedSimpArgs false
set_option linter.unusedVariables false

theorem rfR_back {n : Nat} (x : Nat) (E : List UInt8) (h1 : 1 ≤ n) (h8 : n ≤ 8) : rfR (leB n x ++ E) (n : Nat) = (((x % 256 ^ n : Nat) : Int), 0) := by
  unfold rfR
  rw [if_neg (by omega), if_neg (by rw [List.length_append, leB_len]; omega), Int.toNat_natCast, lvB, leV_leB]
theorem rfR_less {n k : Nat} (x : Nat) (h1 : 1 ≤ n) (h8 : n ≤ 8) (hk : k < n) : rfR ((leB n x).take k) (n : Nat) = (0, 4) := by
  unfold rfR
  rw [if_neg (by omega), if_pos (by rw [List.length_take, leB_len]; omega)]

theorem sg_back {i : Int} {n : Nat} (hn : n = 1 ∨ n = 2 ∨ n = 4 ∨ n = 8) (h1 : -9223372036854775808 ≤ i) (h2 : i < 9223372036854775808) (ok : okI i n = true) : sgV (((ui i % 256 ^ n : Nat) : Nat) : Int) n = i := by
  have hu := ui_eq i
  unfold okI at ok
  simp only [Bool.or_eq_true, decide_eq_true_eq] at ok
  have hw : IntKind.u64.wrap i = i % 18446744073709551616 := by simp [IntKind.wrap, IntKind.signed, IntKind.bits]
  rw [hw] at hu
  generalize ui i = u at *
  have hb : ∀ x : Int, IntKind.u64.wrap x = x % 18446744073709551616 := fun x => by simp [IntKind.wrap, IntKind.signed, IntKind.bits]
  have hi : ∀ x : Int, 0 ≤ x → x < 18446744073709551616 → IntKind.i64.wrap x = if x < 9223372036854775808 then x else x - 18446744073709551616 := by
    intro x h0 h1
    have e : x % 18446744073709551616 = x := by omega
    by_cases hx : x < 9223372036854775808
    · rw [if_pos hx]
      simp [IntKind.wrap, IntKind.signed, IntKind.bits, e]
      omega
    · rw [if_neg hx]
      simp [IntKind.wrap, IntKind.signed, IntKind.bits, e]
      omega
  unfold sgV
  rcases hn with rfl | rfl | rfl | rfl
  · simp only [Nat.reduceSub, Nat.reduceMul, Nat.reducePow, Int.reducePow] at ok ⊢
    rw [hb, hi _ (by omega) (by omega), Int.fdiv_eq_ediv_of_nonneg _ (by omega)]
    split <;> omega
  · simp only [Nat.reduceSub, Nat.reduceMul, Nat.reducePow, Int.reducePow] at ok ⊢
    rw [hb, hi _ (by omega) (by omega), Int.fdiv_eq_ediv_of_nonneg _ (by omega)]
    split <;> omega
  · simp only [Nat.reduceSub, Nat.reduceMul, Nat.reducePow, Int.reducePow] at ok ⊢
    rw [hb, hi _ (by omega) (by omega), Int.fdiv_eq_ediv_of_nonneg _ (by omega)]
    split <;> omega
  · simp only [Nat.reduceSub, Nat.reduceMul, Nat.reducePow, Int.reducePow] at ok ⊢
    rw [hb, hi _ (by omega) (by omega), Int.fdiv_eq_ediv_of_nonneg _ (by omega)]
    split <;> omega

end Go.Proofs.Ytbmddnokokoofaa

/- Plain: moments and spans that are written are read back; less is too short. -/
namespace Go.Proofs.Ytbmddnokokoofaa
open Go.AM
set_option linter.unusedSimpArgs false
set_option linter.unusedVariables false

/-- the body behind a length -/
theorem cW_of {L : UInt8} {body E : List UInt8} {n : Nat} (hL : L.toNat = n) (hb : body.length = n) : cW (L :: (body ++ E)) = body ++ List.replicate (13 - n) 0 := by
  unfold cW
  simp only [List.headD_cons, List.drop_succ_cons, List.drop_zero, hL]
  rw [← hb, List.take_left]

theorem b1 {x : Int} (h0 : 0 ≤ x) (h1 : x < 256) : ((UInt8.ofNat x.toNat).toNat : Int) = x := by
  rw [UInt8.toNat_ofNat', Nat.mod_eq_of_lt (by omega)]; omega
theorem drB (n x j : Nat) (r : List UInt8) : (leB n x ++ r).drop (n + j) = r.drop j := by
  have h := List.drop_append (l₁ := leB n x) (l₂ := r) (i := n + j)
  rw [h, leB_len, List.drop_eq_nil_of_le (by rw [leB_len]; omega), List.nil_append, show n + j - n = j by omega]
theorem leVB {x : Int} {n : Nat} (h0 : 0 ≤ x) (h1 : x.toNat < 256 ^ n) : ((leV (leB n x.toNat) : Nat) : Int) = x := by
  rw [leV_leB, Nat.mod_eq_of_lt h1]; omega
theorem leV1 (y : UInt8) : leV [y] = y.toNat := by simp [leV]
/-- parts of a second, with nothing behind them -/
theorem us_back {w : Wh} {k : Nat} (h0 : 0 ≤ w.us) (h1 : w.us < 4294967296) (hk : w.us = 0 → 4 ≤ k) : ((leV ((usB w ++ List.replicate k 0).take 4) : Nat) : Int) = w.us := by
  by_cases hz : w.us = 0
  · have e : usB w = [] := if_pos hz
    have hk := hk hz
    rw [e, hz, List.nil_append, List.take_replicate, leV_zeros]; rfl
  · have e : usB w = leB 4 w.us.toNat := if_neg hz
    rw [e, lvB]
    exact leVB h0 (by rw [show 256 ^ 4 = 4294967296 from rfl]; omega)

theorem sp_back {w : Wh} (hf : fin w 11 = true) {U : List UInt8} (hU : ((leV (U.take 4) : Nat) : Int) = w.us) : spW ((if w.neg then 1 else 0) :: (leB 4 w.d.toNat ++ (UInt8.ofNat w.h.toNat :: UInt8.ofNat w.mi.toNat :: UInt8.ofNat w.s.toNat :: U))) = w := by
  obtain ⟨y0, y1, m0, m1, d0, d1, h0, h1, i0, i1, s0, s1, u0, u1⟩ := fin_nn hf
  have hz : w.y = 0 ∧ w.mo = 0 := by
    unfold fin at hf
    simp only [if_true, Bool.and_eq_true, decide_eq_true_eq] at hf
    exact ⟨hf.2.1, hf.2.2.1⟩
  have hd := leVB (n := 4) d0 (by rw [show 256 ^ 4 = 4294967296 from rfl]; omega)
  have hh := b1 h0 h1
  have hi := b1 i0 i1
  have hs := b1 s0 s1
  have hn : (((if w.neg then 1 else 0) : UInt8).toNat == 1) = w.neg := by cases w.neg <;> rfl
  generalize hX : (UInt8.ofNat w.h.toNat :: UInt8.ofNat w.mi.toNat :: UInt8.ofNat w.s.toNat :: U) = X
  have e0 : (leB 4 w.d.toNat ++ X).take 4 = leB 4 w.d.toNat := lvB 4 _ X
  have e4 : (leB 4 w.d.toNat ++ X).drop 4 = X := drB 4 w.d.toNat 0 X
  have e5 : (leB 4 w.d.toNat ++ X).drop 5 = X.drop 1 := drB 4 w.d.toNat 1 X
  have e6 : (leB 4 w.d.toNat ++ X).drop 6 = X.drop 2 := drB 4 w.d.toNat 2 X
  have e7 : (leB 4 w.d.toNat ++ X).drop 7 = X.drop 3 := drB 4 w.d.toNat 3 X
  unfold spW nb
  simp only [List.headD_cons, List.drop_succ_cons, List.drop_zero, e0, e4, e5, e6, e7, hn, hd]
  subst hX
  simp only [List.drop_succ_cons, List.drop_zero, List.take_succ_cons, List.take_zero, leV1, hU, hh, hi, hs]
  obtain ⟨q1, q2⟩ := hz
  cases w
  simp only at q1 q2
  subst q1 q2
  rfl

theorem mo_back {w : Wh} {t : Nat} (h11 : t ≠ 11) (hf : fin w t = true) {K U : List UInt8} (hK : K = clB w ++ U) (hU : ((leV (U.take 4) : Nat) : Int) = w.us) : moW (leB 2 w.y.toNat ++ (UInt8.ofNat w.mo.toNat :: UInt8.ofNat w.d.toNat :: K)) = w := by
  obtain ⟨y0, y1, m0, m1, d0, d1, h0, h1, i0, i1, s0, s1, u0, u1⟩ := fin_nn hf
  have hng : w.neg = false := by
    unfold fin at hf
    rw [if_neg h11] at hf
    simp only [Bool.and_eq_true, Bool.not_eq_true'] at hf
    exact hf.2.1
  have hy := leVB (n := 2) y0 (by rw [show 256 ^ 2 = 65536 from rfl]; omega)
  have hm := b1 m0 m1
  have hd := b1 d0 d1
  have hh := b1 h0 h1
  have hi := b1 i0 i1
  have hs := b1 s0 s1
  subst hK
  generalize hX : (UInt8.ofNat w.mo.toNat :: UInt8.ofNat w.d.toNat :: (clB w ++ U)) = X
  have e0 : (leB 2 w.y.toNat ++ X).take 2 = leB 2 w.y.toNat := lvB 2 _ X
  have e2 : (leB 2 w.y.toNat ++ X).drop 2 = X := drB 2 w.y.toNat 0 X
  have e3 : (leB 2 w.y.toNat ++ X).drop 3 = X.drop 1 := drB 2 w.y.toNat 1 X
  have e4 : (leB 2 w.y.toNat ++ X).drop 4 = X.drop 2 := drB 2 w.y.toNat 2 X
  have e5 : (leB 2 w.y.toNat ++ X).drop 5 = X.drop 3 := drB 2 w.y.toNat 3 X
  have e6 : (leB 2 w.y.toNat ++ X).drop 6 = X.drop 4 := drB 2 w.y.toNat 4 X
  have e7 : (leB 2 w.y.toNat ++ X).drop 7 = X.drop 5 := drB 2 w.y.toNat 5 X
  unfold moW nb
  simp only [List.drop_zero, e0, e2, e3, e4, e5, e6, e7, hy]
  subst hX
  simp only [clB, List.cons_append, List.nil_append, List.drop_succ_cons, List.drop_zero, List.take_succ_cons, List.take_zero, leV1, hU, hm, hd, hh, hi, hs]
  cases w
  simp only at hng
  subst hng
  rfl

end Go.Proofs.Ytbmddnokokoofaa

/- Plain: a value that is written is read back; less is too short. -/
namespace Go.Proofs.Ytbmddnokokoofaa
open Go.AM
set_option linter.unusedSimpArgs false
set_option linter.unusedVariables false

/-- what a moment's, a span's bytes are -/
theorem wh_form {w : Wh} {t : Nat} (hf : fin w t = true) : ∃ L body, whB w t = L :: body ∧ L.toNat = body.length ∧ knW body.length t = true ∧ (t = 11 → spW (body ++ List.replicate (13 - body.length) 0) = w ∧ ¬ 1 < ((body ++ List.replicate (13 - body.length) 0).headD 0).toNat) ∧ (t ≠ 11 → moW (body ++ List.replicate (13 - body.length) 0) = w) := by
  obtain ⟨y0, y1, m0, m1, d0, d1, h0, h1, i0, i1, s0, s1, u0, u1⟩ := fin_nn hf
  by_cases h11 : t = 11
  · subst h11
    by_cases hz : w = {}
    · subst hz
      exact ⟨0, [], rfl, rfl, rfl, fun _ => ⟨by decide, by decide⟩, fun h => absurd rfl h⟩
    · have hB : whB w 11 = (if w.us = 0 then 8 else 12) :: ((if w.neg then 1 else 0) :: (leB 4 w.d.toNat ++ (UInt8.ofNat w.h.toNat :: UInt8.ofNat w.mi.toNat :: UInt8.ofNat w.s.toNat :: usB w))) := by
        unfold whB
        rw [if_pos rfl]
        unfold spB
        rw [if_neg hz]
        simp [clB]
      have hul : (usB w).length = if w.us = 0 then 0 else 4 := by unfold usB; split <;> simp [leB_len]
      have hlen : ((if w.neg then 1 else 0) :: (leB 4 w.d.toNat ++ (UInt8.ofNat w.h.toNat :: UInt8.ofNat w.mi.toNat :: UInt8.ofNat w.s.toNat :: usB w))).length = if w.us = 0 then 8 else 12 := by
        simp only [List.length_cons, List.length_append, leB_len, hul]
        split <;> rfl
      refine ⟨_, _, hB, ?_, ?_, fun _ => ⟨?_, ?_⟩, fun h => absurd rfl h⟩
      · rw [hlen]; split <;> rfl
      · rw [hlen]; split <;> rfl
      · rw [hlen]
        have hb := sp_back hf (U := usB w ++ List.replicate (13 - if w.us = 0 then 8 else 12) 0) (us_back u0 u1 (fun h => by rw [if_pos h]; decide))
        simpa using hb
      · simp only [List.cons_append, List.headD_cons]
        cases w.neg <;> decide
  · by_cases hz : w = {}
    · subst hz
      refine ⟨0, [], ?_, rfl, ?_, fun h => absurd h h11, fun _ => by decide⟩
      · unfold whB; rw [if_neg h11]; rfl
      · unfold knW szL; rw [if_neg h11]; rfl
    · have hul : (usB w).length = if w.us = 0 then 0 else 4 := by unfold usB; split <;> simp [leB_len]
      by_cases hd : w = { y := w.y, mo := w.mo, d := w.d }
      · have hus : w.us = 0 := by rw [hd]
        have hh : w.h = 0 ∧ w.mi = 0 ∧ w.s = 0 := by
          refine ⟨?_, ?_, ?_⟩ <;> rw [hd]
        have hue : usB w = [] := if_pos hus
        have hB : whB w t = 4 :: (leB 2 w.y.toNat ++ (UInt8.ofNat w.mo.toNat :: UInt8.ofNat w.d.toNat :: [])) := by
          unfold whB
          rw [if_neg h11]
          unfold moB moN
          rw [if_neg hz, if_pos hd, if_pos hd, hue]
          simp
        have hlen : (leB 2 w.y.toNat ++ (UInt8.ofNat w.mo.toNat :: UInt8.ofNat w.d.toNat :: [])).length = 4 := by simp [leB_len]
        refine ⟨_, _, hB, by rw [hlen]; rfl, ?_, fun h => absurd h h11, fun _ => ?_⟩
        · rw [hlen]; unfold knW szL; rw [if_neg h11]; rfl
        · rw [hlen]
          have hc : clB w = [0, 0, 0] := by unfold clB; rw [hh.1, hh.2.1, hh.2.2]; rfl
          have hb := mo_back h11 hf (K := List.replicate 9 0) (U := List.replicate 6 0) (by rw [hc]; rfl) (by rw [hus]; decide)
          simpa using hb
      · have hB : whB w t = (if w.us = 0 then 7 else 11) :: (leB 2 w.y.toNat ++ (UInt8.ofNat w.mo.toNat :: UInt8.ofNat w.d.toNat :: (clB w ++ usB w))) := by
          unfold whB
          rw [if_neg h11]
          unfold moB moN
          rw [if_neg hz, if_neg hd, if_neg hd]
          simp
        have hlen : (leB 2 w.y.toNat ++ (UInt8.ofNat w.mo.toNat :: UInt8.ofNat w.d.toNat :: (clB w ++ usB w))).length = if w.us = 0 then 7 else 11 := by
          simp only [List.length_cons, List.length_append, leB_len, hul, clB, List.length_nil]
          split <;> rfl
        refine ⟨_, _, hB, by rw [hlen]; split <;> rfl, ?_, fun h => absurd h h11, fun _ => ?_⟩
        · rw [hlen]; unfold knW szL; rw [if_neg h11]; split <;> rfl
        · rw [hlen]
          have hb := mo_back h11 hf (K := clB w ++ (usB w ++ List.replicate (13 - if w.us = 0 then 7 else 11) 0)) (U := usB w ++ List.replicate (13 - if w.us = 0 then 7 else 11) 0) rfl (us_back u0 u1 (fun h => by rw [if_pos h]; decide))
          simpa using hb

theorem rdW_back {w : Wh} {t : Nat} (hf : fin w t = true) (E : List UInt8) : rdW (whB w t ++ E) t = (w, (whB w t).length, 0) := by
  obtain ⟨L, body, hB, hL, hk, h1, h2⟩ := wh_form hf
  rw [hB, List.cons_append]
  unfold rdW
  rw [if_neg (by simp), cW_of hL rfl]
  simp only [List.headD_cons, hL]
  rw [if_neg (by rw [hk]; simp), if_neg (by simp; omega)]
  by_cases h11 : t = 11
  · obtain ⟨q1, q2⟩ := h1 h11
    rw [if_pos h11, if_neg q2, q1, if_neg (by rw [hf]; simp), List.length_cons, Nat.add_comm]
  · have q1 := h2 h11
    rw [if_neg h11, q1, if_neg (by rw [hf]; simp), List.length_cons, Nat.add_comm]
theorem rdW_less {w : Wh} {t k : Nat} (hf : fin w t = true) (hk : k < (whB w t).length) : rdW ((whB w t).take k) t = ({}, 0, 4) := by
  obtain ⟨L, body, hB, hL, hk', h1, h2⟩ := wh_form hf
  rw [hB] at hk ⊢
  match k with
  | 0 => rfl
  | k + 1 =>
    rw [List.take_succ_cons]
    unfold rdW
    simp only [List.headD_cons, hL]
    rw [if_neg (by simp), if_neg (by rw [hk']; simp), if_pos]
    rw [List.length_cons] at hk ⊢
    rw [List.length_take]
    omega

theorem val_back {v : Va} {t : Ty} (h : chkV v t = 0) (hk : v.k ≠ 0) (hv : v.b < 18446744073709551616) (hi : -9223372036854775808 ≤ v.i ∧ v.i < 9223372036854775808) (E : List UInt8) : rdV (enV v t ++ E) t = (v, (enV v t).length, 0) := by
  have hok : okVa v t = true := by
    rcases chk_ok h with h | h
    · subst h; exact absurd rfl hk
    · exact h
  unfold okVa okVk at hok
  unfold rdV enV
  by_cases k1 : v.k = 1
  · rw [if_pos k1] at hok
    simp only [Bool.and_eq_true, decide_eq_true_eq] at hok
    obtain ⟨q1, q2, q3⟩ := hok
    have hs := size_num (t := t.t) (u := t.u) (.inl q1)
    rw [q1, if_neg (by decide), if_neg (by decide), if_neg (by decide), if_neg (by decide), if_pos k1, rfR_back _ E (by omega) (by omega)]
    simp only [ne_eq, not_true_eq_false, if_false, if_true, leB_len]
    rw [sg_back hs hi.1 hi.2 q3, ← q2]
  rw [if_neg k1] at hok ⊢
  by_cases k2 : v.k = 2 ∨ v.k = 3 ∨ v.k = 4
  · rw [if_pos k2] at hok ⊢
    simp only [Bool.and_eq_true, decide_eq_true_eq] at hok
    obtain ⟨q1, q2, q3⟩ := hok
    have hs := size_num (t := t.t) (u := t.u) (by rw [q1]; omega)
    have hb : v.b < 256 ^ sizeN t.t := by
      unfold okB at q3
      simp only [Bool.or_eq_true, decide_eq_true_eq] at q3
      rcases hs with h | h | h | h <;> rw [h] at q3 ⊢ <;> simp only [Nat.reducePow, Nat.reduceMul] at q3 ⊢ <;> omega
    rw [q1, if_neg (by omega), if_neg (by omega), if_neg (by omega), if_neg (by omega), rfR_back _ E (by omega) (by omega)]
    simp only [ne_eq, not_true_eq_false, if_false, leB_len]
    rw [if_neg k1, Nat.mod_eq_of_lt hb, Int.toNat_natCast, ← q2]
  rw [if_neg k2] at hok ⊢
  by_cases k5 : v.k = 5 ∨ v.k = 6
  · rw [if_pos k5] at hok ⊢
    simp only [Bool.and_eq_true, decide_eq_true_eq] at hok
    obtain ⟨q1, q2, q3⟩ := hok
    rw [q1, if_neg (by omega), if_neg (by omega), if_pos k5, rdW_back q3]
    simp only [ne_eq, not_true_eq_false, if_false]
    rw [← q2]
  rw [if_neg k5] at hok ⊢
  by_cases k7 : v.k = 7
  · rw [if_pos k7] at hok ⊢
    simp only [Bool.and_eq_true, decide_eq_true_eq] at hok
    obtain ⟨q1, q2, q3⟩ := hok
    rw [q1, if_neg (by decide), if_neg (by decide), if_neg (by decide), if_pos rfl, rdT_back (by omega)]
    simp only [ne_eq, not_true_eq_false, if_false]
    rw [if_neg (by omega), ← q2]
  · rw [if_neg k7] at hok; cases hok

theorem val_less {v : Va} {t : Ty} {n : Nat} (h : chkV v t = 0) (hk : v.k ≠ 0) (hn : n < (enV v t).length) : (rdV ((enV v t).take n) t).2.2 = 4 := by
  have hok : okVa v t = true := by
    rcases chk_ok h with h | h
    · subst h; exact absurd rfl hk
    · exact h
  unfold okVa okVk at hok
  unfold enV at hn ⊢
  unfold rdV
  by_cases k1 : v.k = 1
  · rw [if_pos k1] at hok
    simp only [Bool.and_eq_true, decide_eq_true_eq] at hok
    obtain ⟨q1, q2, q3⟩ := hok
    have hs := size_num (t := t.t) (u := t.u) (.inl q1)
    rw [if_pos k1] at hn ⊢
    rw [leB_len] at hn
    rw [q1, if_neg (by decide), if_neg (by decide), if_neg (by decide), if_neg (by decide), rfR_less _ (by omega) (by omega) hn]
    rfl
  rw [if_neg k1] at hok hn ⊢
  by_cases k2 : v.k = 2 ∨ v.k = 3 ∨ v.k = 4
  · rw [if_pos k2] at hok hn ⊢
    simp only [Bool.and_eq_true, decide_eq_true_eq] at hok
    obtain ⟨q1, q2, q3⟩ := hok
    have hs := size_num (t := t.t) (u := t.u) (by rw [q1]; omega)
    rw [leB_len] at hn
    rw [q1, if_neg (by omega), if_neg (by omega), if_neg (by omega), if_neg (by omega), rfR_less _ (by omega) (by omega) hn]
    rfl
  rw [if_neg k2] at hok hn ⊢
  by_cases k5 : v.k = 5 ∨ v.k = 6
  · rw [if_pos k5] at hok hn ⊢
    simp only [Bool.and_eq_true, decide_eq_true_eq] at hok
    obtain ⟨q1, q2, q3⟩ := hok
    rw [q1, if_neg (by omega), if_neg (by omega), if_pos k5, rdW_less q3 hn]
    rfl
  rw [if_neg k5] at hok hn ⊢
  by_cases k7 : v.k = 7
  · rw [if_pos k7] at hok hn ⊢
    simp only [Bool.and_eq_true, decide_eq_true_eq] at hok
    obtain ⟨q1, q2, q3⟩ := hok
    rw [q1, if_neg (by decide), if_neg (by decide), if_neg (by decide), if_pos rfl, rdT_less (by omega) hn]
    rfl
  · rw [if_neg k7] at hok; cases hok

end Go.Proofs.Ytbmddnokokoofaa

/- Walks: what a read looks up: a bit, whether a parameter came as long data. -/
namespace Go.Proofs.Ytbmddnokokoofaa
open Go.AM
set_option linter.unusedSimpArgs false
set_option linter.unusedVariables false

/-- the bit of bytes -/
def bitB (b : List UInt8) (i : Nat) : Bool := ((b.getD (i / 8) 0).toNat / 2 ^ (i % 8)) % 2 == 1
def lgB (g : List Bool) (i : Nat) : Bool := g.getD i false

theorem and1 {y j : Nat} (hy : y < 256) : IntKind.u8.wrap ((AM.bits .u8 ((y / 2 ^ j : Nat) : Int) &&& AM.bits .u8 1).toNat : Nat) = (((y / 2 ^ j) % 2 : Nat) : Int) := by
  have hd : y / 2 ^ j < 256 := Nat.lt_of_le_of_lt (Nat.div_le_self _ _) hy
  have hb : ∀ v : Nat, v < 256 → (AM.bits .u8 (v : Int)).toNat = v := by
    intro v hv
    unfold AM.bits
    simp [IntKind.bits]
    omega
  have e : (AM.bits .u8 ((y / 2 ^ j : Nat) : Int) &&& AM.bits .u8 1).toNat = (y / 2 ^ j) % 2 := by
    rw [show (AM.bits .u8 ((y / 2 ^ j : Nat) : Int) &&& AM.bits .u8 1).toNat = (AM.bits .u8 ((y / 2 ^ j : Nat) : Int)).toNat &&& (AM.bits .u8 1).toNat by simp]
    rw [hb _ hd, show (AM.bits .u8 1).toNat = 1 from rfl, Nat.and_one_is_mod]
  rw [e]
  have : (y / 2 ^ j) % 2 < 2 := Nat.mod_lt _ (by omega)
  exact wrap_u8 (by omega) (by omega)

theorem shr8 {y j : Nat} (hj : j < 8) : Int.fdiv (y : Int) (2 ^ (min j 8)) = ((y / 2 ^ j : Nat) : Int) := by
  rw [Nat.min_eq_left (by omega)]
  rw [show ((2 : Int) ^ j) = ((2 ^ j : Nat) : Int) by simp]
  rw [Int.fdiv_eq_ediv_of_nonneg _ (Int.natCast_nonneg _)]
  exact (Int.natCast_ediv _ _).symm

section
variable (c : Nat) (b : List UInt8) (g : List Bool) (i : Nat)

set_option maxRecDepth 100000 in
theorem set_code (hi : i / 8 < b.length) (hi2 : i ≤ 9000000) : ∃ code, Try.f23.body = some code ∧
    Run X (evT X) 23 1 code [(0, .int .i64 (i : Nat)), (1, .ptr 0 0 0 0)] [some (roB c (.pb b) 3 3)] ⟨.ret, [(3, .bool (bitB b i))], [some (roB c (.pb b) 3 3)]⟩ := by
  refine ⟨_, rfl, ?_⟩
  obtain ⟨y, hy⟩ : ∃ y, b[i / 8]? = some y := ⟨_, List.getElem?_eq_getElem hi⟩
  have hbit : bitB b i = ((y.toNat / 2 ^ (i % 8)) % 2 == 1) := by unfold bitB; rw [List.getD, hy]; rfl
  rw [hbit]
  have e1 : Int.tdiv (i : Int) 8 = ((i / 8 : Nat) : Int) := by rw [Int.tdiv_eq_ediv_of_nonneg (by omega)]; omega
  have e2 : Int.tmod (i : Int) 8 = ((i % 8 : Nat) : Int) := by rw [Int.tmod_eq_emod_of_nonneg (by omega)]; omega
  have e3 : (i : Int) / 8 = ((i / 8 : Nat) : Int) := by omega
  have e4 : (i : Int) % 8 = ((i % 8 : Nat) : Int) := by omega
  have w1 : IntKind.i64.wrap ((i / 8 : Nat) : Int) = ((i / 8 : Nat) : Int) := wrap_i64 (by omega) (by omega)
  have hii : ((i / 8 : Nat) : Int) < (b.length : Int) := by omega
  have hr0 : ¬ ((i % 8 : Nat) : Int) < 0 := by omega
  have hsh := shr8 (y := y.toNat) (j := i % 8) (Nat.mod_lt _ (by omega))
  have han := and1 (y := y.toNat) (j := i % 8) y.toNat_lt
  have heq : ∀ z : Nat, ((z : Int) == 1) = (z == 1) := by
    intro z
    by_cases h : z = 1
    · subst h; rfl
    · have : (z == 1) = false := by simpa using h
      rw [this]; exact beq_eq_false_iff_ne.2 (by omega)
  generalize i / 8 = q at *
  generalize i % 8 = r at *
  generalize y.toNat / 2 ^ r = d at *
  have han2 := han
  simp only [go_sem] at han2
  simp only [BitVec.toNat_and] at han
  have hq := heq (d % 2)
  generalize d % 2 = dd at *
  refine ⟨0, ?_⟩
  simp (maxSteps := 2000000) -implicitDefEqProofs [-getElem?_pos, List.getElem?_cons_zero, List.getElem?_cons_succ, go_sem, eqV, plen, loadV, storeV, roB, e1, e2, e3, e4, w1, hi, hii, hy, hr0, hsh, han, han2, hq, show IntKind.u8.bits = 8 from rfl]

set_option maxRecDepth 100000 in
theorem long_code (hi2 : i ≤ 9000000) : ∃ code, Try.f22.body = some code ∧
    Run X (evT X) 22 1 code [(0, .int .i64 (i : Nat)), (1, .ptr 0 0 0 0)] [some (roB c (.pc (g.map .bool)) 3 3)] ⟨.ret, [(3, .bool (lgB g i))], [some (roB c (.pc (g.map .bool)) 3 3)]⟩ := by
  refine ⟨_, rfl, ?_⟩
  have hgl : (g.map AV.bool).length = g.length := List.length_map _
  by_cases hi : i < g.length
  · obtain ⟨y, hy⟩ : ∃ y, g[i]? = some y := ⟨_, List.getElem?_eq_getElem hi⟩
    have hl : lgB g i = y := by unfold lgB; rw [List.getD, hy]; rfl
    have hrow : (g.map AV.bool)[i]? = some (.bool y) := by rw [List.getElem?_map, hy]; rfl
    rw [hl]
    have hii : (i : Int) < (g.length : Int) := by omega
    generalize g.map AV.bool = L at *
    refine ⟨0, ?_⟩
    simp (maxSteps := 2000000) -implicitDefEqProofs [-getElem?_pos, List.getElem?_cons_zero, List.getElem?_cons_succ, go_sem, eqV, plen, loadV, storeV, roB, hgl, hi, hii, hrow]
  · have hl : lgB g i = false := by unfold lgB; rw [List.getD, List.getElem?_eq_none (by omega)]; rfl
    rw [hl]
    have hii : ¬ (i : Int) < (g.length : Int) := by omega
    generalize g.map AV.bool = L at *
    refine ⟨0, ?_⟩
    simp (maxSteps := 2000000) -implicitDefEqProofs [-getElem?_pos, List.getElem?_cons_zero, List.getElem?_cons_succ, go_sem, eqV, plen, loadV, storeV, roB, hgl, hi, hii]

end

theorem set_ev {H : AM.Heap} {o c t tg i : Nat} {I : Int} {b : List UInt8} (hI : I = (i : Nat)) (h1 : H[o]? = some (some (roB c (.pb b) t tg))) (hi : i / 8 < b.length) (hi2 : i ≤ 9000000) :
    evT X 23 [.int .i64 I, .ptr o 0 0 0] H = some (.bool (bitB b i), upd H o (some (roB c (.pb b) t t))) := by
  subst hI
  obtain ⟨code, hcode, hr⟩ := set_code c b i hi hi2
  exact evT_eq (Ev1.fn1 (C := X) (f := 23) (H := H) (xs := [.int .i64 (i : Nat)]) (n := 3) (l := [.bool (bitB b i)]) (rest := []) (evT_below X) Try.func23 hcode (fun i => by rfl) h1 rfl rfl (by simp [gtag])
    (by rw [par23]; simpa [coerce, numbered] using hr) (.inr rfl) rfl rfl rfl rfl)

theorem long_ev {H : AM.Heap} {o c t tg i : Nat} {I : Int} {g : List Bool} (hI : I = (i : Nat)) (h1 : H[o]? = some (some (roB c (.pc (g.map .bool)) t tg))) (hi2 : i ≤ 9000000) :
    evT X 22 [.int .i64 I, .ptr o 0 0 0] H = some (.bool (lgB g i), upd H o (some (roB c (.pc (g.map .bool)) t t))) := by
  subst hI
  obtain ⟨code, hcode, hr⟩ := long_code c g i hi2
  exact evT_eq (Ev1.fn1 (C := X) (f := 22) (H := H) (xs := [.int .i64 (i : Nat)]) (n := 3) (l := [.bool (lgB g i)]) (rest := []) (evT_below X) Try.func22 hcode (fun i => by rfl) h1 rfl rfl (by simp [gtag])
    (by rw [par22]; simpa [coerce, numbered] using hr) (.inr rfl) rfl rfl rfl rfl)

end Go.Proofs.Ytbmddnokokoofaa

/- Walks: the types that are told anew. -/
namespace Go.Proofs.Ytbmddnokokoofaa
open Go.AM
set_option linter.unusedSimpArgs false
set_option linter.unusedVariables false

/-- an empty slice of types -/
def nilT : AM.Obj := ⟨.pr 2 [], 0, .none, 0, true, false, 0⟩
theorem nilT_rw : Rw (.pr 2 []) 0 nilT := ⟨rfl, rfl, rfl, rfl, rfl⟩
theorem emT : rowOf (emptyRow X 27) .none 0 = nilT := by kernel_rfl

/-- the i-th type in bytes -/
def tyAt (b : List UInt8) (i : Nat) : Ty := ⟨(b.getD (2 * i) 0).toNat, (b.getD (2 * i + 1) 0).toNat != 0⟩
def tysL (b : List UInt8) (n : Nat) : List Ty := (List.range n).map (tyAt b)
/-- what is wrong with the i-th -/
def tyE (b : List UInt8) (i : Nat) : Int :=
  if b.length < 2 * i + 1 then 4 else if kn (b.getD (2 * i) 0).toNat = false then 5 else if b.length < 2 * i + 2 then 4 else
  if (b.getD (2 * i + 1) 0).toNat ≠ 0 ∧ (b.getD (2 * i + 1) 0).toNat ≠ 128 then 5 else 0
/-- the first error -/
def tyF (b : List UInt8) : Nat → Nat → Int
  | 0, _ => 0
  | n + 1, i => if tyE b i ≠ 0 then tyE b i else tyF b n (i + 1)

theorem tysL_succ (b : List UInt8) (n : Nat) : tysL b (n + 1) = tysL b n ++ [tyAt b n] := by
  unfold tysL; rw [List.range_succ, List.map_append]; rfl
theorem tysL_len (b : List UInt8) (n : Nat) : (tysL b n).length = n := by simp [tysL]

theorem bdTy (k : Int) (u : Bool) : buildV X 27 [(0, .int .u8 k), (1, .bool u)] = some (.agg (.pc [.int .u8 k, .bool u])) := by kernel_rfl
theorem bsTy (H : AM.Heap) (k : Int) (u : Bool) : buildSliceV X H 43 1 [(0, .agg (.pc [.int .u8 k, .bool u]))] = some (.ro 1 (.pr 2 [.pc [.int .u8 k, .bool u]]) 0, H) := by kernel_rfl

section
variable (c : Nat) (b : List UInt8) (n : Nat)

def tdFr (i : Nat) : AM.Frame := [(0, .ro c (.pb b) 1), (4, .sl 0 0 i i), (7, .int .i64 (n : Nat)), (8, .int .i64 (i : Nat))]

set_option maxRecDepth 100000 in
set_option maxHeartbeats 4000000 in
theorem td_round (i : Nat) (ob : AM.Obj) (hin : i < n) (hn : n ≤ 65535) (hw : Rw (.pr 2 ((tysL b i).map Ty.pay)) i ob) :
    ∃ code, ((Try.f25.body).bind (codeAt [1, 0, 1, 0, 0])) = some code ∧
    Tells (fun o => (tyE b i = 0 ∧ o.ex = .normal ∧ ∃ ob', o.fr = tdFr c b n (i + 1) ∧ o.H = [some ob'] ∧ Rw (.pr 2 ((tysL b (i + 1)).map Ty.pay)) (i + 1) ob') ∨ (tyE b i ≠ 0 ∧ o.ex = .ret ∧ getF o.fr 4 = .sl 1 0 0 0 ∧ getF o.fr 5 = .int .i64 (tyE b i) ∧ o.H[1]? = some (some nilT)))
      X (evT X) 25 0 code (tdFr c b n i) [some ob] := by
  refine ⟨_, rfl, ?_⟩
  have hiI : (i : Int) < (n : Int) := by omega
  apply Tells.seq (fr' := tdFr c b n i ++ [(9, .bool true)]) (H' := [some ob])
  · (refine ⟨0, ?_⟩; simp (maxSteps := 2000000) -implicitDefEqProofs [-getElem?_pos, List.getElem?_cons_zero, List.getElem?_cons_succ, go_sem, eqV, plen, loadV, storeV, tdFr, hiI])
  apply Tells.seq (fr' := tdFr c b n i ++ [(9, .bool true)]) (H' := [some ob])
  · exact condT (by simp [evalO, getF, tdFr]) ⟨0, rfl⟩
  have w0 : IntKind.i64.wrap (2 * (i : Int)) = ((2 * i : Nat) : Int) := by rw [wrap_i64 (by omega) (by omega)]; omega
  have w1 : IntKind.i64.wrap (((2 * i : Nat) : Int) + 1) = ((2 * i + 1 : Nat) : Int) := by rw [wrap_i64 (by omega) (by omega)]; omega
  have w2 : IntKind.i64.wrap (((2 * i : Nat) : Int) + 2) = ((2 * i + 2 : Nat) : Int) := by rw [wrap_i64 (by omega) (by omega)]; omega
  have w3 : IntKind.i64.wrap ((i : Int) + 1) = ((i + 1 : Nat) : Int) := by rw [wrap_i64 (by omega) (by omega)]; omega
  have hE : tyE b i = if b.length < 2 * i + 1 then 4 else if kn (b.getD (2 * i) 0).toNat = false then 5 else if b.length < 2 * i + 2 then 4 else
      if (b.getD (2 * i + 1) 0).toNat ≠ 0 ∧ (b.getD (2 * i + 1) 0).toNat ≠ 128 then 5 else 0 := rfl
  by_cases h1 : b.length < 2 * i + 1
  · rw [if_pos h1] at hE
    rw [hE]
    have h1i : (b.length : Int) < ((2 * i + 1 : Nat) : Int) := by omega
    refine Tells.of (o := ⟨.ret, [(4, .sl 1 0 0 0), (5, .int .i64 4)], [some ob, some nilT]⟩) ⟨0, ?_⟩ (.inr ⟨by decide, rfl, rfl, rfl, rfl⟩)
    generalize 2 * i + 1 = j1 at *
    generalize 2 * i = j at *
    simp (maxSteps := 2000000) -implicitDefEqProofs [-getElem?_pos, List.getElem?_cons_zero, List.getElem?_cons_succ, go_sem, eqV, plen, loadV, storeV, tdFr, w0, w1, h1i, assignV, emT]
  rw [if_neg h1] at hE
  have h1i : ¬ (b.length : Int) < ((2 * i + 1 : Nat) : Int) := by omega
  obtain ⟨y, hy⟩ : ∃ y, b[2 * i]? = some y := ⟨_, List.getElem?_eq_getElem (by omega)⟩
  have hyd : b.getD (2 * i) 0 = y := by rw [List.getD, hy]; rfl
  rw [hyd] at hE
  have hji : ((2 * i : Nat) : Int) < (b.length : Int) := by omega
  have hjn : 2 * i < b.length := by omega
  have hKn := known_ev y.toNat_lt [some ob]
  apply Tells.or (P := fun fr H => tyE b i = 0 ∧ ∃ ob', fr = [(0, .ro c (.pb b) 1), (4, .sl 0 0 (i + 1) (i + 1)), (7, .int .i64 (n : Nat)), (8, .int .i64 (i : Nat))] ∧ H = [some ob'] ∧ Rw (.pr 2 ((tysL b (i + 1)).map Ty.pay)) (i + 1) ob')
  case h' =>
    rintro fr H ⟨he, ob', rfl, rfl, hw'⟩
    refine Tells.of (o := ⟨.normal, tdFr c b n (i + 1), [some ob']⟩) ⟨0, ?_⟩ (.inl ⟨he, rfl, ob', rfl, rfl, hw'⟩)
    simp (maxSteps := 2000000) -implicitDefEqProofs [-getElem?_pos, List.getElem?_cons_zero, List.getElem?_cons_succ, go_sem, eqV, plen, loadV, storeV, tdFr, w3]
  case h =>
  apply Tells.blkOr
  case hq =>
    rintro o (⟨_, h, _⟩ | ⟨_, h, _⟩)
    · rw [h]; simp
    · rw [h]; simp
  apply Tells.seq (fr' := [(0, .ro c (.pb b) 1), (4, .sl 0 0 i i), (6, .int .i64 (i : Nat)), (7, .int .i64 (n : Nat)), (8, .int .i64 (i : Nat))]) (H' := [some ob])
  · (refine ⟨0, ?_⟩; simp (maxSteps := 2000000) -implicitDefEqProofs [-getElem?_pos, List.getElem?_cons_zero, List.getElem?_cons_succ, go_sem, eqV, plen, loadV, storeV, tdFr])
  apply Tells.assoc
  apply Tells.seq (fr' := [(0, .ro c (.pb b) 1), (4, .sl 0 0 i i), (6, .int .i64 (i : Nat)), (7, .int .i64 (n : Nat)), (8, .int .i64 (i : Nat)), (16, .bool false)]) (H' := [some ob])
  · generalize 2 * i + 1 = j1 at *
    generalize 2 * i = j at *
    (refine ⟨0, ?_⟩; simp (maxSteps := 2000000) -implicitDefEqProofs [-getElem?_pos, List.getElem?_cons_zero, List.getElem?_cons_succ, go_sem, eqV, plen, loadV, storeV, w0, w1, h1i])
  apply Tells.seq (fr' := [(0, .ro c (.pb b) 1), (4, .sl 0 0 i i), (6, .int .i64 (i : Nat)), (7, .int .i64 (n : Nat)), (8, .int .i64 (i : Nat)), (16, .bool false)]) (H' := [some ob])
  · exact condF (by simp [evalO, getF]) ⟨0, rfl⟩
  apply Tells.assoc
  apply Tells.seq (fr' := [(0, .ro c (.pb b) 1), (4, .sl 0 0 i i), (6, .int .i64 (i : Nat)), (7, .int .i64 (n : Nat)), (8, .int .i64 (i : Nat)), (23, .bool !kn y.toNat)]) (H' := [some ob])
  · generalize 2 * i = j at *
    generalize kn y.toNat = kk at *
    (refine ⟨0, ?_⟩; simp (maxSteps := 2000000) -implicitDefEqProofs [-getElem?_pos, List.getElem?_cons_zero, List.getElem?_cons_succ, go_sem, eqV, plen, loadV, storeV, w0, hji, hjn, hy, hKn])
  cases hk : kn y.toNat with
  | false =>
    rw [if_pos hk] at hE
    rw [hE]
    refine Tells.of (o := ⟨.ret, [(4, .sl 1 0 0 0), (5, .int .i64 5)], [some ob, some nilT]⟩) ?_ (.inr ⟨by simp, .inr ⟨by decide, rfl, rfl, rfl, rfl⟩⟩)
    apply Run.seq_out (hne := by simp)
    refine condT (by simp [evalO, getF]) ⟨0, ?_⟩
    simp (maxSteps := 2000000) -implicitDefEqProofs [-getElem?_pos, List.getElem?_cons_zero, List.getElem?_cons_succ, go_sem, eqV, plen, loadV, storeV, assignV, emT]
  | true =>
  rw [if_neg (by rw [hk]; simp)] at hE
  apply Tells.seq (fr' := [(0, .ro c (.pb b) 1), (4, .sl 0 0 i i), (6, .int .i64 (i : Nat)), (7, .int .i64 (n : Nat)), (8, .int .i64 (i : Nat)), (23, .bool false)]) (H' := [some ob])
  · exact condF (by simp [evalO, getF]) ⟨0, rfl⟩
  apply Tells.assoc
  by_cases h2 : b.length < 2 * i + 2
  · rw [if_pos h2] at hE
    rw [hE]
    have h2i : (b.length : Int) < ((2 * i + 2 : Nat) : Int) := by omega
    refine Tells.of (o := ⟨.ret, [(4, .sl 1 0 0 0), (5, .int .i64 4)], [some ob, some nilT]⟩) ⟨0, ?_⟩ (.inr ⟨by simp, .inr ⟨by decide, rfl, rfl, rfl, rfl⟩⟩)
    generalize 2 * i + 2 = j1 at *
    generalize 2 * i = j at *
    simp (maxSteps := 2000000) -implicitDefEqProofs [-getElem?_pos, List.getElem?_cons_zero, List.getElem?_cons_succ, go_sem, eqV, plen, loadV, storeV, w0, w2, h2i, assignV, emT]
  rw [if_neg h2] at hE
  have h2i : ¬ (b.length : Int) < ((2 * i + 2 : Nat) : Int) := by omega
  apply Tells.seq (fr' := [(0, .ro c (.pb b) 1), (4, .sl 0 0 i i), (6, .int .i64 (i : Nat)), (7, .int .i64 (n : Nat)), (8, .int .i64 (i : Nat)), (29, .bool false)]) (H' := [some ob])
  · generalize 2 * i + 2 = j1 at *
    generalize 2 * i = j at *
    (refine ⟨0, ?_⟩; simp (maxSteps := 2000000) -implicitDefEqProofs [-getElem?_pos, List.getElem?_cons_zero, List.getElem?_cons_succ, go_sem, eqV, plen, loadV, storeV, w0, w2, h2i])
  apply Tells.seq (fr' := [(0, .ro c (.pb b) 1), (4, .sl 0 0 i i), (6, .int .i64 (i : Nat)), (7, .int .i64 (n : Nat)), (8, .int .i64 (i : Nat)), (29, .bool false)]) (H' := [some ob])
  · exact condF (by simp [evalO, getF]) ⟨0, rfl⟩
  obtain ⟨z, hz⟩ : ∃ z, b[2 * i + 1]? = some z := ⟨_, List.getElem?_eq_getElem (by omega)⟩
  have hzd : b.getD (2 * i + 1) 0 = z := by rw [List.getD, hz]; rfl
  rw [hzd] at hE
  have hzi : ((2 * i + 1 : Nat) : Int) < (b.length : Int) := by omega
  have hzn : 2 * i + 1 < b.length := by omega
  have hta : (tyAt b i).pay = .pc [.int .u8 (y.toNat : Nat), .bool (z.toNat != 0)] := by unfold tyAt; rw [hyd, hzd]; rfl
  apply Tells.assoc
  by_cases h3 : z.toNat ≠ 0 ∧ z.toNat ≠ 128
  · rw [if_pos h3] at hE
    rw [hE]
    have q0 : ((z.toNat : Int) != 0) = true := by simp; omega
    have q1 : ((z.toNat : Int) != 128) = true := by simp; omega
    refine Tells.of (o := ⟨.ret, [(4, .sl 1 0 0 0), (5, .int .i64 5)], [some ob, some nilT]⟩) ⟨0, ?_⟩ (.inr ⟨by simp, .inr ⟨by decide, rfl, rfl, rfl, rfl⟩⟩)
    generalize 2 * i + 1 = j1 at *
    generalize 2 * i = j at *
    simp (maxSteps := 2000000) -implicitDefEqProofs [-getElem?_pos, List.getElem?_cons_zero, List.getElem?_cons_succ, go_sem, eqV, plen, loadV, storeV, w0, w1, hzi, hzn, hz, q0, q1, assignV, emT]
  rw [if_neg h3] at hE
  apply Tells.seq (fr' := [(0, .ro c (.pb b) 1), (4, .sl 0 0 i i), (6, .int .i64 (i : Nat)), (7, .int .i64 (n : Nat)), (8, .int .i64 (i : Nat)), (45, .bool false)]) (H' := [some ob])
  · generalize 2 * i + 1 = j1 at *
    generalize 2 * i = j at *
    by_cases hz0 : z.toNat = 0
    · (refine ⟨0, ?_⟩; simp (maxSteps := 2000000) -implicitDefEqProofs [-getElem?_pos, List.getElem?_cons_zero, List.getElem?_cons_succ, go_sem, eqV, plen, loadV, storeV, w0, w1, hzi, hzn, hz, hz0])
    · have hz1 : z.toNat = 128 := by omega
      (refine ⟨0, ?_⟩; simp (maxSteps := 2000000) -implicitDefEqProofs [-getElem?_pos, List.getElem?_cons_zero, List.getElem?_cons_succ, go_sem, eqV, plen, loadV, storeV, w0, w1, hzi, hzn, hz, hz1])
  apply Tells.seq (fr' := [(0, .ro c (.pb b) 1), (4, .sl 0 0 i i), (6, .int .i64 (i : Nat)), (7, .int .i64 (n : Nat)), (8, .int .i64 (i : Nat)), (45, .bool false)]) (H' := [some ob])
  · exact condF (by simp [evalO, getF]) ⟨0, rfl⟩
  have hlen : ((tysL b i).map Ty.pay).length = i := by rw [List.length_map, tysL_len]
  obtain ⟨ob', hw', hA⟩ := app_rows (C := X) (H := [some ob]) (T := 43) (e := 27) (es := 2) (o := 0) (m := [(tyAt b i).pay]) (src := .ro 1 (.pr 2 [(tyAt b i).pay]) 0) (by simp) (by simp) (by omega) (by simp) (by simp) rfl hw rfl (by rw [hlen]; simp; omega)
  rw [hlen, hta] at hA
  have hw2 : Rw (.pr 2 ((tysL b (i + 1)).map Ty.pay)) (i + 1) ob' := by rw [tysL_succ, List.map_append]; exact hw'
  have hbd := fun k u => bdTy k u
  have hbs := fun H k u => bsTy H k u
  have hzz : ((z.toNat : Int) != 0) = (z.toNat != 0) := by
    by_cases h : z.toNat = 0
    · rw [h]; rfl
    · have : (z.toNat != 0) = true := by simpa using h
      rw [this]; simp; omega
  refine Tells.of (o := ⟨.normal, [(0, .ro c (.pb b) 1), (4, .sl 0 0 (i + 1) (i + 1)), (7, .int .i64 (n : Nat)), (8, .int .i64 (i : Nat))], [some ob']⟩) ⟨0, ?_⟩ (.inl ⟨rfl, hE, ob', rfl, rfl, hw2⟩)
  simp only [List.length_cons, List.length_nil, Nat.zero_add, upd, List.set] at hA
  generalize 2 * i + 1 = j1 at *
  generalize 2 * i = j at *
  generalize (z.toNat != 0) = zz at *
  simp (maxSteps := 2000000) -implicitDefEqProofs [-getElem?_pos, List.getElem?_cons_zero, List.getElem?_cons_succ, go_sem, eqV, plen, loadV, storeV, w0, w1, hji, hjn, hy, hzi, hzn, hz, hzz, hbd, hbs, hA, assignV]

set_option maxRecDepth 100000 in
set_option maxHeartbeats 4000000 in
theorem td_loop (hn : n ≤ 65535) : ∃ code, ((Try.f25.body).bind (codeAt [1, 0, 1])) = some code ∧
    Tells (Or2 (fun fr H => tyF b n 0 = 0 ∧ ∃ ob, fr = tdFr c b n n ++ [(9, .bool false)] ∧ H = [some ob] ∧ Rw (.pr 2 ((tysL b n).map Ty.pay)) n ob) (fun o => tyF b n 0 ≠ 0 ∧ o.ex = .ret ∧ getF o.fr 4 = .sl 1 0 0 0 ∧ getF o.fr 5 = .int .i64 (tyF b n 0) ∧ o.H[1]? = some (some nilT)))
      X (evT X) 25 0 code (tdFr c b n 0) [some nilT] := by
  refine ⟨_, rfl, ?_⟩
  apply (Tells.blockOr (Q := fun o => tyF b n 0 ≠ 0 ∧ o.ex = .ret ∧ getF o.fr 4 = .sl 1 0 0 0 ∧ getF o.fr 5 = .int .i64 (tyF b n 0) ∧ o.H[1]? = some (some nilT)))
  refine Tells.loopP (fun k fr H => ∃ i ob, k = n - i ∧ i ≤ n ∧ fr = tdFr c b n i ∧ H = [some ob] ∧ Rw (.pr 2 ((tysL b i).map Ty.pay)) i ob ∧ tyF b n 0 = tyF b (n - i) i) ?_ (k := n) ⟨0, nilT, rfl, by omega, rfl, rfl, nilT_rw, rfl⟩
  rintro k fr H ⟨i, ob, rfl, hi, rfl, rfl, hw, hf⟩
  by_cases hin : i = n
  · subst hin
    rw [Nat.sub_self] at hf
    refine Tells.of (o := ⟨.exit 0, tdFr c b i i ++ [(9, .bool false)], [some ob]⟩) ⟨0, ?_⟩ (.inr ⟨by simp, .inl ⟨rfl, hf, ob, rfl, rfl, hw⟩⟩)
    simp (maxSteps := 2000000) -implicitDefEqProofs [-getElem?_pos, List.getElem?_cons_zero, List.getElem?_cons_succ, go_sem, eqV, plen, loadV, storeV, tdFr]
  have hlt : i < n := by omega
  refine (piece (td_round c b n i ob hlt hn hw) _ rfl).mono ?_
  have hs : tyF b (n - i) i = if tyE b i ≠ 0 then tyE b i else tyF b (n - (i + 1)) (i + 1) := by
    rw [show n - i = (n - (i + 1)) + 1 by omega]; rfl
  rintro o (⟨he, h1, ob', h2, h3, h4⟩ | ⟨he, h1, h2, h3, h4⟩)
  · rw [if_neg (by simpa using he)] at hs
    exact .inl ⟨h1, n - (i + 1), by omega, i + 1, ob', rfl, by omega, h2, h3, h4, by rw [hf, hs]⟩
  · rw [if_pos he] at hs
    rw [hs] at hf
    exact .inr ⟨by rw [h1]; simp, .inr ⟨h1, by rw [hf]; exact he, h1, h2, by rw [hf]; exact h3, h4⟩⟩

/-- what typed tells -/
def tyR (b : List UInt8) (n : Nat) : List Ty × Int := if tyF b n 0 ≠ 0 then ([], tyF b n 0) else (tysL b n, 0)

set_option maxRecDepth 100000 in
theorem td_code (hn : n ≤ 65535) : ∃ code, Try.f25.body = some code ∧
    Tells (Rets fun fr H => ∃ o g ob, getF fr 4 = .sl o 0 (tyR b n).1.length g ∧ getF fr 5 = .int .i64 (tyR b n).2 ∧ H[o]? = some (some ob) ∧ Rw (.pr 2 ((tyR b n).1.map Ty.pay)) g ob) X (evT X) 25 0 code [(0, .ro c (.pb b) 1), (1, .int .i64 (n : Nat))] [] := by
  refine ⟨_, rfl, ?_⟩
  apply Tells.seq (fr' := [(0, .ro c (.pb b) 1), (1, .int .i64 (n : Nat)), (4, .sl 0 0 0 0)]) (H' := [some nilT])
  · (refine ⟨0, ?_⟩; simp (maxSteps := 2000000) -implicitDefEqProofs [-getElem?_pos, List.getElem?_cons_zero, List.getElem?_cons_succ, go_sem, eqV, plen, loadV, storeV, assignV, emT])
  apply Tells.assoc
  apply Tells.seq (fr' := tdFr c b n 0) (H' := [some nilT])
  · (refine ⟨0, ?_⟩; simp (maxSteps := 2000000) -implicitDefEqProofs [-getElem?_pos, List.getElem?_cons_zero, List.getElem?_cons_succ, go_sem, eqV, plen, loadV, storeV, tdFr])
  apply Tells.or (P := fun fr H => tyF b n 0 = 0 ∧ ∃ ob, fr = tdFr c b n n ++ [(9, .bool false)] ∧ H = [some ob] ∧ Rw (.pr 2 ((tysL b n).map Ty.pay)) n ob)
  · refine (piece (td_loop c b n hn) _ rfl).mono ?_
    rintro o (h | ⟨h1, h2, h3, h4, h5, h6⟩)
    · exact .inl h
    · have : tyR b n = ([], tyF b n 0) := if_pos h2
      exact .inr ⟨h1, h3, 1, 0, nilT, by rw [this]; exact h4, by rw [this]; exact h5, h6, by rw [this]; exact nilT_rw⟩
  rintro fr H ⟨he, ob, rfl, rfl, hw⟩
  have : tyR b n = (tysL b n, 0) := if_neg (by simpa using he)
  rw [this]
  refine Tells.of (o := ⟨.ret, [(4, .sl 0 0 n n), (5, .int .i64 0)], [some ob]⟩) ⟨0, ?_⟩ ⟨rfl, 0, n, ob, by rw [tysL_len]; rfl, rfl, rfl, hw⟩
  simp (maxSteps := 2000000) -implicitDefEqProofs [-getElem?_pos, List.getElem?_cons_zero, List.getElem?_cons_succ, go_sem, eqV, plen, loadV, storeV, tdFr, assignV]

end

theorem ty_ids : ∀ l : List Ty, idsL (l.map Ty.pay) = [] ∧ tagsL (l.map Ty.pay) = []
  | [] => ⟨rfl, rfl⟩
  | t :: l => by simp [idsL, tagsL, ty_ids l, Ty.pay, ids, tags]

theorem td_ev {H : AM.Heap} {a : AV} {b : List UInt8} {n : Nat} (h : Byt H a b) (hn : n ≤ 65535) :
    ∃ ob, Rw (.pr 2 ((tyR b n).1.map Ty.pay)) 0 ob ∧ evT X 25 [a, .int .i64 (n : Nat)] H = some (.tup [.sl H.length 0 (tyR b n).1.length 0, .int .i64 (tyR b n).2], H ++ [some ob]) := by
  obtain ⟨c, p, xl, hp, hc, hx'⟩ := args_byt (C := X) (f := 25) (i := 0) rfl h (args_flat (i := 1) (a := .int .i64 (n : Nat)) rfl rfl (args_nil 2))
  obtain ⟨code, hcode, hr⟩ := td_code c b n hn
  have hid := ty_ids (tyR b n).1
  obtain ⟨ob, q1, q2⟩ := Ev1.newR (H := H) (n := (tyR b n).1.length) (es := 2) (l := (tyR b n).1.map Ty.pay) (rest := [.int .i64 (tyR b n).2]) (evT_below X) Try.func25 hcode hx' (by simp [idsL, ids]) (by simp [gtag]) rfl rfl rfl hid.1 hid.2 (by
    obtain ⟨o, ⟨he, o1, g, ob, q1, q2, q3, q4⟩, hrun⟩ := hr
    exact ⟨o, ⟨he, o1, g, ob, by show some [getF o.fr 4, getF o.fr 5] = _; rw [q1, q2], q3, q4⟩, by rw [par25, coB hp]; exact hrun⟩)
  exact ⟨ob, q1, evT_eq q2⟩

end Go.Proofs.Ytbmddnokokoofaa
