/- Walks: a value appended. -/
import Derived.Test.YtbmddnokokoofaaV8
import Derived.Test.YtbmddnokokoofaaV6
namespace Go.Proofs.Ytbmddnokokoofaa
open Go.AM
set_option linter.unusedSimpArgs false
set_option linter.unusedVariables false

theorem when_ev {H : AM.Heap} {o g tg t : Nat} {ob : AM.Obj} {l : List UInt8} {w : Wh} (ho : H[o]? = some (some ob)) (hw : RwT (.pb l) g tg ob) (hl : l.length ≤ 80000000) (ht : t < 256) (hf : fin w t = true) :
    ∃ ob', RwT (.pb (l ++ whB w t)) (g + 1) tg ob' ∧ evT X 40 [.sl o 0 l.length g, .agg w.pay, .int .u8 (t : Nat)] H = some (.sl o 0 (l ++ whB w t).length (g + 1), upd H o (some ob')) := by
  obtain ⟨code, hcode, ⟨out, ⟨he, ob', g', R, q1, q2, q3, q4⟩, hrun⟩⟩ := when_code l w 4 t { ob with g := 0, tg := 4 } ⟨hw.p, rfl, hw.row, hw.ids, rfl⟩ hl ht hf
  refine ⟨{ ob' with g := g + 1, tg := tg }, ⟨q3.p, rfl, q3.row, q3.ids, rfl⟩, evT_eq ?_⟩
  have := Ev1.rwB (C := X) (f := 40) (H := H) (o := o) (off := 0) (len := l.length) (g := g) (ob := ob) (ob1 := ob') (xs := [.agg w.pay, .int .u8 (t : Nat)]) (ys := [.agg w.pay, .int .u8 (t : Nat)]) (n := 4) (rest := []) (restH := R) (off1 := 0) (n1 := (l ++ whB w t).length) (g1 := g')
    (evT_below X) Try.func40 hcode rfl ho hw.g hw.ids (by rw [hw.p]; rfl) (args_wh (i := 1) (args_flat rfl rfl (args_nil 3))) (by simp [Wh.pay, idsL, ids]) rfl rfl (by simp [gtag])
    (by rw [par40]; simpa [coerce, numbered] using hrun) (.inr he) (by show some [getF out.fr 6] = _; rw [q1]) q2 q3.g q3.ids (by rw [q3.p]; rfl) (.inr q3.tg) rfl rfl rfl
  rw [if_neg (by omega), q3.tg, hw.tg] at this
  exact this

/-- a number as it is written -/
def ui (i : Int) : Nat := (IntKind.u64.wrap i).toNat
theorem ui_eq (i : Int) : ((ui i : Nat) : Int) = IntKind.u64.wrap i := by
  unfold ui
  have : 0 ≤ IntKind.u64.wrap i := by
    unfold IntKind.wrap
    simp [IntKind.signed, IntKind.bits]
    exact Int.emod_nonneg _ (by decide)
  omega

/-- a value's bytes -/
def enV (v : Va) (t : Ty) : List UInt8 :=
  if v.k = 1 then leB (sizeN t.t) (ui v.i) else if v.k = 2 ∨ v.k = 3 ∨ v.k = 4 then leB (sizeN t.t) v.b else if v.k = 5 ∨ v.k = 6 then whB v.w t.t else if v.k = 7 then aT v.t else []
/-- may it be written? -/
def apOk (v : Va) (t : Ty) : Bool := decide (chkV v t = 0) && !(decide (v.k = 0) && decide (t.t ≠ 6))
def apV (b : List UInt8) (v : Va) (t : Ty) : List UInt8 × Int := if apOk v t then (b ++ enV v t, 0) else ([], 2)

theorem chk_ok {v : Va} {t : Ty} (h : chkV v t = 0) : v = {} ∨ okVa v t = true := by
  unfold chkV at h
  by_cases h1 : kindN t.t t.u < 0
  · rw [if_pos h1] at h; cases h
  rw [if_neg h1] at h
  by_cases h2 : v = {}
  · exact .inl h2
  rw [if_neg h2] at h
  cases h3 : okVa v t with
  | true => exact .inr rfl
  | false => rw [h3] at h; cases h

/-- what a value that may be holds -/
theorem ok_facts {v : Va} {t : Ty} (h : chkV v t = 0) : ((v.k = 1 ∨ v.k = 2 ∨ v.k = 3 ∨ v.k = 4) → 1 ≤ sizeN t.t ∧ sizeN t.t ≤ 8) ∧ ((v.k = 5 ∨ v.k = 6) → fin v.w t.t = true) ∧ (v.k = 7 → v.t.length ≤ 16777216) ∧ (v.k = 0 ∨ v.k = 1 ∨ v.k = 2 ∨ v.k = 3 ∨ v.k = 4 ∨ v.k = 5 ∨ v.k = 6 ∨ v.k = 7) := by
  rcases chk_ok h with rfl | h
  · refine ⟨fun h => ?_, fun h => ?_, fun h => ?_, .inl rfl⟩
    · exact absurd h (by decide)
    · exact absurd h (by decide)
    · exact absurd h (by decide)
  unfold okVa okVk at h
  by_cases k1 : v.k = 1
  · rw [if_pos k1] at h
    simp only [Bool.and_eq_true, decide_eq_true_eq] at h
    have := size_num (t := t.t) (u := t.u) (.inl h.1)
    exact ⟨fun _ => by omega, fun h => by omega, fun h => by omega, by omega⟩
  rw [if_neg k1] at h
  by_cases k2 : v.k = 2 ∨ v.k = 3 ∨ v.k = 4
  · rw [if_pos k2] at h
    simp only [Bool.and_eq_true, decide_eq_true_eq] at h
    have := size_num (t := t.t) (u := t.u) (by omega)
    exact ⟨fun _ => by omega, fun h => by omega, fun h => by omega, by omega⟩
  rw [if_neg k2] at h
  by_cases k5 : v.k = 5 ∨ v.k = 6
  · rw [if_pos k5] at h
    simp only [Bool.and_eq_true, decide_eq_true_eq] at h
    exact ⟨fun h => by omega, fun _ => h.2.2, fun h => by omega, by omega⟩
  rw [if_neg k5] at h
  by_cases k7 : v.k = 7
  · rw [if_pos k7] at h
    simp only [Bool.and_eq_true, decide_eq_true_eq] at h
    exact ⟨fun h => by omega, fun h => by omega, fun _ => h.2.2, by omega⟩
  rw [if_neg k7] at h
  cases h

section
variable (c : Nat) (b : List UInt8) (v : Va) (t : Ty)

set_option maxRecDepth 100000 in
set_option maxHeartbeats 4000000 in
theorem vappend_code (hc : c = 0 → b = []) (hb : b.length ≤ 30000000) (ht : t.t < 256) (hvb : v.b < 18446744073709551616) (hi : -9223372036854775808 ≤ v.i ∧ v.i < 9223372036854775808) : ∃ code, Try.f21.body = some code ∧
    Tells (Rets fun fr H => ∃ o g ob, getF fr 6 = .sl o 0 (apV b v t).1.length g ∧ getF fr 7 = .int .i64 (apV b v t).2 ∧ H[o]? = some (some ob) ∧ Rw (.pb (apV b v t).1) g ob) X (evT X) 21 0 code [(0, .ro c (.pb b) 1), (1, .agg v.pay), (2, .agg t.pay)] [] := by
  refine ⟨_, rfl, ?_⟩
  have hC := check_ev (v := v) (t := t) ht hvb hi [some (vaO v), some (tyO t), some nilB]
  apply Tells.seq (fr' := [(0, .ro c (.pb b) 1), (4, .ptr 0 0 0 0), (5, .ptr 1 0 0 0)]) (H' := [some (vaO v), some (tyO t), some nilB])
  · (refine ⟨0, ?_⟩; simp (maxSteps := 2000000) -implicitDefEqProofs [-getElem?_pos, List.getElem?_cons_zero, List.getElem?_cons_succ, go_sem, eqV, plen, loadV, storeV, vaO, tyO, Va.pay, Ty.pay, assignV, emB])
  apply Tells.assoc
  apply Tells.seq (fr' := [(0, .ro c (.pb b) 1), (4, .ptr 0 0 0 0), (5, .ptr 1 0 0 0), (8, .int .i64 (chkV v t))]) (H' := [some (vaO v), some (tyO t), some nilB])
  · simp only [vaO, tyO, Va.pay, Ty.pay] at hC
    generalize chkV v t = ck at *
    (refine ⟨0, ?_⟩; simp (maxSteps := 2000000) -implicitDefEqProofs [-getElem?_pos, List.getElem?_cons_zero, List.getElem?_cons_succ, go_sem, eqV, plen, loadV, storeV, vaO, tyO, Va.pay, Ty.pay, mkVa, mkTy, hC])
  clear hC
  unfold apV
  cases hok : apOk v t with
  | false =>
    rw [if_neg (by simp)]
    refine Tells.of (o := ⟨.ret, [(6, .sl 3 0 0 0), (7, .int .i64 2)], [some (vaO v), some (tyO t), some nilB, some nilB]⟩) ?_ ⟨rfl, 3, 0, nilB, rfl, rfl, rfl, nilB_rw⟩
    apply Run.seq_out (hne := by simp)
    apply Run.seq (fr' := [(0, .ro c (.pb b) 1), (4, .ptr 0 0 0 0), (5, .ptr 1 0 0 0), (24, .bool true)]) (H' := [some (vaO v), some (tyO t), some nilB])
    · unfold apOk at hok
      by_cases h0 : chkV v t = 0
      · rw [h0] at hok ⊢
        simp only [decide_true, Bool.true_and, Bool.not_eq_false', Bool.and_eq_true, decide_eq_true_eq] at hok
        obtain ⟨hk, h6⟩ := hok
        have h6b : ((t.t : Int) != 6) = true := by simp; omega
        (refine ⟨0, ?_⟩; simp (maxSteps := 2000000) -implicitDefEqProofs [-getElem?_pos, List.getElem?_cons_zero, List.getElem?_cons_succ, go_sem, eqV, plen, loadV, storeV, vaO, tyO, Va.pay, Ty.pay, hk, h6b])
      · have h0b : (chkV v t != 0) = true := by simpa using h0
        generalize chkV v t = ck at *
        (refine ⟨0, ?_⟩; simp (maxSteps := 2000000) -implicitDefEqProofs [-getElem?_pos, List.getElem?_cons_zero, List.getElem?_cons_succ, go_sem, eqV, plen, loadV, storeV, vaO, tyO, Va.pay, Ty.pay, h0b])
    refine ⟨0, ?_⟩
    simp (maxSteps := 2000000) -implicitDefEqProofs [-getElem?_pos, List.getElem?_cons_zero, List.getElem?_cons_succ, go_sem, eqV, plen, loadV, storeV, assignV, emB]
  | true =>
  rw [if_pos rfl]
  unfold apOk at hok
  simp only [Bool.and_eq_true, decide_eq_true_eq, Bool.not_eq_true', Bool.and_eq_false_iff, decide_eq_false_iff_not] at hok
  obtain ⟨h0, h06⟩ := hok
  obtain ⟨fs, ff, fl, fk⟩ := ok_facts h0
  rw [h0]
  apply Tells.seq (fr' := [(0, .ro c (.pb b) 1), (4, .ptr 0 0 0 0), (5, .ptr 1 0 0 0), (24, .bool false)]) (H' := [some (vaO v), some (tyO t), some nilB])
  · by_cases hk : v.k = 0
    · have h6 : t.t = 6 := by
        rcases h06 with h | h
        · exact absurd hk h
        · omega
      (refine ⟨0, ?_⟩; simp (maxSteps := 2000000) -implicitDefEqProofs [-getElem?_pos, List.getElem?_cons_zero, List.getElem?_cons_succ, go_sem, eqV, plen, loadV, storeV, vaO, tyO, Va.pay, Ty.pay, hk, h6])
    · have hkb : (v.k == 0) = false := by simpa using hk
      (refine ⟨0, ?_⟩; simp (maxSteps := 2000000) -implicitDefEqProofs [-getElem?_pos, List.getElem?_cons_zero, List.getElem?_cons_succ, go_sem, eqV, plen, loadV, storeV, vaO, tyO, Va.pay, Ty.pay, hkb])
  obtain ⟨ob0, hw0, hA0⟩ := clone_ev (H := [some (vaO v), some (tyO t), some nilB]) (a := .ro c (.pb b) 1) (b := b) (Byt.ro (.inl rfl) hc) (by omega)
  apply Tells.seq (fr' := [(4, .ptr 0 0 0 0), (5, .ptr 1 0 0 0), (9, .sl 3 0 b.length 0)]) (H' := [some (vaO v), some (tyO t), some nilB, some ob0])
  · simp only [vaO, tyO, Va.pay, Ty.pay] at hA0
    (refine ⟨0, ?_⟩; simp (maxSteps := 2000000) -implicitDefEqProofs [-getElem?_pos, List.getElem?_cons_zero, List.getElem?_cons_succ, go_sem, eqV, plen, loadV, storeV, vaO, tyO, Va.pay, Ty.pay, hA0, assignV])
  clear hA0
  have hS := size_ev' ht [some (vaO v), some (tyO t), some nilB, some ob0]
  have hre : reach [some (vaO v), some (tyO t), some nilB, some ob0] reachFuel [3] [] = [3] := reach_box rfl (by rw [hw0.p]; rfl)
  have hg0 := hw0.g
  have hp0 := hw0.p
  have hi0 := hw0.ids
  unfold enV
  rcases fk with kv | kv | kv | kv | kv | kv | kv | kv
  · -- nothing
    rw [if_neg (by omega), if_neg (by omega), if_neg (by omega), if_neg (by omega), List.append_nil]
    refine Tells.of (o := ⟨.ret, [(6, .sl 3 0 b.length 0), (7, .int .i64 0)], [some (vaO v), some (tyO t), some nilB, some ob0]⟩) ⟨0, ?_⟩ ⟨rfl, 3, 0, ob0, rfl, rfl, rfl, hw0⟩
    simp (maxSteps := 2000000) -implicitDefEqProofs [-getElem?_pos, List.getElem?_cons_zero, List.getElem?_cons_succ, go_sem, eqV, plen, loadV, storeV, vaO, Va.pay, kv, assignV]
  · -- a number with a sign
    rw [if_pos kv]
    obtain ⟨s1, s8⟩ := fs (.inl kv)
    generalize hsn : sizeN t.t = n at *
    obtain ⟨ob1, hw1, hF⟩ := vfixed_ev (H := [some (vaO v), some (tyO t), some nilB, some ob0]) (o := 3) (x := ui v.i) (n := n) (N := n) rfl hw0.rwt rfl (by omega) s1 s8
    have wu := (ui_eq v.i).symm
    refine Tells.of (o := ⟨.ret, [(6, .sl 3 0 (b.length + n) 1), (7, .int .i64 0)], [some (vaO v), some (tyO t), some nilB, some ob1]⟩) ?_ ⟨rfl, 3, 1, ob1, by simp [getF, leB_len], rfl, rfl, hw1.rw⟩
    apply Run.seq_out (hne := by simp)
    apply Run.seq (fr' := [(4, .ptr 0 0 0 0), (5, .ptr 1 0 0 0), (9, .sl 3 0 b.length 0), (28, .int .i64 1)]) (H' := [some (vaO v), some (tyO t), some nilB, some ob0])
    · (refine ⟨0, ?_⟩; simp (maxSteps := 2000000) -implicitDefEqProofs [-getElem?_pos, List.getElem?_cons_zero, List.getElem?_cons_succ, go_sem, eqV, plen, loadV, storeV, vaO, Va.pay, kv])
    refine Run.block ?_ (by simp)
    apply Run.seq (fr' := [(4, .ptr 0 0 0 0), (5, .ptr 1 0 0 0), (9, .sl 3 0 b.length 0), (28, .int .i64 1), (29, .bool true)]) (H' := [some (vaO v), some (tyO t), some nilB, some ob0])
    · (refine ⟨0, ?_⟩; simp (maxSteps := 2000000) -implicitDefEqProofs [-getElem?_pos, List.getElem?_cons_zero, List.getElem?_cons_succ, go_sem, eqV, plen, loadV, storeV])
    refine condT (by simp [evalO, getF]) ?_
    apply Run.seq (fr' := [(6, .sl 3 0 (b.length + n) 1), (7, .int .i64 0)]) (H' := [some (vaO v), some (tyO t), some nilB, some ob1])
    · simp only [vaO, tyO, Va.pay, Ty.pay] at hS hF hre
      apply Run.dy (by simp) keep21_7 (by simp)
      · (conv => lhs; simp (maxSteps := 2000000) -implicitDefEqProofs [-getElem?_pos, List.getElem?_cons_zero, List.getElem?_cons_succ, go_sem, eqV, plen, loadV, storeV, runD, out1, markOf, freeO, quietO, pushes, isAssign, calledV, touched, mentioned, opVals, touchCall, mentionCall, idsAt, Op.operands, ids, idsL, lendArgs, lendV, lend1, lendL, vaO, tyO, Va.pay, Ty.pay, wu, hS, hF, upd, assignV, reach_none, hre, hg0, hi0, hp0])
        rfl
      · kernel_rfl
      · rfl
    exact ⟨0, rfl⟩
  · -- bits
    rw [if_neg (by omega), if_pos (by omega)]
    obtain ⟨s1, s8⟩ := fs (by omega)
    generalize hsn : sizeN t.t = n at *
    obtain ⟨ob1, hw1, hF⟩ := vfixed_ev (H := [some (vaO v), some (tyO t), some nilB, some ob0]) (o := 3) (x := v.b) (n := n) (N := n) rfl hw0.rwt rfl (by omega) s1 s8
    refine Tells.of (o := ⟨.ret, [(6, .sl 3 0 (b.length + n) 1), (7, .int .i64 0)], [some (vaO v), some (tyO t), some nilB, some ob1]⟩) ?_ ⟨rfl, 3, 1, ob1, by simp [getF, leB_len], rfl, rfl, hw1.rw⟩
    apply Run.seq_out (hne := by simp)
    apply Run.seq (fr' := [(4, .ptr 0 0 0 0), (5, .ptr 1 0 0 0), (9, .sl 3 0 b.length 0), (28, .int .i64 2)]) (H' := [some (vaO v), some (tyO t), some nilB, some ob0])
    · (refine ⟨0, ?_⟩; simp (maxSteps := 2000000) -implicitDefEqProofs [-getElem?_pos, List.getElem?_cons_zero, List.getElem?_cons_succ, go_sem, eqV, plen, loadV, storeV, vaO, Va.pay, kv])
    refine Run.block ?_ (by simp)
    apply Run.seq (fr' := [(4, .ptr 0 0 0 0), (5, .ptr 1 0 0 0), (9, .sl 3 0 b.length 0), (28, .int .i64 2), (29, .bool false)]) (H' := [some (vaO v), some (tyO t), some nilB, some ob0])
    · (refine ⟨0, ?_⟩; simp (maxSteps := 2000000) -implicitDefEqProofs [-getElem?_pos, List.getElem?_cons_zero, List.getElem?_cons_succ, go_sem, eqV, plen, loadV, storeV])
    refine condF (by simp [evalO, getF]) ?_
    apply Run.seq (fr' := [(4, .ptr 0 0 0 0), (5, .ptr 1 0 0 0), (9, .sl 3 0 b.length 0), (28, .int .i64 2), (39, .bool true)]) (H' := [some (vaO v), some (tyO t), some nilB, some ob0])
    · (refine ⟨0, ?_⟩; simp (maxSteps := 2000000) -implicitDefEqProofs [-getElem?_pos, List.getElem?_cons_zero, List.getElem?_cons_succ, go_sem, eqV, plen, loadV, storeV])
    refine condT (by simp [evalO, getF]) ?_
    apply Run.seq (fr' := [(6, .sl 3 0 (b.length + n) 1), (7, .int .i64 0)]) (H' := [some (vaO v), some (tyO t), some nilB, some ob1])
    · simp only [vaO, tyO, Va.pay, Ty.pay] at hS hF hre
      apply Run.dy (by simp) keep21_11 (by simp)
      · (conv => lhs; simp (maxSteps := 2000000) -implicitDefEqProofs [-getElem?_pos, List.getElem?_cons_zero, List.getElem?_cons_succ, go_sem, eqV, plen, loadV, storeV, runD, out1, markOf, freeO, quietO, pushes, isAssign, calledV, touched, mentioned, opVals, touchCall, mentionCall, idsAt, Op.operands, ids, idsL, lendArgs, lendV, lend1, lendL, vaO, tyO, Va.pay, Ty.pay, hS, hF, upd, assignV, reach_none, hre, hg0, hi0, hp0])
        rfl
      · kernel_rfl
      · rfl
    exact ⟨0, rfl⟩
  · -- bits
    rw [if_neg (by omega), if_pos (by omega)]
    obtain ⟨s1, s8⟩ := fs (by omega)
    generalize hsn : sizeN t.t = n at *
    obtain ⟨ob1, hw1, hF⟩ := vfixed_ev (H := [some (vaO v), some (tyO t), some nilB, some ob0]) (o := 3) (x := v.b) (n := n) (N := n) rfl hw0.rwt rfl (by omega) s1 s8
    refine Tells.of (o := ⟨.ret, [(6, .sl 3 0 (b.length + n) 1), (7, .int .i64 0)], [some (vaO v), some (tyO t), some nilB, some ob1]⟩) ?_ ⟨rfl, 3, 1, ob1, by simp [getF, leB_len], rfl, rfl, hw1.rw⟩
    apply Run.seq_out (hne := by simp)
    apply Run.seq (fr' := [(4, .ptr 0 0 0 0), (5, .ptr 1 0 0 0), (9, .sl 3 0 b.length 0), (28, .int .i64 3)]) (H' := [some (vaO v), some (tyO t), some nilB, some ob0])
    · (refine ⟨0, ?_⟩; simp (maxSteps := 2000000) -implicitDefEqProofs [-getElem?_pos, List.getElem?_cons_zero, List.getElem?_cons_succ, go_sem, eqV, plen, loadV, storeV, vaO, Va.pay, kv])
    refine Run.block ?_ (by simp)
    apply Run.seq (fr' := [(4, .ptr 0 0 0 0), (5, .ptr 1 0 0 0), (9, .sl 3 0 b.length 0), (28, .int .i64 3), (29, .bool false)]) (H' := [some (vaO v), some (tyO t), some nilB, some ob0])
    · (refine ⟨0, ?_⟩; simp (maxSteps := 2000000) -implicitDefEqProofs [-getElem?_pos, List.getElem?_cons_zero, List.getElem?_cons_succ, go_sem, eqV, plen, loadV, storeV])
    refine condF (by simp [evalO, getF]) ?_
    apply Run.seq (fr' := [(4, .ptr 0 0 0 0), (5, .ptr 1 0 0 0), (9, .sl 3 0 b.length 0), (28, .int .i64 3), (39, .bool true)]) (H' := [some (vaO v), some (tyO t), some nilB, some ob0])
    · (refine ⟨0, ?_⟩; simp (maxSteps := 2000000) -implicitDefEqProofs [-getElem?_pos, List.getElem?_cons_zero, List.getElem?_cons_succ, go_sem, eqV, plen, loadV, storeV])
    refine condT (by simp [evalO, getF]) ?_
    apply Run.seq (fr' := [(6, .sl 3 0 (b.length + n) 1), (7, .int .i64 0)]) (H' := [some (vaO v), some (tyO t), some nilB, some ob1])
    · simp only [vaO, tyO, Va.pay, Ty.pay] at hS hF hre
      apply Run.dy (by simp) keep21_11 (by simp)
      · (conv => lhs; simp (maxSteps := 2000000) -implicitDefEqProofs [-getElem?_pos, List.getElem?_cons_zero, List.getElem?_cons_succ, go_sem, eqV, plen, loadV, storeV, runD, out1, markOf, freeO, quietO, pushes, isAssign, calledV, touched, mentioned, opVals, touchCall, mentionCall, idsAt, Op.operands, ids, idsL, lendArgs, lendV, lend1, lendL, vaO, tyO, Va.pay, Ty.pay, hS, hF, upd, assignV, reach_none, hre, hg0, hi0, hp0])
        rfl
      · kernel_rfl
      · rfl
    exact ⟨0, rfl⟩
  · -- bits
    rw [if_neg (by omega), if_pos (by omega)]
    obtain ⟨s1, s8⟩ := fs (by omega)
    generalize hsn : sizeN t.t = n at *
    obtain ⟨ob1, hw1, hF⟩ := vfixed_ev (H := [some (vaO v), some (tyO t), some nilB, some ob0]) (o := 3) (x := v.b) (n := n) (N := n) rfl hw0.rwt rfl (by omega) s1 s8
    refine Tells.of (o := ⟨.ret, [(6, .sl 3 0 (b.length + n) 1), (7, .int .i64 0)], [some (vaO v), some (tyO t), some nilB, some ob1]⟩) ?_ ⟨rfl, 3, 1, ob1, by simp [getF, leB_len], rfl, rfl, hw1.rw⟩
    apply Run.seq_out (hne := by simp)
    apply Run.seq (fr' := [(4, .ptr 0 0 0 0), (5, .ptr 1 0 0 0), (9, .sl 3 0 b.length 0), (28, .int .i64 4)]) (H' := [some (vaO v), some (tyO t), some nilB, some ob0])
    · (refine ⟨0, ?_⟩; simp (maxSteps := 2000000) -implicitDefEqProofs [-getElem?_pos, List.getElem?_cons_zero, List.getElem?_cons_succ, go_sem, eqV, plen, loadV, storeV, vaO, Va.pay, kv])
    refine Run.block ?_ (by simp)
    apply Run.seq (fr' := [(4, .ptr 0 0 0 0), (5, .ptr 1 0 0 0), (9, .sl 3 0 b.length 0), (28, .int .i64 4), (29, .bool false)]) (H' := [some (vaO v), some (tyO t), some nilB, some ob0])
    · (refine ⟨0, ?_⟩; simp (maxSteps := 2000000) -implicitDefEqProofs [-getElem?_pos, List.getElem?_cons_zero, List.getElem?_cons_succ, go_sem, eqV, plen, loadV, storeV])
    refine condF (by simp [evalO, getF]) ?_
    apply Run.seq (fr' := [(4, .ptr 0 0 0 0), (5, .ptr 1 0 0 0), (9, .sl 3 0 b.length 0), (28, .int .i64 4), (39, .bool true)]) (H' := [some (vaO v), some (tyO t), some nilB, some ob0])
    · (refine ⟨0, ?_⟩; simp (maxSteps := 2000000) -implicitDefEqProofs [-getElem?_pos, List.getElem?_cons_zero, List.getElem?_cons_succ, go_sem, eqV, plen, loadV, storeV])
    refine condT (by simp [evalO, getF]) ?_
    apply Run.seq (fr' := [(6, .sl 3 0 (b.length + n) 1), (7, .int .i64 0)]) (H' := [some (vaO v), some (tyO t), some nilB, some ob1])
    · simp only [vaO, tyO, Va.pay, Ty.pay] at hS hF hre
      apply Run.dy (by simp) keep21_11 (by simp)
      · (conv => lhs; simp (maxSteps := 2000000) -implicitDefEqProofs [-getElem?_pos, List.getElem?_cons_zero, List.getElem?_cons_succ, go_sem, eqV, plen, loadV, storeV, runD, out1, markOf, freeO, quietO, pushes, isAssign, calledV, touched, mentioned, opVals, touchCall, mentionCall, idsAt, Op.operands, ids, idsL, lendArgs, lendV, lend1, lendL, vaO, tyO, Va.pay, Ty.pay, hS, hF, upd, assignV, reach_none, hre, hg0, hi0, hp0])
        rfl
      · kernel_rfl
      · rfl
    exact ⟨0, rfl⟩
  · -- a moment, a span
    rw [if_neg (by omega), if_neg (by omega), if_pos (by omega)]
    obtain ⟨ob1, hw1, hF⟩ := when_ev (H := [some (vaO v), some (tyO t), some nilB, some ob0]) (o := 3) rfl hw0.rwt (by omega) ht (ff (by omega))
    refine Tells.of (o := ⟨.ret, [(6, .sl 3 0 (b ++ whB v.w t.t).length 1), (7, .int .i64 0)], [some (vaO v), some (tyO t), some nilB, some ob1]⟩) ?_ ⟨rfl, 3, 1, ob1, rfl, rfl, rfl, hw1.rw⟩
    apply Run.seq_out (hne := by simp)
    simp only [vaO, tyO, Va.pay, Ty.pay, Wh.pay] at hF
    rw [kv] at hF
    generalize (b ++ whB v.w t.t).length = n at *
    refine ⟨0, ?_⟩
    simp (maxSteps := 2000000) -implicitDefEqProofs [-getElem?_pos, List.getElem?_cons_zero, List.getElem?_cons_succ, go_sem, eqV, plen, loadV, storeV, vaO, tyO, Va.pay, Ty.pay, kv, mkWh, hF, upd, assignV]
  · -- a moment, a span
    rw [if_neg (by omega), if_neg (by omega), if_pos (by omega)]
    obtain ⟨ob1, hw1, hF⟩ := when_ev (H := [some (vaO v), some (tyO t), some nilB, some ob0]) (o := 3) rfl hw0.rwt (by omega) ht (ff (by omega))
    refine Tells.of (o := ⟨.ret, [(6, .sl 3 0 (b ++ whB v.w t.t).length 1), (7, .int .i64 0)], [some (vaO v), some (tyO t), some nilB, some ob1]⟩) ?_ ⟨rfl, 3, 1, ob1, rfl, rfl, rfl, hw1.rw⟩
    apply Run.seq_out (hne := by simp)
    simp only [vaO, tyO, Va.pay, Ty.pay, Wh.pay] at hF
    rw [kv] at hF
    generalize (b ++ whB v.w t.t).length = n at *
    refine ⟨0, ?_⟩
    simp (maxSteps := 2000000) -implicitDefEqProofs [-getElem?_pos, List.getElem?_cons_zero, List.getElem?_cons_succ, go_sem, eqV, plen, loadV, storeV, vaO, tyO, Va.pay, Ty.pay, kv, mkWh, hF, upd, assignV]
  · -- a text
    rw [if_neg (by omega), if_neg (by omega), if_neg (by omega), if_pos kv]
    obtain ⟨ob1, hw1, hA⟩ := appendText_ev (H := [some (vaO v), some (tyO t), some nilB, some ob0]) (a := .sl 3 0 b.length 0) (b := b) (s := v.t) (Byt.whole rfl hw0) (by omega) (by have := fl kv; omega)
    refine Tells.of (o := ⟨.ret, [(6, .sl 4 0 (b ++ aT v.t).length 0), (7, .int .i64 0)], [some (vaO v), some (tyO t), some nilB, some ob0, some ob1]⟩) ?_ ⟨rfl, 4, 0, ob1, rfl, rfl, rfl, hw1⟩
    apply Run.seq_out (hne := by simp)
    simp only [vaO, tyO, Va.pay, Ty.pay] at hA
    rw [kv] at hA
    generalize (b ++ aT v.t).length = n at *
    refine ⟨0, ?_⟩
    simp (maxSteps := 2000000) -implicitDefEqProofs [-getElem?_pos, List.getElem?_cons_zero, List.getElem?_cons_succ, go_sem, eqV, plen, loadV, storeV, vaO, tyO, Va.pay, Ty.pay, kv, hA, assignV]

end

theorem vappend_ev {H : AM.Heap} {a : AV} {b : List UInt8} {v : Va} {t : Ty} (h : Byt H a b) (hb : b.length ≤ 30000000) (ht : t.t < 256) (hvb : v.b < 18446744073709551616) (hi : -9223372036854775808 ≤ v.i ∧ v.i < 9223372036854775808) :
    ∃ ob, Rw (.pb (apV b v t).1) 0 ob ∧ evT X 21 [a, .agg v.pay, .agg t.pay] H = some (.tup [.sl H.length 0 (apV b v t).1.length 0, .int .i64 (apV b v t).2], H ++ [some ob]) := by
  obtain ⟨c, p, xl, hp, hc, hx'⟩ := args_byt (C := X) (f := 21) (i := 0) rfl h (args_va (f := 21) (i := 1) (v := v) (args_ty (i := 2) (t := t) (args_nil 3)))
  obtain ⟨code, hcode, hr⟩ := vappend_code c b v t hc hb ht hvb hi
  obtain ⟨ob, q1, q2⟩ := Ev1.newB (H := H) (n := (apV b v t).1.length) (l := (apV b v t).1) (rest := [.int .i64 (apV b v t).2]) (evT_below X) Try.func21 hcode hx' (by simp [Va.pay, Ty.pay, idsL, ids, hp.ids]) (by simp [gtag]) rfl rfl rfl (by
    obtain ⟨o, ⟨he, o1, g, ob, q1, q2, q3, q4⟩, hrun⟩ := hr
    exact ⟨o, ⟨he, o1, g, ob, by show some [getF o.fr 6, getF o.fr 7] = _; rw [q1, q2], q3, q4⟩, by rw [par21, coB hp]; exact hrun⟩)
  exact ⟨ob, q1, evT_eq q2⟩

end Go.Proofs.Ytbmddnokokoofaa
