/- VJ to V3a: texts of this claim, one behind the other; what each shows stands at its head. -/
import Derived.Test.YtafdnpcamepbmaaDoorAm3
import Derived.Test.YtafdnpcamepbmaaDoorMg1
/- Walks: a moment, or a span, read: whole. -/
namespace Go.Proofs.YtafdnpcamepbmaaDoor
open Go.AM
set_option linter.unusedSimpArgs false
set_option linter.unusedVariables false

theorem cW_len {b : List UInt8} (h : (b.headD 0).toNat ≤ 12) (hb : 1 + (b.headD 0).toNat ≤ b.length) : (cW b).length = 13 := by
  unfold cW
  simp only [List.length_append, List.length_take, List.length_drop, List.length_replicate]
  omega

theorem knW_le {n t : Nat} (h : knW n t = true) : n ≤ 12 := by
  unfold knW szL at h
  split at h
  · simp at h; omega
  · simp at h; omega

set_option maxRecDepth 100000 in
set_option maxHeartbeats 4000000 in
theorem rw_dy (n : Nat) (y : UInt8) (ys : List UInt8) (ng : Bool) (z1 z5 z6 z7 z8 : Int) (hye : ((y.toNat : Int) == 1) = ng)
    (n1 : ∀ H0 H1 : Option AM.Obj, evT X 37 [.int .i64 1, .int .i64 4, .ptr 3 0 0 0] [H0, H1, some ⟨.pb (y :: ys), 0, some 13, 1, true, false, 0⟩, some (svO 2 13 0)] = some (.int .i64 z1, [H0, H1, some ⟨.pb (y :: ys), 0, some 13, 1, true, false, 0⟩, some (svO 2 13 0)]))
    (n5 : ∀ H0 H1 : Option AM.Obj, evT X 37 [.int .i64 5, .int .i64 1, .ptr 3 0 0 0] [H0, H1, some ⟨.pb (y :: ys), 0, some 13, 1, true, false, 0⟩, some (svO 2 13 0)] = some (.int .i64 z5, [H0, H1, some ⟨.pb (y :: ys), 0, some 13, 1, true, false, 0⟩, some (svO 2 13 0)]))
    (n6 : ∀ H0 H1 : Option AM.Obj, evT X 37 [.int .i64 6, .int .i64 1, .ptr 3 0 0 0] [H0, H1, some ⟨.pb (y :: ys), 0, some 13, 1, true, false, 0⟩, some (svO 2 13 0)] = some (.int .i64 z6, [H0, H1, some ⟨.pb (y :: ys), 0, some 13, 1, true, false, 0⟩, some (svO 2 13 0)]))
    (n7 : ∀ H0 H1 : Option AM.Obj, evT X 37 [.int .i64 7, .int .i64 1, .ptr 3 0 0 0] [H0, H1, some ⟨.pb (y :: ys), 0, some 13, 1, true, false, 0⟩, some (svO 2 13 0)] = some (.int .i64 z7, [H0, H1, some ⟨.pb (y :: ys), 0, some 13, 1, true, false, 0⟩, some (svO 2 13 0)]))
    (n8 : ∀ H0 H1 : Option AM.Obj, evT X 37 [.int .i64 8, .int .i64 4, .ptr 3 0 0 0] [H0, H1, some ⟨.pb (y :: ys), 0, some 13, 1, true, false, 0⟩, some (svO 2 13 0)] = some (.int .i64 z8, [H0, H1, some ⟨.pb (y :: ys), 0, some 13, 1, true, false, 0⟩, some (svO 2 13 0)])) :
    ∃ code, ((Tryd.f24.body).bind (codeAt [1, 1, 1, 1, 1, 1, 1, 1, 1, 1, 1, 1, 1, 0, 1, 0, 1])) = some code ∧ Run X (evT X) 24 0 code [(1, .int .u8 11), (4, .ptr 0 0 0 0), (7, .ptr 1 0 0 0), (8, .int .i64 (n : Nat)), (13, .ptr 3 0 0 0), (14, .fn 37 [.ptr 3 0 0 0]), (62, .bool false)] [some (whO {}), some (whO {}), some ⟨.pb (y :: ys), 0, some 13, 1, true, false, 0⟩, some (svO 2 13 0)]
      ⟨.normal, [(1, .int .u8 11), (4, .ptr 0 0 0 0), (7, .ptr 1 0 0 0), (8, .int .i64 (n : Nat))], [some (whO {}), some (whO { neg := ng, d := z1, h := z5, mi := z6, s := z7, us := z8 }), some ⟨.pb (y :: ys), 0, some 13, 1, true, false, 0⟩, some (svO 2 13 0)]⟩ := by
  refine ⟨_, rfl, ?_⟩
  have hbd := fun a x3 x4 x5 x6 x7 => bdSp a x3 x4 x5 x6 x7
  have hre : ∀ H0 H1 : Option AM.Obj, reach [H0, H1, some ⟨.pb (y :: ys), 0, some 13, 1, true, false, 0⟩, some (svO 2 13 0)] reachFuel [3] [] = [3, 2] := fun H0 H1 => reach_fn2 (o1 := 3) (o2 := 2) rfl rfl rfl rfl rfl (by decide)
  simp only [svO] at hre n1 n5 n6 n7 n8
  apply Run.dy (by simp) keep24_24 (by simp)
  · (conv => lhs; simp (maxSteps := 2000000) -implicitDefEqProofs [-getElem?_pos, List.getElem?_cons_zero, List.getElem?_cons_succ, go_sem, eqV, plen, loadV, storeV, runD, out1, markOf, freeO, quietO, pushes, isAssign, calledV, touched, mentioned, opVals, touchCall, mentionCall, idsAt, Op.operands, ids, idsL, lendArgs, lendV, lend1, lendL, eqH_self, svO, whO, Wh.pay, hye, n1, n5, n6, n7, n8, hbd, hre, flatCells, splice, scalars, upd])
    rfl
  · kernel_rfl
  · rfl

section
variable (c : Nat) (b : List UInt8) (t : Nat)

set_option maxRecDepth 100000 in
set_option maxHeartbeats 4000000 in
theorem rw_end (hc : c = 0 → b = []) (ht : t < 256) (hb0 : b.length ≠ 0) (hk : knW (b.headD 0).toNat t = true) (hb : ¬ b.length < 1 + (b.headD 0).toNat) (hbm : b.length ≤ 90000000) :
    ∃ code, ((Tryd.f24.body).bind (codeAt [1, 1, 1, 1, 1, 1, 1, 1, 1, 1])) = some code ∧
    Tells (Rets fun fr H => getF fr 4 = .ptr 0 0 0 0 ∧ H[0]? = some (some (whO (rdW b t).1)) ∧ getF fr 5 = .int .i64 ((rdW b t).2.1 : Nat) ∧ getF fr 6 = .int .i64 (rdW b t).2.2) X (evT X) 24 0 code
      [(0, .ro c (.pb b) 1), (1, .int .u8 (t : Nat)), (4, .ptr 0 0 0 0), (7, .ptr 1 0 0 0), (8, .int .i64 ((b.headD 0).toNat : Nat)), (47, .bool false)] [some (whO {}), some (whO {})] := by
  refine ⟨_, rfl, ?_⟩
  have hr : rdW b t = if t = 11 then (if 1 < ((cW b).headD 0).toNat then ({}, 0, 5) else if fin (spW (cW b)) t = false then ({}, 0, 5) else (spW (cW b), 1 + (b.headD 0).toNat, 0))
      else if fin (moW (cW b)) t = false then ({}, 0, 5) else (moW (cW b), 1 + (b.headD 0).toNat, 0) := by
    unfold rdW
    rw [if_neg hb0, if_neg (by rw [hk]; simp), if_neg hb]
  generalize rdW b t = R at *
  have hn12 := knW_le hk
  have hcl := cW_len hn12 (by omega)
  have hcw : cW b = ((b.drop 1).take (b.headD 0).toNat) ++ List.replicate (13 - (b.headD 0).toNat) 0 := rfl
  have hM : makeSliceV X [some (whO {}), some (whO {})] 29 (.int .i64 13) (.int .i64 13) = some (.sl 2 0 13 0, [some (whO {}), some (whO {})] ++ [some ⟨.pb (List.replicate 13 0), 0, some 13, 1, true, false, 0⟩]) := mkB (n := 13) (by omega) _
  have hzl : (List.replicate 13 (0 : UInt8)).length = 13 := List.length_replicate
  have hzd : ∀ k, (List.replicate 13 (0 : UInt8)).drop k = List.replicate (13 - k) 0 := fun k => List.drop_replicate
  generalize List.replicate 13 (0 : UInt8) = zr at *
  have hsl := fun H => slMid1 (t := 1) hc (n := (b.headD 0).toNat) (by omega) H
  have htl : ((b.drop 1).take (b.headD 0).toNat).length = (b.headD 0).toNat := by rw [List.length_take, List.length_drop]; omega
  generalize (b.drop 1).take (b.headD 0).toNat = l at *
  generalize hn : (b.headD 0).toNat = n at *
  generalize hcb : cW b = cb at *
  apply Tells.seq (fr' := [(0, .ro c (.pb b) 1), (1, .int .u8 (t : Nat)), (4, .ptr 0 0 0 0), (7, .ptr 1 0 0 0), (8, .int .i64 (n : Nat)), (13, .ptr 3 0 0 0)]) (H' := [some (whO {}), some (whO {}), some ⟨.pb zr, 0, some 13, 1, true, false, 0⟩, some (svO 2 13 0)])
  · simp only [whO, Wh.pay, List.length_cons, List.length_nil, List.cons_append, List.nil_append] at hM
    (refine ⟨0, ?_⟩; simp (maxSteps := 2000000) -implicitDefEqProofs [-getElem?_pos, List.getElem?_cons_zero, List.getElem?_cons_succ, go_sem, eqV, plen, loadV, storeV, whO, Wh.pay, hM, svO])
  have hcp := cpN (H := [some (whO {}), some (whO {}), some ⟨.pb zr, 0, some 13, 1, true, false, 0⟩, some (svO 2 13 0)]) (ob := ⟨.pb zr, 0, some 13, 1, true, false, 0⟩) (m := zr) (l := l) (c := if c = 0 then 0 else 2) (t := 1) rfl rfl rfl rfl hzl (by omega)
  have hdr : l ++ zr.drop l.length = cb := by rw [hcw, htl, hzd]
  rw [hdr] at hcp
  have w1 : IntKind.i64.wrap (1 + (n : Int)) = ((1 + n : Nat) : Int) := by rw [wrap_i64 (by omega) (by omega)]; omega
  apply Tells.seq (fr' := [(1, .int .u8 (t : Nat)), (4, .ptr 0 0 0 0), (7, .ptr 1 0 0 0), (8, .int .i64 (n : Nat)), (13, .ptr 3 0 0 0)]) (H' := [some (whO {}), some (whO {}), some ⟨.pb cb, 0, some 13, 1, true, false, 0⟩, some (svO 2 13 0)])
  · generalize 1 + n = n1 at *
    simp only [whO, Wh.pay, svO, upd, List.set] at hcp
    (refine ⟨0, ?_⟩; simp (maxSteps := 2000000) -implicitDefEqProofs [-getElem?_pos, List.getElem?_cons_zero, List.getElem?_cons_succ, go_sem, eqV, plen, loadV, storeV, whO, Wh.pay, svO, w1, hsl, hcp])
  clear hcp hsl hM hdr
  apply Tells.seq (fr' := [(1, .int .u8 (t : Nat)), (4, .ptr 0 0 0 0), (7, .ptr 1 0 0 0), (8, .int .i64 (n : Nat)), (13, .ptr 3 0 0 0), (14, .fn 37 [.ptr 3 0 0 0])]) (H' := [some (whO {}), some (whO {}), some ⟨.pb cb, 0, some 13, 1, true, false, 0⟩, some (svO 2 13 0)])
  · (refine ⟨0, ?_⟩; simp (maxSteps := 2000000) -implicitDefEqProofs [-getElem?_pos, List.getElem?_cons_zero, List.getElem?_cons_succ, go_sem, eqV, plen, loadV, storeV, scalars])
  have hN : ∀ (H0 H1 : Option AM.Obj) (i k : Nat) (I K : Int), I = (i : Nat) → K = (k : Nat) → i + k ≤ 13 → 1 ≤ k → k ≤ 4 → evT X 37 [.int .i64 I, .int .i64 K, .ptr 3 0 0 0] [H0, H1, some ⟨.pb cb, 0, some 13, 1, true, false, 0⟩, some (svO 2 13 0)] = some (.int .i64 (nb cb i k : Nat), [H0, H1, some ⟨.pb cb, 0, some 13, 1, true, false, 0⟩, some (svO 2 13 0)]) :=
    fun H0 H1 i k I K hI hK h1 h2 h3 => number_ev (H := [H0, H1, some ⟨.pb cb, 0, some 13, 1, true, false, 0⟩, some (svO 2 13 0)]) (o1 := 3) (o2 := 2) (g2 := 0) hI hK hcl h1 h2 h3 rfl rfl rfl rfl rfl rfl rfl rfl rfl rfl (by decide)
  have hF := fun w H => fin_ev w ht H
  apply Tells.or (P := fun fr H => ∃ w : Wh, fr = [(1, .int .u8 (t : Nat)), (4, .ptr 0 0 0 0), (7, .ptr 1 0 0 0), (8, .int .i64 (n : Nat))] ∧ H = [some (whO {}), some (whO w), some ⟨.pb cb, 0, some 13, 1, true, false, 0⟩, some (svO 2 13 0)] ∧ (if t = 11 then ¬ 1 < (cb.headD 0).toNat ∧ w = spW cb else w = moW cb))
  · by_cases h11 : t = 11
    · subst h11
      apply Tells.seq (fr' := [(1, .int .u8 11), (4, .ptr 0 0 0 0), (7, .ptr 1 0 0 0), (8, .int .i64 (n : Nat)), (13, .ptr 3 0 0 0), (14, .fn 37 [.ptr 3 0 0 0]), (58, .bool true)]) (H' := [some (whO {}), some (whO {}), some ⟨.pb cb, 0, some 13, 1, true, false, 0⟩, some (svO 2 13 0)])
      · (refine ⟨0, ?_⟩; simp (maxSteps := 2000000) -implicitDefEqProofs [-getElem?_pos, List.getElem?_cons_zero, List.getElem?_cons_succ, go_sem, eqV, plen, loadV, storeV])
      apply Tells.condT (by simp [evalO, getF])
      obtain ⟨y, ys, rfl⟩ : ∃ y ys, cb = y :: ys := by
        cases cb with
        | nil => simp at hcl
        | cons y ys => exact ⟨y, ys, rfl⟩
      apply Tells.assoc
      by_cases hy : 1 < y.toNat
      · refine Tells.of (o := ⟨.ret, [(4, .ptr 0 0 0 0), (5, .int .i64 0), (6, .int .i64 5)], [some (whO {}), some (whO {}), some ⟨.pb (y :: ys), 0, some 13, 1, true, false, 0⟩, some (svO 2 13 0)]⟩) ⟨0, ?_⟩ (.inr ⟨by simp, rfl, rfl, ?_, ?_, ?_⟩)
        · have hyi : (1 : Int) < (y.toNat : Int) := by omega
          simp (maxSteps := 2000000) -implicitDefEqProofs [-getElem?_pos, List.getElem?_cons_zero, List.getElem?_cons_succ, go_sem, eqV, plen, loadV, storeV, whO, Wh.pay, mkWh, svO, hyi, flatCells, splice, scalars]
        · rw [hr, if_pos rfl, if_pos (show 1 < ((y :: ys).headD 0).toNat from hy)]; rfl
        · rw [hr, if_pos rfl, if_pos (show 1 < ((y :: ys).headD 0).toNat from hy)]; rfl
        · rw [hr, if_pos rfl, if_pos (show 1 < ((y :: ys).headD 0).toNat from hy)]; rfl
      · have hyi : ¬ (1 : Int) < (y.toNat : Int) := by omega
        apply Tells.seq (fr' := [(1, .int .u8 11), (4, .ptr 0 0 0 0), (7, .ptr 1 0 0 0), (8, .int .i64 (n : Nat)), (13, .ptr 3 0 0 0), (14, .fn 37 [.ptr 3 0 0 0]), (62, .bool false)]) (H' := [some (whO {}), some (whO {}), some ⟨.pb (y :: ys), 0, some 13, 1, true, false, 0⟩, some (svO 2 13 0)])
        · (refine ⟨0, ?_⟩; simp (maxSteps := 2000000) -implicitDefEqProofs [-getElem?_pos, List.getElem?_cons_zero, List.getElem?_cons_succ, go_sem, eqV, plen, loadV, storeV, svO, hyi])
        apply Tells.seq (fr' := [(1, .int .u8 11), (4, .ptr 0 0 0 0), (7, .ptr 1 0 0 0), (8, .int .i64 (n : Nat)), (13, .ptr 3 0 0 0), (14, .fn 37 [.ptr 3 0 0 0]), (62, .bool false)]) (H' := [some (whO {}), some (whO {}), some ⟨.pb (y :: ys), 0, some 13, 1, true, false, 0⟩, some (svO 2 13 0)])
        · exact condF (by simp [evalO, getF]) ⟨0, rfl⟩
        refine Tells.of (o := ⟨.normal, [(1, .int .u8 11), (4, .ptr 0 0 0 0), (7, .ptr 1 0 0 0), (8, .int .i64 (n : Nat))], [some (whO {}), some (whO (spW (y :: ys))), some ⟨.pb (y :: ys), 0, some 13, 1, true, false, 0⟩, some (svO 2 13 0)]⟩) ?_ (.inl ⟨rfl, _, rfl, rfl, by rw [if_pos rfl]; exact ⟨show ¬ 1 < y.toNat by omega, rfl⟩⟩)
        have n1 := fun H0 H1 => hN H0 H1 1 4 1 4 rfl rfl (by omega) (by omega) (by omega)
        have n5 := fun H0 H1 => hN H0 H1 5 1 5 1 rfl rfl (by omega) (by omega) (by omega)
        have n6 := fun H0 H1 => hN H0 H1 6 1 6 1 rfl rfl (by omega) (by omega) (by omega)
        have n7 := fun H0 H1 => hN H0 H1 7 1 7 1 rfl rfl (by omega) (by omega) (by omega)
        have n8 := fun H0 H1 => hN H0 H1 8 4 8 4 rfl rfl (by omega) (by omega) (by omega)
        have hye : ((y.toNat : Int) == 1) = (y.toNat == 1) := by
          by_cases h : y.toNat = 1
          · rw [h]; rfl
          · have : (y.toNat == 1) = false := by simpa using h
            rw [this]; exact beq_eq_false_iff_ne.2 (by omega)
        exact piece (rw_dy n y ys _ _ _ _ _ _ hye n1 n5 n6 n7 n8) _ rfl
    · have h11b : ((t : Int) == 11) = false := beq_eq_false_iff_ne.2 (by omega)
      apply Tells.seq (fr' := [(1, .int .u8 (t : Nat)), (4, .ptr 0 0 0 0), (7, .ptr 1 0 0 0), (8, .int .i64 (n : Nat)), (13, .ptr 3 0 0 0), (14, .fn 37 [.ptr 3 0 0 0]), (58, .bool false)]) (H' := [some (whO {}), some (whO {}), some ⟨.pb cb, 0, some 13, 1, true, false, 0⟩, some (svO 2 13 0)])
      · (refine ⟨0, ?_⟩; simp (maxSteps := 2000000) -implicitDefEqProofs [-getElem?_pos, List.getElem?_cons_zero, List.getElem?_cons_succ, go_sem, eqV, plen, loadV, storeV, h11b])
      apply Tells.condF (by simp [evalO, getF])
      refine Tells.of (o := ⟨.normal, [(1, .int .u8 (t : Nat)), (4, .ptr 0 0 0 0), (7, .ptr 1 0 0 0), (8, .int .i64 (n : Nat))], [some (whO {}), some (whO (moW cb)), some ⟨.pb cb, 0, some 13, 1, true, false, 0⟩, some (svO 2 13 0)]⟩) ⟨0, ?_⟩ (.inl ⟨rfl, _, rfl, rfl, by rw [if_neg h11]⟩)
      have n0 := fun H0 H1 => hN H0 H1 0 2 0 2 rfl rfl (by omega) (by omega) (by omega)
      have n2 := fun H0 H1 => hN H0 H1 2 1 2 1 rfl rfl (by omega) (by omega) (by omega)
      have n3 := fun H0 H1 => hN H0 H1 3 1 3 1 rfl rfl (by omega) (by omega) (by omega)
      have n4 := fun H0 H1 => hN H0 H1 4 1 4 1 rfl rfl (by omega) (by omega) (by omega)
      have n5 := fun H0 H1 => hN H0 H1 5 1 5 1 rfl rfl (by omega) (by omega) (by omega)
      have n6 := fun H0 H1 => hN H0 H1 6 1 6 1 rfl rfl (by omega) (by omega) (by omega)
      have n7 := fun H0 H1 => hN H0 H1 7 4 7 4 rfl rfl (by omega) (by omega) (by omega)
      have hbd := fun x1 x2 x3 x4 x5 x6 x7 => bdMo x1 x2 x3 x4 x5 x6 x7
      unfold moW
      generalize nb cb 0 2 = z0 at *
      generalize nb cb 2 1 = z2 at *
      generalize nb cb 3 1 = z3 at *
      generalize nb cb 4 1 = z4 at *
      generalize nb cb 5 1 = z5 at *
      generalize nb cb 6 1 = z6 at *
      generalize nb cb 7 4 = z7 at *
      simp only [svO] at n0 n2 n3 n4 n5 n6 n7
      simp (maxSteps := 2000000) -implicitDefEqProofs [-getElem?_pos, List.getElem?_cons_zero, List.getElem?_cons_succ, go_sem, eqV, plen, loadV, storeV, svO, whO, Wh.pay, n0, n2, n3, n4, n5, n6, n7, hbd, flatCells, splice, scalars]
  rintro fr H ⟨w, rfl, rfl, hw⟩
  have hres : R = if fin w t = false then ({}, 0, 5) else (w, 1 + n, 0) := by
    rw [hr]
    by_cases h11 : t = 11
    · rw [if_pos h11] at hw ⊢
      rw [if_neg hw.1, hw.2]
    · rw [if_neg h11] at hw ⊢
      rw [hw]
  rw [hres]
  have hFw := hF w [some (whO {}), some (whO w), some ⟨.pb cb, 0, some 13, 1, true, false, 0⟩, some (svO 2 13 0)]
  have hbd0 := bdW0
  apply Tells.assoc
  cases hf : fin w t with
  | false =>
    rw [hf] at hFw
    refine Tells.of (o := ⟨.ret, [(4, .ptr 0 0 0 0), (5, .int .i64 0), (6, .int .i64 5)], [some (whO {}), some (whO w), some ⟨.pb cb, 0, some 13, 1, true, false, 0⟩, some (svO 2 13 0)]⟩) ⟨0, ?_⟩ ⟨rfl, rfl, by rw [if_pos rfl]; rfl, by rw [if_pos rfl]; rfl, by rw [if_pos rfl]; rfl⟩
    simp only [whO, Wh.pay] at hFw
    simp (maxSteps := 2000000) -implicitDefEqProofs [-getElem?_pos, List.getElem?_cons_zero, List.getElem?_cons_succ, go_sem, eqV, plen, loadV, storeV, whO, Wh.pay, mkWh, hFw, hbd0, flatCells, splice, scalars]
  | true =>
    rw [hf] at hFw
    refine Tells.of (o := ⟨.ret, [(4, .ptr 0 0 0 0), (5, .int .i64 ((1 + n : Nat) : Int)), (6, .int .i64 0)], [some (whO w), some (whO w), some ⟨.pb cb, 0, some 13, 1, true, false, 0⟩, some (svO 2 13 0)]⟩) ⟨0, ?_⟩ ⟨rfl, rfl, by rw [if_neg (by simp)]; rfl, by rw [if_neg (by simp)]; rfl, by rw [if_neg (by simp)]; rfl⟩
    simp only [whO, Wh.pay] at hFw
    generalize 1 + n = n1 at *
    simp (maxSteps := 2000000) -implicitDefEqProofs [-getElem?_pos, List.getElem?_cons_zero, List.getElem?_cons_succ, go_sem, eqV, plen, loadV, storeV, whO, Wh.pay, mkWh, hFw, w1, flatCells, splice, scalars]

end

end Go.Proofs.YtafdnpcamepbmaaDoor

/- Walks: a moment, or a span, read: whole; a value read. -/
namespace Go.Proofs.YtafdnpcamepbmaaDoor
open Go.AM
set_option linter.unusedSimpArgs false
set_option linter.unusedVariables false

theorem bsL4 (H : AM.Heap) : buildSliceV X H 74 4 [(0, .int .i64 0), (1, .int .i64 4), (2, .int .i64 7), (3, .int .i64 11)] = some (.ro 1 (.pi .i64 [0, 4, 7, 11]) 0, H) := by kernel_rfl
theorem bsL3 (H : AM.Heap) : buildSliceV X H 74 3 [(0, .int .i64 0), (1, .int .i64 8), (2, .int .i64 12)] = some (.ro 1 (.pi .i64 [0, 8, 12]) 0, H) := by kernel_rfl

section
variable (c : Nat) (b : List UInt8) (t : Nat)

set_option maxRecDepth 100000 in
set_option maxHeartbeats 4000000 in
theorem rw_code (hc : c = 0 → b = []) (ht : t < 256) (hbm : b.length ≤ 90000000) :
    ∃ code, Tryd.f24.body = some code ∧
    Tells (Rets fun fr H => getF fr 4 = .ptr 0 0 0 0 ∧ H[0]? = some (some (whO (rdW b t).1)) ∧ getF fr 5 = .int .i64 ((rdW b t).2.1 : Nat) ∧ getF fr 6 = .int .i64 (rdW b t).2.2) X (evT X) 24 0 code
      [(0, .ro c (.pb b) 1), (1, .int .u8 (t : Nat))] [] := by
  refine ⟨_, rfl, ?_⟩
  apply Tells.seq (fr' := [(0, .ro c (.pb b) 1), (1, .int .u8 (t : Nat)), (4, .ptr 0 0 0 0)]) (H' := [some (whO {})])
  · (refine ⟨0, ?_⟩; simp (maxSteps := 2000000) -implicitDefEqProofs [-getElem?_pos, List.getElem?_cons_zero, List.getElem?_cons_succ, go_sem, eqV, plen, loadV, storeV, whO, Wh.pay])
  apply Tells.seq (fr' := [(0, .ro c (.pb b) 1), (1, .int .u8 (t : Nat)), (4, .ptr 0 0 0 0), (7, .ptr 1 0 0 0)]) (H' := [some (whO {}), some (whO {})])
  · (refine ⟨0, ?_⟩; simp (maxSteps := 2000000) -implicitDefEqProofs [-getElem?_pos, List.getElem?_cons_zero, List.getElem?_cons_succ, go_sem, eqV, plen, loadV, storeV, whO, Wh.pay])
  apply Tells.assoc
  by_cases hb0 : b.length = 0
  · have hr : rdW b t = ({}, 0, 4) := if_pos hb0
    rw [hr]
    refine Tells.of (o := ⟨.ret, [(4, .ptr 0 0 0 0), (5, .int .i64 0), (6, .int .i64 4)], [some (whO {}), some (whO {})]⟩) ⟨0, ?_⟩ ⟨rfl, rfl, rfl, rfl, rfl⟩
    simp (maxSteps := 2000000) -implicitDefEqProofs [-getElem?_pos, List.getElem?_cons_zero, List.getElem?_cons_succ, go_sem, eqV, plen, loadV, storeV, whO, Wh.pay, mkWh, hb0, flatCells, splice, scalars]
  have hb0i : ((b.length : Int) == 0) = false := beq_eq_false_iff_ne.2 (by omega)
  apply Tells.seq (fr' := [(0, .ro c (.pb b) 1), (1, .int .u8 (t : Nat)), (4, .ptr 0 0 0 0), (7, .ptr 1 0 0 0), (17, .bool false)]) (H' := [some (whO {}), some (whO {})])
  · (refine ⟨0, ?_⟩; simp (maxSteps := 2000000) -implicitDefEqProofs [-getElem?_pos, List.getElem?_cons_zero, List.getElem?_cons_succ, go_sem, eqV, plen, loadV, storeV, hb0i])
  apply Tells.seq (fr' := [(0, .ro c (.pb b) 1), (1, .int .u8 (t : Nat)), (4, .ptr 0 0 0 0), (7, .ptr 1 0 0 0), (17, .bool false)]) (H' := [some (whO {}), some (whO {})])
  · exact condF (by simp [evalO, getF]) ⟨0, rfl⟩
  obtain ⟨y, ys, hby⟩ : ∃ y ys, b = y :: ys := by
    cases b with
    | nil => simp at hb0
    | cons y ys => exact ⟨y, ys, rfl⟩
  have hyh : (b.headD 0).toNat = y.toNat := by rw [hby]; rfl
  have hy0 : b[0]? = some y := by rw [hby]; rfl
  have hyl := y.toNat_lt
  have wy : IntKind.i64.wrap (y.toNat : Int) = (y.toNat : Int) := wrap_i64 (by omega) (by omega)
  have hbpos : (0 : Int) < (b.length : Int) := by omega
  have hbposN : 0 < b.length := by omega
  apply Tells.seq (fr' := [(0, .ro c (.pb b) 1), (1, .int .u8 (t : Nat)), (4, .ptr 0 0 0 0), (7, .ptr 1 0 0 0), (8, .int .i64 (y.toNat : Nat))]) (H' := [some (whO {}), some (whO {})])
  · (refine ⟨0, ?_⟩; simp (maxSteps := 2000000) -implicitDefEqProofs [-getElem?_pos, List.getElem?_cons_zero, List.getElem?_cons_succ, go_sem, eqV, plen, loadV, storeV, hy0, wy, hbpos, hbposN])
  apply Tells.seq (fr' := [(0, .ro c (.pb b) 1), (1, .int .u8 (t : Nat)), (4, .ptr 0 0 0 0), (7, .ptr 1 0 0 0), (8, .int .i64 (y.toNat : Nat)), (9, .ro 1 (.pi .i64 [0, 4, 7, 11]) 0)]) (H' := [some (whO {}), some (whO {})])
  · have h4 := fun H => bsL4 H
    generalize ([0, 4, 7, 11] : List Int) = L at *
    (refine ⟨0, ?_⟩; simp (maxSteps := 2000000) -implicitDefEqProofs [-getElem?_pos, List.getElem?_cons_zero, List.getElem?_cons_succ, go_sem, eqV, plen, loadV, storeV, h4])
  apply Tells.andThen (P := fun fr H => H = [some (whO {}), some (whO {})] ∧ ∃ tl, fr = [(0, .ro c (.pb b) 1), (1, .int .u8 (t : Nat)), (4, .ptr 0 0 0 0), (7, .ptr 1 0 0 0), (8, .int .i64 (y.toNat : Nat)), (9, .ro 1 (.pi .i64 (szL t)) 0)] ++ tl)
  · by_cases h11 : t = 11
    · subst h11
      refine Tells.of (o := ⟨.normal, [(0, .ro c (.pb b) 1), (1, .int .u8 11), (4, .ptr 0 0 0 0), (7, .ptr 1 0 0 0), (8, .int .i64 (y.toNat : Nat)), (9, .ro 1 (.pi .i64 [0, 8, 12]) 0)], _⟩) ⟨0, ?_⟩ ⟨rfl, rfl, [], rfl⟩
      have h3 := fun H => bsL3 H
      generalize ([0, 8, 12] : List Int) = L at *
      generalize ([0, 4, 7, 11] : List Int) = L2 at *
      simp (maxSteps := 2000000) -implicitDefEqProofs [-getElem?_pos, List.getElem?_cons_zero, List.getElem?_cons_succ, go_sem, eqV, plen, loadV, storeV, h3]
    · have h11b : ((t : Int) == 11) = false := beq_eq_false_iff_ne.2 (by omega)
      refine Tells.of (o := ⟨.normal, [(0, .ro c (.pb b) 1), (1, .int .u8 (t : Nat)), (4, .ptr 0 0 0 0), (7, .ptr 1 0 0 0), (8, .int .i64 (y.toNat : Nat)), (9, .ro 1 (.pi .i64 [0, 4, 7, 11]) 0), (25, .bool false)], _⟩) ⟨0, ?_⟩ ⟨rfl, rfl, [(25, .bool false)], by unfold szL; rw [if_neg h11]; rfl⟩
      generalize ([0, 4, 7, 11] : List Int) = L2 at *
      simp (maxSteps := 2000000) -implicitDefEqProofs [-getElem?_pos, List.getElem?_cons_zero, List.getElem?_cons_succ, go_sem, eqV, plen, loadV, storeV, h11b]
  rintro fr H ⟨rfl, tl, rfl⟩
  have hszl : (szL t).length ≤ 100 := by unfold szL; split <;> simp
  apply Tells.seq (fr' := [(0, .ro c (.pb b) 1), (1, .int .u8 (t : Nat)), (4, .ptr 0 0 0 0), (7, .ptr 1 0 0 0), (8, .int .i64 (y.toNat : Nat)), (9, .ro 1 (.pi .i64 (szL t)) 0), (10, .bool false)]) (H' := [some (whO {}), some (whO {})])
  · generalize szL t = L at *
    (refine ⟨0, ?_⟩; simp (maxSteps := 2000000) -implicitDefEqProofs [-getElem?_pos, List.getElem?_cons_zero, List.getElem?_cons_succ, go_sem, eqV, plen, loadV, storeV])
  apply Tells.assoc
  apply Tells.seq (fr' := rwFr c b t y.toNat (szL t) false 0) (H' := [some (whO {}), some (whO {})])
  · unfold rwFr
    generalize szL t = L at *
    (refine ⟨0, ?_⟩; simp (maxSteps := 2000000) -implicitDefEqProofs [-getElem?_pos, List.getElem?_cons_zero, List.getElem?_cons_succ, go_sem, eqV, plen, loadV, storeV])
  apply Tells.andThen (P := fun fr H => H = [some (whO {}), some (whO {})] ∧ fr = rwFr c b t y.toNat (szL t) ((szL t).any fun x => (y.toNat : Int) == x) (szL t).length ++ [(30, .bool false)])
  · exact piece (rw_loop c b t y.toNat (szL t) hszl) _ rfl
  rintro fr H ⟨rfl, rfl⟩
  have hkn : ((szL t).any fun x => (y.toNat : Int) == x) = knW (b.headD 0).toNat t := by rw [hyh]; rfl
  rw [hkn]
  apply Tells.assoc
  cases hk : knW (b.headD 0).toNat t with
  | false =>
    have hr : rdW b t = ({}, 0, 5) := by unfold rdW; rw [if_neg hb0, if_pos hk]
    rw [hr]
    refine Tells.of (o := ⟨.ret, [(4, .ptr 0 0 0 0), (5, .int .i64 0), (6, .int .i64 5)], [some (whO {}), some (whO {})]⟩) ⟨0, ?_⟩ ⟨rfl, rfl, rfl, rfl, rfl⟩
    unfold rwFr
    generalize szL t = L at *
    simp (maxSteps := 2000000) -implicitDefEqProofs [-getElem?_pos, List.getElem?_cons_zero, List.getElem?_cons_succ, go_sem, eqV, plen, loadV, storeV, whO, Wh.pay, mkWh, flatCells, splice, scalars]
  | true =>
  apply Tells.seq (fr' := [(0, .ro c (.pb b) 1), (1, .int .u8 (t : Nat)), (4, .ptr 0 0 0 0), (7, .ptr 1 0 0 0), (8, .int .i64 (y.toNat : Nat)), (41, .bool false)]) (H' := [some (whO {}), some (whO {})])
  · unfold rwFr
    generalize szL t = L at *
    (refine ⟨0, ?_⟩; simp (maxSteps := 2000000) -implicitDefEqProofs [-getElem?_pos, List.getElem?_cons_zero, List.getElem?_cons_succ, go_sem, eqV, plen, loadV, storeV])
  apply Tells.seq (fr' := [(0, .ro c (.pb b) 1), (1, .int .u8 (t : Nat)), (4, .ptr 0 0 0 0), (7, .ptr 1 0 0 0), (8, .int .i64 (y.toNat : Nat)), (41, .bool false)]) (H' := [some (whO {}), some (whO {})])
  · exact condF (by simp [evalO, getF]) ⟨0, rfl⟩
  apply Tells.assoc
  have w1 : IntKind.i64.wrap (1 + (y.toNat : Int)) = ((1 + y.toNat : Nat) : Int) := by rw [wrap_i64 (by omega) (by omega)]; omega
  by_cases hs : b.length < 1 + (b.headD 0).toNat
  · have hr : rdW b t = ({}, 0, 4) := by unfold rdW; rw [if_neg hb0, if_neg (by rw [hk]; simp), if_pos hs]
    rw [hr]
    have hsi : (b.length : Int) < ((1 + y.toNat : Nat) : Int) := by omega
    refine Tells.of (o := ⟨.ret, [(4, .ptr 0 0 0 0), (5, .int .i64 0), (6, .int .i64 4)], [some (whO {}), some (whO {})]⟩) ⟨0, ?_⟩ ⟨rfl, rfl, rfl, rfl, rfl⟩
    generalize 1 + y.toNat = n1 at *
    simp (maxSteps := 2000000) -implicitDefEqProofs [-getElem?_pos, List.getElem?_cons_zero, List.getElem?_cons_succ, go_sem, eqV, plen, loadV, storeV, whO, Wh.pay, mkWh, w1, hsi, flatCells, splice, scalars]
  have hsi : ¬ (b.length : Int) < ((1 + y.toNat : Nat) : Int) := by omega
  apply Tells.seq (fr' := [(0, .ro c (.pb b) 1), (1, .int .u8 (t : Nat)), (4, .ptr 0 0 0 0), (7, .ptr 1 0 0 0), (8, .int .i64 (y.toNat : Nat)), (47, .bool false)]) (H' := [some (whO {}), some (whO {})])
  · generalize 1 + y.toNat = n1 at *
    (refine ⟨0, ?_⟩; simp (maxSteps := 2000000) -implicitDefEqProofs [-getElem?_pos, List.getElem?_cons_zero, List.getElem?_cons_succ, go_sem, eqV, plen, loadV, storeV, w1, hsi])
  apply Tells.seq (fr' := [(0, .ro c (.pb b) 1), (1, .int .u8 (t : Nat)), (4, .ptr 0 0 0 0), (7, .ptr 1 0 0 0), (8, .int .i64 (y.toNat : Nat)), (47, .bool false)]) (H' := [some (whO {}), some (whO {})])
  · exact condF (by simp [evalO, getF]) ⟨0, rfl⟩
  have := piece (rw_end c b t hc ht hb0 hk hs hbm) _ rfl
  rw [hyh] at this
  exact this

end

theorem rw_ev {H : AM.Heap} {a : AV} {b : List UInt8} {t : Nat} (h : Byt H a b) (ht : t < 256) (hbm : b.length ≤ 90000000) :
    evT X 24 [a, .int .u8 (t : Nat)] H = some (.tup [.agg (rdW b t).1.pay, .int .i64 ((rdW b t).2.1 : Nat), .int .i64 (rdW b t).2.2], H) := by
  obtain ⟨c, p, xl, hp, hc, hx'⟩ := args_byt (C := X) (f := 24) (i := 0) rfl h (args_flat (i := 1) (a := .int .u8 (t : Nat)) rfl rfl (args_nil 2))
  obtain ⟨code, hcode, o, ⟨he, q4, q0, q5, q6⟩, hr⟩ := rw_code c b t hc ht hbm
  refine evT_eq (Ev1.toldP (l := [.agg (rdW b t).1.pay, .int .i64 ((rdW b t).2.1 : Nat), .int .i64 (rdW b t).2.2]) (evT_below X) Tryd.func24 hcode hx' (by simp [idsL, ids, hp.ids]) (by simp [gtag]) (by simp [idsL, ids, Wh.pay]) (by simp [tagsL, tags, Wh.pay]) rfl ⟨o, ⟨he, ?_⟩, by rw [par24, coB hp]; exact hr⟩)
  generalize rdW b t = r at *
  show resultsV X o.fr o.H [.cell 4 36, .tmp 5, .tmp 6] = _
  simp only [whO, Wh.pay] at q0
  simp [resultsV, q4, q5, q6, loadV, live, q0, pagg, mkWh, Wh.pay]

end Go.Proofs.YtafdnpcamepbmaaDoor

/- Walks: a value read. -/
namespace Go.Proofs.YtafdnpcamepbmaaDoor
open Go.AM
set_option linter.unusedSimpArgs false
set_option linter.unusedVariables false

/-- a number with a sign, of n bytes -/
def sgV (x : Int) (n : Nat) : Int := Int.fdiv (IntKind.i64.wrap (IntKind.u64.wrap (x * 2 ^ (64 - 8 * n)))) (2 ^ (64 - 8 * n))

/-- what a value's reading tells -/
def rdV (b : List UInt8) (t : Ty) : Va × Nat × Int :=
  if kindN t.t t.u < 0 then ({}, 0, 2) else if kindN t.t t.u = 0 then ({}, 0, 0) else
  if kindN t.t t.u = 5 ∨ kindN t.t t.u = 6 then (if (rdW b t.t).2.2 ≠ 0 then ({}, 0, (rdW b t.t).2.2) else ({ k := kindN t.t t.u, w := (rdW b t.t).1 }, (rdW b t.t).2.1, 0)) else
  if kindN t.t t.u = 7 then (if (rdT b).2.2 ≠ 0 then ({}, 0, (rdT b).2.2) else if 16777216 < (rdT b).1.length then ({}, 0, 5) else ({ k := 7, t := (rdT b).1 }, (rdT b).2.1, 0)) else
  if (rfR b (sizeN t.t)).2 ≠ 0 then ({}, 0, (rfR b (sizeN t.t)).2) else
  if kindN t.t t.u = 1 then ({ k := 1, i := sgV (rfR b (sizeN t.t)).1 (sizeN t.t) }, sizeN t.t, 0) else ({ k := kindN t.t t.u, b := (rfR b (sizeN t.t)).1.toNat }, sizeN t.t, 0)

theorem bvV0 : buildV X 38 [] = some (.agg (Va.pay {})) := by kernel_rfl
theorem bvVw (k : Int) (w : Wh) : buildV X 38 [(0, .int .i64 k), (4, .agg w.pay)] = some (.agg (Va.pay { k := k, w := w })) := by
  obtain ⟨neg, y, mo, d, h, mi, s, us⟩ := w
  kernel_rfl
theorem bvVt (k : Int) (s : List UInt8) : buildV X 38 [(0, .int .i64 k), (3, .str s)] = some (.agg (Va.pay { k := k, t := s })) := by kernel_rfl
theorem bvVi (k i : Int) : buildV X 38 [(0, .int .i64 k), (1, .int .i64 i)] = some (.agg (Va.pay { k := k, i := i })) := by kernel_rfl
theorem bvVb (k : Int) (x : Nat) : buildV X 38 [(0, .int .i64 k), (2, .int .u64 (x : Nat))] = some (.agg (Va.pay { k := k, b := x })) := by kernel_rfl

section
variable (c : Nat) (b : List UInt8) (t : Ty)

/-- what Read leaves -/
def rvQ (r : Va × Nat × Int) (fr : AM.Frame) (H : AM.Heap) : Prop := getF fr 4 = .ptr 1 0 0 0 ∧ H[1]? = some (some (vaO r.1)) ∧ getF fr 5 = .int .i64 (r.2.1 : Nat) ∧ getF fr 6 = .int .i64 r.2.2

set_option maxRecDepth 100000 in
set_option maxHeartbeats 4000000 in
theorem vread_num (hc : c = 0 → b = []) (ht : t.t < 256) (hbm : b.length ≤ 90000000) (hk : kindN t.t t.u = 1 ∨ kindN t.t t.u = 2 ∨ kindN t.t t.u = 3 ∨ kindN t.t t.u = 4) :
    ∃ code, ((Tryd.f16.body).bind (codeAt [1, 1, 1])) = some code ∧
    Tells (Rets (rvQ (rdV b t))) X (evT X) 16 0 code [(0, .ro c (.pb b) 1), (3, .ptr 0 0 0 0), (4, .ptr 1 0 0 0), (7, .int .i64 (kindN t.t t.u)), (45, .bool false)] [some (tyO t), some (vaO {})] := by
  refine ⟨_, rfl, ?_⟩
  have hr : rdV b t = if (rfR b (sizeN t.t)).2 ≠ 0 then ({}, 0, (rfR b (sizeN t.t)).2) else
      if kindN t.t t.u = 1 then ({ k := 1, i := sgV (rfR b (sizeN t.t)).1 (sizeN t.t) }, sizeN t.t, 0) else ({ k := kindN t.t t.u, b := (rfR b (sizeN t.t)).1.toNat }, sizeN t.t, 0) := by
    unfold rdV
    rw [if_neg (by omega), if_neg (by omega), if_neg (by omega), if_neg (by omega)]
  rw [hr]
  have hsz := size_num (t := t.t) (u := t.u) hk
  have hS := size_ev' ht [some (tyO t), some (vaO {})]
  have hB : Byt [some (tyO t), some (vaO {})] (.ro c (.pb b) 1) b := Byt.ro (.inl rfl) hc
  have hR := rf_ev (n := sizeN t.t) hB hbm
  have hx0 : 0 ≤ (rfR b (sizeN t.t)).1 ∧ (rfR b (sizeN t.t)).1 < 18446744073709551616 := by
    unfold rfR
    split
    · simp
    · split
      · simp
      · have h := leV_lt (b.take ((sizeN t.t : Nat) : Int).toNat)
        simp only [Int.toNat_natCast] at h ⊢
        have h2 : (b.take (sizeN t.t)).length ≤ 8 := by simp; omega
        have h3 : 256 ^ (b.take (sizeN t.t)).length ≤ 256 ^ 8 := Nat.pow_le_pow_right (by omega) h2
        omega
  generalize hsn : sizeN t.t = n at *
  generalize hrr : rfR b (n : Nat) = r at *
  obtain ⟨x, e⟩ := r
  simp only at *
  obtain ⟨xn, rfl⟩ : ∃ xn : Nat, x = (xn : Int) := ⟨x.toNat, by omega⟩
  apply Tells.seq (fr' := [(0, .ro c (.pb b) 1), (4, .ptr 1 0 0 0), (7, .int .i64 (kindN t.t t.u)), (14, .int .i64 (n : Nat))]) (H' := [some (tyO t), some (vaO {})])
  · simp only [tyO, Ty.pay, vaO, Va.pay, Int.cast_ofNat_Int] at hS
    generalize kindN t.t t.u = k at *
    (refine ⟨0, ?_⟩; simp (maxSteps := 2000000) -implicitDefEqProofs [-getElem?_pos, List.getElem?_cons_zero, List.getElem?_cons_succ, go_sem, eqV, plen, loadV, storeV, tyO, Ty.pay, vaO, Va.pay, hS])
  apply Tells.seq (fr' := [(4, .ptr 1 0 0 0), (6, .int .i64 e), (7, .int .i64 (kindN t.t t.u)), (14, .int .i64 (n : Nat)), (15, .int .u64 (xn : Nat))]) (H' := [some (tyO t), some (vaO {})])
  · simp only [tyO, Ty.pay, vaO, Va.pay, Int.cast_ofNat_Int] at hR
    generalize kindN t.t t.u = k at *
    (refine ⟨0, ?_⟩; simp (maxSteps := 2000000) -implicitDefEqProofs [-getElem?_pos, List.getElem?_cons_zero, List.getElem?_cons_succ, go_sem, eqV, plen, loadV, storeV, tyO, Ty.pay, vaO, Va.pay, hR])
  have hb0 := bvV0
  apply Tells.assoc
  by_cases he : e = 0
  case neg =>
    rw [if_pos he]
    have heb : (e != 0) = true := by simpa using he
    refine Tells.of (o := ⟨.ret, [(4, .ptr 1 0 0 0), (5, .int .i64 0), (6, .int .i64 e)], [some (tyO t), some (vaO {})]⟩) ⟨0, ?_⟩ ⟨rfl, rfl, rfl, rfl, rfl⟩
    simp only [Va.pay, Int.cast_ofNat_Int] at hb0
    generalize kindN t.t t.u = k at *
    simp (maxSteps := 2000000) -implicitDefEqProofs [-getElem?_pos, List.getElem?_cons_zero, List.getElem?_cons_succ, go_sem, eqV, plen, loadV, storeV, tyO, Ty.pay, vaO, Va.pay, heb, hb0, mkVa, flatCells, splice, scalars]
  rw [if_neg (by simpa using he)]
  subst he
  apply Tells.seq (fr' := [(4, .ptr 1 0 0 0), (6, .int .i64 0), (7, .int .i64 (kindN t.t t.u)), (14, .int .i64 (n : Nat)), (15, .int .u64 (xn : Nat)), (77, .bool false)]) (H' := [some (tyO t), some (vaO {})])
  · generalize kindN t.t t.u = k at *
    (refine ⟨0, ?_⟩; simp (maxSteps := 2000000) -implicitDefEqProofs [-getElem?_pos, List.getElem?_cons_zero, List.getElem?_cons_succ, go_sem, eqV, plen, loadV, storeV])
  apply Tells.seq (fr' := [(4, .ptr 1 0 0 0), (6, .int .i64 0), (7, .int .i64 (kindN t.t t.u)), (14, .int .i64 (n : Nat)), (15, .int .u64 (xn : Nat)), (77, .bool false)]) (H' := [some (tyO t), some (vaO {})])
  · exact condF (by simp [evalO, getF]) ⟨0, rfl⟩
  apply Tells.assoc
  by_cases hk1 : kindN t.t t.u = 1
  · rw [if_pos hk1, hk1]
    apply Tells.seq (fr' := [(4, .ptr 1 0 0 0), (7, .int .i64 1), (14, .int .i64 (n : Nat)), (15, .int .u64 (xn : Nat)), (81, .bool true)]) (H' := [some (tyO t), some (vaO {})])
    · (refine ⟨0, ?_⟩; simp (maxSteps := 2000000) -implicitDefEqProofs [-getElem?_pos, List.getElem?_cons_zero, List.getElem?_cons_succ, go_sem, eqV, plen, loadV, storeV])
    refine Tells.seqOut (Tells.condT (by simp [evalO, getF]) ?_) (fun o h => by rw [h.1]; simp)
    have w1 : IntKind.i64.wrap (8 * (n : Int)) = ((8 * n : Nat) : Int) := by rw [wrap_i64 (by omega) (by omega)]; omega
    have w2 : IntKind.i64.wrap (64 - ((8 * n : Nat) : Int)) = ((64 - 8 * n : Nat) : Int) := by rw [wrap_i64 (by omega) (by omega)]; omega
    have hsg : sgV (xn : Int) n = Int.fdiv (IntKind.i64.wrap (IntKind.u64.wrap ((xn : Int) * 2 ^ (64 - 8 * n)))) (2 ^ (64 - 8 * n)) := rfl
    have hsh0 : ¬ ((64 - 8 * n : Nat) : Int) < 0 := by omega
    have hmin : min (64 - 8 * n) 64 = 64 - 8 * n := by omega
    generalize hsh : 64 - 8 * n = sh at *
    generalize h8 : 8 * n = n8 at *
    apply Tells.seq (fr' := [(4, .ptr 1 0 0 0), (7, .int .i64 1), (14, .int .i64 (n : Nat)), (15, .int .u64 (xn : Nat)), (16, .int .i64 (sh : Nat))]) (H' := [some (tyO t), some (vaO {})])
    · (refine ⟨0, ?_⟩; simp (maxSteps := 2000000) -implicitDefEqProofs [-getElem?_pos, List.getElem?_cons_zero, List.getElem?_cons_succ, go_sem, eqV, plen, loadV, storeV, w1, w2])
    have hbi := fun k i => bvVi k i
    refine Tells.of (o := ⟨.ret, [(4, .ptr 1 0 0 0), (5, .int .i64 (n : Nat)), (6, .int .i64 0)], [some (tyO t), some (vaO { k := 1, i := sgV (xn : Int) n })]⟩) ⟨0, ?_⟩ ⟨rfl, rfl, rfl, rfl, rfl⟩
    rw [hsg]
    simp only [Va.pay, Int.cast_ofNat_Int] at hbi
    generalize hz : IntKind.u64.wrap ((xn : Int) * 2 ^ sh) = z at *
    generalize hz2 : IntKind.i64.wrap z = z2 at *
    simp (maxSteps := 2000000) -implicitDefEqProofs [-getElem?_pos, List.getElem?_cons_zero, List.getElem?_cons_succ, go_sem, eqV, plen, loadV, storeV, tyO, Ty.pay, vaO, Va.pay, hsh0, hmin, hz, hz2, hbi, mkVa, flatCells, splice, scalars, show IntKind.u64.bits = 64 from rfl, show IntKind.i64.bits = 64 from rfl]
  · rw [if_neg hk1]
    have hk1b : (kindN t.t t.u == 1) = false := beq_eq_false_iff_ne.2 hk1
    generalize kindN t.t t.u = k at *
    apply Tells.seq (fr' := [(4, .ptr 1 0 0 0), (7, .int .i64 k), (14, .int .i64 (n : Nat)), (15, .int .u64 (xn : Nat)), (81, .bool false)]) (H' := [some (tyO t), some (vaO {})])
    · (refine ⟨0, ?_⟩; simp (maxSteps := 2000000) -implicitDefEqProofs [-getElem?_pos, List.getElem?_cons_zero, List.getElem?_cons_succ, go_sem, eqV, plen, loadV, storeV, hk1b])
    apply Tells.seq (fr' := [(4, .ptr 1 0 0 0), (7, .int .i64 k), (14, .int .i64 (n : Nat)), (15, .int .u64 (xn : Nat)), (81, .bool false)]) (H' := [some (tyO t), some (vaO {})])
    · exact condF (by simp [evalO, getF]) ⟨0, rfl⟩
    have hbb := fun k x => bvVb k x
    refine Tells.of (o := ⟨.ret, [(4, .ptr 1 0 0 0), (5, .int .i64 (n : Nat)), (6, .int .i64 0)], [some (tyO t), some (vaO { k := k, b := xn })]⟩) ⟨0, ?_⟩ ⟨rfl, rfl, by simp, rfl, rfl⟩
    simp only [Va.pay, Int.cast_ofNat_Int] at hbb
    simp (maxSteps := 2000000) -implicitDefEqProofs [-getElem?_pos, List.getElem?_cons_zero, List.getElem?_cons_succ, go_sem, eqV, plen, loadV, storeV, tyO, Ty.pay, vaO, Va.pay, hbb, mkVa, flatCells, splice, scalars]

end

end Go.Proofs.YtafdnpcamepbmaaDoor

/- Walks: a fixed number's lowest bytes, appended to what is handed over. -/
namespace Go.Proofs.YtafdnpcamepbmaaDoor
open Go.AM
set_option linter.unusedSimpArgs false
set_option linter.unusedVariables false

theorem app_t {H : AM.Heap} {o g t : Nat} {ob : AM.Obj} {l m : List UInt8} {src : AV} (ho : H[o]? = some (some ob)) (h : RwT (.pb l) g t ob) (hsrc : srcV H src = some (.pb m, 0) ∨ (srcV H src = some (.pn, 0) ∧ m = [])) (hn : l.length + m.length ≤ 100000000) :
    ∃ ob', RwT (.pb (l ++ m)) (g + 1) t ob' ∧ appendV X H 29 (.sl o 0 l.length g) src = some (.sl o 0 (l.length + m.length) (g + 1), upd H o (some ob')) :=
  app_rwt (by simp) (und5) (by simp) (by simp) (by simp) ho h hsrc hn

section
variable (l : List UInt8) (x n tg : Nat)

def vfFr (i : Nat) : AM.Frame := [(0, .sl 0 0 (l.length + i) i), (1, .int .u64 (x : Nat)), (8, .int .i64 (n : Nat)), (9, .int .i64 (i : Nat))]

set_option maxRecDepth 100000 in
theorem vfixed_code (ob : AM.Obj) (hw : RwT (.pb l) 0 tg ob) (hl : l.length ≤ 90000000) (h8 : n ≤ 8) : ∃ code, Tryd.f33.body = some code ∧
    Tells (Rets fun fr H => ∃ ob', getF fr 6 = .sl 0 0 (l.length + n) n ∧ H = [some ob', some nilB] ∧ RwT (.pb (l ++ leB n x)) n tg ob') X (evT X) 33 1 code [(0, .sl 0 0 l.length 0), (1, .int .u64 (x : Nat)), (2, .int .i64 (n : Nat))] [some ob] := by
  refine ⟨_, rfl, ?_⟩
  have hmb : IntKind.u64.bits = 64 := rfl
  apply Tells.seq (fr' := [(0, .sl 0 0 l.length 0), (1, .int .u64 (x : Nat)), (2, .int .i64 (n : Nat))]) (H' := [some ob, some nilB])
  · (refine ⟨0, ?_⟩; simp (maxSteps := 2000000) -implicitDefEqProofs [-getElem?_pos, List.getElem?_cons_zero, List.getElem?_cons_succ, go_sem, eqV, plen, loadV, storeV, assignV, emB])
  apply Tells.andThen (P := fun fr H => ∃ ob', fr = vfFr l x n n ++ [(10, .bool false)] ∧ H = [some ob', some nilB] ∧ RwT (.pb (l ++ leB n x)) n tg ob')
  · apply Tells.seq (fr' := vfFr l x n 0) (H' := [some ob, some nilB])
    · (refine ⟨0, ?_⟩; simp (maxSteps := 2000000) -implicitDefEqProofs [-getElem?_pos, List.getElem?_cons_zero, List.getElem?_cons_succ, go_sem, eqV, plen, loadV, storeV, vfFr])
    apply Tells.block
    refine Tells.loop (σ := Nat × AM.Obj) (fun s => s.1 ≤ n ∧ RwT (.pb (l ++ leB s.1 x)) s.1 tg s.2) (fun s => vfFr l x n s.1) (fun s => [some s.2, some nilB]) (fun s => n - s.1) ?_ (0, ob) ⟨by simp, by simpa [leB] using hw⟩
    rintro ⟨i, ob⟩ ⟨hi, hw⟩
    simp only at hi hw ⊢
    by_cases hin : i = n
    · right
      subst hin
      refine ⟨⟨.exit 0, vfFr l x i i ++ [(10, .bool false)], [some ob, some nilB]⟩, ⟨rfl, ob, rfl, rfl, hw⟩, by simp, ?_⟩
      (refine ⟨0, ?_⟩; simp (maxSteps := 2000000) -implicitDefEqProofs [-getElem?_pos, List.getElem?_cons_zero, List.getElem?_cons_succ, go_sem, eqV, plen, loadV, storeV, vfFr])
    · left
      have hlt : i < 8 := by omega
      have hiI : (i : Int) < (n : Int) := by omega
      have w1 : IntKind.i64.wrap ((i : Int) + 1) = ((i + 1 : Nat) : Int) := by rw [wrap_i64 (by omega) (by omega)]; omega
      have w8 : IntKind.i64.wrap (8 * (i : Int)) = ((8 * i : Nat) : Int) := by rw [wrap_i64 (by omega) (by omega)]; omega
      have hn0 : ¬ (((8 * i : Nat) : Int) < 0) := by omega
      have hsh := shr_u64 (x := x) hlt
      have hlen := leB_len i x
      obtain ⟨ob', hw', hA⟩ := app_t (H := [some ob, some nilB]) (o := 0) (src := .ro 1 (.pb [UInt8.ofNat (x / 256 ^ i % 256)]) 0) rfl hw (.inl rfl) (by simp [hlen]; omega)
      rw [List.append_assoc, ← leB_snoc] at hw'
      simp only [List.length_append, hlen, List.length_cons, List.length_nil] at hA
      refine ⟨(i + 1, ob'), ⟨by simp only; omega, hw'⟩, ?_, by simp only; omega⟩
      have hwb := wrap_byte (x / 256 ^ i)
      have hbs := fun H => bs1 H (UInt8.ofNat (x / 256 ^ i % 256))
      generalize x / 256 ^ i = z at *
      generalize UInt8.ofNat (z % 256) = y at *
      generalize 8 * i = i8 at *
      (refine ⟨0, ?_⟩; simp (maxSteps := 2000000) -implicitDefEqProofs [-getElem?_pos, List.getElem?_cons_zero, List.getElem?_cons_succ, go_sem, eqV, plen, loadV, storeV, vfFr, hiI, w1, w8, hn0, hmb, hsh, hwb, hbs, hA, upd])
      omega
  · rintro fr H ⟨ob', rfl, rfl, hw⟩
    refine Tells.of (o := ⟨.ret, [(6, .sl 0 0 (l.length + n) n)], [some ob', some nilB]⟩) ?_ ⟨rfl, ob', rfl, rfl, hw⟩
    refine ⟨0, ?_⟩
    simp (maxSteps := 2000000) -implicitDefEqProofs [-getElem?_pos, List.getElem?_cons_zero, List.getElem?_cons_succ, go_sem, eqV, plen, loadV, storeV, vfFr, assignV]

end

/-- as it is told to the caller -/
theorem vfixed_ev {H : AM.Heap} {o g x n tg : Nat} {N : Int} {ob : AM.Obj} {l : List UInt8} (ho : H[o]? = some (some ob)) (hw : RwT (.pb l) g tg ob) (hN : N = (n : Nat)) (hl : l.length ≤ 90000000) (h1 : 1 ≤ n) (h8 : n ≤ 8) :
    ∃ ob', RwT (.pb (l ++ leB n x)) (g + 1) tg ob' ∧ evT X 33 [.sl o 0 l.length g, .int .u64 (x : Nat), .int .i64 N] H = some (.sl o 0 (l.length + n) (g + 1), upd H o (some ob')) := by
  subst hN
  obtain ⟨code, hcode, ⟨out, ⟨he, ob', q1, q2, q3⟩, hrun⟩⟩ := vfixed_code l x n 4 { ob with g := 0, tg := 4 } ⟨hw.p, rfl, hw.row, hw.ids, rfl⟩ hl h8
  refine ⟨{ ob' with g := g + 1, tg := tg }, ⟨q3.p, rfl, q3.row, q3.ids, rfl⟩, evT_eq ?_⟩
  have := Ev1.rwB (C := X) (f := 33) (H := H) (o := o) (off := 0) (len := l.length) (g := g) (ob := ob) (ob1 := ob') (xs := [.int .u64 (x : Nat), .int .i64 (n : Nat)]) (ys := [.int .u64 (x : Nat), .int .i64 (n : Nat)]) (n := 4) (rest := []) (restH := [some nilB]) (off1 := 0) (n1 := l.length + n) (g1 := n)
    (evT_below X) Tryd.func33 hcode rfl ho hw.g hw.ids (by rw [hw.p]; rfl) (args_flat rfl rfl (args_flat rfl rfl (args_nil 3))) rfl rfl rfl (by simp [gtag])
    (by rw [par33]; simpa [coerce, numbered] using hrun) (.inr he) (by show some [getF out.fr 6] = _; rw [q1]) q2 q3.g q3.ids (by rw [q3.p]; rfl) (.inr q3.tg) rfl rfl rfl
  rw [if_neg (by omega), q3.tg, hw.tg] at this
  exact this

end Go.Proofs.YtafdnpcamepbmaaDoor

/- Walks: Own and Kept. -/
namespace Go.Proofs.YtafdnpcamepbmaaDoor
open Go.AM
set_option linter.unusedSimpArgs false
set_option linter.unusedVariables false

def e8 : List UInt8 := [165, 165, 165, 165, 165, 165, 165, 165]

theorem pieceF {O : Option Code} {P : Code → Prop} (h : ∃ code, O = some code ∧ P code) (code' : Code) (h' : O = some code') : P code' := by
  obtain ⟨c, h1, h2⟩ := h
  rw [h'] at h1
  exact (Option.some.inj h1) ▸ h2

section
variable (c : Nat) (b : List UInt8)

/-- an own copy, its rows of eight behind it -/
structure OwnB (b : List UInt8) (ob : AM.Obj) : Prop where
  rw : Rw (.pb (b ++ e8)) 0 ob
  cap : ob.cap = some (b.length + 8)

def kpFr (c t : Nat) (b : List UInt8) (i : Nat) : AM.Frame := [(5, .sl 0 b.length 8 0), (6, .int .i64 (i : Nat))]

end

end Go.Proofs.YtafdnpcamepbmaaDoor

/- Walks: a moment, or a span, appended to what is handed over. -/
namespace Go.Proofs.YtafdnpcamepbmaaDoor
open Go.AM
set_option linter.unusedSimpArgs false
set_option linter.unusedVariables false

/-- hours, minutes, seconds -/
def clB (w : Wh) : List UInt8 := [UInt8.ofNat w.h.toNat, UInt8.ofNat w.mi.toNat, UInt8.ofNat w.s.toNat]
def usB (w : Wh) : List UInt8 := if w.us = 0 then [] else leB 4 w.us.toNat
/-- a span's bytes -/
def spB (w : Wh) : List UInt8 := if w = {} then [0] else ((if w.us = 0 then 8 else 12) :: (if w.neg then 1 else 0) :: leB 4 w.d.toNat) ++ clB w ++ usB w
/-- how many bytes a moment has -/
def moN (w : Wh) : UInt8 := if w = { y := w.y, mo := w.mo, d := w.d } then 4 else if w.us = 0 then 7 else 11
/-- a moment's bytes -/
def moB (w : Wh) : List UInt8 := if w = {} then [0] else (moN w :: (leB 2 w.y.toNat ++ [UInt8.ofNat w.mo.toNat, UInt8.ofNat w.d.toNat])) ++ (if w = { y := w.y, mo := w.mo, d := w.d } then [] else clB w) ++ usB w
def whB (w : Wh) (t : Nat) : List UInt8 := if t = 11 then spB w else moB w

theorem bs3n (H : AM.Heap) (a b c : Nat) (ha : a < 256) (hb : b < 256) (hc : c < 256) : buildSliceV X H 29 3 [(0, .int .u8 (a : Nat)), (1, .int .u8 (b : Nat)), (2, .int .u8 (c : Nat))] = some (.ro 1 (.pb [UInt8.ofNat a, UInt8.ofNat b, UInt8.ofNat c]) 0, H) := by
  have h1 : (a : Int) < 256 := by omega
  have h2 : (b : Int) < 256 := by omega
  have h3 : (c : Int) < 256 := by omega
  simp [buildSliceV, setParts, litRow, mkRow, asBytes, cellsAV, cellsOf, scalars, scalar, idsL, ids, tagsL, tags, joinTags, h1, h2, h3]
theorem bs2n (H : AM.Heap) (a b : Nat) (ha : a < 256) (hb : b < 256) : buildSliceV X H 29 2 [(0, .int .u8 (a : Nat)), (1, .int .u8 (b : Nat))] = some (.ro 1 (.pb [UInt8.ofNat a, UInt8.ofNat b]) 0, H) := by
  have h1 : (a : Int) < 256 := by omega
  have h2 : (b : Int) < 256 := by omega
  simp [buildSliceV, setParts, litRow, mkRow, asBytes, cellsAV, cellsOf, scalars, scalar, idsL, ids, tagsL, tags, joinTags, h1, h2]
theorem bsK (H : AM.Heap) (y : UInt8) (k : Int) (h : (y.toNat : Int) = k) : buildSliceV X H 29 1 [(0, .int .u8 k)] = some (.ro 1 (.pb [y]) 0, H) := by
  subst h; exact bs1 H y

theorem fin_nn {w : Wh} {t : Nat} (h : fin w t = true) : 0 ≤ w.y ∧ w.y < 65536 ∧ 0 ≤ w.mo ∧ w.mo < 256 ∧ 0 ≤ w.d ∧ w.d < 256 ∧ 0 ≤ w.h ∧ w.h < 256 ∧ 0 ≤ w.mi ∧ w.mi < 256 ∧ 0 ≤ w.s ∧ w.s < 256 ∧ 0 ≤ w.us ∧ w.us < 4294967296 := by
  unfold fin clk btw at h
  simp only [Bool.and_eq_true, decide_eq_true_eq] at h
  obtain ⟨⟨h1, h2, h3, h4⟩, h5⟩ := h
  by_cases h11 : t = 11
  · rw [if_pos h11] at h5
    simp only [Bool.and_eq_true, decide_eq_true_eq] at h5
    omega
  · rw [if_neg h11] at h5
    simp only [Bool.and_eq_true, decide_eq_true_eq] at h5
    omega

theorem tcondT {Q : AM.Out → Prop} {C : Ctx} {T : Cf} {f m : Nat} {fr : AM.Frame} {H : AM.Heap} {c : Operand} {a b : Code} (hc : evalO C fr c = .bool true) (h : Tells Q C T f m a fr H) : Tells Q C T f m (.cond c a b) fr H := by
  obtain ⟨o, hq, ho⟩ := h
  exact ⟨o, hq, condT hc ho⟩
theorem tcondF {Q : AM.Out → Prop} {C : Ctx} {T : Cf} {f m : Nat} {fr : AM.Frame} {H : AM.Heap} {c : Operand} {a b : Code} (hc : evalO C fr c = .bool false) (h : Tells Q C T f m b fr H) : Tells Q C T f m (.cond c a b) fr H := by
  obtain ⟨o, hq, ho⟩ := h
  exact ⟨o, hq, condF hc ho⟩

section
variable (l : List UInt8) (w : Wh) (tg : Nat)

def wnP (M : List UInt8) (l : List UInt8) (w : Wh) (tg : Nat) (fr : AM.Frame) (H : AM.Heap) : Prop :=
  ∃ ob' g' tl, fr = (0, .sl 0 0 (l ++ M).length g') :: (4, .ptr 1 0 0 0) :: tl ∧ H = [some ob', some (whO w), some nilB] ∧ RwT (.pb (l ++ M)) (g' + 1) tg { ob' with g := ob'.g + 1 } ∧ 1 ≤ g'

noncomputable def wnO : Option Code := ((Tryd.f34.body).bind cR).bind cL

set_option maxRecDepth 100000 in
set_option maxHeartbeats 4000000 in
theorem span_code (ob : AM.Obj) (hw : RwT (.pb l) 0 tg ob) (hl : l.length ≤ 80000000) (hf : fin w 11 = true) (hz : w ≠ {}) : ∃ code, wnO = some code ∧
    Tells (Goes fun fr H => ∃ ob' g', fr = [(0, .sl 0 0 (l.length + 9) g'), (4, .ptr 1 0 0 0)] ∧ H = [some ob', some (whO w), some nilB] ∧ RwT (.pb (l ++ (((if w.us = 0 then 8 else 12) :: (if w.neg then 1 else 0) :: leB 4 w.d.toNat) ++ clB w))) g' tg ob' ∧ 1 ≤ g')
      X (evT X) 34 1 code [(0, .sl 0 0 l.length 0), (2, .int .u8 11), (4, .ptr 1 0 0 0)] [some ob, some (whO w), some nilB] := by
  refine ⟨_, rfl, ?_⟩
  have hE := fun H xo yo => eqWh w {} H xo yo
  rw [decide_eq_false hz] at hE
  simp only [Wh.pay, Int.cast_ofNat_Int] at hE
  have hb0 := bdW0
  obtain ⟨n1, n2, n3, n4, n5, n6, n7, n8, n9, n10, n11, n12, n13, n14⟩ := fin_nn hf
  apply Tells.seq (fr' := [(0, .sl 0 0 l.length 0), (4, .ptr 1 0 0 0), (10, .bool true)]) (H' := [some ob, some (whO w), some nilB])
  · (refine ⟨0, ?_⟩; simp (maxSteps := 2000000) -implicitDefEqProofs [-getElem?_pos, List.getElem?_cons_zero, List.getElem?_cons_succ, go_sem, eqV, plen, loadV, storeV])
  apply tcondT (by simp [evalO, getF])
  generalize hM : (if w.us = 0 then (8 : UInt8) else 12) = M0 at *
  generalize hy : (if w.neg then (1 : UInt8) else 0) = y at *
  obtain ⟨ob1, hw1, hA0⟩ := app_t (H := [some ob, some (whO w), some nilB]) (o := 0) (m := [M0]) (src := .ro 1 (.pb [M0]) 0) rfl hw (.inl rfl) (by simp; omega)
  apply Tells.seq (fr' := [(0, .sl 0 0 (l.length + 1) 1), (4, .ptr 1 0 0 0)]) (H' := [some ob1, some (whO w), some nilB])
  · refine Run.block (id := 0) ?_ (by simp)
    simp only [List.length_cons, List.length_nil] at hA0
    by_cases hus : w.us = 0
    · rw [if_pos hus] at hM
      have hbs := fun H => bsK H M0 8 (by rw [← hM]; rfl)
      generalize hz0 : (AV.pc [.bool false, .int .i64 0, .int .i64 0, .int .i64 0, .int .i64 0, .int .i64 0, .int .i64 0, .int .i64 0]) = pz at *
      simp only [whO, Wh.pay] at hA0
      rw [hus] at hE hA0
      (refine ⟨0, ?_⟩; simp (maxSteps := 2000000) -implicitDefEqProofs [-getElem?_pos, List.getElem?_cons_zero, List.getElem?_cons_succ, go_sem, eqV, plen, loadV, storeV, -eqV, whO, Wh.pay, mkWh, hb0, hE, hus, hbs, hA0, upd])
    · rw [if_neg hus] at hM
      have husb : (w.us == 0) = false := by simpa using hus
      have hbs := fun H => bsK H M0 12 (by rw [← hM]; rfl)
      generalize hz0 : (AV.pc [.bool false, .int .i64 0, .int .i64 0, .int .i64 0, .int .i64 0, .int .i64 0, .int .i64 0, .int .i64 0]) = pz at *
      simp only [whO, Wh.pay] at hA0
      (refine ⟨0, ?_⟩; simp (maxSteps := 2000000) -implicitDefEqProofs [-getElem?_pos, List.getElem?_cons_zero, List.getElem?_cons_succ, go_sem, eqV, plen, loadV, storeV, -eqV, whO, Wh.pay, mkWh, hb0, hE, husb, hbs, hA0, upd])
  clear hA0 hE hb0
  apply Tells.seq
  · (refine ⟨0, ?_⟩; conv => lhs; simp (maxSteps := 2000000) -implicitDefEqProofs [-getElem?_pos, List.getElem?_cons_zero, List.getElem?_cons_succ, go_sem, eqV, plen, loadV, storeV])
  apply Tells.andThen (P := fun fr H => ∃ tl, fr = [(0, .sl 0 0 (l.length + 1) 1), (4, .ptr 1 0 0 0), (7, .int .u8 (y.toNat : Nat))] ++ tl ∧ H = [some ob1, some (whO w), some nilB])
  · cases hn : w.neg with
    | true =>
      rw [hn] at hy
      refine Tells.of (o := ⟨.normal, [(0, .sl 0 0 (l.length + 1) 1), (4, .ptr 1 0 0 0), (7, .int .u8 1)], [some ob1, some (whO w), some nilB]⟩) ⟨0, ?_⟩ ⟨rfl, [], by rw [← hy]; rfl, rfl⟩
      simp (maxSteps := 2000000) -implicitDefEqProofs [-getElem?_pos, List.getElem?_cons_zero, List.getElem?_cons_succ, go_sem, eqV, plen, loadV, storeV, whO, Wh.pay, hn]
    | false =>
      rw [hn] at hy
      refine Tells.of (o := ⟨.normal, [(0, .sl 0 0 (l.length + 1) 1), (4, .ptr 1 0 0 0), (7, .int .u8 0), (29, .bool false)], [some ob1, some (whO w), some nilB]⟩) ⟨0, ?_⟩ ⟨rfl, [(29, .bool false)], by rw [← hy]; rfl, rfl⟩
      simp (maxSteps := 2000000) -implicitDefEqProofs [-getElem?_pos, List.getElem?_cons_zero, List.getElem?_cons_succ, go_sem, eqV, plen, loadV, storeV, whO, Wh.pay, hn]
  rintro fr H ⟨tl, rfl, rfl⟩
  obtain ⟨dn, hdn⟩ : ∃ n : Nat, w.d = (n : Int) := ⟨w.d.toNat, by omega⟩
  obtain ⟨hn, hhn⟩ : ∃ n : Nat, w.h = (n : Int) := ⟨w.h.toNat, by omega⟩
  obtain ⟨mn, hmn⟩ : ∃ n : Nat, w.mi = (n : Int) := ⟨w.mi.toNat, by omega⟩
  obtain ⟨sn, hsn⟩ : ∃ n : Nat, w.s = (n : Int) := ⟨w.s.toNat, by omega⟩
  obtain ⟨ob2, hw2, hA1⟩ := app_t (H := [some ob1, some (whO w), some nilB]) (o := 0) (m := [y]) (src := .ro 1 (.pb [y]) 0) rfl hw1 (.inl rfl) (by simp; omega)
  obtain ⟨ob3, hw3, hF⟩ := vfixed_ev (H := [some ob2, some (whO w), some nilB]) (o := 0) (x := dn) (n := 4) (N := 4) rfl hw2 rfl (by simp; omega) (by omega) (by omega)
  obtain ⟨ob4, hw4, hA2⟩ := app_t (H := [some ob3, some (whO w), some nilB]) (o := 0) (m := clB w) (src := .ro 1 (.pb (clB w)) 0) rfl hw3 (.inl rfl) (by simp [leB_len, clB]; omega)
  have l1 : (l ++ [M0]).length = l.length + 1 := by simp
  have l2 : (l ++ [M0] ++ [y]).length = l.length + 2 := by simp
  have l3 : (l ++ [M0] ++ [y] ++ leB 4 dn).length = l.length + 6 := by simp [leB_len]
  rw [l1] at hA1
  rw [l2] at hF
  rw [l3] at hA2
  apply Tells.seq (fr' := [(0, .sl 0 0 (l.length + 6) 3), (4, .ptr 1 0 0 0)]) (H' := [some ob3, some (whO w), some nilB])
  · have hbs := fun H => bs1 H y
    have wd : IntKind.u64.wrap w.d = (dn : Int) := by rw [hdn]; exact wrap_u64 (by omega) (by omega)
    have hre : reach [some ob2, some (whO w), some nilB] reachFuel [0] [] = [0] := reach_box rfl (by rw [hw2.p]; rfl)
    have hg1 := hw1.g
    have hp1 := hw1.p
    have hi1 := hw1.ids
    have hg2 := hw2.g
    have hp2 := hw2.p
    have hi2 := hw2.ids
    simp only [List.length_cons, List.length_nil, whO, Wh.pay] at hA1 hF hre
    clear hw hw1 hw2 hw3 hw4 hA2 l1 l2 l3
    apply Run.dy (by simp) keep34_10 (by simp)
    · (conv => lhs; simp (maxSteps := 2000000) -implicitDefEqProofs [-getElem?_pos, List.getElem?_cons_zero, List.getElem?_cons_succ, go_sem, eqV, plen, loadV, storeV, runD, out1, markOf, freeO, quietO, pushes, isAssign, calledV, touched, mentioned, opVals, touchCall, mentionCall, idsAt, Op.operands, ids, idsL, lendArgs, lendV, lend1, lendL, eqH_self, whO, Wh.pay, hbs, hA1, upd, wd, hF, assignV, reach_none, hre, hg1, hi1, hg2, hi2])
      rfl
    · kernel_rfl
    · rfl
  refine Tells.of (o := ⟨.normal, [(0, .sl 0 0 (l.length + 9) 4), (4, .ptr 1 0 0 0)], [some ob4, some (whO w), some nilB]⟩) ⟨0, ?_⟩ ⟨rfl, ob4, 4, rfl, rfl, ?_, by omega⟩
  · have w1 : IntKind.u8.wrap w.h = (hn : Int) := by rw [hhn]; exact wrap_u8 (by omega) (by omega)
    have w2 : IntKind.u8.wrap w.mi = (mn : Int) := by rw [hmn]; exact wrap_u8 (by omega) (by omega)
    have w3 : IntKind.u8.wrap w.s = (sn : Int) := by rw [hsn]; exact wrap_u8 (by omega) (by omega)
    have hbs := fun H => bs3n H hn mn sn (by omega) (by omega) (by omega)
    have hcl : clB w = [UInt8.ofNat hn, UInt8.ofNat mn, UInt8.ofNat sn] := by unfold clB; rw [hhn, hmn, hsn]; simp
    rw [hcl] at hA2
    simp only [List.length_cons, List.length_nil, whO, Wh.pay] at hA2
    generalize [UInt8.ofNat hn, UInt8.ofNat mn, UInt8.ofNat sn] = cl at *
    simp (maxSteps := 2000000) -implicitDefEqProofs [-getElem?_pos, List.getElem?_cons_zero, List.getElem?_cons_succ, go_sem, eqV, plen, loadV, storeV, whO, Wh.pay, w1, w2, w3, hbs, hA2, upd]
  · have e : w.d.toNat = dn := by rw [hdn]; simp
    rw [e]
    simpa using hw4

def moM (w : Wh) : List UInt8 := (moN w :: (leB 2 w.y.toNat ++ [UInt8.ofNat w.mo.toNat, UInt8.ofNat w.d.toNat])) ++ (if w = { y := w.y, mo := w.mo, d := w.d } then [] else clB w)

set_option maxRecDepth 100000 in
set_option maxHeartbeats 4000000 in
theorem moment_code (t : Nat) (ob : AM.Obj) (hw : RwT (.pb l) 0 tg ob) (hl : l.length ≤ 80000000) (ht : t < 256) (h11 : t ≠ 11) (hf : fin w t = true) (hz : w ≠ {}) : ∃ code, wnO = some code ∧
    Tells (Goes fun fr H => ∃ ob' g' tl, fr = [(0, .sl 0 0 (l ++ moM w).length g'), (4, .ptr 1 0 0 0)] ++ tl ∧ H = [some ob', some (whO w), some nilB] ∧ RwT (.pb (l ++ moM w)) g' tg ob' ∧ 1 ≤ g')
      X (evT X) 34 1 code [(0, .sl 0 0 l.length 0), (2, .int .u8 (t : Nat)), (4, .ptr 1 0 0 0)] [some ob, some (whO w), some nilB] := by
  refine ⟨_, rfl, ?_⟩
  have hE := fun H xo yo => eqWh w {} H xo yo
  rw [decide_eq_false hz] at hE
  have hE2 := fun H xo yo => eqWh w { y := w.y, mo := w.mo, d := w.d } H xo yo
  simp only [Wh.pay, Int.cast_ofNat_Int] at hE hE2
  have hb0 := bdW0
  have hb3 := bdW3 w.y w.mo w.d
  obtain ⟨n1, n2, n3, n4, n5, n6, n7, n8, n9, n10, n11, n12, n13, n14⟩ := fin_nn hf
  have h11b : ((t : Int) == 11) = false := by simp; omega
  apply Tells.seq (fr' := [(0, .sl 0 0 l.length 0), (4, .ptr 1 0 0 0), (10, .bool false)]) (H' := [some ob, some (whO w), some nilB])
  · (refine ⟨0, ?_⟩; simp (maxSteps := 2000000) -implicitDefEqProofs [-getElem?_pos, List.getElem?_cons_zero, List.getElem?_cons_succ, go_sem, eqV, plen, loadV, storeV, h11b])
  apply tcondF (by simp [evalO, getF])
  apply Tells.seq
  · (refine ⟨0, ?_⟩; conv => lhs; simp (maxSteps := 2000000) -implicitDefEqProofs [-getElem?_pos, List.getElem?_cons_zero, List.getElem?_cons_succ, go_sem, eqV, plen, loadV, storeV])
  unfold moM
  have hmn : moN w = if decide (w = { y := w.y, mo := w.mo, d := w.d }) = true then 4 else if w.us = 0 then 7 else 11 := by
    unfold moN
    simp only [decide_eq_true_eq]
  have hif : (if w = { y := w.y, mo := w.mo, d := w.d } then ([] : List UInt8) else clB w) = if decide (w = { y := w.y, mo := w.mo, d := w.d }) = true then [] else clB w := by
    simp only [decide_eq_true_eq]
  rw [hif]
  clear hif
  generalize decide (w = { y := w.y, mo := w.mo, d := w.d }) = e at *
  generalize moN w = N at *
  apply Tells.andThen (P := fun fr H => ∃ tl, fr = [(0, .sl 0 0 l.length 0), (4, .ptr 1 0 0 0), (8, .int .u8 (N.toNat : Nat))] ++ tl ∧ H = [some ob, some (whO w), some nilB])
  · generalize hz0 : (AV.pc [.bool false, .int .i64 0, .int .i64 0, .int .i64 0, .int .i64 0, .int .i64 0, .int .i64 0, .int .i64 0]) = pz at *
    generalize hz3 : (AV.pc [.bool false, .int .i64 w.y, .int .i64 w.mo, .int .i64 w.d, .int .i64 0, .int .i64 0, .int .i64 0, .int .i64 0]) = p3 at *
    cases e with
    | true =>
      rw [if_pos rfl] at hmn
      refine Tells.of (o := ⟨.normal, [(0, .sl 0 0 l.length 0), (4, .ptr 1 0 0 0), (8, .int .u8 4)], [some ob, some (whO w), some nilB]⟩) (Run.block (id := 1) ⟨0, ?_⟩ (by simp)) ⟨rfl, [], by rw [hmn]; rfl, rfl⟩
      simp (maxSteps := 2000000) -implicitDefEqProofs [-getElem?_pos, List.getElem?_cons_zero, List.getElem?_cons_succ, go_sem, eqV, plen, loadV, storeV, -eqV, whO, Wh.pay, mkWh, hb0, hb3, hE, hE2]
    | false =>
      rw [if_neg (by simp)] at hmn
      by_cases hus : w.us = 0
      · rw [if_pos hus] at hmn
        refine Tells.of (o := ⟨.normal, [(0, .sl 0 0 l.length 0), (4, .ptr 1 0 0 0), (8, .int .u8 7)], [some ob, some (whO w), some nilB]⟩) (Run.block (id := 1) ⟨0, ?_⟩ (by simp)) ⟨rfl, [], by rw [hmn]; rfl, rfl⟩
        rw [hus] at hE hE2
        simp (maxSteps := 2000000) -implicitDefEqProofs [-getElem?_pos, List.getElem?_cons_zero, List.getElem?_cons_succ, go_sem, eqV, plen, loadV, storeV, -eqV, whO, Wh.pay, mkWh, hb0, hb3, hE, hE2, hus]
      · rw [if_neg hus] at hmn
        have husb : (w.us == 0) = false := by simpa using hus
        refine Tells.of (o := ⟨.normal, [(0, .sl 0 0 l.length 0), (4, .ptr 1 0 0 0), (8, .int .u8 11), (67, .bool false)], [some ob, some (whO w), some nilB]⟩) (Run.block (id := 1) ⟨0, ?_⟩ (by simp)) ⟨rfl, [(67, .bool false)], by rw [hmn]; rfl, rfl⟩
        simp (maxSteps := 2000000) -implicitDefEqProofs [-getElem?_pos, List.getElem?_cons_zero, List.getElem?_cons_succ, go_sem, eqV, plen, loadV, storeV, -eqV, whO, Wh.pay, mkWh, hb0, hb3, hE, hE2, husb]
  clear hE hE2 hb0 hb3
  rintro fr H ⟨tl, rfl, rfl⟩
  obtain ⟨yn, hyn⟩ : ∃ n : Nat, w.y = (n : Int) := ⟨w.y.toNat, by omega⟩
  obtain ⟨on, hon⟩ : ∃ n : Nat, w.mo = (n : Int) := ⟨w.mo.toNat, by omega⟩
  obtain ⟨dn, hdn⟩ : ∃ n : Nat, w.d = (n : Int) := ⟨w.d.toNat, by omega⟩
  obtain ⟨hn, hhn⟩ : ∃ n : Nat, w.h = (n : Int) := ⟨w.h.toNat, by omega⟩
  obtain ⟨mn, hmnn⟩ : ∃ n : Nat, w.mi = (n : Int) := ⟨w.mi.toNat, by omega⟩
  obtain ⟨sn, hsn⟩ : ∃ n : Nat, w.s = (n : Int) := ⟨w.s.toNat, by omega⟩
  have ey : w.y.toNat = yn := by rw [hyn]; simp
  have eo : w.mo.toNat = on := by rw [hon]; simp
  have ed : w.d.toNat = dn := by rw [hdn]; simp
  rw [ey, eo, ed]
  obtain ⟨ob1, hw1, hA1⟩ := app_t (H := [some ob, some (whO w), some nilB]) (o := 0) (m := [N]) (src := .ro 1 (.pb [N]) 0) rfl hw (.inl rfl) (by simp; omega)
  obtain ⟨ob2, hw2, hF⟩ := vfixed_ev (H := [some ob1, some (whO w), some nilB]) (o := 0) (x := yn) (n := 2) (N := 2) rfl hw1 rfl (by simp; omega) (by omega) (by omega)
  obtain ⟨ob3, hw3, hA2⟩ := app_t (H := [some ob2, some (whO w), some nilB]) (o := 0) (m := [UInt8.ofNat on, UInt8.ofNat dn]) (src := .ro 1 (.pb [UInt8.ofNat on, UInt8.ofNat dn]) 0) rfl hw2 (.inl rfl) (by simp [leB_len]; omega)
  obtain ⟨ob4, hw4, hA3⟩ := app_t (H := [some ob3, some (whO w), some nilB]) (o := 0) (m := clB w) (src := .ro 1 (.pb (clB w)) 0) rfl hw3 (.inl rfl) (by simp [leB_len, clB]; omega)
  have l1 : (l ++ [N]).length = l.length + 1 := by simp
  have l2 : (l ++ [N] ++ leB 2 yn).length = l.length + 3 := by simp [leB_len]
  have l3 : (l ++ [N] ++ leB 2 yn ++ [UInt8.ofNat on, UInt8.ofNat dn]).length = l.length + 5 := by simp [leB_len]
  rw [l1] at hF
  rw [l2] at hA2
  rw [l3] at hA3
  apply Tells.seq (fr' := [(0, .sl 0 0 (l.length + 5) 3), (4, .ptr 1 0 0 0), (8, .int .u8 (N.toNat : Nat))]) (H' := [some ob3, some (whO w), some nilB])
  · have hbs := fun H => bs1 H N
    have hbs2 := fun H => bs2n H on dn (by omega) (by omega)
    have wd : IntKind.u64.wrap w.y = (yn : Int) := by rw [hyn]; exact wrap_u64 (by omega) (by omega)
    have w1 : IntKind.u8.wrap w.mo = (on : Int) := by rw [hon]; exact wrap_u8 (by omega) (by omega)
    have w2 : IntKind.u8.wrap w.d = (dn : Int) := by rw [hdn]; exact wrap_u8 (by omega) (by omega)
    have hre : reach [some ob1, some (whO w), some nilB] reachFuel [0] [] = [0] := reach_box rfl (by rw [hw1.p]; rfl)
    have hg1 := hw.g
    have hi1 := hw.ids
    have hg2 := hw1.g
    have hi2 := hw1.ids
    have hg3 := hw2.g
    have hi3 := hw2.ids
    have hq1 := hw1.p
    simp only [List.length_cons, List.length_nil, whO, Wh.pay] at hA1 hF hre hA2
    clear hw hw1 hw2 hw3 hw4 hA3 l1 l2 l3
    generalize [UInt8.ofNat on, UInt8.ofNat dn] = od at *
    apply Run.dy (by simp) keep34_19 (by simp)
    · (conv => lhs; simp (maxSteps := 2000000) -implicitDefEqProofs [-getElem?_pos, List.getElem?_cons_zero, List.getElem?_cons_succ, go_sem, eqV, plen, loadV, storeV, runD, out1, markOf, freeO, quietO, pushes, isAssign, calledV, touched, mentioned, opVals, touchCall, mentionCall, idsAt, Op.operands, ids, idsL, lendArgs, lendV, lend1, lendL, eqH_self, whO, Wh.pay, hbs, hbs2, hA1, upd, wd, w1, w2, hF, hA2, assignV, reach_none, hre, hg1, hi1, hg2, hi2, hg3, hi3, hq1])
      rfl
    · kernel_rfl
    · rfl
  cases e with
  | true =>
    rw [if_pos rfl] at hmn ⊢
    subst hmn
    refine Tells.of (o := ⟨.normal, [(0, .sl 0 0 (l.length + 5) 3), (4, .ptr 1 0 0 0), (88, .bool false)], [some ob3, some (whO w), some nilB]⟩) ⟨0, ?_⟩ ⟨rfl, ob3, 3, [(88, .bool false)], by simp [leB_len], rfl, by simpa using hw3, by omega⟩
    simp (maxSteps := 2000000) -implicitDefEqProofs [-getElem?_pos, List.getElem?_cons_zero, List.getElem?_cons_succ, go_sem, eqV, plen, loadV, storeV, whO, Wh.pay, show ((4 : UInt8).toNat : Int) = 4 from rfl]
  | false =>
    rw [if_neg (by simp)] at hmn ⊢
    have hN4 : (4 : Int) < (N.toNat : Int) := by
      rw [hmn]; split <;> decide
    have hcl : clB w = [UInt8.ofNat hn, UInt8.ofNat mn, UInt8.ofNat sn] := by unfold clB; rw [hhn, hmnn, hsn]; simp
    rw [hcl] at hA3 hw4 ⊢
    refine Tells.of (o := ⟨.normal, [(0, .sl 0 0 (l.length + 8) 4), (4, .ptr 1 0 0 0)], [some ob4, some (whO w), some nilB]⟩) ⟨0, ?_⟩ ⟨rfl, ob4, 4, [], by simp [leB_len], rfl, by simpa using hw4, by omega⟩
    have w1 : IntKind.u8.wrap w.h = (hn : Int) := by rw [hhn]; exact wrap_u8 (by omega) (by omega)
    have w2 : IntKind.u8.wrap w.mi = (mn : Int) := by rw [hmnn]; exact wrap_u8 (by omega) (by omega)
    have w3 : IntKind.u8.wrap w.s = (sn : Int) := by rw [hsn]; exact wrap_u8 (by omega) (by omega)
    have hbs := fun H => bs3n H hn mn sn (by omega) (by omega) (by omega)
    simp only [List.length_cons, List.length_nil, whO, Wh.pay] at hA3
    generalize [UInt8.ofNat hn, UInt8.ofNat mn, UInt8.ofNat sn] = cl at *
    simp (maxSteps := 2000000) -implicitDefEqProofs [-getElem?_pos, List.getElem?_cons_zero, List.getElem?_cons_succ, go_sem, eqV, plen, loadV, storeV, whO, Wh.pay, hN4, w1, w2, w3, hbs, hA3, upd]

/-- what stands behind the clock, and returns -/
noncomputable def wnE : Option Code := ((Tryd.f34.body).bind cR).bind cR

set_option maxRecDepth 100000 in
set_option maxHeartbeats 4000000 in
theorem end_code (M : List UInt8) (g : Nat) (tl : AM.Frame) (ob : AM.Obj) (hw : RwT (.pb (l ++ M)) g tg ob) (hg : 1 ≤ g) (hl : (l ++ M).length ≤ 80000100) (hu : 0 ≤ w.us ∧ w.us < 4294967296) : ∃ code, wnE = some code ∧
    Tells (Rets fun fr H => ∃ ob' g' R, getF fr 6 = .sl 0 0 (l ++ (M ++ usB w)).length g' ∧ H = some ob' :: R ∧ RwT (.pb (l ++ (M ++ usB w))) g' tg ob' ∧ 1 ≤ g')
      X (evT X) 34 1 code ([(0, .sl 0 0 (l ++ M).length g), (4, .ptr 1 0 0 0)] ++ tl) [some ob, some (whO w), some nilB] := by
  refine ⟨_, rfl, ?_⟩
  have hg0 := hw.g
  unfold usB
  by_cases hus : w.us = 0
  · rw [if_pos hus, List.append_nil]
    refine Tells.of (o := ⟨.ret, [(6, .sl 0 0 (l ++ M).length g)], [some ob, some (whO w), some nilB]⟩) ⟨0, ?_⟩ ⟨rfl, ob, g, _, rfl, rfl, hw, hg⟩
    generalize (l ++ M).length = n at *
    simp (maxSteps := 2000000) -implicitDefEqProofs [-getElem?_pos, List.getElem?_cons_zero, List.getElem?_cons_succ, go_sem, eqV, plen, loadV, storeV, whO, Wh.pay, hus, assignV]
  · rw [if_neg hus]
    have husb : (w.us != 0) = true := by simpa using hus
    obtain ⟨un, hun⟩ : ∃ n : Nat, w.us = (n : Int) := ⟨w.us.toNat, by omega⟩
    have eu : w.us.toNat = un := by rw [hun]; simp
    rw [eu, ← List.append_assoc]
    have wd : IntKind.u64.wrap w.us = (un : Int) := by rw [hun]; exact wrap_u64 (by omega) (by omega)
    obtain ⟨ob2, hw2, hF⟩ := vfixed_ev (H := [some ob, some (whO w), some nilB]) (o := 0) (x := un) (n := 4) (N := 4) rfl hw rfl (by omega) (by omega) (by omega)
    refine Tells.of (o := ⟨.ret, [(6, .sl 0 0 ((l ++ M).length + 4) (g + 1))], [some ob2, some (whO w), some nilB]⟩) ⟨0, ?_⟩ ⟨rfl, ob2, g + 1, _, by rw [List.length_append (bs := leB 4 un), leB_len]; rfl, rfl, hw2, by omega⟩
    generalize (l ++ M).length = n at *
    simp only [whO, Wh.pay] at hF
    simp (maxSteps := 2000000) -implicitDefEqProofs [-getElem?_pos, List.getElem?_cons_zero, List.getElem?_cons_succ, go_sem, eqV, plen, loadV, storeV, whO, Wh.pay, husb, wd, hF, assignV, upd]

set_option maxRecDepth 100000 in
set_option maxHeartbeats 4000000 in
theorem when_code (t : Nat) (ob : AM.Obj) (hw : RwT (.pb l) 0 tg ob) (hl : l.length ≤ 80000000) (ht : t < 256) (hf : fin w t = true) : ∃ code, Tryd.f34.body = some code ∧
    Tells (Rets fun fr H => ∃ ob' g' R, getF fr 6 = .sl 0 0 (l ++ whB w t).length g' ∧ H = some ob' :: R ∧ RwT (.pb (l ++ whB w t)) g' tg ob' ∧ 1 ≤ g')
      X (evT X) 34 1 code [(0, .sl 0 0 l.length 0), (1, .agg w.pay), (2, .int .u8 (t : Nat))] [some ob] := by
  refine ⟨_, rfl, ?_⟩
  have hnn := fin_nn hf
  apply Tells.seq (fr' := [(0, .sl 0 0 l.length 0), (2, .int .u8 (t : Nat)), (4, .ptr 1 0 0 0)]) (H' := [some ob, some (whO w), some nilB])
  · (refine ⟨0, ?_⟩; simp (maxSteps := 2000000) -implicitDefEqProofs [-getElem?_pos, List.getElem?_cons_zero, List.getElem?_cons_succ, go_sem, eqV, plen, loadV, storeV, whO, Wh.pay, assignV, emB])
  by_cases hz : w = {}
  · have hwb : whB w t = [0] := by unfold whB spB moB; rw [if_pos hz, if_pos hz]; simp
    rw [hwb]
    obtain ⟨ob1, hw1, hA1⟩ := app_t (H := [some ob, some (whO w), some nilB]) (o := 0) (m := [0]) (src := .ro 1 (.pb [0]) 0) rfl hw (.inl rfl) (by simp; omega)
    have hE := fun H xo yo => eqWh w {} H xo yo
    rw [decide_eq_true hz] at hE
    simp only [Wh.pay, Int.cast_ofNat_Int] at hE
    have hb0 := bdW0
    have hbs := fun H => bsK H 0 0 rfl
    have hg1 := hw1.g
    refine Tells.of (o := ⟨.ret, [(6, .sl 0 0 (l.length + 1) 1)], [some ob1, some (whO w), some nilB]⟩) ?_ ⟨rfl, ob1, 1, _, by simp [getF], rfl, hw1, by omega⟩
    apply Run.seq_out (hne := by simp)
    simp only [List.length_cons, List.length_nil, whO, Wh.pay] at hA1
    generalize hz0 : (AV.pc [.bool false, .int .i64 0, .int .i64 0, .int .i64 0, .int .i64 0, .int .i64 0, .int .i64 0, .int .i64 0]) = pz at *
    by_cases h11 : t = 11
    · subst h11
      apply Run.seq (fr' := [(0, .sl 0 0 l.length 0), (4, .ptr 1 0 0 0), (10, .bool true)]) (H' := [some ob, some (whO w), some nilB])
      · (refine ⟨0, ?_⟩; simp (maxSteps := 2000000) -implicitDefEqProofs [-getElem?_pos, List.getElem?_cons_zero, List.getElem?_cons_succ, go_sem, eqV, plen, loadV, storeV])
      refine condT (by simp [evalO, getF]) ?_
      apply Run.seq_out (hne := by simp)
      refine Run.block ?_ (by simp)
      refine ⟨0, ?_⟩
      simp (maxSteps := 2000000) -implicitDefEqProofs [-getElem?_pos, List.getElem?_cons_zero, List.getElem?_cons_succ, go_sem, eqV, plen, loadV, storeV, -eqV, whO, Wh.pay, mkWh, hb0, hE, hbs, hA1, upd, assignV]
    · have h11b : ((t : Int) == 11) = false := by simp; omega
      apply Run.seq (fr' := [(0, .sl 0 0 l.length 0), (4, .ptr 1 0 0 0), (10, .bool false)]) (H' := [some ob, some (whO w), some nilB])
      · (refine ⟨0, ?_⟩; simp (maxSteps := 2000000) -implicitDefEqProofs [-getElem?_pos, List.getElem?_cons_zero, List.getElem?_cons_succ, go_sem, eqV, plen, loadV, storeV, h11b])
      refine condF (by simp [evalO, getF]) ?_
      apply Run.seq
      · (refine ⟨0, ?_⟩; conv => lhs; simp (maxSteps := 2000000) -implicitDefEqProofs [-getElem?_pos, List.getElem?_cons_zero, List.getElem?_cons_succ, go_sem, eqV, plen, loadV, storeV])
      apply Run.seq_out (hne := by simp)
      refine Run.block ?_ (by simp)
      refine ⟨0, ?_⟩
      simp (maxSteps := 2000000) -implicitDefEqProofs [-getElem?_pos, List.getElem?_cons_zero, List.getElem?_cons_succ, go_sem, eqV, plen, loadV, storeV, -eqV, whO, Wh.pay, mkWh, hb0, hE, hbs, hA1, upd, assignV]
  · by_cases h11 : t = 11
    · subst h11
      have hwb : whB w 11 = ((if w.us = 0 then 8 else 12) :: (if w.neg then 1 else 0) :: leB 4 w.d.toNat) ++ clB w ++ usB w := by unfold whB spB; rw [if_pos rfl, if_neg hz]
      rw [hwb]
      refine Tells.andThen (pieceF (span_code l w tg ob hw hl hf hz) _ rfl) ?_
      rintro fr H ⟨ob', g', rfl, rfl, hw', hg'⟩
      have hle : (l ++ (((if w.us = 0 then 8 else 12) :: (if w.neg then 1 else 0) :: leB 4 w.d.toNat) ++ clB w)).length = l.length + 9 := by simp [leB_len, clB]
      have := pieceF (end_code l w tg _ g' [] ob' hw' hg' (by omega) ⟨hnn.2.2.2.2.2.2.2.2.2.2.2.2.1, hnn.2.2.2.2.2.2.2.2.2.2.2.2.2⟩) _ rfl
      rw [hle] at this
      exact this
    · have hwb : whB w t = moM w ++ usB w := by unfold whB moB moM; rw [if_neg h11, if_neg hz]
      rw [hwb]
      refine Tells.andThen (pieceF (moment_code l w tg t ob hw hl ht h11 hf hz) _ rfl) ?_
      rintro fr H ⟨ob', g', tl, rfl, rfl, hw', hg'⟩
      have hle : (l ++ moM w).length ≤ l.length + 8 := by
        unfold moM
        split <;> simp [leB_len, clB]
      exact pieceF (end_code l w tg _ g' tl ob' hw' hg' (by omega) ⟨hnn.2.2.2.2.2.2.2.2.2.2.2.2.1, hnn.2.2.2.2.2.2.2.2.2.2.2.2.2⟩) _ rfl

end

end Go.Proofs.YtafdnpcamepbmaaDoor

/- Walks: the check's choice. -/
namespace Go.Proofs.YtafdnpcamepbmaaDoor
open Go.AM
set_option linter.unusedSimpArgs false
set_option linter.unusedVariables false

set_option maxRecDepth 100000 in
set_option maxHeartbeats 4000000 in
theorem ck1 (v : Va) (t : Ty) (k : Int) (n : Nat) (hbd : -1 ≤ k ∧ k ≤ 7) (hk0 : ¬ k < 0) (hsz : k = 1 ∨ k = 2 ∨ k = 3 ∨ k = 4 → n = 1 ∨ n = 2 ∨ n = 4 ∨ n = 8) (hF : evT X 32 [.agg v.w.pay, .int .u8 (t.t : Nat)] [some (vaO v), some (tyO t)] = some (.bool (fin v.w t.t), [some (vaO v), some (tyO t)])) (k1 : v.k = 1) : ∃ code, ckO = some code ∧
    Tells (Goes (ckP v t k n)) X (evT X) 19 0 code (ckFr k (v.k == k) (8 * n)) [some (vaO v), some (tyO t)] := by
  refine ⟨_, rfl, ?_⟩
  unfold ckP okVk
  rw [if_pos k1]
  by_cases hk1 : k = 1
  case neg =>
    have hkb : ((1 : Int) == k) = false := by simp; omega
    rw [decide_eq_false hk1]
    refine Tells.of (o := ⟨.normal, [(6, .bool false)], [some (vaO v), some (tyO t)]⟩) ⟨0, ?_⟩ ⟨rfl, rfl, .inl rfl⟩
    generalize 8 * n = n8 at *
    simp (maxSteps := 2000000) -implicitDefEqProofs [-getElem?_pos, List.getElem?_cons_zero, List.getElem?_cons_succ, go_sem, eqV, plen, loadV, storeV, vaO, tyO, Va.pay, ckFr, k1, hkb]
  subst hk1
  have hEq := fun H xo yo => eqVa v { k := 1, i := v.i } H xo yo
  have hbi := bdVi 1 v.i
  generalize hpz : (({ k := 1, i := v.i } : Va).pay) = pz at *
  generalize decide (v = { k := 1, i := v.i }) = e at *
  simp only [Va.pay] at hEq
  rw [k1] at hEq
  cases e with
  | false =>
    refine Tells.of (o := ⟨.normal, [(6, .bool false)], [some (vaO v), some (tyO t)]⟩) ⟨0, ?_⟩ ⟨rfl, rfl, .inl (by simp)⟩
    generalize 8 * n = n8 at *
    simp (maxSteps := 2000000) -implicitDefEqProofs [-getElem?_pos, List.getElem?_cons_zero, List.getElem?_cons_succ, go_sem, eqV, plen, loadV, storeV, -eqV, vaO, tyO, Va.pay, ckFr, k1, mkVa, hbi, hEq]
  | true =>
  have hn := hsz (.inl rfl)
  unfold okI
  rcases hn with rfl | rfl | rfl | rfl
  · have hq := fdiv_q (i := v.i) (m := 7) _ rfl
    have e1 : (decide (8 ≤ 1) || decide (-(2 ^ (8 * 1 - 1)) ≤ v.i ∧ v.i < 2 ^ (8 * 1 - 1))) = ((v.i.fdiv 128 == 0) || (v.i.fdiv 128 == -1)) := by rw [show (128 : Int) = 2 ^ 7 from rfl, hq]; simp
    rw [e1]
    clear e1 hq
    generalize hq2 : v.i.fdiv 128 = q at *
    by_cases q0 : q = 0
    · refine Tells.of (o := ⟨.normal, [(6, .bool true)], [some (vaO v), some (tyO t)]⟩) ⟨0, ?_⟩ ⟨rfl, rfl, .inl (by simp [q0])⟩
      simp (maxSteps := 2000000) -implicitDefEqProofs [-getElem?_pos, List.getElem?_cons_zero, List.getElem?_cons_succ, go_sem, eqV, plen, loadV, storeV, -eqV, vaO, tyO, Va.pay, ckFr, k1, mkVa, hbi, hEq, hq2, q0, minmax, show IntKind.i64.bits = 64 from rfl, show IntKind.i64.wrap 7 = 7 from rfl, show IntKind.i64.wrap 15 = 15 from rfl, show IntKind.i64.wrap 31 = 31 from rfl, show IntKind.i64.wrap 63 = 63 from rfl]
    have q0b : (q == 0) = false := by simpa using q0
    by_cases q1 : q = -1
    · refine Tells.of (o := ⟨.normal, [(6, .bool true)], [some (vaO v), some (tyO t)]⟩) ⟨0, ?_⟩ ⟨rfl, rfl, .inl (by simp [q1])⟩
      simp (maxSteps := 2000000) -implicitDefEqProofs [-getElem?_pos, List.getElem?_cons_zero, List.getElem?_cons_succ, go_sem, eqV, plen, loadV, storeV, -eqV, vaO, tyO, Va.pay, ckFr, k1, mkVa, hbi, hEq, hq2, q1, minmax, show IntKind.i64.bits = 64 from rfl, show IntKind.i64.wrap 7 = 7 from rfl, show IntKind.i64.wrap 15 = 15 from rfl, show IntKind.i64.wrap 31 = 31 from rfl, show IntKind.i64.wrap 63 = 63 from rfl]
    have q1b : (q == -1) = false := by simpa using q1
    refine Tells.of (o := ⟨.normal, [(6, .bool false)], [some (vaO v), some (tyO t)]⟩) ⟨0, ?_⟩ ⟨rfl, rfl, .inl (by simp [q0, q1])⟩
    simp (maxSteps := 2000000) -implicitDefEqProofs [-getElem?_pos, List.getElem?_cons_zero, List.getElem?_cons_succ, go_sem, eqV, plen, loadV, storeV, -eqV, vaO, tyO, Va.pay, ckFr, k1, mkVa, hbi, hEq, hq2, q0b, q1b, minmax, show IntKind.i64.bits = 64 from rfl, show IntKind.i64.wrap 7 = 7 from rfl, show IntKind.i64.wrap 15 = 15 from rfl, show IntKind.i64.wrap 31 = 31 from rfl, show IntKind.i64.wrap 63 = 63 from rfl]
  · have hq := fdiv_q (i := v.i) (m := 15) _ rfl
    have e1 : (decide (8 ≤ 2) || decide (-(2 ^ (8 * 2 - 1)) ≤ v.i ∧ v.i < 2 ^ (8 * 2 - 1))) = ((v.i.fdiv 32768 == 0) || (v.i.fdiv 32768 == -1)) := by rw [show (32768 : Int) = 2 ^ 15 from rfl, hq]; simp
    rw [e1]
    clear e1 hq
    generalize hq2 : v.i.fdiv 32768 = q at *
    by_cases q0 : q = 0
    · refine Tells.of (o := ⟨.normal, [(6, .bool true)], [some (vaO v), some (tyO t)]⟩) ⟨0, ?_⟩ ⟨rfl, rfl, .inl (by simp [q0])⟩
      simp (maxSteps := 2000000) -implicitDefEqProofs [-getElem?_pos, List.getElem?_cons_zero, List.getElem?_cons_succ, go_sem, eqV, plen, loadV, storeV, -eqV, vaO, tyO, Va.pay, ckFr, k1, mkVa, hbi, hEq, hq2, q0, minmax, show IntKind.i64.bits = 64 from rfl, show IntKind.i64.wrap 7 = 7 from rfl, show IntKind.i64.wrap 15 = 15 from rfl, show IntKind.i64.wrap 31 = 31 from rfl, show IntKind.i64.wrap 63 = 63 from rfl]
    have q0b : (q == 0) = false := by simpa using q0
    by_cases q1 : q = -1
    · refine Tells.of (o := ⟨.normal, [(6, .bool true)], [some (vaO v), some (tyO t)]⟩) ⟨0, ?_⟩ ⟨rfl, rfl, .inl (by simp [q1])⟩
      simp (maxSteps := 2000000) -implicitDefEqProofs [-getElem?_pos, List.getElem?_cons_zero, List.getElem?_cons_succ, go_sem, eqV, plen, loadV, storeV, -eqV, vaO, tyO, Va.pay, ckFr, k1, mkVa, hbi, hEq, hq2, q1, minmax, show IntKind.i64.bits = 64 from rfl, show IntKind.i64.wrap 7 = 7 from rfl, show IntKind.i64.wrap 15 = 15 from rfl, show IntKind.i64.wrap 31 = 31 from rfl, show IntKind.i64.wrap 63 = 63 from rfl]
    have q1b : (q == -1) = false := by simpa using q1
    refine Tells.of (o := ⟨.normal, [(6, .bool false)], [some (vaO v), some (tyO t)]⟩) ⟨0, ?_⟩ ⟨rfl, rfl, .inl (by simp [q0, q1])⟩
    simp (maxSteps := 2000000) -implicitDefEqProofs [-getElem?_pos, List.getElem?_cons_zero, List.getElem?_cons_succ, go_sem, eqV, plen, loadV, storeV, -eqV, vaO, tyO, Va.pay, ckFr, k1, mkVa, hbi, hEq, hq2, q0b, q1b, minmax, show IntKind.i64.bits = 64 from rfl, show IntKind.i64.wrap 7 = 7 from rfl, show IntKind.i64.wrap 15 = 15 from rfl, show IntKind.i64.wrap 31 = 31 from rfl, show IntKind.i64.wrap 63 = 63 from rfl]
  · have hq := fdiv_q (i := v.i) (m := 31) _ rfl
    have e1 : (decide (8 ≤ 4) || decide (-(2 ^ (8 * 4 - 1)) ≤ v.i ∧ v.i < 2 ^ (8 * 4 - 1))) = ((v.i.fdiv 2147483648 == 0) || (v.i.fdiv 2147483648 == -1)) := by rw [show (2147483648 : Int) = 2 ^ 31 from rfl, hq]; simp
    rw [e1]
    clear e1 hq
    generalize hq2 : v.i.fdiv 2147483648 = q at *
    by_cases q0 : q = 0
    · refine Tells.of (o := ⟨.normal, [(6, .bool true)], [some (vaO v), some (tyO t)]⟩) ⟨0, ?_⟩ ⟨rfl, rfl, .inl (by simp [q0])⟩
      simp (maxSteps := 2000000) -implicitDefEqProofs [-getElem?_pos, List.getElem?_cons_zero, List.getElem?_cons_succ, go_sem, eqV, plen, loadV, storeV, -eqV, vaO, tyO, Va.pay, ckFr, k1, mkVa, hbi, hEq, hq2, q0, minmax, show IntKind.i64.bits = 64 from rfl, show IntKind.i64.wrap 7 = 7 from rfl, show IntKind.i64.wrap 15 = 15 from rfl, show IntKind.i64.wrap 31 = 31 from rfl, show IntKind.i64.wrap 63 = 63 from rfl]
    have q0b : (q == 0) = false := by simpa using q0
    by_cases q1 : q = -1
    · refine Tells.of (o := ⟨.normal, [(6, .bool true)], [some (vaO v), some (tyO t)]⟩) ⟨0, ?_⟩ ⟨rfl, rfl, .inl (by simp [q1])⟩
      simp (maxSteps := 2000000) -implicitDefEqProofs [-getElem?_pos, List.getElem?_cons_zero, List.getElem?_cons_succ, go_sem, eqV, plen, loadV, storeV, -eqV, vaO, tyO, Va.pay, ckFr, k1, mkVa, hbi, hEq, hq2, q1, minmax, show IntKind.i64.bits = 64 from rfl, show IntKind.i64.wrap 7 = 7 from rfl, show IntKind.i64.wrap 15 = 15 from rfl, show IntKind.i64.wrap 31 = 31 from rfl, show IntKind.i64.wrap 63 = 63 from rfl]
    have q1b : (q == -1) = false := by simpa using q1
    refine Tells.of (o := ⟨.normal, [(6, .bool false)], [some (vaO v), some (tyO t)]⟩) ⟨0, ?_⟩ ⟨rfl, rfl, .inl (by simp [q0, q1])⟩
    simp (maxSteps := 2000000) -implicitDefEqProofs [-getElem?_pos, List.getElem?_cons_zero, List.getElem?_cons_succ, go_sem, eqV, plen, loadV, storeV, -eqV, vaO, tyO, Va.pay, ckFr, k1, mkVa, hbi, hEq, hq2, q0b, q1b, minmax, show IntKind.i64.bits = 64 from rfl, show IntKind.i64.wrap 7 = 7 from rfl, show IntKind.i64.wrap 15 = 15 from rfl, show IntKind.i64.wrap 31 = 31 from rfl, show IntKind.i64.wrap 63 = 63 from rfl]
  · have e1 : (decide (8 ≤ 8) || decide (-(2 ^ (8 * 8 - 1)) ≤ v.i ∧ v.i < 2 ^ (8 * 8 - 1))) = true := by simp
    rw [e1]
    refine Tells.of (o := ⟨.normal, [(6, .bool true)], [some (vaO v), some (tyO t)]⟩) ⟨0, ?_⟩ ⟨rfl, rfl, .inl (by simp)⟩
    simp (maxSteps := 2000000) -implicitDefEqProofs [-getElem?_pos, List.getElem?_cons_zero, List.getElem?_cons_succ, go_sem, eqV, plen, loadV, storeV, -eqV, vaO, tyO, Va.pay, ckFr, k1, mkVa, hbi, hEq, minmax, show IntKind.i64.bits = 64 from rfl, show IntKind.i64.wrap 7 = 7 from rfl, show IntKind.i64.wrap 15 = 15 from rfl, show IntKind.i64.wrap 31 = 31 from rfl, show IntKind.i64.wrap 63 = 63 from rfl]

end Go.Proofs.YtafdnpcamepbmaaDoor
