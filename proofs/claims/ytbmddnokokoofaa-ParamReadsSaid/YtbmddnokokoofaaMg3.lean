/- VJ to VM: texts of this claim, one behind the other; what each shows stands at its head. -/
import Derived.Test.YtbmddnokokoofaaAm3
import Derived.Test.YtbmddnokokoofaaMg2
/- Walks: a moment, or a span, read: whole. -/
namespace Go.Proofs.Ytbmddnokokoofaa
open Go.AM
set_option linter.unusedSimpArgs false
set_option linter.unusedVariables false

theorem cW_len {b : List UInt8} (h : (b.headD 0).toNat ≤ 12) (hb : 1 + (b.headD 0).toNat ≤ b.length) : (cW b).length = 13 := by
  unfold cW
  simp only [List.length_append, List.length_take, List.length_drop, List.length_replicate]
  omega

theorem knW_le {n t : Nat} (h : knW n t = true) : n ≤ 12 := by
  unfold knW szL at h
  split at h
  · simp at h; omega
  · simp at h; omega

set_option maxRecDepth 100000 in
set_option maxHeartbeats 4000000 in
theorem rw_dy (n : Nat) (y : UInt8) (ys : List UInt8) (ng : Bool) (z1 z5 z6 z7 z8 : Int) (hye : ((y.toNat : Int) == 1) = ng)
    (n1 : ∀ H0 H1 : Option AM.Obj, evT X 56 [.int .i64 1, .int .i64 4, .ptr 3 0 0 0] [H0, H1, some ⟨.pb (y :: ys), 0, some 13, 1, true, false, 0⟩, some (svO 2 13 0)] = some (.int .i64 z1, [H0, H1, some ⟨.pb (y :: ys), 0, some 13, 1, true, false, 0⟩, some (svO 2 13 0)]))
    (n5 : ∀ H0 H1 : Option AM.Obj, evT X 56 [.int .i64 5, .int .i64 1, .ptr 3 0 0 0] [H0, H1, some ⟨.pb (y :: ys), 0, some 13, 1, true, false, 0⟩, some (svO 2 13 0)] = some (.int .i64 z5, [H0, H1, some ⟨.pb (y :: ys), 0, some 13, 1, true, false, 0⟩, some (svO 2 13 0)]))
    (n6 : ∀ H0 H1 : Option AM.Obj, evT X 56 [.int .i64 6, .int .i64 1, .ptr 3 0 0 0] [H0, H1, some ⟨.pb (y :: ys), 0, some 13, 1, true, false, 0⟩, some (svO 2 13 0)] = some (.int .i64 z6, [H0, H1, some ⟨.pb (y :: ys), 0, some 13, 1, true, false, 0⟩, some (svO 2 13 0)]))
    (n7 : ∀ H0 H1 : Option AM.Obj, evT X 56 [.int .i64 7, .int .i64 1, .ptr 3 0 0 0] [H0, H1, some ⟨.pb (y :: ys), 0, some 13, 1, true, false, 0⟩, some (svO 2 13 0)] = some (.int .i64 z7, [H0, H1, some ⟨.pb (y :: ys), 0, some 13, 1, true, false, 0⟩, some (svO 2 13 0)]))
    (n8 : ∀ H0 H1 : Option AM.Obj, evT X 56 [.int .i64 8, .int .i64 4, .ptr 3 0 0 0] [H0, H1, some ⟨.pb (y :: ys), 0, some 13, 1, true, false, 0⟩, some (svO 2 13 0)] = some (.int .i64 z8, [H0, H1, some ⟨.pb (y :: ys), 0, some 13, 1, true, false, 0⟩, some (svO 2 13 0)])) :
    ∃ code, ((Try.f43.body).bind (codeAt [1, 1, 1, 1, 1, 1, 1, 1, 1, 1, 1, 1, 1, 0, 1, 0, 1])) = some code ∧ Run X (evT X) 43 0 code [(1, .int .u8 11), (4, .ptr 0 0 0 0), (7, .ptr 1 0 0 0), (8, .int .i64 (n : Nat)), (13, .ptr 3 0 0 0), (14, .fn 56 [.ptr 3 0 0 0]), (62, .bool false)] [some (whO {}), some (whO {}), some ⟨.pb (y :: ys), 0, some 13, 1, true, false, 0⟩, some (svO 2 13 0)]
      ⟨.normal, [(1, .int .u8 11), (4, .ptr 0 0 0 0), (7, .ptr 1 0 0 0), (8, .int .i64 (n : Nat))], [some (whO {}), some (whO { neg := ng, d := z1, h := z5, mi := z6, s := z7, us := z8 }), some ⟨.pb (y :: ys), 0, some 13, 1, true, false, 0⟩, some (svO 2 13 0)]⟩ := by
  refine ⟨_, rfl, ?_⟩
  have hbd := fun a x3 x4 x5 x6 x7 => bdSp a x3 x4 x5 x6 x7
  have hre : ∀ H0 H1 : Option AM.Obj, reach [H0, H1, some ⟨.pb (y :: ys), 0, some 13, 1, true, false, 0⟩, some (svO 2 13 0)] reachFuel [3] [] = [3, 2] := fun H0 H1 => reach_fn2 (o1 := 3) (o2 := 2) rfl rfl rfl rfl rfl (by decide)
  simp only [svO] at hre n1 n5 n6 n7 n8
  apply Run.dy (by simp) keep43_24 (by simp)
  · (conv => lhs; simp (maxSteps := 2000000) -implicitDefEqProofs [-getElem?_pos, List.getElem?_cons_zero, List.getElem?_cons_succ, go_sem, eqV, plen, loadV, storeV, runD, out1, markOf, freeO, quietO, pushes, isAssign, calledV, touched, mentioned, opVals, touchCall, mentionCall, idsAt, Op.operands, ids, idsL, lendArgs, lendV, lend1, lendL, eqH_self, svO, whO, Wh.pay, hye, n1, n5, n6, n7, n8, hbd, hre, flatCells, splice, scalars, upd])
    rfl
  · kernel_rfl
  · rfl

section
variable (c : Nat) (b : List UInt8) (t : Nat)

set_option maxRecDepth 100000 in
set_option maxHeartbeats 4000000 in
theorem rw_end (hc : c = 0 → b = []) (ht : t < 256) (hb0 : b.length ≠ 0) (hk : knW (b.headD 0).toNat t = true) (hb : ¬ b.length < 1 + (b.headD 0).toNat) (hbm : b.length ≤ 90000000) :
    ∃ code, ((Try.f43.body).bind (codeAt [1, 1, 1, 1, 1, 1, 1, 1, 1, 1])) = some code ∧
    Tells (Rets fun fr H => getF fr 4 = .ptr 0 0 0 0 ∧ H[0]? = some (some (whO (rdW b t).1)) ∧ getF fr 5 = .int .i64 ((rdW b t).2.1 : Nat) ∧ getF fr 6 = .int .i64 (rdW b t).2.2) X (evT X) 43 0 code
      [(0, .ro c (.pb b) 1), (1, .int .u8 (t : Nat)), (4, .ptr 0 0 0 0), (7, .ptr 1 0 0 0), (8, .int .i64 ((b.headD 0).toNat : Nat)), (47, .bool false)] [some (whO {}), some (whO {})] := by
  refine ⟨_, rfl, ?_⟩
  have hr : rdW b t = if t = 11 then (if 1 < ((cW b).headD 0).toNat then ({}, 0, 5) else if fin (spW (cW b)) t = false then ({}, 0, 5) else (spW (cW b), 1 + (b.headD 0).toNat, 0))
      else if fin (moW (cW b)) t = false then ({}, 0, 5) else (moW (cW b), 1 + (b.headD 0).toNat, 0) := by
    unfold rdW
    rw [if_neg hb0, if_neg (by rw [hk]; simp), if_neg hb]
  generalize rdW b t = R at *
  have hn12 := knW_le hk
  have hcl := cW_len hn12 (by omega)
  have hcw : cW b = ((b.drop 1).take (b.headD 0).toNat) ++ List.replicate (13 - (b.headD 0).toNat) 0 := rfl
  have hM : makeSliceV X [some (whO {}), some (whO {})] 22 (.int .i64 13) (.int .i64 13) = some (.sl 2 0 13 0, [some (whO {}), some (whO {})] ++ [some ⟨.pb (List.replicate 13 0), 0, some 13, 1, true, false, 0⟩]) := mkB (n := 13) (by omega) _
  have hzl : (List.replicate 13 (0 : UInt8)).length = 13 := List.length_replicate
  have hzd : ∀ k, (List.replicate 13 (0 : UInt8)).drop k = List.replicate (13 - k) 0 := fun k => List.drop_replicate
  generalize List.replicate 13 (0 : UInt8) = zr at *
  have hsl := fun H => slMid1 (t := 1) hc (n := (b.headD 0).toNat) (by omega) H
  have htl : ((b.drop 1).take (b.headD 0).toNat).length = (b.headD 0).toNat := by rw [List.length_take, List.length_drop]; omega
  generalize (b.drop 1).take (b.headD 0).toNat = l at *
  generalize hn : (b.headD 0).toNat = n at *
  generalize hcb : cW b = cb at *
  apply Tells.seq (fr' := [(0, .ro c (.pb b) 1), (1, .int .u8 (t : Nat)), (4, .ptr 0 0 0 0), (7, .ptr 1 0 0 0), (8, .int .i64 (n : Nat)), (13, .ptr 3 0 0 0)]) (H' := [some (whO {}), some (whO {}), some ⟨.pb zr, 0, some 13, 1, true, false, 0⟩, some (svO 2 13 0)])
  · simp only [whO, Wh.pay, List.length_cons, List.length_nil, List.cons_append, List.nil_append] at hM
    (refine ⟨0, ?_⟩; simp (maxSteps := 2000000) -implicitDefEqProofs [-getElem?_pos, List.getElem?_cons_zero, List.getElem?_cons_succ, go_sem, eqV, plen, loadV, storeV, whO, Wh.pay, hM, svO])
  have hcp := cpN (H := [some (whO {}), some (whO {}), some ⟨.pb zr, 0, some 13, 1, true, false, 0⟩, some (svO 2 13 0)]) (ob := ⟨.pb zr, 0, some 13, 1, true, false, 0⟩) (m := zr) (l := l) (c := if c = 0 then 0 else 2) (t := 1) rfl rfl rfl rfl hzl (by omega)
  have hdr : l ++ zr.drop l.length = cb := by rw [hcw, htl, hzd]
  rw [hdr] at hcp
  have w1 : IntKind.i64.wrap (1 + (n : Int)) = ((1 + n : Nat) : Int) := by rw [wrap_i64 (by omega) (by omega)]; omega
  apply Tells.seq (fr' := [(1, .int .u8 (t : Nat)), (4, .ptr 0 0 0 0), (7, .ptr 1 0 0 0), (8, .int .i64 (n : Nat)), (13, .ptr 3 0 0 0)]) (H' := [some (whO {}), some (whO {}), some ⟨.pb cb, 0, some 13, 1, true, false, 0⟩, some (svO 2 13 0)])
  · generalize 1 + n = n1 at *
    simp only [whO, Wh.pay, svO, upd, List.set] at hcp
    (refine ⟨0, ?_⟩; simp (maxSteps := 2000000) -implicitDefEqProofs [-getElem?_pos, List.getElem?_cons_zero, List.getElem?_cons_succ, go_sem, eqV, plen, loadV, storeV, whO, Wh.pay, svO, w1, hsl, hcp])
  clear hcp hsl hM hdr
  apply Tells.seq (fr' := [(1, .int .u8 (t : Nat)), (4, .ptr 0 0 0 0), (7, .ptr 1 0 0 0), (8, .int .i64 (n : Nat)), (13, .ptr 3 0 0 0), (14, .fn 56 [.ptr 3 0 0 0])]) (H' := [some (whO {}), some (whO {}), some ⟨.pb cb, 0, some 13, 1, true, false, 0⟩, some (svO 2 13 0)])
  · (refine ⟨0, ?_⟩; simp (maxSteps := 2000000) -implicitDefEqProofs [-getElem?_pos, List.getElem?_cons_zero, List.getElem?_cons_succ, go_sem, eqV, plen, loadV, storeV, scalars])
  have hN : ∀ (H0 H1 : Option AM.Obj) (i k : Nat) (I K : Int), I = (i : Nat) → K = (k : Nat) → i + k ≤ 13 → 1 ≤ k → k ≤ 4 → evT X 56 [.int .i64 I, .int .i64 K, .ptr 3 0 0 0] [H0, H1, some ⟨.pb cb, 0, some 13, 1, true, false, 0⟩, some (svO 2 13 0)] = some (.int .i64 (nb cb i k : Nat), [H0, H1, some ⟨.pb cb, 0, some 13, 1, true, false, 0⟩, some (svO 2 13 0)]) :=
    fun H0 H1 i k I K hI hK h1 h2 h3 => number_ev (H := [H0, H1, some ⟨.pb cb, 0, some 13, 1, true, false, 0⟩, some (svO 2 13 0)]) (o1 := 3) (o2 := 2) (g2 := 0) hI hK hcl h1 h2 h3 rfl rfl rfl rfl rfl rfl rfl rfl rfl rfl (by decide)
  have hF := fun w H => fin_ev w ht H
  apply Tells.or (P := fun fr H => ∃ w : Wh, fr = [(1, .int .u8 (t : Nat)), (4, .ptr 0 0 0 0), (7, .ptr 1 0 0 0), (8, .int .i64 (n : Nat))] ∧ H = [some (whO {}), some (whO w), some ⟨.pb cb, 0, some 13, 1, true, false, 0⟩, some (svO 2 13 0)] ∧ (if t = 11 then ¬ 1 < (cb.headD 0).toNat ∧ w = spW cb else w = moW cb))
  · by_cases h11 : t = 11
    · subst h11
      apply Tells.seq (fr' := [(1, .int .u8 11), (4, .ptr 0 0 0 0), (7, .ptr 1 0 0 0), (8, .int .i64 (n : Nat)), (13, .ptr 3 0 0 0), (14, .fn 56 [.ptr 3 0 0 0]), (58, .bool true)]) (H' := [some (whO {}), some (whO {}), some ⟨.pb cb, 0, some 13, 1, true, false, 0⟩, some (svO 2 13 0)])
      · (refine ⟨0, ?_⟩; simp (maxSteps := 2000000) -implicitDefEqProofs [-getElem?_pos, List.getElem?_cons_zero, List.getElem?_cons_succ, go_sem, eqV, plen, loadV, storeV])
      apply Tells.condT (by simp [evalO, getF])
      obtain ⟨y, ys, rfl⟩ : ∃ y ys, cb = y :: ys := by
        cases cb with
        | nil => simp at hcl
        | cons y ys => exact ⟨y, ys, rfl⟩
      apply Tells.assoc
      by_cases hy : 1 < y.toNat
      · refine Tells.of (o := ⟨.ret, [(4, .ptr 0 0 0 0), (5, .int .i64 0), (6, .int .i64 5)], [some (whO {}), some (whO {}), some ⟨.pb (y :: ys), 0, some 13, 1, true, false, 0⟩, some (svO 2 13 0)]⟩) ⟨0, ?_⟩ (.inr ⟨by simp, rfl, rfl, ?_, ?_, ?_⟩)
        · have hyi : (1 : Int) < (y.toNat : Int) := by omega
          simp (maxSteps := 2000000) -implicitDefEqProofs [-getElem?_pos, List.getElem?_cons_zero, List.getElem?_cons_succ, go_sem, eqV, plen, loadV, storeV, whO, Wh.pay, mkWh, svO, hyi, flatCells, splice, scalars]
        · rw [hr, if_pos rfl, if_pos (show 1 < ((y :: ys).headD 0).toNat from hy)]; rfl
        · rw [hr, if_pos rfl, if_pos (show 1 < ((y :: ys).headD 0).toNat from hy)]; rfl
        · rw [hr, if_pos rfl, if_pos (show 1 < ((y :: ys).headD 0).toNat from hy)]; rfl
      · have hyi : ¬ (1 : Int) < (y.toNat : Int) := by omega
        apply Tells.seq (fr' := [(1, .int .u8 11), (4, .ptr 0 0 0 0), (7, .ptr 1 0 0 0), (8, .int .i64 (n : Nat)), (13, .ptr 3 0 0 0), (14, .fn 56 [.ptr 3 0 0 0]), (62, .bool false)]) (H' := [some (whO {}), some (whO {}), some ⟨.pb (y :: ys), 0, some 13, 1, true, false, 0⟩, some (svO 2 13 0)])
        · (refine ⟨0, ?_⟩; simp (maxSteps := 2000000) -implicitDefEqProofs [-getElem?_pos, List.getElem?_cons_zero, List.getElem?_cons_succ, go_sem, eqV, plen, loadV, storeV, svO, hyi])
        apply Tells.seq (fr' := [(1, .int .u8 11), (4, .ptr 0 0 0 0), (7, .ptr 1 0 0 0), (8, .int .i64 (n : Nat)), (13, .ptr 3 0 0 0), (14, .fn 56 [.ptr 3 0 0 0]), (62, .bool false)]) (H' := [some (whO {}), some (whO {}), some ⟨.pb (y :: ys), 0, some 13, 1, true, false, 0⟩, some (svO 2 13 0)])
        · exact condF (by simp [evalO, getF]) ⟨0, rfl⟩
        refine Tells.of (o := ⟨.normal, [(1, .int .u8 11), (4, .ptr 0 0 0 0), (7, .ptr 1 0 0 0), (8, .int .i64 (n : Nat))], [some (whO {}), some (whO (spW (y :: ys))), some ⟨.pb (y :: ys), 0, some 13, 1, true, false, 0⟩, some (svO 2 13 0)]⟩) ?_ (.inl ⟨rfl, _, rfl, rfl, by rw [if_pos rfl]; exact ⟨show ¬ 1 < y.toNat by omega, rfl⟩⟩)
        have n1 := fun H0 H1 => hN H0 H1 1 4 1 4 rfl rfl (by omega) (by omega) (by omega)
        have n5 := fun H0 H1 => hN H0 H1 5 1 5 1 rfl rfl (by omega) (by omega) (by omega)
        have n6 := fun H0 H1 => hN H0 H1 6 1 6 1 rfl rfl (by omega) (by omega) (by omega)
        have n7 := fun H0 H1 => hN H0 H1 7 1 7 1 rfl rfl (by omega) (by omega) (by omega)
        have n8 := fun H0 H1 => hN H0 H1 8 4 8 4 rfl rfl (by omega) (by omega) (by omega)
        have hye : ((y.toNat : Int) == 1) = (y.toNat == 1) := by
          by_cases h : y.toNat = 1
          · rw [h]; rfl
          · have : (y.toNat == 1) = false := by simpa using h
            rw [this]; exact beq_eq_false_iff_ne.2 (by omega)
        exact piece (rw_dy n y ys _ _ _ _ _ _ hye n1 n5 n6 n7 n8) _ rfl
    · have h11b : ((t : Int) == 11) = false := beq_eq_false_iff_ne.2 (by omega)
      apply Tells.seq (fr' := [(1, .int .u8 (t : Nat)), (4, .ptr 0 0 0 0), (7, .ptr 1 0 0 0), (8, .int .i64 (n : Nat)), (13, .ptr 3 0 0 0), (14, .fn 56 [.ptr 3 0 0 0]), (58, .bool false)]) (H' := [some (whO {}), some (whO {}), some ⟨.pb cb, 0, some 13, 1, true, false, 0⟩, some (svO 2 13 0)])
      · (refine ⟨0, ?_⟩; simp (maxSteps := 2000000) -implicitDefEqProofs [-getElem?_pos, List.getElem?_cons_zero, List.getElem?_cons_succ, go_sem, eqV, plen, loadV, storeV, h11b])
      apply Tells.condF (by simp [evalO, getF])
      refine Tells.of (o := ⟨.normal, [(1, .int .u8 (t : Nat)), (4, .ptr 0 0 0 0), (7, .ptr 1 0 0 0), (8, .int .i64 (n : Nat))], [some (whO {}), some (whO (moW cb)), some ⟨.pb cb, 0, some 13, 1, true, false, 0⟩, some (svO 2 13 0)]⟩) ⟨0, ?_⟩ (.inl ⟨rfl, _, rfl, rfl, by rw [if_neg h11]⟩)
      have n0 := fun H0 H1 => hN H0 H1 0 2 0 2 rfl rfl (by omega) (by omega) (by omega)
      have n2 := fun H0 H1 => hN H0 H1 2 1 2 1 rfl rfl (by omega) (by omega) (by omega)
      have n3 := fun H0 H1 => hN H0 H1 3 1 3 1 rfl rfl (by omega) (by omega) (by omega)
      have n4 := fun H0 H1 => hN H0 H1 4 1 4 1 rfl rfl (by omega) (by omega) (by omega)
      have n5 := fun H0 H1 => hN H0 H1 5 1 5 1 rfl rfl (by omega) (by omega) (by omega)
      have n6 := fun H0 H1 => hN H0 H1 6 1 6 1 rfl rfl (by omega) (by omega) (by omega)
      have n7 := fun H0 H1 => hN H0 H1 7 4 7 4 rfl rfl (by omega) (by omega) (by omega)
      have hbd := fun x1 x2 x3 x4 x5 x6 x7 => bdMo x1 x2 x3 x4 x5 x6 x7
      unfold moW
      generalize nb cb 0 2 = z0 at *
      generalize nb cb 2 1 = z2 at *
      generalize nb cb 3 1 = z3 at *
      generalize nb cb 4 1 = z4 at *
      generalize nb cb 5 1 = z5 at *
      generalize nb cb 6 1 = z6 at *
      generalize nb cb 7 4 = z7 at *
      simp only [svO] at n0 n2 n3 n4 n5 n6 n7
      simp (maxSteps := 2000000) -implicitDefEqProofs [-getElem?_pos, List.getElem?_cons_zero, List.getElem?_cons_succ, go_sem, eqV, plen, loadV, storeV, svO, whO, Wh.pay, n0, n2, n3, n4, n5, n6, n7, hbd, flatCells, splice, scalars]
  rintro fr H ⟨w, rfl, rfl, hw⟩
  have hres : R = if fin w t = false then ({}, 0, 5) else (w, 1 + n, 0) := by
    rw [hr]
    by_cases h11 : t = 11
    · rw [if_pos h11] at hw ⊢
      rw [if_neg hw.1, hw.2]
    · rw [if_neg h11] at hw ⊢
      rw [hw]
  rw [hres]
  have hFw := hF w [some (whO {}), some (whO w), some ⟨.pb cb, 0, some 13, 1, true, false, 0⟩, some (svO 2 13 0)]
  have hbd0 := bdW0
  apply Tells.assoc
  cases hf : fin w t with
  | false =>
    rw [hf] at hFw
    refine Tells.of (o := ⟨.ret, [(4, .ptr 0 0 0 0), (5, .int .i64 0), (6, .int .i64 5)], [some (whO {}), some (whO w), some ⟨.pb cb, 0, some 13, 1, true, false, 0⟩, some (svO 2 13 0)]⟩) ⟨0, ?_⟩ ⟨rfl, rfl, by rw [if_pos rfl]; rfl, by rw [if_pos rfl]; rfl, by rw [if_pos rfl]; rfl⟩
    simp only [whO, Wh.pay] at hFw
    simp (maxSteps := 2000000) -implicitDefEqProofs [-getElem?_pos, List.getElem?_cons_zero, List.getElem?_cons_succ, go_sem, eqV, plen, loadV, storeV, whO, Wh.pay, mkWh, hFw, hbd0, flatCells, splice, scalars]
  | true =>
    rw [hf] at hFw
    refine Tells.of (o := ⟨.ret, [(4, .ptr 0 0 0 0), (5, .int .i64 ((1 + n : Nat) : Int)), (6, .int .i64 0)], [some (whO w), some (whO w), some ⟨.pb cb, 0, some 13, 1, true, false, 0⟩, some (svO 2 13 0)]⟩) ⟨0, ?_⟩ ⟨rfl, rfl, by rw [if_neg (by simp)]; rfl, by rw [if_neg (by simp)]; rfl, by rw [if_neg (by simp)]; rfl⟩
    simp only [whO, Wh.pay] at hFw
    generalize 1 + n = n1 at *
    simp (maxSteps := 2000000) -implicitDefEqProofs [-getElem?_pos, List.getElem?_cons_zero, List.getElem?_cons_succ, go_sem, eqV, plen, loadV, storeV, whO, Wh.pay, mkWh, hFw, w1, flatCells, splice, scalars]

end

end Go.Proofs.Ytbmddnokokoofaa

/- Walks: a moment, or a span, read: whole; a value read. -/
namespace Go.Proofs.Ytbmddnokokoofaa
open Go.AM
set_option linter.unusedSimpArgs false
set_option linter.unusedVariables false

theorem bsL4 (H : AM.Heap) : buildSliceV X H 86 4 [(0, .int .i64 0), (1, .int .i64 4), (2, .int .i64 7), (3, .int .i64 11)] = some (.ro 1 (.pi .i64 [0, 4, 7, 11]) 0, H) := by kernel_rfl
theorem bsL3 (H : AM.Heap) : buildSliceV X H 86 3 [(0, .int .i64 0), (1, .int .i64 8), (2, .int .i64 12)] = some (.ro 1 (.pi .i64 [0, 8, 12]) 0, H) := by kernel_rfl

section
variable (c : Nat) (b : List UInt8) (t : Nat)

set_option maxRecDepth 100000 in
set_option maxHeartbeats 4000000 in
theorem rw_code (hc : c = 0 → b = []) (ht : t < 256) (hbm : b.length ≤ 90000000) :
    ∃ code, Try.f43.body = some code ∧
    Tells (Rets fun fr H => getF fr 4 = .ptr 0 0 0 0 ∧ H[0]? = some (some (whO (rdW b t).1)) ∧ getF fr 5 = .int .i64 ((rdW b t).2.1 : Nat) ∧ getF fr 6 = .int .i64 (rdW b t).2.2) X (evT X) 43 0 code
      [(0, .ro c (.pb b) 1), (1, .int .u8 (t : Nat))] [] := by
  refine ⟨_, rfl, ?_⟩
  apply Tells.seq (fr' := [(0, .ro c (.pb b) 1), (1, .int .u8 (t : Nat)), (4, .ptr 0 0 0 0)]) (H' := [some (whO {})])
  · (refine ⟨0, ?_⟩; simp (maxSteps := 2000000) -implicitDefEqProofs [-getElem?_pos, List.getElem?_cons_zero, List.getElem?_cons_succ, go_sem, eqV, plen, loadV, storeV, whO, Wh.pay])
  apply Tells.seq (fr' := [(0, .ro c (.pb b) 1), (1, .int .u8 (t : Nat)), (4, .ptr 0 0 0 0), (7, .ptr 1 0 0 0)]) (H' := [some (whO {}), some (whO {})])
  · (refine ⟨0, ?_⟩; simp (maxSteps := 2000000) -implicitDefEqProofs [-getElem?_pos, List.getElem?_cons_zero, List.getElem?_cons_succ, go_sem, eqV, plen, loadV, storeV, whO, Wh.pay])
  apply Tells.assoc
  by_cases hb0 : b.length = 0
  · have hr : rdW b t = ({}, 0, 4) := if_pos hb0
    rw [hr]
    refine Tells.of (o := ⟨.ret, [(4, .ptr 0 0 0 0), (5, .int .i64 0), (6, .int .i64 4)], [some (whO {}), some (whO {})]⟩) ⟨0, ?_⟩ ⟨rfl, rfl, rfl, rfl, rfl⟩
    simp (maxSteps := 2000000) -implicitDefEqProofs [-getElem?_pos, List.getElem?_cons_zero, List.getElem?_cons_succ, go_sem, eqV, plen, loadV, storeV, whO, Wh.pay, mkWh, hb0, flatCells, splice, scalars]
  have hb0i : ((b.length : Int) == 0) = false := beq_eq_false_iff_ne.2 (by omega)
  apply Tells.seq (fr' := [(0, .ro c (.pb b) 1), (1, .int .u8 (t : Nat)), (4, .ptr 0 0 0 0), (7, .ptr 1 0 0 0), (17, .bool false)]) (H' := [some (whO {}), some (whO {})])
  · (refine ⟨0, ?_⟩; simp (maxSteps := 2000000) -implicitDefEqProofs [-getElem?_pos, List.getElem?_cons_zero, List.getElem?_cons_succ, go_sem, eqV, plen, loadV, storeV, hb0i])
  apply Tells.seq (fr' := [(0, .ro c (.pb b) 1), (1, .int .u8 (t : Nat)), (4, .ptr 0 0 0 0), (7, .ptr 1 0 0 0), (17, .bool false)]) (H' := [some (whO {}), some (whO {})])
  · exact condF (by simp [evalO, getF]) ⟨0, rfl⟩
  obtain ⟨y, ys, hby⟩ : ∃ y ys, b = y :: ys := by
    cases b with
    | nil => simp at hb0
    | cons y ys => exact ⟨y, ys, rfl⟩
  have hyh : (b.headD 0).toNat = y.toNat := by rw [hby]; rfl
  have hy0 : b[0]? = some y := by rw [hby]; rfl
  have hyl := y.toNat_lt
  have wy : IntKind.i64.wrap (y.toNat : Int) = (y.toNat : Int) := wrap_i64 (by omega) (by omega)
  have hbpos : (0 : Int) < (b.length : Int) := by omega
  have hbposN : 0 < b.length := by omega
  apply Tells.seq (fr' := [(0, .ro c (.pb b) 1), (1, .int .u8 (t : Nat)), (4, .ptr 0 0 0 0), (7, .ptr 1 0 0 0), (8, .int .i64 (y.toNat : Nat))]) (H' := [some (whO {}), some (whO {})])
  · (refine ⟨0, ?_⟩; simp (maxSteps := 2000000) -implicitDefEqProofs [-getElem?_pos, List.getElem?_cons_zero, List.getElem?_cons_succ, go_sem, eqV, plen, loadV, storeV, hy0, wy, hbpos, hbposN])
  apply Tells.seq (fr' := [(0, .ro c (.pb b) 1), (1, .int .u8 (t : Nat)), (4, .ptr 0 0 0 0), (7, .ptr 1 0 0 0), (8, .int .i64 (y.toNat : Nat)), (9, .ro 1 (.pi .i64 [0, 4, 7, 11]) 0)]) (H' := [some (whO {}), some (whO {})])
  · have h4 := fun H => bsL4 H
    generalize ([0, 4, 7, 11] : List Int) = L at *
    (refine ⟨0, ?_⟩; simp (maxSteps := 2000000) -implicitDefEqProofs [-getElem?_pos, List.getElem?_cons_zero, List.getElem?_cons_succ, go_sem, eqV, plen, loadV, storeV, h4])
  apply Tells.andThen (P := fun fr H => H = [some (whO {}), some (whO {})] ∧ ∃ tl, fr = [(0, .ro c (.pb b) 1), (1, .int .u8 (t : Nat)), (4, .ptr 0 0 0 0), (7, .ptr 1 0 0 0), (8, .int .i64 (y.toNat : Nat)), (9, .ro 1 (.pi .i64 (szL t)) 0)] ++ tl)
  · by_cases h11 : t = 11
    · subst h11
      refine Tells.of (o := ⟨.normal, [(0, .ro c (.pb b) 1), (1, .int .u8 11), (4, .ptr 0 0 0 0), (7, .ptr 1 0 0 0), (8, .int .i64 (y.toNat : Nat)), (9, .ro 1 (.pi .i64 [0, 8, 12]) 0)], _⟩) ⟨0, ?_⟩ ⟨rfl, rfl, [], rfl⟩
      have h3 := fun H => bsL3 H
      generalize ([0, 8, 12] : List Int) = L at *
      generalize ([0, 4, 7, 11] : List Int) = L2 at *
      simp (maxSteps := 2000000) -implicitDefEqProofs [-getElem?_pos, List.getElem?_cons_zero, List.getElem?_cons_succ, go_sem, eqV, plen, loadV, storeV, h3]
    · have h11b : ((t : Int) == 11) = false := beq_eq_false_iff_ne.2 (by omega)
      refine Tells.of (o := ⟨.normal, [(0, .ro c (.pb b) 1), (1, .int .u8 (t : Nat)), (4, .ptr 0 0 0 0), (7, .ptr 1 0 0 0), (8, .int .i64 (y.toNat : Nat)), (9, .ro 1 (.pi .i64 [0, 4, 7, 11]) 0), (25, .bool false)], _⟩) ⟨0, ?_⟩ ⟨rfl, rfl, [(25, .bool false)], by unfold szL; rw [if_neg h11]; rfl⟩
      generalize ([0, 4, 7, 11] : List Int) = L2 at *
      simp (maxSteps := 2000000) -implicitDefEqProofs [-getElem?_pos, List.getElem?_cons_zero, List.getElem?_cons_succ, go_sem, eqV, plen, loadV, storeV, h11b]
  rintro fr H ⟨rfl, tl, rfl⟩
  have hszl : (szL t).length ≤ 100 := by unfold szL; split <;> simp
  apply Tells.seq (fr' := [(0, .ro c (.pb b) 1), (1, .int .u8 (t : Nat)), (4, .ptr 0 0 0 0), (7, .ptr 1 0 0 0), (8, .int .i64 (y.toNat : Nat)), (9, .ro 1 (.pi .i64 (szL t)) 0), (10, .bool false)]) (H' := [some (whO {}), some (whO {})])
  · generalize szL t = L at *
    (refine ⟨0, ?_⟩; simp (maxSteps := 2000000) -implicitDefEqProofs [-getElem?_pos, List.getElem?_cons_zero, List.getElem?_cons_succ, go_sem, eqV, plen, loadV, storeV])
  apply Tells.assoc
  apply Tells.seq (fr' := rwFr c b t y.toNat (szL t) false 0) (H' := [some (whO {}), some (whO {})])
  · unfold rwFr
    generalize szL t = L at *
    (refine ⟨0, ?_⟩; simp (maxSteps := 2000000) -implicitDefEqProofs [-getElem?_pos, List.getElem?_cons_zero, List.getElem?_cons_succ, go_sem, eqV, plen, loadV, storeV])
  apply Tells.andThen (P := fun fr H => H = [some (whO {}), some (whO {})] ∧ fr = rwFr c b t y.toNat (szL t) ((szL t).any fun x => (y.toNat : Int) == x) (szL t).length ++ [(30, .bool false)])
  · exact piece (rw_loop c b t y.toNat (szL t) hszl) _ rfl
  rintro fr H ⟨rfl, rfl⟩
  have hkn : ((szL t).any fun x => (y.toNat : Int) == x) = knW (b.headD 0).toNat t := by rw [hyh]; rfl
  rw [hkn]
  apply Tells.assoc
  cases hk : knW (b.headD 0).toNat t with
  | false =>
    have hr : rdW b t = ({}, 0, 5) := by unfold rdW; rw [if_neg hb0, if_pos hk]
    rw [hr]
    refine Tells.of (o := ⟨.ret, [(4, .ptr 0 0 0 0), (5, .int .i64 0), (6, .int .i64 5)], [some (whO {}), some (whO {})]⟩) ⟨0, ?_⟩ ⟨rfl, rfl, rfl, rfl, rfl⟩
    unfold rwFr
    generalize szL t = L at *
    simp (maxSteps := 2000000) -implicitDefEqProofs [-getElem?_pos, List.getElem?_cons_zero, List.getElem?_cons_succ, go_sem, eqV, plen, loadV, storeV, whO, Wh.pay, mkWh, flatCells, splice, scalars]
  | true =>
  apply Tells.seq (fr' := [(0, .ro c (.pb b) 1), (1, .int .u8 (t : Nat)), (4, .ptr 0 0 0 0), (7, .ptr 1 0 0 0), (8, .int .i64 (y.toNat : Nat)), (41, .bool false)]) (H' := [some (whO {}), some (whO {})])
  · unfold rwFr
    generalize szL t = L at *
    (refine ⟨0, ?_⟩; simp (maxSteps := 2000000) -implicitDefEqProofs [-getElem?_pos, List.getElem?_cons_zero, List.getElem?_cons_succ, go_sem, eqV, plen, loadV, storeV])
  apply Tells.seq (fr' := [(0, .ro c (.pb b) 1), (1, .int .u8 (t : Nat)), (4, .ptr 0 0 0 0), (7, .ptr 1 0 0 0), (8, .int .i64 (y.toNat : Nat)), (41, .bool false)]) (H' := [some (whO {}), some (whO {})])
  · exact condF (by simp [evalO, getF]) ⟨0, rfl⟩
  apply Tells.assoc
  have w1 : IntKind.i64.wrap (1 + (y.toNat : Int)) = ((1 + y.toNat : Nat) : Int) := by rw [wrap_i64 (by omega) (by omega)]; omega
  by_cases hs : b.length < 1 + (b.headD 0).toNat
  · have hr : rdW b t = ({}, 0, 4) := by unfold rdW; rw [if_neg hb0, if_neg (by rw [hk]; simp), if_pos hs]
    rw [hr]
    have hsi : (b.length : Int) < ((1 + y.toNat : Nat) : Int) := by omega
    refine Tells.of (o := ⟨.ret, [(4, .ptr 0 0 0 0), (5, .int .i64 0), (6, .int .i64 4)], [some (whO {}), some (whO {})]⟩) ⟨0, ?_⟩ ⟨rfl, rfl, rfl, rfl, rfl⟩
    generalize 1 + y.toNat = n1 at *
    simp (maxSteps := 2000000) -implicitDefEqProofs [-getElem?_pos, List.getElem?_cons_zero, List.getElem?_cons_succ, go_sem, eqV, plen, loadV, storeV, whO, Wh.pay, mkWh, w1, hsi, flatCells, splice, scalars]
  have hsi : ¬ (b.length : Int) < ((1 + y.toNat : Nat) : Int) := by omega
  apply Tells.seq (fr' := [(0, .ro c (.pb b) 1), (1, .int .u8 (t : Nat)), (4, .ptr 0 0 0 0), (7, .ptr 1 0 0 0), (8, .int .i64 (y.toNat : Nat)), (47, .bool false)]) (H' := [some (whO {}), some (whO {})])
  · generalize 1 + y.toNat = n1 at *
    (refine ⟨0, ?_⟩; simp (maxSteps := 2000000) -implicitDefEqProofs [-getElem?_pos, List.getElem?_cons_zero, List.getElem?_cons_succ, go_sem, eqV, plen, loadV, storeV, w1, hsi])
  apply Tells.seq (fr' := [(0, .ro c (.pb b) 1), (1, .int .u8 (t : Nat)), (4, .ptr 0 0 0 0), (7, .ptr 1 0 0 0), (8, .int .i64 (y.toNat : Nat)), (47, .bool false)]) (H' := [some (whO {}), some (whO {})])
  · exact condF (by simp [evalO, getF]) ⟨0, rfl⟩
  have := piece (rw_end c b t hc ht hb0 hk hs hbm) _ rfl
  rw [hyh] at this
  exact this

end

theorem rw_ev {H : AM.Heap} {a : AV} {b : List UInt8} {t : Nat} (h : Byt H a b) (ht : t < 256) (hbm : b.length ≤ 90000000) :
    evT X 43 [a, .int .u8 (t : Nat)] H = some (.tup [.agg (rdW b t).1.pay, .int .i64 ((rdW b t).2.1 : Nat), .int .i64 (rdW b t).2.2], H) := by
  obtain ⟨c, p, xl, hp, hc, hx'⟩ := args_byt (C := X) (f := 43) (i := 0) rfl h (args_flat (i := 1) (a := .int .u8 (t : Nat)) rfl rfl (args_nil 2))
  obtain ⟨code, hcode, o, ⟨he, q4, q0, q5, q6⟩, hr⟩ := rw_code c b t hc ht hbm
  refine evT_eq (Ev1.toldP (l := [.agg (rdW b t).1.pay, .int .i64 ((rdW b t).2.1 : Nat), .int .i64 (rdW b t).2.2]) (evT_below X) Try.func43 hcode hx' (by simp [idsL, ids, hp.ids]) (by simp [gtag]) (by simp [idsL, ids, Wh.pay]) (by simp [tagsL, tags, Wh.pay]) rfl ⟨o, ⟨he, ?_⟩, by rw [par43, coB hp]; exact hr⟩)
  generalize rdW b t = r at *
  show resultsV X o.fr o.H [.cell 4 30, .tmp 5, .tmp 6] = _
  simp only [whO, Wh.pay] at q0
  simp [resultsV, q4, q5, q6, loadV, live, q0, pagg, mkWh, Wh.pay]

end Go.Proofs.Ytbmddnokokoofaa

/- Walks: a value read. -/
namespace Go.Proofs.Ytbmddnokokoofaa
open Go.AM
set_option linter.unusedSimpArgs false
set_option linter.unusedVariables false

/-- a number with a sign, of n bytes -/
def sgV (x : Int) (n : Nat) : Int := Int.fdiv (IntKind.i64.wrap (IntKind.u64.wrap (x * 2 ^ (64 - 8 * n)))) (2 ^ (64 - 8 * n))

/-- what a value's reading tells -/
def rdV (b : List UInt8) (t : Ty) : Va × Nat × Int :=
  if kindN t.t t.u < 0 then ({}, 0, 2) else if kindN t.t t.u = 0 then ({}, 0, 0) else
  if kindN t.t t.u = 5 ∨ kindN t.t t.u = 6 then (if (rdW b t.t).2.2 ≠ 0 then ({}, 0, (rdW b t.t).2.2) else ({ k := kindN t.t t.u, w := (rdW b t.t).1 }, (rdW b t.t).2.1, 0)) else
  if kindN t.t t.u = 7 then (if (rdT b).2.2 ≠ 0 then ({}, 0, (rdT b).2.2) else if 16777216 < (rdT b).1.length then ({}, 0, 5) else ({ k := 7, t := (rdT b).1 }, (rdT b).2.1, 0)) else
  if (rfR b (sizeN t.t)).2 ≠ 0 then ({}, 0, (rfR b (sizeN t.t)).2) else
  if kindN t.t t.u = 1 then ({ k := 1, i := sgV (rfR b (sizeN t.t)).1 (sizeN t.t) }, sizeN t.t, 0) else ({ k := kindN t.t t.u, b := (rfR b (sizeN t.t)).1.toNat }, sizeN t.t, 0)

theorem bvV0 : buildV X 32 [] = some (.agg (Va.pay {})) := by kernel_rfl
theorem bvVw (k : Int) (w : Wh) : buildV X 32 [(0, .int .i64 k), (4, .agg w.pay)] = some (.agg (Va.pay { k := k, w := w })) := by
  obtain ⟨neg, y, mo, d, h, mi, s, us⟩ := w
  kernel_rfl
theorem bvVt (k : Int) (s : List UInt8) : buildV X 32 [(0, .int .i64 k), (3, .str s)] = some (.agg (Va.pay { k := k, t := s })) := by kernel_rfl
theorem bvVi (k i : Int) : buildV X 32 [(0, .int .i64 k), (1, .int .i64 i)] = some (.agg (Va.pay { k := k, i := i })) := by kernel_rfl
theorem bvVb (k : Int) (x : Nat) : buildV X 32 [(0, .int .i64 k), (2, .int .u64 (x : Nat))] = some (.agg (Va.pay { k := k, b := x })) := by kernel_rfl

section
variable (c : Nat) (b : List UInt8) (t : Ty)

/-- what Read leaves -/
def rvQ (r : Va × Nat × Int) (fr : AM.Frame) (H : AM.Heap) : Prop := getF fr 4 = .ptr 1 0 0 0 ∧ H[1]? = some (some (vaO r.1)) ∧ getF fr 5 = .int .i64 (r.2.1 : Nat) ∧ getF fr 6 = .int .i64 r.2.2

set_option maxRecDepth 100000 in
set_option maxHeartbeats 4000000 in
theorem vread_num (hc : c = 0 → b = []) (ht : t.t < 256) (hbm : b.length ≤ 90000000) (hk : kindN t.t t.u = 1 ∨ kindN t.t t.u = 2 ∨ kindN t.t t.u = 3 ∨ kindN t.t t.u = 4) :
    ∃ code, ((Try.f26.body).bind (codeAt [1, 1, 1])) = some code ∧
    Tells (Rets (rvQ (rdV b t))) X (evT X) 26 0 code [(0, .ro c (.pb b) 1), (3, .ptr 0 0 0 0), (4, .ptr 1 0 0 0), (7, .int .i64 (kindN t.t t.u)), (45, .bool false)] [some (tyO t), some (vaO {})] := by
  refine ⟨_, rfl, ?_⟩
  have hr : rdV b t = if (rfR b (sizeN t.t)).2 ≠ 0 then ({}, 0, (rfR b (sizeN t.t)).2) else
      if kindN t.t t.u = 1 then ({ k := 1, i := sgV (rfR b (sizeN t.t)).1 (sizeN t.t) }, sizeN t.t, 0) else ({ k := kindN t.t t.u, b := (rfR b (sizeN t.t)).1.toNat }, sizeN t.t, 0) := by
    unfold rdV
    rw [if_neg (by omega), if_neg (by omega), if_neg (by omega), if_neg (by omega)]
  rw [hr]
  have hsz := size_num (t := t.t) (u := t.u) hk
  have hS := size_ev' ht [some (tyO t), some (vaO {})]
  have hB : Byt [some (tyO t), some (vaO {})] (.ro c (.pb b) 1) b := Byt.ro (.inl rfl) hc
  have hR := rf_ev (n := sizeN t.t) hB hbm
  have hx0 : 0 ≤ (rfR b (sizeN t.t)).1 ∧ (rfR b (sizeN t.t)).1 < 18446744073709551616 := by
    unfold rfR
    split
    · simp
    · split
      · simp
      · have h := leV_lt (b.take ((sizeN t.t : Nat) : Int).toNat)
        simp only [Int.toNat_natCast] at h ⊢
        have h2 : (b.take (sizeN t.t)).length ≤ 8 := by simp; omega
        have h3 : 256 ^ (b.take (sizeN t.t)).length ≤ 256 ^ 8 := Nat.pow_le_pow_right (by omega) h2
        omega
  generalize hsn : sizeN t.t = n at *
  generalize hrr : rfR b (n : Nat) = r at *
  obtain ⟨x, e⟩ := r
  simp only at *
  obtain ⟨xn, rfl⟩ : ∃ xn : Nat, x = (xn : Int) := ⟨x.toNat, by omega⟩
  apply Tells.seq (fr' := [(0, .ro c (.pb b) 1), (4, .ptr 1 0 0 0), (7, .int .i64 (kindN t.t t.u)), (14, .int .i64 (n : Nat))]) (H' := [some (tyO t), some (vaO {})])
  · simp only [tyO, Ty.pay, vaO, Va.pay, Int.cast_ofNat_Int] at hS
    generalize kindN t.t t.u = k at *
    (refine ⟨0, ?_⟩; simp (maxSteps := 2000000) -implicitDefEqProofs [-getElem?_pos, List.getElem?_cons_zero, List.getElem?_cons_succ, go_sem, eqV, plen, loadV, storeV, tyO, Ty.pay, vaO, Va.pay, hS])
  apply Tells.seq (fr' := [(4, .ptr 1 0 0 0), (6, .int .i64 e), (7, .int .i64 (kindN t.t t.u)), (14, .int .i64 (n : Nat)), (15, .int .u64 (xn : Nat))]) (H' := [some (tyO t), some (vaO {})])
  · simp only [tyO, Ty.pay, vaO, Va.pay, Int.cast_ofNat_Int] at hR
    generalize kindN t.t t.u = k at *
    (refine ⟨0, ?_⟩; simp (maxSteps := 2000000) -implicitDefEqProofs [-getElem?_pos, List.getElem?_cons_zero, List.getElem?_cons_succ, go_sem, eqV, plen, loadV, storeV, tyO, Ty.pay, vaO, Va.pay, hR])
  have hb0 := bvV0
  apply Tells.assoc
  by_cases he : e = 0
  case neg =>
    rw [if_pos he]
    have heb : (e != 0) = true := by simpa using he
    refine Tells.of (o := ⟨.ret, [(4, .ptr 1 0 0 0), (5, .int .i64 0), (6, .int .i64 e)], [some (tyO t), some (vaO {})]⟩) ⟨0, ?_⟩ ⟨rfl, rfl, rfl, rfl, rfl⟩
    simp only [Va.pay, Int.cast_ofNat_Int] at hb0
    generalize kindN t.t t.u = k at *
    simp (maxSteps := 2000000) -implicitDefEqProofs [-getElem?_pos, List.getElem?_cons_zero, List.getElem?_cons_succ, go_sem, eqV, plen, loadV, storeV, tyO, Ty.pay, vaO, Va.pay, heb, hb0, mkVa, flatCells, splice, scalars]
  rw [if_neg (by simpa using he)]
  subst he
  apply Tells.seq (fr' := [(4, .ptr 1 0 0 0), (6, .int .i64 0), (7, .int .i64 (kindN t.t t.u)), (14, .int .i64 (n : Nat)), (15, .int .u64 (xn : Nat)), (77, .bool false)]) (H' := [some (tyO t), some (vaO {})])
  · generalize kindN t.t t.u = k at *
    (refine ⟨0, ?_⟩; simp (maxSteps := 2000000) -implicitDefEqProofs [-getElem?_pos, List.getElem?_cons_zero, List.getElem?_cons_succ, go_sem, eqV, plen, loadV, storeV])
  apply Tells.seq (fr' := [(4, .ptr 1 0 0 0), (6, .int .i64 0), (7, .int .i64 (kindN t.t t.u)), (14, .int .i64 (n : Nat)), (15, .int .u64 (xn : Nat)), (77, .bool false)]) (H' := [some (tyO t), some (vaO {})])
  · exact condF (by simp [evalO, getF]) ⟨0, rfl⟩
  apply Tells.assoc
  by_cases hk1 : kindN t.t t.u = 1
  · rw [if_pos hk1, hk1]
    apply Tells.seq (fr' := [(4, .ptr 1 0 0 0), (7, .int .i64 1), (14, .int .i64 (n : Nat)), (15, .int .u64 (xn : Nat)), (81, .bool true)]) (H' := [some (tyO t), some (vaO {})])
    · (refine ⟨0, ?_⟩; simp (maxSteps := 2000000) -implicitDefEqProofs [-getElem?_pos, List.getElem?_cons_zero, List.getElem?_cons_succ, go_sem, eqV, plen, loadV, storeV])
    refine Tells.seqOut (Tells.condT (by simp [evalO, getF]) ?_) (fun o h => by rw [h.1]; simp)
    have w1 : IntKind.i64.wrap (8 * (n : Int)) = ((8 * n : Nat) : Int) := by rw [wrap_i64 (by omega) (by omega)]; omega
    have w2 : IntKind.i64.wrap (64 - ((8 * n : Nat) : Int)) = ((64 - 8 * n : Nat) : Int) := by rw [wrap_i64 (by omega) (by omega)]; omega
    have hsg : sgV (xn : Int) n = Int.fdiv (IntKind.i64.wrap (IntKind.u64.wrap ((xn : Int) * 2 ^ (64 - 8 * n)))) (2 ^ (64 - 8 * n)) := rfl
    have hsh0 : ¬ ((64 - 8 * n : Nat) : Int) < 0 := by omega
    have hmin : min (64 - 8 * n) 64 = 64 - 8 * n := by omega
    generalize hsh : 64 - 8 * n = sh at *
    generalize h8 : 8 * n = n8 at *
    apply Tells.seq (fr' := [(4, .ptr 1 0 0 0), (7, .int .i64 1), (14, .int .i64 (n : Nat)), (15, .int .u64 (xn : Nat)), (16, .int .i64 (sh : Nat))]) (H' := [some (tyO t), some (vaO {})])
    · (refine ⟨0, ?_⟩; simp (maxSteps := 2000000) -implicitDefEqProofs [-getElem?_pos, List.getElem?_cons_zero, List.getElem?_cons_succ, go_sem, eqV, plen, loadV, storeV, w1, w2])
    have hbi := fun k i => bvVi k i
    refine Tells.of (o := ⟨.ret, [(4, .ptr 1 0 0 0), (5, .int .i64 (n : Nat)), (6, .int .i64 0)], [some (tyO t), some (vaO { k := 1, i := sgV (xn : Int) n })]⟩) ⟨0, ?_⟩ ⟨rfl, rfl, rfl, rfl, rfl⟩
    rw [hsg]
    simp only [Va.pay, Int.cast_ofNat_Int] at hbi
    generalize hz : IntKind.u64.wrap ((xn : Int) * 2 ^ sh) = z at *
    generalize hz2 : IntKind.i64.wrap z = z2 at *
    simp (maxSteps := 2000000) -implicitDefEqProofs [-getElem?_pos, List.getElem?_cons_zero, List.getElem?_cons_succ, go_sem, eqV, plen, loadV, storeV, tyO, Ty.pay, vaO, Va.pay, hsh0, hmin, hz, hz2, hbi, mkVa, flatCells, splice, scalars, show IntKind.u64.bits = 64 from rfl, show IntKind.i64.bits = 64 from rfl]
  · rw [if_neg hk1]
    have hk1b : (kindN t.t t.u == 1) = false := beq_eq_false_iff_ne.2 hk1
    generalize kindN t.t t.u = k at *
    apply Tells.seq (fr' := [(4, .ptr 1 0 0 0), (7, .int .i64 k), (14, .int .i64 (n : Nat)), (15, .int .u64 (xn : Nat)), (81, .bool false)]) (H' := [some (tyO t), some (vaO {})])
    · (refine ⟨0, ?_⟩; simp (maxSteps := 2000000) -implicitDefEqProofs [-getElem?_pos, List.getElem?_cons_zero, List.getElem?_cons_succ, go_sem, eqV, plen, loadV, storeV, hk1b])
    apply Tells.seq (fr' := [(4, .ptr 1 0 0 0), (7, .int .i64 k), (14, .int .i64 (n : Nat)), (15, .int .u64 (xn : Nat)), (81, .bool false)]) (H' := [some (tyO t), some (vaO {})])
    · exact condF (by simp [evalO, getF]) ⟨0, rfl⟩
    have hbb := fun k x => bvVb k x
    refine Tells.of (o := ⟨.ret, [(4, .ptr 1 0 0 0), (5, .int .i64 (n : Nat)), (6, .int .i64 0)], [some (tyO t), some (vaO { k := k, b := xn })]⟩) ⟨0, ?_⟩ ⟨rfl, rfl, by simp, rfl, rfl⟩
    simp only [Va.pay, Int.cast_ofNat_Int] at hbb
    simp (maxSteps := 2000000) -implicitDefEqProofs [-getElem?_pos, List.getElem?_cons_zero, List.getElem?_cons_succ, go_sem, eqV, plen, loadV, storeV, tyO, Ty.pay, vaO, Va.pay, hbb, mkVa, flatCells, splice, scalars]

end

end Go.Proofs.Ytbmddnokokoofaa

/- Walks: a value read: whole. -/
namespace Go.Proofs.Ytbmddnokokoofaa
open Go.AM
set_option linter.unusedSimpArgs false
set_option linter.unusedVariables false

section
variable (c : Nat) (b : List UInt8) (t : Ty)

set_option maxRecDepth 100000 in
set_option maxHeartbeats 4000000 in
theorem vread_code (hc : c = 0 → b = []) (ht : t.t < 256) (hbm : b.length ≤ 90000000) :
    ∃ code, Try.f26.body = some code ∧
    Tells (Rets (rvQ (rdV b t))) X (evT X) 26 0 code [(0, .ro c (.pb b) 1), (1, .agg t.pay)] [] := by
  refine ⟨_, rfl, ?_⟩
  have hK := kind_ev ht [some (tyO t), some (vaO {})]
  have hbd := kind_bd t.t t.u
  have hB : Byt [some (tyO t), some (vaO {})] (.ro c (.pb b) 1) b := Byt.ro (.inl rfl) hc
  have hb0 := bvV0
  apply Tells.seq (fr' := [(0, .ro c (.pb b) 1), (3, .ptr 0 0 0 0), (4, .ptr 1 0 0 0)]) (H' := [some (tyO t), some (vaO {})])
  · (refine ⟨0, ?_⟩; simp (maxSteps := 2000000) -implicitDefEqProofs [-getElem?_pos, List.getElem?_cons_zero, List.getElem?_cons_succ, go_sem, eqV, plen, loadV, storeV, tyO, Ty.pay, vaO, Va.pay])
  apply Tells.seq (fr' := [(0, .ro c (.pb b) 1), (3, .ptr 0 0 0 0), (4, .ptr 1 0 0 0), (7, .int .i64 (kindN t.t t.u))]) (H' := [some (tyO t), some (vaO {})])
  · simp only [tyO, Ty.pay, vaO, Va.pay, Int.cast_ofNat_Int] at hK
    generalize kindN t.t t.u = k at *
    (refine ⟨0, ?_⟩; simp (maxSteps := 2000000) -implicitDefEqProofs [-getElem?_pos, List.getElem?_cons_zero, List.getElem?_cons_succ, go_sem, eqV, plen, loadV, storeV, tyO, Ty.pay, vaO, Va.pay, mkTy, hK])
  clear hK
  apply Tells.assoc
  apply Tells.seq (fr' := [(0, .ro c (.pb b) 1), (3, .ptr 0 0 0 0), (4, .ptr 1 0 0 0), (7, .int .i64 (kindN t.t t.u)), (19, .int .i64 (kindN t.t t.u))]) (H' := [some (tyO t), some (vaO {})])
  · generalize kindN t.t t.u = k at *
    (refine ⟨0, ?_⟩; simp (maxSteps := 2000000) -implicitDefEqProofs [-getElem?_pos, List.getElem?_cons_zero, List.getElem?_cons_succ, go_sem, eqV, plen, loadV, storeV])
  apply Tells.or (P := fun fr H => fr = [(0, .ro c (.pb b) 1), (3, .ptr 0 0 0 0), (4, .ptr 1 0 0 0), (7, .int .i64 (kindN t.t t.u)), (45, .bool false)] ∧ H = [some (tyO t), some (vaO {})] ∧ (kindN t.t t.u = 1 ∨ kindN t.t t.u = 2 ∨ kindN t.t t.u = 3 ∨ kindN t.t t.u = 4))
  · apply Tells.blkOr (hq := fun o h => by rw [h.1]; simp)
    simp only [Va.pay, Int.cast_ofNat_Int] at hb0
    by_cases h1 : kindN t.t t.u < 0
    · have hm : kindN t.t t.u = -1 := by omega
      have hr : rdV b t = ({}, 0, 2) := if_pos h1
      rw [hr, hm]
      refine Tells.of (o := ⟨.ret, [(4, .ptr 1 0 0 0), (5, .int .i64 0), (6, .int .i64 2)], [some (tyO t), some (vaO {})]⟩) ⟨0, ?_⟩ (.inr ⟨by simp, rfl, rfl, rfl, rfl, rfl⟩)
      simp (maxSteps := 2000000) -implicitDefEqProofs [-getElem?_pos, List.getElem?_cons_zero, List.getElem?_cons_succ, go_sem, eqV, plen, loadV, storeV, tyO, Ty.pay, vaO, Va.pay, hb0, mkVa, flatCells, splice, scalars]
    have e1 : (kindN t.t t.u == -1) = false := beq_eq_false_iff_ne.2 (by omega)
    by_cases h2 : kindN t.t t.u = 0
    · have hr : rdV b t = ({}, 0, 0) := by unfold rdV; rw [if_neg h1, if_pos h2]
      rw [hr, h2]
      refine Tells.of (o := ⟨.ret, [(4, .ptr 1 0 0 0), (5, .int .i64 0), (6, .int .i64 0)], [some (tyO t), some (vaO {})]⟩) ⟨0, ?_⟩ (.inr ⟨by simp, rfl, rfl, rfl, rfl, rfl⟩)
      simp (maxSteps := 2000000) -implicitDefEqProofs [-getElem?_pos, List.getElem?_cons_zero, List.getElem?_cons_succ, go_sem, eqV, plen, loadV, storeV, tyO, Ty.pay, vaO, Va.pay, hb0, mkVa, flatCells, splice, scalars]
    have e2 : (kindN t.t t.u == 0) = false := beq_eq_false_iff_ne.2 h2
    by_cases h5 : kindN t.t t.u = 5 ∨ kindN t.t t.u = 6
    · have hr : rdV b t = if (rdW b t.t).2.2 ≠ 0 then ({}, 0, (rdW b t.t).2.2) else ({ k := kindN t.t t.u, w := (rdW b t.t).1 }, (rdW b t.t).2.1, 0) := by
        unfold rdV; rw [if_neg h1, if_neg h2, if_pos h5]
      rw [hr]
      have hW := rw_ev hB ht hbm
      generalize rdW b t.t = r at *
      obtain ⟨w, n, e⟩ := r
      have hbw := fun k => bvVw k w
      simp only [Wh.pay, Va.pay, Int.cast_ofNat_Int] at hbw
      simp only at *
      by_cases he : e = 0
      · subst he
        rw [if_neg (by simp)]
        refine Tells.of (o := ⟨.ret, [(4, .ptr 1 0 0 0), (5, .int .i64 (n : Nat)), (6, .int .i64 0)], [some (tyO t), some (vaO { k := kindN t.t t.u, w := w }), some (whO w)]⟩) ⟨0, ?_⟩ (.inr ⟨by simp, rfl, rfl, rfl, rfl, rfl⟩)
        simp only [tyO, Ty.pay, vaO, Va.pay, Wh.pay, Int.cast_ofNat_Int] at hW
        rcases h5 with h5 | h5 <;> rw [h5]
        · simp (maxSteps := 2000000) -implicitDefEqProofs [-getElem?_pos, List.getElem?_cons_zero, List.getElem?_cons_succ, go_sem, eqV, plen, loadV, storeV, tyO, Ty.pay, vaO, Va.pay, whO, Wh.pay, hW, hbw, mkVa, mkWh, flatCells, splice, scalars]
        · simp (maxSteps := 2000000) -implicitDefEqProofs [-getElem?_pos, List.getElem?_cons_zero, List.getElem?_cons_succ, go_sem, eqV, plen, loadV, storeV, tyO, Ty.pay, vaO, Va.pay, whO, Wh.pay, hW, hbw, mkVa, mkWh, flatCells, splice, scalars]
      · have heb : (e != 0) = true := by simpa using he
        rw [if_pos he]
        refine Tells.of (o := ⟨.ret, [(4, .ptr 1 0 0 0), (5, .int .i64 0), (6, .int .i64 e)], [some (tyO t), some (vaO {}), some (whO w)]⟩) ⟨0, ?_⟩ (.inr ⟨by simp, rfl, rfl, rfl, rfl, rfl⟩)
        simp only [tyO, Ty.pay, vaO, Va.pay, Wh.pay, Int.cast_ofNat_Int] at hW
        rcases h5 with h5 | h5 <;> rw [h5]
        · simp (maxSteps := 2000000) -implicitDefEqProofs [-getElem?_pos, List.getElem?_cons_zero, List.getElem?_cons_succ, go_sem, eqV, plen, loadV, storeV, tyO, Ty.pay, vaO, Va.pay, whO, Wh.pay, hW, hb0, heb, mkVa, mkWh, flatCells, splice, scalars]
        · simp (maxSteps := 2000000) -implicitDefEqProofs [-getElem?_pos, List.getElem?_cons_zero, List.getElem?_cons_succ, go_sem, eqV, plen, loadV, storeV, tyO, Ty.pay, vaO, Va.pay, whO, Wh.pay, hW, hb0, heb, mkVa, mkWh, flatCells, splice, scalars]
    have e5 : (kindN t.t t.u == 5) = false := beq_eq_false_iff_ne.2 (by omega)
    have e6 : (kindN t.t t.u == 6) = false := beq_eq_false_iff_ne.2 (by omega)
    by_cases h7 : kindN t.t t.u = 7
    · have hr : rdV b t = if (rdT b).2.2 ≠ 0 then ({}, 0, (rdT b).2.2) else if 16777216 < (rdT b).1.length then ({}, 0, 5) else ({ k := 7, t := (rdT b).1 }, (rdT b).2.1, 0) := by
        unfold rdV; rw [if_neg h1, if_neg h2, if_neg h5, if_pos h7]
      rw [hr, h7]
      have hT := readText_ev hB hbm
      generalize rdT b = r at *
      obtain ⟨s, n, e⟩ := r
      have hbt := fun k => bvVt k s
      simp only [Va.pay, Int.cast_ofNat_Int] at hbt
      simp only at *
      simp only [tyO, Ty.pay, vaO, Va.pay, Int.cast_ofNat_Int] at hT
      by_cases he : e = 0
      · subst he
        rw [if_neg (by simp)]
        by_cases hs : 16777216 < s.length
        · rw [if_pos hs]
          have hsi : (16777216 : Int) < (s.length : Int) := by omega
          refine Tells.of (o := ⟨.ret, [(4, .ptr 1 0 0 0), (5, .int .i64 0), (6, .int .i64 5)], [some (tyO t), some (vaO {})]⟩) ⟨0, ?_⟩ (.inr ⟨by simp, rfl, rfl, rfl, rfl, rfl⟩)
          simp (maxSteps := 2000000) -implicitDefEqProofs [-getElem?_pos, List.getElem?_cons_zero, List.getElem?_cons_succ, go_sem, eqV, plen, loadV, storeV, tyO, Ty.pay, vaO, Va.pay, hT, hb0, hsi, hs, mkVa, flatCells, splice, scalars]
        · rw [if_neg hs]
          have hsi : ¬ (16777216 : Int) < (s.length : Int) := by omega
          refine Tells.of (o := ⟨.ret, [(4, .ptr 1 0 0 0), (5, .int .i64 (n : Nat)), (6, .int .i64 0)], [some (tyO t), some (vaO { k := 7, t := s })]⟩) ⟨0, ?_⟩ (.inr ⟨by simp, rfl, rfl, rfl, rfl, rfl⟩)
          simp (maxSteps := 2000000) -implicitDefEqProofs [-getElem?_pos, List.getElem?_cons_zero, List.getElem?_cons_succ, go_sem, eqV, plen, loadV, storeV, tyO, Ty.pay, vaO, Va.pay, hT, hbt, hsi, hs, mkVa, flatCells, splice, scalars]
      · have heb : (e != 0) = true := by simpa using he
        rw [if_pos he]
        refine Tells.of (o := ⟨.ret, [(4, .ptr 1 0 0 0), (5, .int .i64 0), (6, .int .i64 e)], [some (tyO t), some (vaO {})]⟩) ⟨0, ?_⟩ (.inr ⟨by simp, rfl, rfl, rfl, rfl, rfl⟩)
        simp (maxSteps := 2000000) -implicitDefEqProofs [-getElem?_pos, List.getElem?_cons_zero, List.getElem?_cons_succ, go_sem, eqV, plen, loadV, storeV, tyO, Ty.pay, vaO, Va.pay, hT, hb0, heb, mkVa, flatCells, splice, scalars]
    have e7 : (kindN t.t t.u == 7) = false := beq_eq_false_iff_ne.2 h7
    refine Tells.of (o := ⟨.normal, [(0, .ro c (.pb b) 1), (3, .ptr 0 0 0 0), (4, .ptr 1 0 0 0), (7, .int .i64 (kindN t.t t.u)), (45, .bool false)], [some (tyO t), some (vaO {})]⟩) ⟨0, ?_⟩ (.inl ⟨rfl, rfl, rfl, by omega⟩)
    generalize kindN t.t t.u = k at *
    simp (maxSteps := 2000000) -implicitDefEqProofs [-getElem?_pos, List.getElem?_cons_zero, List.getElem?_cons_succ, go_sem, eqV, plen, loadV, storeV, e1, e2, e5, e6, e7]
  rintro fr H ⟨rfl, rfl, hk⟩
  exact piece (vread_num c b t hc ht hbm hk) _ rfl

end

theorem vread_ev {H : AM.Heap} {a : AV} {b : List UInt8} {t : Ty} (h : Byt H a b) (ht : t.t < 256) (hbm : b.length ≤ 90000000) :
    evT X 26 [a, .agg t.pay] H = some (.tup [.agg (rdV b t).1.pay, .int .i64 ((rdV b t).2.1 : Nat), .int .i64 (rdV b t).2.2], H) := by
  obtain ⟨c, p, xl, hp, hc, hx'⟩ := args_byt (C := X) (f := 26) (i := 0) rfl h (args_ty (f := 26) (i := 1) (t := t) (args_nil 2))
  obtain ⟨code, hcode, o, ⟨he, q4, q0, q5, q6⟩, hr⟩ := vread_code c b t hc ht hbm
  refine evT_eq (Ev1.toldP (l := [.agg (rdV b t).1.pay, .int .i64 ((rdV b t).2.1 : Nat), .int .i64 (rdV b t).2.2]) (evT_below X) Try.func26 hcode hx' (by simp [idsL, ids, Ty.pay]) (by simp [gtag]) (by simp [idsL, ids, Va.pay]) (by simp [tagsL, tags, Va.pay]) rfl ⟨o, ⟨he, ?_⟩, by rw [par26, coB hp]; exact hr⟩)
  generalize rdV b t = r at *
  show resultsV X o.fr o.H [.cell 4 32, .tmp 5, .tmp 6] = _
  simp only [vaO, Va.pay] at q0
  simp [resultsV, q4, q5, q6, loadV, live, q0, pagg, mkVa, Va.pay]

end Go.Proofs.Ytbmddnokokoofaa

/- Walks: parameters read: one behind the other. -/
namespace Go.Proofs.Ytbmddnokokoofaa
open Go.AM
set_option linter.unusedSimpArgs false
set_option linter.unusedVariables false

/-- what the i-th parameter's own bytes tell -/
def tyI (ts : List Ty) (i : Nat) : Ty := ts.getD i ⟨0, false⟩
/-- parameters read one behind the other, from the i-th on -/
def prF (b : List UInt8) (g : List Bool) (ts : List Ty) : Nat → Nat → List Pm → List UInt8 → List Pm × List UInt8 × Int
  | 0, _, a, r => (a, r, 0)
  | k + 1, i, a, r =>
    if lgB g i = true ∨ bitB b i = true then prF b g ts k (i + 1) (a ++ [⟨tyI ts i, lgB g i, {}⟩]) r
    else if (tyI ts i).t = 6 then ([], [], 5)
    else if (rdV r (tyI ts i)).2.2 ≠ 0 then ([], [], (rdV r (tyI ts i)).2.2)
    else prF b g ts k (i + 1) (a ++ [⟨tyI ts i, false, (rdV r (tyI ts i)).1⟩]) (r.drop (rdV r (tyI ts i)).2.1)

def nilP : AM.Obj := ⟨.pr 15 [], 0, .none, 0, true, false, 0⟩
theorem nilP_rw : Rw (.pr 15 []) 0 nilP := ⟨rfl, rfl, rfl, rfl, rfl⟩
theorem emP : rowOf (emptyRow X 34) .none 0 = nilP := by kernel_rfl
theorem bdPm (k : Int) (u lg : Bool) : buildV X 34 [(0, .agg (.pc [.int .u8 k, .bool u])), (1, .bool lg)] = some (.agg (.pc [.int .u8 k, .bool u, .bool lg, .int .i64 0, .int .i64 0, .int .u64 0, .str [], .bool false, .int .i64 0, .int .i64 0, .int .i64 0, .int .i64 0, .int .i64 0, .int .i64 0, .int .i64 0])) := by kernel_rfl
theorem bsPm (H : AM.Heap) (p : Pm) : buildSliceV X H 35 1 [(0, .agg p.pay)] = some (.ro 1 (.pr 15 [p.pay]) 0, H) := by
  obtain ⟨⟨t, u⟩, lg, ⟨k, i, b, s, ⟨neg, y, mo, d, h, mi, sc, us⟩⟩⟩ := p
  kernel_rfl
theorem upd_same {H : AM.Heap} {o : Nat} {x : Option AM.Obj} (h : H[o]? = some x) : upd H o x = H := by
  unfold upd
  apply List.ext_getElem?
  intro j
  rw [List.getElem?_set]
  split
  · rename_i e
    subst e
    rw [if_pos (at_lt h), h]
  · rfl
/-- a value that reads as these types -/
def RoTy (H : AM.Heap) (A : AV) (ts : List Ty) : Prop :=
  (∃ c t, A = .ro c (.pr 2 (ts.map Ty.pay)) t) ∨ (∃ o g ob, A = .sl o 0 ts.length g ∧ 2 < o ∧ H[o]? = some (some ob) ∧ Rw (.pr 2 (ts.map Ty.pay)) g ob)
theorem RoTy.more {H r : AM.Heap} {A : AV} {ts : List Ty} (h : RoTy H A ts) : RoTy (H ++ r) A ts := by
  rcases h with h | ⟨o, g, ob, h1, h0, h2, h3⟩
  · exact .inl h
  · exact .inr ⟨o, g, ob, h1, h0, at_cat h2, h3⟩

section
variable (c : Nat) (b : List UInt8) (cg : Nat) (g : List Bool) (ts : List Ty) (fi : Nat) (A : AV)

def prMd (fi : Nat) : AM.Frame := [(11, .fn 22 [.ptr 1 0 0 0]), (13, .fn 23 [.ptr 0 0 0 0])]
def prFr (i : Nat) (r : List UInt8) : AM.Frame := [(8, .sl 2 0 i i), (11, .fn 22 [.ptr 1 0 0 0]), (13, .fn 23 [.ptr 0 0 0 0]), (15, .ro c (.pb r) 1), (16, .int .u8 (fi : Nat)), (111, A), (112, .int .i64 (ts.length : Nat)), (113, .int .i64 (i : Nat))]
def prFb (i : Nat) (r : List UInt8) (m : AM.Frame) (n tl : AM.Frame) : AM.Frame := [(8, .sl 2 0 n.length n.length)] ++ [(11, .fn 22 [.ptr 1 0 0 0]), (13, .fn 23 [.ptr 0 0 0 0]), (15, .ro c (.pb r) 1), (16, .int .u8 (fi : Nat))] ++ m ++ [(111, A), (112, .int .i64 (ts.length : Nat)), (113, .int .i64 (i : Nat))] ++ tl
/-- the heap of a round -/
structure PrHp (H : AM.Heap) (a : List Pm) (i : Nat) : Prop where
  h0 : H[0]? = some (some (roB c (.pb b) 1 1))
  h1 : ∃ tg, H[1]? = some (some (roB cg (.pc (g.map .bool)) 4 tg))
  h2 : ∃ ob, H[2]? = some (some ob) ∧ Rw (.pr 15 (a.map Pm.pay)) i ob
  hA : RoTy H A ts
/-- an error told -/
def prE (e : Int) (o : AM.Out) : Prop := e ≠ 0 ∧ o.ex = .ret ∧ ∃ j, getF o.fr 8 = .sl j 0 0 0 ∧ getF o.fr 9 = .bool false ∧ getF o.fr 10 = .int .i64 e ∧ o.H[j]? = some (some nilP)

/-- what a round keeps -/
def prM (m : AM.Frame) (i : Nat) (r : List UInt8) : AM.Frame := [(8, .sl 2 0 i i), (11, .fn 22 [.ptr 1 0 0 0]), (13, .fn 23 [.ptr 0 0 0 0]), (15, .ro c (.pb r) 1), (16, .int .u8 (fi : Nat))] ++ m ++ [(111, A), (112, .int .i64 (ts.length : Nat)), (113, .int .i64 (i : Nat))]

set_option maxRecDepth 100000 in
set_option maxHeartbeats 4000000 in
theorem pr_own (i : Nat) (r : List UInt8) (a : List Pm) (H : AM.Heap) (t : Ty) (hn : ts.length ≤ 65535) (hb : ts.length ≤ 8 * b.length) (ht : ts[i]? = some t) (hH : PrHp c b cg g ts A H a i) :
    ∃ code, ((Try.f9.body).bind (codeAt [1, 1, 1, 1, 1, 1, 1, 1, 1, 1, 1, 1, 1, 0, 1, 0, 0, 1, 1, 0, 0, 0])) = some code ∧ Run X (evT X) 9 0 code (prFr c ts fi A i r ++ [(114, .bool true)]) H ⟨.normal, prM c ts fi A [(19, .int .i64 (i : Nat)), (20, .ptr H.length 0 0 0)] i r, H ++ [some (tyO t)]⟩ := by
  refine ⟨_, rfl, ?_⟩
  have hlt := at_lt ht
  have hiI : (i : Int) < (ts.length : Int) := by omega
  have hrow : (ts.map Ty.pay)[i]? = some (.pc [.int .u8 (t.t : Nat), .bool t.u]) := by rw [List.getElem?_map, ht]; rfl
  have hL : (ts.map Ty.pay).length = ts.length := List.length_map _
  have hnew : ∀ x : Option AM.Obj, (H ++ [x])[H.length]? = some x := fun x => by simp
  rcases hH.hA with ⟨c', t', rfl⟩ | ⟨o, g', ob, rfl, ho2, ho, hw⟩
  · generalize ts.map Ty.pay = L at *
    (refine ⟨0, ?_⟩; simp (maxSteps := 2000000) -implicitDefEqProofs [-getElem?_pos, List.getElem?_cons_zero, List.getElem?_cons_succ, go_sem, eqV, plen, loadV, storeV, prFr, prM, tyO, Ty.pay, mkTy, hlt, hiI, hL, hrow, hnew, retagL, retag, retagP, flatCells, splice, scalars, scalar])
  · obtain ⟨p, gg, cap, z, row, ids, tg⟩ := ob
    obtain ⟨w1, w2, w3, w4, w5⟩ := hw
    simp only at w1 w2 w3 w4 w5
    subst w1 w2 w3 w4 w5
    have ho3 := at_cat (r := [some (tyO t)]) ho
    generalize ts.map Ty.pay = L at *
    (refine ⟨0, ?_⟩; simp (maxSteps := 2000000) -implicitDefEqProofs [-getElem?_pos, List.getElem?_cons_zero, List.getElem?_cons_succ, go_sem, eqV, plen, loadV, storeV, prFr, prM, tyO, Ty.pay, mkTy, hlt, hiI, hL, hrow, hnew, ho, ho3, retagL, retag, retagP, flatCells, splice, scalars, scalar])

theorem set_at {H : AM.Heap} {i I : Nat} (h : H[0]? = some (some (roB c (.pb b) 1 1))) (hi : i / 8 < b.length) (hi2 : i ≤ 9000000) : evT X 23 [.int .i64 (i : Nat), .ptr 0 0 0 0] H = some (.bool (bitB b i), H) := by
  have := set_ev (I := (i : Nat)) rfl h hi hi2
  rwa [upd_same h] at this
theorem long_at {H : AM.Heap} {i tg : Nat} (h : H[1]? = some (some (roB cg (.pc (g.map .bool)) 4 tg))) (hi2 : i ≤ 9000000) : evT X 22 [.int .i64 (i : Nat), .ptr 1 0 0 0] H = some (.bool (lgB g i), upd H 1 (some (roB cg (.pc (g.map .bool)) 4 4))) :=
  long_ev (I := (i : Nat)) rfl h hi2

set_option maxRecDepth 100000 in
set_option maxHeartbeats 4000000 in
theorem pr_new (i : Nat) (r : List UInt8) (H : AM.Heap) (t : Ty) (L tg : Nat) (hi : i ≤ 9000000) (h1 : H[1]? = some (some (roB cg (.pc (g.map .bool)) 4 tg))) (hL : H[L]? = some (some (tyO t))) (hl : 3 ≤ L) :
    ∃ code, ((Try.f9.body).bind (codeAt [1, 1, 1, 1, 1, 1, 1, 1, 1, 1, 1, 1, 1, 0, 1, 0, 0, 1, 1, 0, 0, 1, 0])) = some code ∧ Run X (evT X) 9 0 code (prM c ts fi A [(19, .int .i64 (i : Nat)), (20, .ptr L 0 0 0)] i r) H ⟨.normal, prM c ts fi A [(19, .int .i64 (i : Nat)), (20, .ptr L 0 0 0), (21, .ptr H.length 0 0 0)] i r, upd H 1 (some (roB cg (.pc (g.map .bool)) 4 4)) ++ [some (pmO ⟨t, lgB g i, {}⟩)]⟩ := by
  refine ⟨_, rfl, ?_⟩
  have hl1 := long_at cg g (i := i) h1 hi
  have hup : (upd H 1 (some (roB cg (.pc (g.map .bool)) 4 4))).length = H.length := by simp [upd]
  have hnew : ∀ x : Option AM.Obj, (upd H 1 (some (roB cg (.pc (g.map .bool)) 4 4)) ++ [x])[H.length]? = some x := fun x => by rw [← hup]; simp
  have hE : ∃ e, eqH H (upd H 1 (some (roB cg (.pc (g.map .bool)) 4 4))) = e := ⟨_, rfl⟩
  obtain ⟨e, hE⟩ := hE
  generalize upd H 1 (some (roB cg (.pc (g.map .bool)) 4 4)) = HU at *
  have hlt := at_lt hL
  have hre : reach H reachFuel [1] [] = [1] := reach_box h1 (by simp [roB, ids, idsL])
  have hia : idsAt H 1 = [] := by simp [idsAt, h1, roB, ids, idsL]
  have n1 : (H.length == 1) = false := beq_eq_false_iff_ne.2 (by omega)
  have n2 : (H.length == L) = false := beq_eq_false_iff_ne.2 (by omega)
  have n3 : (L == 1) = false := beq_eq_false_iff_ne.2 (by omega)
  have n4 : L < H.length + 1 := by omega
  apply Run.dy (by simp) keep9_43 (by simp)
  · (conv => lhs; simp (maxSteps := 2000000) -implicitDefEqProofs [-getElem?_pos, List.getElem?_cons_zero, List.getElem?_cons_succ, go_sem, eqV, plen, loadV, storeV, runD, out1, markOf, freeO, quietO, pushes, isAssign, calledV, touched, mentioned, opVals, touchCall, mentionCall, idsAt, Op.operands, ids, idsL, lendArgs, lendV, lend1, lendL, eqH_self, prM, tyO, Ty.pay, mkTy, hL, hl1, bdPm, hnew, hre, h1, roB, hup, hE, retagL, retag, retagP, flatCells, splice, scalars, scalar])
    rfl
  · refine marksOk_of (ps := [(0, 1), (0, 2), (1, 2), (0, 3), (0, 5), (1, 5), (2, 5), (3, 5), (4, 5)]) ?_ ?_
    · kernel_rfl
    · simp [bearP, bear, disjoint, n1, n2, n3]
      exact ⟨by omega, by omega⟩
  · rfl

end

end Go.Proofs.Ytbmddnokokoofaa

/- Walks: parameters read: a round. -/
namespace Go.Proofs.Ytbmddnokokoofaa
open Go.AM
set_option linter.unusedSimpArgs false
set_option linter.unusedVariables false

section
variable (c : Nat) (b : List UInt8) (cg : Nat) (g : List Bool) (ts : List Ty) (fi : Nat) (A : AV)

set_option maxRecDepth 100000 in
set_option maxHeartbeats 4000000 in
/-- a parameter put behind the others -/
theorem pr_app (i : Nat) (r : List UInt8) (H : AM.Heap) (p : Pm) (a : List Pm) (L : Nat) (ob : AM.Obj) (m tl : AM.Frame) (hi : a.length = i) (hi2 : i ≤ 9000000) (h2 : H[2]? = some (some ob)) (hw : Rw (.pr 15 (a.map Pm.pay)) i ob) (hL : H[L]? = some (some (pmO p))) (hl : 3 ≤ L)
    (hm : (m = [] ∧ tl = []) ∨ ∃ L2, m = [(20, .ptr L2 0 0 0)] ∧ tl = [(131, .bool false)]) :
    ∃ ob', Rw (.pr 15 ((a ++ [p]).map Pm.pay)) (i + 1) ob' ∧ ∃ code, ((Try.f9.body).bind (codeAt [1, 1, 1, 1, 1, 1, 1, 1, 1, 1, 1, 1, 1, 0, 1, 0, 0, 1, 1, 0, 0, 1, 1, 1])) = some code ∧ Run X (evT X) 9 0 code ((prM c ts fi A (m ++ [(21, .ptr L 0 0 0)]) i r) ++ tl) H ⟨.normal, [(8, .sl 2 0 (i + 1) (i + 1)), (11, .fn 22 [.ptr 1 0 0 0]), (13, .fn 23 [.ptr 0 0 0 0]), (15, .ro c (.pb r) 1), (16, .int .u8 (fi : Nat)), (111, A), (112, .int .i64 (ts.length : Nat)), (113, .int .i64 (i : Nat))], upd H 2 (some ob')⟩ := by
  have hlen : (a.map Pm.pay).length = i := by rw [List.length_map, hi]
  obtain ⟨ob', hw', hA⟩ := app_rows (C := X) (T := 35) (e := 34) (es := 15) (H := H) (o := 2) (m := [p.pay]) (src := .ro 1 (.pr 15 [p.pay]) 0) (by simp) (by simp) (by omega) (by simp) (by simp) h2 hw rfl (by rw [hlen]; simp; omega)
  rw [hlen] at hA
  refine ⟨ob', by rw [List.map_append]; exact hw', _, rfl, ?_⟩
  have hbs := fun H => bsPm H p
  simp only [Pm.pay, List.length_cons, List.length_nil, Nat.zero_add] at hA hbs
  rcases hm with ⟨rfl, rfl⟩ | ⟨L2, rfl, rfl⟩
  · (refine ⟨0, ?_⟩; simp (maxSteps := 2000000) -implicitDefEqProofs [-getElem?_pos, List.getElem?_cons_zero, List.getElem?_cons_succ, go_sem, eqV, plen, loadV, storeV, prM, hL, pmO, Pm.pay, mkPm, hbs, hA, assignV, retagL, retag, retagP])
  · (refine ⟨0, ?_⟩; simp (maxSteps := 2000000) -implicitDefEqProofs [-getElem?_pos, List.getElem?_cons_zero, List.getElem?_cons_succ, go_sem, eqV, plen, loadV, storeV, prM, hL, pmO, Pm.pay, mkPm, hbs, hA, assignV, retagL, retag, retagP])

set_option maxRecDepth 100000 in
set_option maxHeartbeats 4000000 in
/-- a value put into its parameter -/
theorem pr_put (i : Nat) (r : List UInt8) (H : AM.Heap) (t : Ty) (v : Va) (k : Nat) (L L2 : Nat) (hc : c ≠ 0) (hk : k ≤ r.length) (hL : H[L]? = some (some (pmO ⟨t, false, {}⟩))) (hL2 : H[L2]? = some (some (vaO v))) (hne : L ≠ L2) :
    ∃ code, ((Try.f9.body).bind (codeAt [1, 1, 1, 1, 1, 1, 1, 1, 1, 1, 1, 1, 1, 0, 1, 0, 0, 1, 1, 0, 0, 1, 1, 0, 1, 0, 1, 1, 1])) = some code ∧ Run X (evT X) 9 0 code ((prM c ts fi A [(21, .ptr L 0 0 0), (22, .ptr L2 0 0 0), (23, .int .i64 (k : Nat)), (24, .int .i64 0)] i r) ++ [(143, .bool false)]) H ⟨.normal, prM c ts fi A [(21, .ptr L 0 0 0)] i (r.drop k), upd H L (some (pmO ⟨t, false, v⟩))⟩ := by
  refine ⟨_, rfl, ?_⟩
  have hki : (k : Int) ≤ (r.length : Int) := by omega
  have hsl := slFrom (c := c) (t := 1) (n := k) (b := r) (fun h => absurd h hc) hk H
  apply Run.dy (by simp) keep9_50 (by simp)
  · (conv => lhs; simp (maxSteps := 2000000) -implicitDefEqProofs [-getElem?_pos, List.getElem?_cons_zero, List.getElem?_cons_succ, go_sem, eqV, plen, loadV, storeV, runD, out1, markOf, freeO, quietO, pushes, isAssign, calledV, touched, mentioned, opVals, touchCall, mentionCall, idsAt, Op.operands, ids, idsL, lendArgs, lendV, lend1, lendL, eqH_self, prM, vaO, pmO, Va.pay, Pm.pay, mkVa, hL, hL2, hsl, retagL, retag, retagP, flatCells, splice, scalars, scalar])
    rfl
  · kernel_rfl
  · rfl

end

end Go.Proofs.Ytbmddnokokoofaa

/- Walks: the document's reader of fields: texts, bytes 0. -/
namespace Go.Proofs.Ytbmddnokokoofaa
open Go.AM
set_option linter.unusedSimpArgs false
set_option linter.unusedVariables false

/-- a counted text off what is left -/
def rtF (s : St) : List UInt8 × St := if s.2 ≠ 0 then ([], s) else ((rdT s.1).1, s.1.drop (rdT s.1).2.1, (rdT s.1).2.2)
/-- n bytes 0 off what is left -/
def zrS (n : Nat) (s : St) : St := ((fx n s).2.1, wr ((bts n s).any (· != 0)) (fx n s).2.2)

theorem rdT_bad {b : List UInt8} (h : (rdT b).2.2 ≠ 0) : (rdT b).1 = [] ∧ (rdT b).2.1 = 0 := by
  unfold rdT at h ⊢
  split
  · exact ⟨rfl, rfl⟩
  · rename_i h1
    rw [if_neg h1] at h
    split
    · exact ⟨rfl, rfl⟩
    · rename_i h2
      rw [if_neg h2] at h
      exact absurd rfl h

theorem rdT_le' (b : List UInt8) : (rdT b).2.1 ≤ b.length := by
  by_cases h : (rdT b).2.2 = 0
  · exact (rdT_le h).1
  · rw [(rdT_bad h).2]; omega

theorem rtF_nil {c : Nat} {s : St} (h : c = 0 → s.1 = []) : c = 0 → (rtF s).2.1 = [] := by
  intro hc
  have := h hc
  unfold rtF; split
  · exact this
  · simp [this]
theorem rtF_len (s : St) : (rtF s).2.1.length ≤ s.1.length := by
  unfold rtF; split
  · exact Nat.le_refl _
  · simp

section
variable (c t tg : Nat) (s : St)

set_option maxRecDepth 100000 in
theorem ftext_code (hc : c = 0 → s.1 = []) (hb : s.1.length ≤ 90000000) : ∃ code, Try.f65.body = some code ∧
    Run X (evT X) 65 1 code [(0, .ptr 0 0 0 0)] [some (rdO c t tg s)] ⟨.ret, [(2, .str (rtF s).1)], [some (rdO c t tg (rtF s).2)]⟩ := by
  refine ⟨_, rfl, 0, ?_⟩
  obtain ⟨b, e⟩ := s
  simp only at hb
  unfold rtF
  by_cases he : e = 0
  · subst he
    rw [if_neg (by simp)]
    have hR := rreadText_ev (H := [some (rdO c t tg (b, 0))]) (a := .ro c (.pb b) t) (b := b) (Byt.ro (.inl rfl) hc) hb
    have hle := rdT_le' b
    have hs1 := fun H => slFrom0 (t := t) hc hle H
    generalize rdT b = r at *
    obtain ⟨x, n, e⟩ := r
    simp only at hR hle hs1 ⊢
    simp only [rdO] at hR
    simp (maxSteps := 2000000) -implicitDefEqProofs [-getElem?_pos, List.getElem?_cons_zero, List.getElem?_cons_succ, go_sem, eqV, plen, loadV, storeV, rdO, hR, hs1]
  · rw [if_pos (by simpa using he)]
    have heb : (e != 0) = true := by simpa using he
    simp (maxSteps := 2000000) -implicitDefEqProofs [-getElem?_pos, List.getElem?_cons_zero, List.getElem?_cons_succ, go_sem, eqV, plen, loadV, storeV, rdO, he, heb]

end

theorem ftext_ev {H : AM.Heap} {o c t tg : Nat} {s : St} (ho : H[o]? = some (some (rdO c t tg s))) (hj : joinTags (tagsOb (rdO c t tg s)) = some t) (hc : c = 0 → s.1 = []) (hb : s.1.length ≤ 90000000) :
    evT X 65 [.ptr o 0 0 0] H = some (.str (rtF s).1, upd H o (some (rdO c t t (rtF s).2))) := by
  obtain ⟨code, hcode, hr⟩ := ftext_code c 2 2 s hc hb
  have := Ev1.box (C := X) (f := 65) (H := H) (o := o) (g := 0) (ob := rdO c t tg s) (ob1 := rdO c 2 2 (rtF s).2) (xs := []) (ys := []) (n := 2) (t := t) (rest := [])
    (l := [.str (rtF s).1]) (evT_below X) Try.func65 hcode rfl ho rfl rfl (args_nil 1) rfl rfl rfl (by simp [gtag]) hj hr (.inr rfl) rfl rfl rfl rfl rfl
    (by intro k hk; right; simpa [resultV, tags, tagsOb, rdO, tagsL] using hk) (.inr rfl)
  exact evT_eq (by simpa [rdO, ren, renL, bk, resultV] using this)

def zrFr (n len i : Nat) (bad : Bool) : AM.Frame := [(0, .ptr 0 0 0 0), (1, .int .i64 (n : Nat)), (4, .sl 1 0 len 0), (5, .bool bad), (6, .int .i64 (i : Nat))]

theorem take_any {l : List UInt8} {i : Nat} {y : UInt8} (h : l[i]? = some y) : (l.take (i + 1)).any (· != 0) = ((l.take i).any (· != 0) || (y != 0)) := by
  rw [take_snoc h]; simp

section
variable (c t : Nat) (s : St) (n : Nat)

end

end Go.Proofs.Ytbmddnokokoofaa

/- Walks: the document's moment, or span, read. -/
namespace Go.Proofs.Ytbmddnokokoofaa
open Go.AM
set_option linter.unusedSimpArgs false
set_option linter.unusedVariables false

/-- hours, minutes, seconds, and the rest, off what is left -/
def clF (s : St) (w : Wh) (m : Bool) : Wh × St :=
  ({ w with h := ((fx 1 s).1 : Nat), mi := ((fx 1 (fx 1 s).2).1 : Nat), s := ((fx 1 (fx 1 (fx 1 s).2).2).1 : Nat), us := if m then ((fx 4 (fx 1 (fx 1 (fx 1 s).2).2).2).1 : Nat) else w.us },
   if m then (fx 4 (fx 1 (fx 1 (fx 1 s).2).2).2).2 else (fx 1 (fx 1 (fx 1 s).2).2).2)

theorem clF_nil {s : St} {w : Wh} {m : Bool} {c : Nat} (h : c = 0 → s.1 = []) : c = 0 → (clF s w m).2.1 = [] := by
  unfold clF
  cases m
  · exact fx_nil (fx_nil (fx_nil h))
  · exact fx_nil (fx_nil (fx_nil (fx_nil h)))

section
variable (c : Nat) (s : St) (w : Wh) (m : Bool)

set_option maxRecDepth 100000 in
set_option maxHeartbeats 4000000 in
theorem clockOf_code (hc : c = 0 → s.1 = []) : ∃ code, Try.f71.body = some code ∧
    Run X (evT X) 71 1 code [(0, .ptr 0 0 0 0), (1, .agg w.pay), (2, .bool m)] [some (rdO c 4 4 s)] ⟨.ret, [(6, .ptr 2 0 0 0)], [some (rdO c 4 4 (clF s w m).2), some (whO (clF s w m).1), some (whO (clF s w m).1)]⟩ := by
  refine ⟨_, rfl, ?_⟩
  unfold clF
  have wb : ∀ k : Nat, k < 256 → IntKind.i64.wrap (k : Int) = (k : Int) := fun k h => wrap_i64 (by omega) (by omega)
  have l1 := fx_lt (n := 1) s
  have h1 := fun H (ho : H[0]? = some (some (rdO c 4 4 s))) => byteF_ev (o := 0) (t := 4) ho (jt c 4 s) hc
  have c1 := fx_nil (n := 1) hc
  generalize fx 1 s = r1 at *
  obtain ⟨k1, s1⟩ := r1
  simp only at *
  have l2 := fx_lt (n := 1) s1
  have h2 := fun H (ho : H[0]? = some (some (rdO c 4 4 s1))) => byteF_ev (o := 0) (t := 4) ho (jt c 4 s1) c1
  have c2 := fx_nil (n := 1) c1
  generalize fx 1 s1 = r2 at *
  obtain ⟨k2, s2⟩ := r2
  simp only at *
  have l3 := fx_lt (n := 1) s2
  have h3 := fun H (ho : H[0]? = some (some (rdO c 4 4 s2))) => byteF_ev (o := 0) (t := 4) ho (jt c 4 s2) c2
  have c3 := fx_nil (n := 1) c2
  generalize fx 1 s2 = r3 at *
  obtain ⟨k3, s3⟩ := r3
  simp only at *
  have l4 := fx_lt (n := 4) s3
  have h4 := fun H (ho : H[0]? = some (some (rdO c 4 4 s3))) => fixedF_ev (N := 4) (n := 4) (o := 0) (t := 4) rfl ho (jt c 4 s3) c3 (by omega) (by omega)
  generalize fx 4 s3 = r4 at *
  obtain ⟨k4, s4⟩ := r4
  simp only at *
  have w1 := wb k1 (by simpa using l1)
  have w2 := wb k2 (by simpa using l2)
  have w3 := wb k3 (by simpa using l3)
  have w4 : IntKind.i64.wrap (k4 : Int) = (k4 : Int) := wrap_i64 (by omega) (by omega)
  clear l1 l2 l3 l4 wb
  apply Run.seq (fr' := [(0, .ptr 0 0 0 0), (2, .bool m), (4, .ptr 1 0 0 0), (6, .ptr 2 0 0 0)]) (H' := [some (rdO c 4 4 s), some (whO w), some (whO {})])
  · (refine ⟨0, ?_⟩; simp (maxSteps := 2000000) -implicitDefEqProofs [-getElem?_pos, List.getElem?_cons_zero, List.getElem?_cons_succ, go_sem, eqV, plen, loadV, storeV, whO, Wh.pay])
  have e1 := h1 [some (rdO c 4 4 s), some (whO w), some (whO {})] rfl
  apply Run.seq (fr' := [(0, .ptr 0 0 0 0), (2, .bool m), (4, .ptr 1 0 0 0), (6, .ptr 2 0 0 0)]) (H' := [some (rdO c 4 4 s1), some (whO { w with h := (k1 : Nat) }), some (whO {})])
  · simp only [rdO, whO, Wh.pay, upd, List.set] at e1
    (refine ⟨0, ?_⟩; simp (maxSteps := 2000000) -implicitDefEqProofs [-getElem?_pos, List.getElem?_cons_zero, List.getElem?_cons_succ, go_sem, eqV, plen, loadV, storeV, rdO, whO, Wh.pay, e1, w1])
  have e2 := h2 [some (rdO c 4 4 s1), some (whO { w with h := (k1 : Nat) }), some (whO {})] rfl
  apply Run.seq (fr' := [(0, .ptr 0 0 0 0), (2, .bool m), (4, .ptr 1 0 0 0), (6, .ptr 2 0 0 0)]) (H' := [some (rdO c 4 4 s2), some (whO { w with h := (k1 : Nat), mi := (k2 : Nat) }), some (whO {})])
  · simp only [rdO, whO, Wh.pay, upd, List.set] at e2
    (refine ⟨0, ?_⟩; simp (maxSteps := 2000000) -implicitDefEqProofs [-getElem?_pos, List.getElem?_cons_zero, List.getElem?_cons_succ, go_sem, eqV, plen, loadV, storeV, rdO, whO, Wh.pay, e2, w2])
  have e3 := h3 [some (rdO c 4 4 s2), some (whO { w with h := (k1 : Nat), mi := (k2 : Nat) }), some (whO {})] rfl
  apply Run.seq (fr' := [(0, .ptr 0 0 0 0), (2, .bool m), (4, .ptr 1 0 0 0), (6, .ptr 2 0 0 0)]) (H' := [some (rdO c 4 4 s3), some (whO { w with h := (k1 : Nat), mi := (k2 : Nat), s := (k3 : Nat) }), some (whO {})])
  · simp only [rdO, whO, Wh.pay, upd, List.set] at e3
    (refine ⟨0, ?_⟩; simp (maxSteps := 2000000) -implicitDefEqProofs [-getElem?_pos, List.getElem?_cons_zero, List.getElem?_cons_succ, go_sem, eqV, plen, loadV, storeV, rdO, whO, Wh.pay, e3, w3])
  cases m with
  | false =>
    refine ⟨0, ?_⟩
    simp (maxSteps := 2000000) -implicitDefEqProofs [-getElem?_pos, List.getElem?_cons_zero, List.getElem?_cons_succ, go_sem, eqV, plen, loadV, storeV, rdO, whO, Wh.pay, mkWh, flatCells, splice, scalars]
  | true =>
    have e4 := h4 [some (rdO c 4 4 s3), some (whO { w with h := (k1 : Nat), mi := (k2 : Nat), s := (k3 : Nat) }), some (whO {})] rfl
    simp only [rdO, whO, Wh.pay, upd, List.set] at e4
    refine ⟨0, ?_⟩
    simp (maxSteps := 2000000) -implicitDefEqProofs [-getElem?_pos, List.getElem?_cons_zero, List.getElem?_cons_succ, go_sem, eqV, plen, loadV, storeV, rdO, whO, Wh.pay, mkWh, e4, w4, flatCells, splice, scalars]

end

theorem clockOf_ev {H : AM.Heap} {o c t tg : Nat} {s : St} {w : Wh} {m : Bool} (ho : H[o]? = some (some (rdO c t tg s))) (hj : joinTags (tagsOb (rdO c t tg s)) = some t) (hc : c = 0 → s.1 = []) :
    evT X 71 [.ptr o 0 0 0, .agg w.pay, .bool m] H = some (.agg (clF s w m).1.pay, upd H o (some (rdO c t t (clF s w m).2))) := by
  obtain ⟨code, hcode, hr⟩ := clockOf_code c s w m hc
  generalize clF s w m = q at *
  have := Ev1.box (C := X) (f := 71) (H := H) (o := o) (g := 0) (ob := rdO c t tg s) (ob1 := rdO c 4 4 q.2) (xs := [.agg w.pay, .bool m]) (ys := [.agg w.pay, .bool m]) (n := 4) (t := t) (rest := [some (whO q.1), some (whO q.1)])
    (l := [.agg q.1.pay]) (evT_below X) Try.func71 hcode rfl ho rfl rfl (args_wh (i := 1) (args_flat (i := 2) rfl rfl (args_nil 3))) (by simp [idsL, ids, Wh.pay]) rfl rfl (by simp [gtag]) hj hr (.inr rfl)
    (by show resultsV X [(6, .ptr 2 0 0 0)] [some (rdO c 4 4 q.2), some (whO q.1), some (whO q.1)] [.cell 6 30] = _; simp [resultsV, getF, loadV, live, whO, pagg, mkWh, Wh.pay]) rfl rfl rfl (by simp [resultV, ids, idsL, Wh.pay])
    (by intro k hk; right; simpa [resultV, tags, tagsOb, rdO, tagsL, Wh.pay] using hk) (.inr rfl)
  exact evT_eq (by simpa [rdO, ren, renL, bk, resultV, Wh.pay] using this)

end Go.Proofs.Ytbmddnokokoofaa

/- Walks: the document's moment, or span, read: whole. -/
namespace Go.Proofs.Ytbmddnokokoofaa
open Go.AM
set_option linter.unusedSimpArgs false
set_option linter.unusedVariables false

def spBad (n : Nat) : Bool := n != 0 && n != 8 && n != 12
def moBad (n : Nat) : Bool := n != 0 && n != 4 && n != 7 && n != 11
def wrS (bad : Bool) (s : St) : St := (s.1, wr bad s.2)

/-- a span's fields -/
def spF (n : Nat) (s : St) : Wh × St :=
  if s.2 = 0 ∧ 0 < n then
    ((clF (fx 4 (fx 1 s).2).2 { neg := (fx 1 s).1 == 1, d := ((fx 4 (fx 1 s).2).1 : Nat) } (n == 12)).1, wrS (decide (1 < (fx 1 s).1)) (clF (fx 4 (fx 1 s).2).2 { neg := (fx 1 s).1 == 1, d := ((fx 4 (fx 1 s).2).1 : Nat) } (n == 12)).2)
  else ({}, s)
/-- a moment's day -/
def dyF (n : Nat) (s : St) : Wh × St :=
  if s.2 = 0 ∧ 0 < n then ({ y := ((fx 2 s).1 : Nat), mo := ((fx 1 (fx 2 s).2).1 : Nat), d := ((fx 1 (fx 1 (fx 2 s).2).2).1 : Nat) }, (fx 1 (fx 1 (fx 2 s).2).2).2) else ({}, s)
def moF (n : Nat) (s : St) : Wh × St := if (dyF n s).2.2 = 0 ∧ 4 < n then clF (dyF n s).2 (dyF n s).1 (n == 11) else dyF n s
def whF (s : St) (t : Nat) : Wh × St :=
  if t = 11 then spF (fx 1 s).1 (wrS (spBad (fx 1 s).1) (fx 1 s).2) else moF (fx 1 s).1 (wrS (moBad (fx 1 s).1) (fx 1 s).2)
/-- what whenOf tells -/
def woF (s : St) (t : Nat) : Wh × St := ((whF s t).1, wrS (!fin (whF s t).1 t) (whF s t).2)

theorem spF_nil {n : Nat} {s : St} {c : Nat} (h : c = 0 → s.1 = []) : c = 0 → (spF n s).2.1 = [] := by
  unfold spF
  split
  · exact clF_nil (fx_nil (fx_nil h))
  · exact h
theorem dyF_nil {n : Nat} {s : St} {c : Nat} (h : c = 0 → s.1 = []) : c = 0 → (dyF n s).2.1 = [] := by
  unfold dyF
  split
  · exact fx_nil (fx_nil (fx_nil h))
  · exact h
theorem moF_nil {n : Nat} {s : St} {c : Nat} (h : c = 0 → s.1 = []) : c = 0 → (moF n s).2.1 = [] := by
  unfold moF
  split
  · exact clF_nil (dyF_nil h)
  · exact dyF_nil h
theorem whF_nil {s : St} {t c : Nat} (h : c = 0 → s.1 = []) : c = 0 → (whF s t).2.1 = [] := by
  unfold whF
  split
  · exact spF_nil (fx_nil h)
  · exact moF_nil (fx_nil h)

theorem wrS_ev {H : AM.Heap} {c : Nat} {s : St} {bad : Bool} (ho : H[0]? = some (some (rdO c 3 3 s))) :
    evT X 31 [.ptr 0 0 0 0, .bool bad] H = some (.tup [], upd H 0 (some (rdO c 3 3 (wrS bad s)))) :=
  wrong_ev (o := 0) (p := .pb s.1) (l := s.1) (e := s.2) (k := 3) ho (.inl rfl) (jt c 3 s)

section
variable (c : Nat) (s : St) (t n : Nat)

def woFr (n : Nat) (tl : AM.Frame) : AM.Frame := [(0, .ptr 0 0 0 0), (1, .int .u8 (t : Nat)), (4, .ptr 1 0 0 0), (5, .int .i64 (n : Nat)), (6, .ptr 2 0 0 0)] ++ tl

set_option maxRecDepth 100000 in
set_option maxHeartbeats 4000000 in
theorem wo_span (hc : c = 0 → s.1 = []) (hn : n < 256) : ∃ code, ((Try.f64.body).bind (codeAt [1, 1, 1, 0, 1, 0])) = some code ∧
    Tells (Goes fun fr H => (∃ tl, fr = [(0, .ptr 0 0 0 0), (1, .int .u8 (t : Nat)), (4, .ptr 1 0 0 0)] ++ tl ∧ getF tl 6 = .ptr 2 0 0 0 ∧ (tl = [(6, .ptr 2 0 0 0)] ∨ tl = [(5, .int .i64 (n : Nat)), (6, .ptr 2 0 0 0), (34, .bool false)])) ∧ H = [some (rdO c 3 3 (spF n (wrS (spBad n) s)).2), some (whO {}), some (whO (spF n (wrS (spBad n) s)).1)])
      X (evT X) 64 1 code (woFr t n [(13, .bool true)]) [some (rdO c 3 3 s), some (whO {}), some (whO {})] := by
  refine ⟨_, rfl, ?_⟩
  have hW := wrS_ev (H := [some (rdO c 3 3 s), some (whO {}), some (whO {})]) (bad := spBad n) rfl
  apply Tells.seq (fr' := woFr t n []) (H' := [some (rdO c 3 3 (wrS (spBad n) s)), some (whO {}), some (whO {})])
  · simp only [rdO, whO, Wh.pay, upd, List.set] at hW
    by_cases h0 : n = 0
    · subst h0
      rw [show spBad 0 = false from rfl] at hW ⊢
      (refine ⟨0, ?_⟩; simp (maxSteps := 2000000) -implicitDefEqProofs [-getElem?_pos, List.getElem?_cons_zero, List.getElem?_cons_succ, go_sem, eqV, plen, loadV, storeV, woFr, rdO, whO, Wh.pay, hW])
    have e0 : ((n : Int) != 0) = true := by simp; omega
    by_cases h8 : n = 8
    · subst h8
      rw [show spBad 8 = false from rfl] at hW ⊢
      (refine ⟨0, ?_⟩; simp (maxSteps := 2000000) -implicitDefEqProofs [-getElem?_pos, List.getElem?_cons_zero, List.getElem?_cons_succ, go_sem, eqV, plen, loadV, storeV, woFr, rdO, whO, Wh.pay, hW])
    have e8 : ((n : Int) != 8) = true := by simp; omega
    by_cases h12 : n = 12
    · subst h12
      rw [show spBad 12 = false from rfl] at hW ⊢
      (refine ⟨0, ?_⟩; simp (maxSteps := 2000000) -implicitDefEqProofs [-getElem?_pos, List.getElem?_cons_zero, List.getElem?_cons_succ, go_sem, eqV, plen, loadV, storeV, woFr, rdO, whO, Wh.pay, hW])
    have e12 : ((n : Int) != 12) = true := by simp; omega
    rw [show spBad n = true by unfold spBad; simp [h0, h8, h12]] at hW ⊢
    (refine ⟨0, ?_⟩; simp (maxSteps := 2000000) -implicitDefEqProofs [-getElem?_pos, List.getElem?_cons_zero, List.getElem?_cons_succ, go_sem, eqV, plen, loadV, storeV, woFr, rdO, whO, Wh.pay, hW, e0, e8, e12])
  clear hW
  have hc1 : c = 0 → (wrS (spBad n) s).1 = [] := hc
  generalize wrS (spBad n) s = s1 at *
  unfold spF
  by_cases hcond : s1.2 = 0 ∧ 0 < n
  case neg =>
    rw [if_neg hcond]
    refine Tells.of (o := ⟨.normal, woFr t n [(34, .bool false)], [some (rdO c 3 3 s1), some (whO {}), some (whO {})]⟩) ⟨0, ?_⟩ ⟨rfl, ⟨_, rfl, rfl, .inr rfl⟩, rfl⟩
    by_cases he : s1.2 = 0
    · have hn0 : n = 0 := by omega
      subst hn0
      simp (maxSteps := 2000000) -implicitDefEqProofs [-getElem?_pos, List.getElem?_cons_zero, List.getElem?_cons_succ, go_sem, eqV, plen, loadV, storeV, woFr, rdO, he]
    · have heb : (s1.2 == 0) = false := beq_eq_false_iff_ne.2 he
      simp (maxSteps := 2000000) -implicitDefEqProofs [-getElem?_pos, List.getElem?_cons_zero, List.getElem?_cons_succ, go_sem, eqV, plen, loadV, storeV, woFr, rdO, heb]
  rw [if_pos hcond]
  obtain ⟨he, hpos⟩ := hcond
  have hposi : (0 : Int) < (n : Int) := by omega
  apply Tells.seq (fr' := woFr t n [(34, .bool true)]) (H' := [some (rdO c 3 3 s1), some (whO {}), some (whO {})])
  · (refine ⟨0, ?_⟩; simp (maxSteps := 2000000) -implicitDefEqProofs [-getElem?_pos, List.getElem?_cons_zero, List.getElem?_cons_succ, go_sem, eqV, plen, loadV, storeV, woFr, rdO, he, hposi, hpos])
  apply Tells.condT (by simp [evalO, getF, woFr])
  have l1 := fx_lt (n := 1) s1
  have e1 := byteF_ev (H := [some (rdO c 3 3 s1), some (whO {}), some (whO {})]) (o := 0) (t := 3) rfl (jt c 3 s1) hc1
  have c1 := fx_nil (n := 1) hc1
  generalize fx 1 s1 = r1 at *
  obtain ⟨k1, s2⟩ := r1
  simp only at *
  have l2 := fx_lt (n := 4) s2
  have e2 := fixedF_ev (H := [some (rdO c 3 3 s2), some (whO {}), some (whO { neg := k1 == 1 })]) (N := 4) (n := 4) (o := 0) (t := 3) rfl rfl (jt c 3 s2) c1 (by omega) (by omega)
  have c2 := fx_nil (n := 4) c1
  generalize fx 4 s2 = r2 at *
  obtain ⟨k2, s3⟩ := r2
  simp only at *
  have e3 := clockOf_ev (H := [some (rdO c 3 3 s3), some (whO {}), some (whO { neg := k1 == 1, d := (k2 : Nat) })]) (o := 0) (t := 3) (w := { neg := k1 == 1, d := (k2 : Nat) }) (m := n == 12) rfl (jt c 3 s3) c2
  generalize clF s3 { neg := k1 == 1, d := (k2 : Nat) } (n == 12) = r3 at *
  obtain ⟨w4, s4⟩ := r3
  simp only at *
  have e4 := wrS_ev (H := [some (rdO c 3 3 s4), some (whO {}), some (whO w4)]) (bad := decide (1 < k1)) rfl
  generalize wrS (decide (1 < k1)) s4 = s5 at *
  have w2 : IntKind.i64.wrap (k2 : Int) = (k2 : Int) := wrap_i64 (by omega) (by omega)
  have hk1 : ((k1 : Int) == 1) = (k1 == 1) := by
    by_cases h : k1 = 1
    · subst h; rfl
    · have : (k1 == 1) = false := by simpa using h
      rw [this]; exact beq_eq_false_iff_ne.2 (by omega)
  have hk2 : decide ((1 : Int) < (k1 : Int)) = decide (1 < k1) := by
    by_cases h : 1 < k1
    · rw [decide_eq_true h]; exact decide_eq_true (by omega)
    · rw [decide_eq_false h]; exact decide_eq_false (by omega)
  have hn12 : ((n : Int) == 12) = (n == 12) := by
    by_cases h : n = 12
    · subst h; rfl
    · have : (n == 12) = false := by simpa using h
      rw [this]; exact beq_eq_false_iff_ne.2 (by omega)
  apply Tells.seq (fr' := [(0, .ptr 0 0 0 0), (1, .int .u8 (t : Nat)), (4, .ptr 1 0 0 0), (5, .int .i64 (n : Nat)), (6, .ptr 2 0 0 0), (7, .int .u8 (k1 : Nat))]) (H' := [some (rdO c 3 3 s2), some (whO {}), some (whO {})])
  · simp only [rdO, whO, Wh.pay, upd, List.set] at e1
    (refine ⟨0, ?_⟩; simp (maxSteps := 2000000) -implicitDefEqProofs [-getElem?_pos, List.getElem?_cons_zero, List.getElem?_cons_succ, go_sem, eqV, plen, loadV, storeV, woFr, rdO, whO, Wh.pay, e1])
  apply Tells.seq (fr' := [(0, .ptr 0 0 0 0), (1, .int .u8 (t : Nat)), (4, .ptr 1 0 0 0), (5, .int .i64 (n : Nat)), (6, .ptr 2 0 0 0), (7, .int .u8 (k1 : Nat))]) (H' := [some (rdO c 3 3 s2), some (whO {}), some (whO { neg := k1 == 1 })])
  · generalize (k1 == 1) = kk at *
    (refine ⟨0, ?_⟩; simp (maxSteps := 2000000) -implicitDefEqProofs [-getElem?_pos, List.getElem?_cons_zero, List.getElem?_cons_succ, go_sem, eqV, plen, loadV, storeV, rdO, whO, Wh.pay, hk1])
  apply Tells.seq (fr' := [(0, .ptr 0 0 0 0), (1, .int .u8 (t : Nat)), (4, .ptr 1 0 0 0), (5, .int .i64 (n : Nat)), (6, .ptr 2 0 0 0), (7, .int .u8 (k1 : Nat))]) (H' := [some (rdO c 3 3 s3), some (whO {}), some (whO { neg := k1 == 1, d := (k2 : Nat) })])
  · simp only [rdO, whO, Wh.pay, upd, List.set] at e2
    generalize (k1 == 1) = kk at *
    (refine ⟨0, ?_⟩; simp (maxSteps := 2000000) -implicitDefEqProofs [-getElem?_pos, List.getElem?_cons_zero, List.getElem?_cons_succ, go_sem, eqV, plen, loadV, storeV, rdO, whO, Wh.pay, e2, w2])
  apply Tells.seq (fr' := [(0, .ptr 0 0 0 0), (1, .int .u8 (t : Nat)), (4, .ptr 1 0 0 0), (6, .ptr 2 0 0 0), (7, .int .u8 (k1 : Nat))]) (H' := [some (rdO c 3 3 s4), some (whO {}), some (whO w4)])
  · simp only [rdO, whO, Wh.pay, upd, List.set] at e3
    generalize (k1 == 1) = kk at *
    generalize (n == 12) = nn at *
    (refine ⟨0, ?_⟩; simp (maxSteps := 2000000) -implicitDefEqProofs [-getElem?_pos, List.getElem?_cons_zero, List.getElem?_cons_succ, go_sem, eqV, plen, loadV, storeV, rdO, whO, Wh.pay, mkWh, e3, hn12, flatCells, splice, scalars])
  refine Tells.of (o := ⟨.normal, [(0, .ptr 0 0 0 0), (1, .int .u8 (t : Nat)), (4, .ptr 1 0 0 0), (6, .ptr 2 0 0 0)], [some (rdO c 3 3 s5), some (whO {}), some (whO w4)]⟩) ⟨0, ?_⟩ ⟨rfl, ⟨_, rfl, rfl, .inl rfl⟩, rfl⟩
  simp only [rdO, whO, Wh.pay, upd, List.set] at e4
  generalize decide (1 < k1) = kk at *
  simp (maxSteps := 2000000) -implicitDefEqProofs [-getElem?_pos, List.getElem?_cons_zero, List.getElem?_cons_succ, go_sem, eqV, plen, loadV, storeV, rdO, whO, Wh.pay, hk2, e4]

end

end Go.Proofs.Ytbmddnokokoofaa
