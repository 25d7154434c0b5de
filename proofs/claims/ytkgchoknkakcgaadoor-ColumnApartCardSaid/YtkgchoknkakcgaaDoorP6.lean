/- Walks: the law ColumnApart. -/
import Derived.Test.YtkgchoknkakcgaaDoorP5
namespace Go.Proofs.YtkgchoknkakcgaaDoor
open Go.AM
set_option linter.unusedSimpArgs false
set_option linter.unusedVariables false

/-- are two columns the same? -/
def sameCo (x y : Co) : Bool := x.s == y.s && (x.t == y.t && (x.ot == y.ot && (x.n == y.n && (x.on == y.on && (((x.cs : Int) == (y.cs : Int)) && (((x.ln : Int) == (y.ln : Int)) && (((x.ty : Int) == (y.ty : Int)) && (((x.fl : Int) == (y.fl : Int)) && (((x.dc : Int) == (y.dc : Int)) && true)))))))))

theorem sameCo_iff (x y : Co) : sameCo x y = true ↔ x = y := by
  constructor
  · intro h
    simp only [sameCo, Bool.and_eq_true, beq_iff_eq, and_true] at h
    obtain ⟨h0, h1, h2, h3, h4, h5, h6, h7, h8, h9⟩ := h
    cases x; cases y
    simp only [Co.mk.injEq] at *
    exact ⟨h0, h1, h2, h3, h4, Int.ofNat.inj h5, Int.ofNat.inj h6, Int.ofNat.inj h7, Int.ofNat.inj h8, Int.ofNat.inj h9⟩
  · rintro rfl
    simp [sameCo]

theorem coEq (s t ot n on : List UInt8) (cs ln ty fl dc : Int) (s' t' ot' n' on' : List UInt8) (cs' ln' ty' fl' dc' : Int) :
    eqFlat X 6 26 [.str s, .str t, .str ot, .str n, .str on, .int .u16 cs, .int .u32 ln, .int .u8 ty, .int .u16 fl, .int .u8 dc] [.str s', .str t', .str ot', .str n', .str on', .int .u16 cs', .int .u32 ln', .int .u8 ty', .int .u16 fl', .int .u8 dc'] =
      some (s == s' && (t == t' && (ot == ot' && (n == n' && (on == on' && ((cs == cs') && ((ln == ln') && ((ty == ty') && ((fl == fl') && ((dc == dc') && true)))))))))) := by kernel_rfl
theorem stCo : isStructT X 26 = true := by kernel_rfl
theorem guCo : X.P.eqGuardType X.P.depth 26 = false := by kernel_rfl
theorem eqCo (x y : Co) (H : AM.Heap) (xo yo : Operand) : eqV X H 26 (.agg x.pay) (.agg y.pay) xo yo = some (sameCo x y) := by
  show (if isStructT X 26 && !X.P.eqGuardType X.P.depth 26 then eqFlat X 6 26 _ _ else none) = _
  rw [stCo, guCo]
  exact coEq ..

theorem apart_plain {x y : Co} (hx : CoOk x) (hy : CoOk y) (h1 : (apR [] x).2 = 0) (h2 : (apR [] y).2 = 0) : ((apR [] x).1 == (apR [] y).1) = sameCo x y := by
  unfold apR at *
  have c1 : chk x = 0 := by
    apply Classical.byContradiction; intro h
    rw [if_neg h] at h1; exact h h1
  have c2 : chk y = 0 := by
    apply Classical.byContradiction; intro h
    rw [if_neg h] at h2; exact h h2
  rw [if_pos c1, if_pos c2]
  simp only [List.nil_append]
  rw [Bool.eq_iff_iff, sameCo_iff, beq_iff_eq]
  exact ⟨fun h => coB_inj hx hy (chk_small c1) (chk_small c2) h, fun h => by rw [h]⟩

section
variable (t u : Nat) (x y : Co)

set_option maxRecDepth 100000 in
theorem apart_code (ht : t < 256) (hu : u < 256) (hx : CoOk x) (hy : CoOk y) : ∃ code, Tryd.f4.body = some code ∧
    Tells (Rets fun fr H => getF fr 8 = .bool true) X (evT X) 4 0 code [(0, .int .u8 (t : Nat)), (1, .int .u8 (u : Nat)), (2, .agg x.pay), (3, .agg y.pay)] [] := by
  refine ⟨_, rfl, ?_⟩
  have hL := fun H => lives_ev H
  apply Tells.seq (fr' := [(0, .int .u8 (t : Nat)), (1, .int .u8 (u : Nat)), (6, .ptr 0 0 0 0), (7, .ptr 1 0 0 0)]) (H' := [some (coO x), some (coO y)])
  · (refine ⟨0, ?_⟩; simp (maxSteps := 2000000) -implicitDefEqProofs [-getElem?_pos, List.getElem?_cons_zero, List.getElem?_cons_succ, exec, runOps, dstOk, wantedV, AM.step, evalT, evalO, evalArgs, evalParts, getF, putF, afterRegion, assignV, boxOf, newBox, hasIdsP, keepF, ofVal, ofCell, plen, pesz, callV, builtinV, lenV, binV, unV, arith, shiftI, loadV, storeV, putV, indexAddrV, live, upd, pget, pset, psetA, pagg, retag, retagP, byteAV, freezeP, freezeV, joinTags, joinTag, tags, ids, scalar, cellsLen, eqV, convV, faV, fvV, shiftBy, shiftRo, coO, Co.pay])
  apply Tells.seq (fr' := [(0, .int .u8 (t : Nat)), (1, .int .u8 (u : Nat)), (6, .ptr 0 0 0 0), (7, .ptr 1 0 0 0), (14, .bool false)]) (H' := [some (coO x), some (coO y)])
  · (refine ⟨0, ?_⟩; simp (maxSteps := 2000000) -implicitDefEqProofs [-getElem?_pos, List.getElem?_cons_zero, List.getElem?_cons_succ, exec, runOps, dstOk, wantedV, AM.step, evalT, evalO, evalArgs, evalParts, getF, putF, afterRegion, assignV, boxOf, newBox, hasIdsP, keepF, ofVal, ofCell, plen, pesz, callV, builtinV, lenV, binV, unV, arith, shiftI, loadV, storeV, putV, indexAddrV, live, upd, pget, pset, psetA, pagg, retag, retagP, byteAV, freezeP, freezeV, joinTags, joinTag, tags, ids, scalar, cellsLen, eqV, convV, faV, fvV, shiftBy, shiftRo, hL, unV])
  have hs1 := small_ev (H := [some (coO x), some (coO y)]) (x := x)
  have hs2 := small_ev (H := [some (coO x), some (coO y)]) (x := y)
  by_cases hs : smB x = true ∧ smB y = true
  case neg =>
    simp only [coO, Co.pay] at hs1 hs2
    refine Tells.of (o := ⟨.ret, [(8, .bool true)], [some (coO x), some (coO y)]⟩) ⟨0, ?_⟩ ⟨rfl, rfl⟩
    cases h1 : smB x with
    | false =>
      rw [h1] at hs1
      simp (maxSteps := 2000000) -implicitDefEqProofs [-getElem?_pos, List.getElem?_cons_zero, List.getElem?_cons_succ, exec, runOps, dstOk, wantedV, AM.step, evalT, evalO, evalArgs, evalParts, getF, putF, afterRegion, assignV, boxOf, newBox, hasIdsP, keepF, ofVal, ofCell, plen, pesz, callV, builtinV, lenV, binV, unV, arith, shiftI, loadV, storeV, putV, indexAddrV, live, upd, pget, pset, psetA, pagg, retag, retagP, byteAV, freezeP, freezeV, joinTags, joinTag, tags, ids, scalar, cellsLen, eqV, convV, faV, fvV, shiftBy, shiftRo, coO, Co.pay, mkCo, hs1, unV]
    | true =>
      rw [h1] at hs1
      have h2 : smB y = false := by
        cases h2 : smB y with
        | false => rfl
        | true => exact absurd ⟨h1, h2⟩ hs
      rw [h2] at hs2
      simp (maxSteps := 2000000) -implicitDefEqProofs [-getElem?_pos, List.getElem?_cons_zero, List.getElem?_cons_succ, exec, runOps, dstOk, wantedV, AM.step, evalT, evalO, evalArgs, evalParts, getF, putF, afterRegion, assignV, boxOf, newBox, hasIdsP, keepF, ofVal, ofCell, plen, pesz, callV, builtinV, lenV, binV, unV, arith, shiftI, loadV, storeV, putV, indexAddrV, live, upd, pget, pset, psetA, pagg, retag, retagP, byteAV, freezeP, freezeV, joinTags, joinTag, tags, ids, scalar, cellsLen, eqV, convV, faV, fvV, shiftBy, shiftRo, coO, Co.pay, mkCo, hs1, hs2, unV]
  rw [hs.1] at hs1
  rw [hs.2] at hs2
  apply Tells.seq (fr' := [(0, .int .u8 (t : Nat)), (1, .int .u8 (u : Nat)), (6, .ptr 0 0 0 0), (7, .ptr 1 0 0 0), (22, .bool false)]) (H' := [some (coO x), some (coO y)])
  · simp only [coO, Co.pay] at hs1 hs2
    (refine ⟨0, ?_⟩; simp (maxSteps := 2000000) -implicitDefEqProofs [-getElem?_pos, List.getElem?_cons_zero, List.getElem?_cons_succ, exec, runOps, dstOk, wantedV, AM.step, evalT, evalO, evalArgs, evalParts, getF, putF, afterRegion, assignV, boxOf, newBox, hasIdsP, keepF, ofVal, ofCell, plen, pesz, callV, builtinV, lenV, binV, unV, arith, shiftI, loadV, storeV, putV, indexAddrV, live, upd, pget, pset, psetA, pagg, retag, retagP, byteAV, freezeP, freezeV, joinTags, joinTag, tags, ids, scalar, cellsLen, eqV, convV, faV, fvV, shiftBy, shiftRo, coO, Co.pay, mkCo, hs1, hs2, unV])
  clear hs1 hs2
  obtain ⟨ob1, hw1, hA1⟩ := append_ev (H := [some (coO x), some (coO y)]) (a := .ro 0 .pn 0) hx Byt.nil (by simp)
  apply Tells.seq (fr' := [(0, .int .u8 (t : Nat)), (1, .int .u8 (u : Nat)), (6, .ptr 0 0 0 0), (7, .ptr 1 0 0 0), (9, .sl 2 0 (apR [] x).1.length 0), (10, .int .i64 (apR [] x).2)]) (H' := [some (coO x), some (coO y), some ob1])
  · simp only [coO, Co.pay] at hA1
    generalize apR [] x = r at *
    (refine ⟨0, ?_⟩; simp (maxSteps := 2000000) -implicitDefEqProofs [-getElem?_pos, List.getElem?_cons_zero, List.getElem?_cons_succ, exec, runOps, dstOk, wantedV, AM.step, evalT, evalO, evalArgs, evalParts, getF, putF, afterRegion, assignV, boxOf, newBox, hasIdsP, keepF, ofVal, ofCell, plen, pesz, callV, builtinV, lenV, binV, unV, arith, shiftI, loadV, storeV, putV, indexAddrV, live, upd, pget, pset, psetA, pagg, retag, retagP, byteAV, freezeP, freezeV, joinTags, joinTag, tags, ids, scalar, cellsLen, eqV, convV, faV, fvV, shiftBy, shiftRo, coO, Co.pay, mkCo, hA1, assignV])
  obtain ⟨ob2, hw2, hA2⟩ := append_ev (H := [some (coO x), some (coO y), some ob1]) (a := .ro 0 .pn 0) hy Byt.nil (by simp)
  apply Tells.seq (fr' := [(0, .int .u8 (t : Nat)), (1, .int .u8 (u : Nat)), (6, .ptr 0 0 0 0), (7, .ptr 1 0 0 0), (9, .sl 2 0 (apR [] x).1.length 0), (10, .int .i64 (apR [] x).2), (11, .sl 3 0 (apR [] y).1.length 0), (12, .int .i64 (apR [] y).2)]) (H' := [some (coO x), some (coO y), some ob1, some ob2])
  · simp only [coO, Co.pay] at hA2
    generalize apR [] x = r at *
    generalize apR [] y = q at *
    (refine ⟨0, ?_⟩; simp (maxSteps := 2000000) -implicitDefEqProofs [-getElem?_pos, List.getElem?_cons_zero, List.getElem?_cons_succ, exec, runOps, dstOk, wantedV, AM.step, evalT, evalO, evalArgs, evalParts, getF, putF, afterRegion, assignV, boxOf, newBox, hasIdsP, keepF, ofVal, ofCell, plen, pesz, callV, builtinV, lenV, binV, unV, arith, shiftI, loadV, storeV, putV, indexAddrV, live, upd, pget, pset, psetA, pagg, retag, retagP, byteAV, freezeP, freezeV, joinTags, joinTag, tags, ids, scalar, cellsLen, eqV, convV, faV, fvV, shiftBy, shiftRo, coO, Co.pay, mkCo, hA2, assignV])
  have hSB := sameB_ev (H := [some (coO x), some (coO y), some ob1, some ob2]) (Byt.whole (o := 2) rfl hw1) (Byt.whole (o := 3) rfl hw2)
  have hN := fun H => cname_ev ht H
  have hN2 := fun H => cname_ev hu H
  have hNe := nmS_eq ht hu
  have hpl := apart_plain hx hy
  have hEq := fun H xo yo => eqCo x y H xo yo
  refine Tells.seq (fr' := [(8, .bool true)]) (H' := [some (coO x), some (coO y), some ob1, some ob2]) ?_ (Tells.of (o := ⟨.ret, [(8, .bool true)], [some (coO x), some (coO y), some ob1, some ob2]⟩) ⟨0, rfl⟩ ⟨rfl, rfl⟩)
  have hg1 := hw1.g
  have hpp1 := hw1.p
  have hids1 := hw1.ids
  have hg2 := hw2.g
  have hpp2 := hw2.p
  have hids2 := hw2.ids
  simp only [coO, Co.pay] at hSB hEq
  clear hA1 hA2 hw1 hw2
  have htu : ((t : Int) == (u : Int)) = (t == u) := by rw [Bool.eq_iff_iff]; simp; omega
  generalize apR [] x = r at *
  generalize apR [] y = q at *
  obtain ⟨rb, re⟩ := r
  obtain ⟨qb, qe⟩ := q
  simp only at hpl hSB
  by_cases hr : re = 0
  · subst hr
    by_cases hq : qe = 0
    · subst hq
      rw [hpl rfl rfl] at hSB
      generalize sameCo x y = sc at *
      generalize nmS t = nt at *
      generalize nmS u = nu at *
      generalize hb : (t == u) = tu at *
      apply Run.dy (by simp) keep4_7 (by simp)
      · (conv => lhs; simp (maxSteps := 2000000) -implicitDefEqProofs [-getElem?_pos, List.getElem?_cons_zero, List.getElem?_cons_succ, exec, runOps, dstOk, wantedV, AM.step, evalT, evalO, evalArgs, evalParts, getF, putF, afterRegion, assignV, boxOf, newBox, hasIdsP, keepF, ofVal, ofCell, plen, pesz, callV, builtinV, lenV, binV, unV, arith, shiftI, loadV, storeV, putV, indexAddrV, live, upd, pget, pset, psetA, pagg, retag, retagP, byteAV, freezeP, freezeV, joinTags, joinTag, tags, ids, scalar, cellsLen, eqV, convV, faV, fvV, shiftBy, shiftRo, runD, out1, markOf, freeO, quietO, pushes, isAssign, calledV, touched, mentioned, opVals, touchCall, mentionCall, idsAt, Op.operands, ids, idsL, lendArgs, lendV, lend1, lendL, -eqV, coO, Co.pay, mkCo, hSB, hN, hN2, hNe, htu, hEq, strOp, reach_none, hg1, hpp1, hids1, hg2, hpp2, hids2, psub, unV])
        rfl
      · kernel_rfl
      · rfl
    · have hqb : (qe != 0) = true := by simpa using hq
      generalize nmS t = nt at *
      generalize nmS u = nu at *
      generalize hb : (t == u) = tu at *
      apply Run.dy (by simp) keep4_7 (by simp)
      · (conv => lhs; simp (maxSteps := 2000000) -implicitDefEqProofs [-getElem?_pos, List.getElem?_cons_zero, List.getElem?_cons_succ, exec, runOps, dstOk, wantedV, AM.step, evalT, evalO, evalArgs, evalParts, getF, putF, afterRegion, assignV, boxOf, newBox, hasIdsP, keepF, ofVal, ofCell, plen, pesz, callV, builtinV, lenV, binV, unV, arith, shiftI, loadV, storeV, putV, indexAddrV, live, upd, pget, pset, psetA, pagg, retag, retagP, byteAV, freezeP, freezeV, joinTags, joinTag, tags, ids, scalar, cellsLen, eqV, convV, faV, fvV, shiftBy, shiftRo, runD, out1, markOf, freeO, quietO, pushes, isAssign, calledV, touched, mentioned, opVals, touchCall, mentionCall, idsAt, Op.operands, ids, idsL, lendArgs, lendV, lend1, lendL, -eqV, coO, Co.pay, mkCo, hqb, hq, hN, hN2, hNe, htu, hEq, strOp, reach_none, hg1, hpp1, hids1, hg2, hpp2, hids2, psub, unV])
        rfl
      · kernel_rfl
      · rfl
  · have hrb : (re != 0) = true := by simpa using hr
    generalize nmS t = nt at *
    generalize nmS u = nu at *
    generalize hb : (t == u) = tu at *
    apply Run.dy (by simp) keep4_7 (by simp)
    · (conv => lhs; simp (maxSteps := 2000000) -implicitDefEqProofs [-getElem?_pos, List.getElem?_cons_zero, List.getElem?_cons_succ, exec, runOps, dstOk, wantedV, AM.step, evalT, evalO, evalArgs, evalParts, getF, putF, afterRegion, assignV, boxOf, newBox, hasIdsP, keepF, ofVal, ofCell, plen, pesz, callV, builtinV, lenV, binV, unV, arith, shiftI, loadV, storeV, putV, indexAddrV, live, upd, pget, pset, psetA, pagg, retag, retagP, byteAV, freezeP, freezeV, joinTags, joinTag, tags, ids, scalar, cellsLen, eqV, convV, faV, fvV, shiftBy, shiftRo, runD, out1, markOf, freeO, quietO, pushes, isAssign, calledV, touched, mentioned, opVals, touchCall, mentionCall, idsAt, Op.operands, ids, idsL, lendArgs, lendV, lend1, lendL, -eqV, coO, Co.pay, mkCo, hrb, hr, hN, hN2, hNe, htu, hEq, strOp, reach_none, hg1, hpp1, hids1, hg2, hpp2, hids2, psub, unV])
      rfl
    · kernel_rfl
    · rfl

end

end Go.Proofs.YtkgchoknkakcgaaDoor
