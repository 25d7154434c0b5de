/- Walks: the law ColumnCalls. -/
import Derived.Test.YtkgchoknkakcgaaDoorP3
import Derived.Test.YtkgchoknkakcgaaDoorF3
namespace Go.Proofs.YtkgchoknkakcgaaDoor
open Go.AM
set_option linter.unusedSimpArgs false
set_option linter.unusedVariables false

theorem lives_ev (H : AM.Heap) : evT X 6 [] H = some (.bool true, H) :=
  evT_eq (Ev1.triedP (T := fun _ _ _ => none) Below.none (n := 400) (f := 6) (args := []) (v := .bool true) (by kernel_rfl) rfl H)

section
variable (c : Nat) (b : List UInt8) (x : Co) (n : Int)

set_option maxRecDepth 100000 in
theorem calls_code (hc : c = 0 → b = []) (hx : CoOk x) : ∃ code, Tryd.f3.body = some code ∧
    Tells (Rets fun fr H => getF fr 6 = .bool true) X (evT X) 3 0 code [(0, .ro c (.pb b) 1), (1, .agg x.pay), (2, .int .i64 n)] [] := by
  refine ⟨_, rfl, ?_⟩
  have hL := fun H => lives_ev H
  have hro : ∀ H, Byt H (.ro c (.pb b) 1) b := fun H => Byt.ro (.inl rfl) hc
  apply Tells.seq (fr' := [(0, .ro c (.pb b) 1), (2, .int .i64 n), (4, .ptr 0 0 0 0)]) (H' := [some (coO x)])
  · (refine ⟨0, ?_⟩; simp (maxSteps := 2000000) -implicitDefEqProofs [-getElem?_pos, List.getElem?_cons_zero, List.getElem?_cons_succ, exec, runOps, dstOk, wantedV, AM.step, evalT, evalO, evalArgs, evalParts, getF, putF, afterRegion, assignV, boxOf, newBox, hasIdsP, keepF, ofVal, ofCell, plen, pesz, callV, builtinV, lenV, binV, unV, arith, shiftI, loadV, storeV, putV, indexAddrV, live, upd, pget, pset, psetA, pagg, retag, retagP, byteAV, freezeP, freezeV, joinTags, joinTag, tags, ids, scalar, cellsLen, eqV, convV, faV, fvV, shiftBy, shiftRo, coO, Co.pay])
  apply Tells.seq (fr' := [(0, .ro c (.pb b) 1), (2, .int .i64 n), (4, .ptr 0 0 0 0), (12, .bool false)]) (H' := [some (coO x)])
  · (refine ⟨0, ?_⟩; simp (maxSteps := 2000000) -implicitDefEqProofs [-getElem?_pos, List.getElem?_cons_zero, List.getElem?_cons_succ, exec, runOps, dstOk, wantedV, AM.step, evalT, evalO, evalArgs, evalParts, getF, putF, afterRegion, assignV, boxOf, newBox, hasIdsP, keepF, ofVal, ofCell, plen, pesz, callV, builtinV, lenV, binV, unV, arith, shiftI, loadV, storeV, putV, indexAddrV, live, upd, pget, pset, psetA, pagg, retag, retagP, byteAV, freezeP, freezeV, joinTags, joinTag, tags, ids, scalar, cellsLen, eqV, convV, faV, fvV, shiftBy, shiftRo, hL, unV])
  by_cases hb : (3000 : Int) < (b.length : Int)
  · refine Tells.of (o := ⟨.ret, [(6, .bool true)], [some (coO x)]⟩) ⟨0, ?_⟩ ⟨rfl, rfl⟩
    simp (maxSteps := 2000000) -implicitDefEqProofs [-getElem?_pos, List.getElem?_cons_zero, List.getElem?_cons_succ, exec, runOps, dstOk, wantedV, AM.step, evalT, evalO, evalArgs, evalParts, getF, putF, afterRegion, assignV, boxOf, newBox, hasIdsP, keepF, ofVal, ofCell, plen, pesz, callV, builtinV, lenV, binV, unV, arith, shiftI, loadV, storeV, putV, indexAddrV, live, upd, pget, pset, psetA, pagg, retag, retagP, byteAV, freezeP, freezeV, joinTags, joinTag, tags, ids, scalar, cellsLen, eqV, convV, faV, fvV, shiftBy, shiftRo, hb]
  have hsm := small_ev (H := [some (coO x)]) (x := x)
  cases hs : smB x with
  | false =>
    rw [hs] at hsm
    simp only [coO, Co.pay] at hsm
    refine Tells.of (o := ⟨.ret, [(6, .bool true)], [some (coO x)]⟩) ⟨0, ?_⟩ ⟨rfl, rfl⟩
    simp (maxSteps := 2000000) -implicitDefEqProofs [-getElem?_pos, List.getElem?_cons_zero, List.getElem?_cons_succ, exec, runOps, dstOk, wantedV, AM.step, evalT, evalO, evalArgs, evalParts, getF, putF, afterRegion, assignV, boxOf, newBox, hasIdsP, keepF, ofVal, ofCell, plen, pesz, callV, builtinV, lenV, binV, unV, arith, shiftI, loadV, storeV, putV, indexAddrV, live, upd, pget, pset, psetA, pagg, retag, retagP, byteAV, freezeP, freezeV, joinTags, joinTag, tags, ids, scalar, cellsLen, eqV, convV, faV, fvV, shiftBy, shiftRo, hb, coO, Co.pay, mkCo, hsm, unV]
  | true =>
  rw [hs] at hsm
  have hbl : b.length ≤ 3000 := by omega
  apply Tells.seq (fr' := [(0, .ro c (.pb b) 1), (2, .int .i64 n), (4, .ptr 0 0 0 0), (20, .bool false)]) (H' := [some (coO x)])
  · simp only [coO, Co.pay] at hsm
    (refine ⟨0, ?_⟩; simp (maxSteps := 2000000) -implicitDefEqProofs [-getElem?_pos, List.getElem?_cons_zero, List.getElem?_cons_succ, exec, runOps, dstOk, wantedV, AM.step, evalT, evalO, evalArgs, evalParts, getF, putF, afterRegion, assignV, boxOf, newBox, hasIdsP, keepF, ofVal, ofCell, plen, pesz, callV, builtinV, lenV, binV, unV, arith, shiftI, loadV, storeV, putV, indexAddrV, live, upd, pget, pset, psetA, pagg, retag, retagP, byteAV, freezeP, freezeV, joinTags, joinTag, tags, ids, scalar, cellsLen, eqV, convV, faV, fvV, shiftBy, shiftRo, hb, coO, Co.pay, mkCo, hsm, unV])
  clear hsm
  obtain ⟨obo, hO, hOw⟩ := own_ev (H := [some (coO x)]) (hro _) (by omega)
  obtain ⟨ob1, hw1, hA1⟩ := append_ev (H := [some (coO x), some obo]) (a := .sl 1 0 b.length 0) hx (OwnB.byt rfl hO) (by omega)
  apply Tells.seq (fr' := [(0, .ro c (.pb b) 1), (2, .int .i64 n), (4, .ptr 0 0 0 0), (7, .sl 2 0 (apR b x).1.length 0), (8, .int .i64 (apR b x).2)]) (H' := [some (coO x), some obo, some ob1])
  · have hg := hO.rw.g
    have hpp := hO.rw.p
    have hids := hO.rw.ids
    have hg1 := hw1.g
    have hpp1 := hw1.p
    have hids1 := hw1.ids
    simp only [coO, Co.pay, List.cons_append, List.nil_append, List.length_cons, List.length_nil] at hOw hA1
    generalize apR b x = r at *
    apply Run.dy (by simp) keep3_5 (by simp)
    · (conv => lhs; simp (maxSteps := 2000000) -implicitDefEqProofs [-getElem?_pos, List.getElem?_cons_zero, List.getElem?_cons_succ, exec, runOps, dstOk, wantedV, AM.step, evalT, evalO, evalArgs, evalParts, getF, putF, afterRegion, assignV, boxOf, newBox, hasIdsP, keepF, ofVal, ofCell, plen, pesz, callV, builtinV, lenV, binV, unV, arith, shiftI, loadV, storeV, putV, indexAddrV, live, upd, pget, pset, psetA, pagg, retag, retagP, byteAV, freezeP, freezeV, joinTags, joinTag, tags, ids, scalar, cellsLen, eqV, convV, faV, fvV, shiftBy, shiftRo, runD, out1, markOf, freeO, quietO, pushes, isAssign, calledV, touched, mentioned, opVals, touchCall, mentionCall, idsAt, Op.operands, ids, idsL, lendArgs, lendV, lend1, lendL, coO, Co.pay, mkCo, hOw, hA1, assignV, reach_none, hg, hpp, hids, hg1, hpp1, hids1, psub])
      rfl
    · kernel_rfl
    · rfl
  obtain ⟨ob2, hw2, hA2⟩ := rappend_ev (H := [some (coO x), some obo, some ob1]) (a := .ro c (.pb b) 1) hx (hro _) (by omega)
  apply Tells.seq (fr' := [(0, .ro c (.pb b) 1), (2, .int .i64 n), (4, .ptr 0 0 0 0), (7, .sl 2 0 (apR b x).1.length 0), (8, .int .i64 (apR b x).2), (9, .sl 3 0 (apR b x).1.length 0), (10, .int .i64 (apR b x).2)]) (H' := [some (coO x), some obo, some ob1, some ob2])
  · simp only [coO, Co.pay, List.cons_append, List.nil_append, List.length_cons, List.length_nil] at hA2
    generalize apR b x = r at *
    (refine ⟨0, ?_⟩; simp (maxSteps := 2000000) -implicitDefEqProofs [-getElem?_pos, List.getElem?_cons_zero, List.getElem?_cons_succ, exec, runOps, dstOk, wantedV, AM.step, evalT, evalO, evalArgs, evalParts, getF, putF, afterRegion, assignV, boxOf, newBox, hasIdsP, keepF, ofVal, ofCell, plen, pesz, callV, builtinV, lenV, binV, unV, arith, shiftI, loadV, storeV, putV, indexAddrV, live, upd, pget, pset, psetA, pagg, retag, retagP, byteAV, freezeP, freezeV, joinTags, joinTag, tags, ids, scalar, cellsLen, eqV, convV, faV, fvV, shiftBy, shiftRo, coO, Co.pay, mkCo, hA2, assignV])
  have hSB := sameB_ev (H := [some (coO x), some obo, some ob1, some ob2]) (Byt.whole (o := 2) rfl hw1) (Byt.whole (o := 3) rfl hw2)
  rw [beq_self_eq_true] at hSB
  apply Tells.seq (fr' := [(0, .ro c (.pb b) 1), (2, .int .i64 n), (4, .ptr 0 0 0 0), (42, .bool false)]) (H' := [some (coO x), some obo, some ob1, some ob2])
  · generalize apR b x = r at *
    (refine ⟨0, ?_⟩; simp (maxSteps := 2000000) -implicitDefEqProofs [-getElem?_pos, List.getElem?_cons_zero, List.getElem?_cons_succ, exec, runOps, dstOk, wantedV, AM.step, evalT, evalO, evalArgs, evalParts, getF, putF, afterRegion, assignV, boxOf, newBox, hasIdsP, keepF, ofVal, ofCell, plen, pesz, callV, builtinV, lenV, binV, unV, arith, shiftI, loadV, storeV, putV, indexAddrV, live, upd, pget, pset, psetA, pagg, retag, retagP, byteAV, freezeP, freezeV, joinTags, joinTag, tags, ids, scalar, cellsLen, eqV, convV, faV, fvV, shiftBy, shiftRo, hSB, unV])
  obtain ⟨obo2, hO2, hOw2⟩ := own_ev (H := [some (coO x), some obo, some ob1, some ob2]) (hro _) (by omega)
  obtain ⟨ob3, hw3, hA3⟩ := count_ev (n := n) (H := [some (coO x), some obo, some ob1, some ob2, some obo2]) (a := .sl 4 0 b.length 0) (OwnB.byt rfl hO2) (by omega)
  apply Tells.seq (fr' := [(0, .ro c (.pb b) 1), (2, .int .i64 n), (4, .ptr 0 0 0 0), (7, .sl 5 0 (acR b n).1.length 0), (8, .int .i64 (acR b n).2)]) (H' := [some (coO x), some obo, some ob1, some ob2, some obo2, some ob3])
  · simp only [List.cons_append, List.nil_append, List.length_cons, List.length_nil] at hOw2 hA3
    generalize acR b n = r at *
    (refine ⟨0, ?_⟩; simp (maxSteps := 2000000) -implicitDefEqProofs [-getElem?_pos, List.getElem?_cons_zero, List.getElem?_cons_succ, exec, runOps, dstOk, wantedV, AM.step, evalT, evalO, evalArgs, evalParts, getF, putF, afterRegion, assignV, boxOf, newBox, hasIdsP, keepF, ofVal, ofCell, plen, pesz, callV, builtinV, lenV, binV, unV, arith, shiftI, loadV, storeV, putV, indexAddrV, live, upd, pget, pset, psetA, pagg, retag, retagP, byteAV, freezeP, freezeV, joinTags, joinTag, tags, ids, scalar, cellsLen, eqV, convV, faV, fvV, shiftBy, shiftRo, hOw2, hA3, assignV])
  obtain ⟨ob4, hw4, hA4⟩ := rcount_ev (n := n) (H := [some (coO x), some obo, some ob1, some ob2, some obo2, some ob3]) (a := .ro c (.pb b) 1) (hro _) (by omega)
  apply Tells.seq (fr' := [(4, .ptr 0 0 0 0), (7, .sl 5 0 (acR b n).1.length 0), (8, .int .i64 (acR b n).2), (9, .sl 6 0 (acR b n).1.length 0), (10, .int .i64 (acR b n).2)]) (H' := [some (coO x), some obo, some ob1, some ob2, some obo2, some ob3, some ob4])
  · simp only [List.cons_append, List.nil_append, List.length_cons, List.length_nil] at hA4
    generalize acR b n = r at *
    (refine ⟨0, ?_⟩; simp (maxSteps := 2000000) -implicitDefEqProofs [-getElem?_pos, List.getElem?_cons_zero, List.getElem?_cons_succ, exec, runOps, dstOk, wantedV, AM.step, evalT, evalO, evalArgs, evalParts, getF, putF, afterRegion, assignV, boxOf, newBox, hasIdsP, keepF, ofVal, ofCell, plen, pesz, callV, builtinV, lenV, binV, unV, arith, shiftI, loadV, storeV, putV, indexAddrV, live, upd, pget, pset, psetA, pagg, retag, retagP, byteAV, freezeP, freezeV, joinTags, joinTag, tags, ids, scalar, cellsLen, eqV, convV, faV, fvV, shiftBy, shiftRo, hA4, assignV])
  have hSB2 := sameB_ev (H := [some (coO x), some obo, some ob1, some ob2, some obo2, some ob3, some ob4]) (Byt.whole (o := 5) rfl hw3) (Byt.whole (o := 6) rfl hw4)
  rw [beq_self_eq_true] at hSB2
  have hC := fun H => check_ev (H := H) (x := x) hx.ty
  have hC2 := fun H => rcheck_ev (H := H) (x := x) hx.ty
  have hN := fun H => cname_ev hx.ty H
  have hN2 := fun H => rname_ev hx.ty H
  have hK := fun H => known_ev hx.ty H
  have hK2 := fun H => rknown_ev hx.ty H
  refine Tells.seq (fr' := [(6, .bool true)]) (H' := [some (coO x), some obo, some ob1, some ob2, some obo2, some ob3, some ob4]) ?_ (Tells.of (o := ⟨.ret, [(6, .bool true)], [some (coO x), some obo, some ob1, some ob2, some obo2, some ob3, some ob4]⟩) ⟨0, rfl⟩ ⟨rfl, rfl⟩)
  have hg1 := hw3.g
  have hpp1 := hw3.p
  have hids1 := hw3.ids
  have hg2 := hw4.g
  have hpp2 := hw4.p
  have hids2 := hw4.ids
  simp only [coO, Co.pay] at hSB2 hC hC2
  clear hA1 hA2 hOw hSB hA3 hA4 hOw2
  generalize acR b n = r at *
  generalize chk x = ck at *
  generalize nmS x.ty = nk at *
  generalize kn x.ty = ak at *
  apply Run.dy (by simp) keep3_11 (by simp)
  · (conv => lhs; simp (maxSteps := 2000000) -implicitDefEqProofs [-getElem?_pos, List.getElem?_cons_zero, List.getElem?_cons_succ, exec, runOps, dstOk, wantedV, AM.step, evalT, evalO, evalArgs, evalParts, getF, putF, afterRegion, assignV, boxOf, newBox, hasIdsP, keepF, ofVal, ofCell, plen, pesz, callV, builtinV, lenV, binV, unV, arith, shiftI, loadV, storeV, putV, indexAddrV, live, upd, pget, pset, psetA, pagg, retag, retagP, byteAV, freezeP, freezeV, joinTags, joinTag, tags, ids, scalar, cellsLen, eqV, convV, faV, fvV, shiftBy, shiftRo, runD, out1, markOf, freeO, quietO, pushes, isAssign, calledV, touched, mentioned, opVals, touchCall, mentionCall, idsAt, Op.operands, ids, idsL, lendArgs, lendV, lend1, lendL, coO, Co.pay, mkCo, hSB2, hC, hC2, hN, hN2, hK, hK2, strOp, reach_none, hg1, hpp1, hids1, hg2, hpp2, hids2, psub])
    rfl
  · kernel_rfl
  · rfl

end

end Go.Proofs.YtkgchoknkakcgaaDoor
