/- Walks: bare. -/
import Derived.Test.YtmdciglfpedhgaaDoorK4
namespace Go.Proofs.YtmdciglfpedhgaaDoor
open Go.AM
set_option linter.unusedSimpArgs false
set_option linter.unusedVariables false

/-- a command with what its kind has alone -/
def barR (x : Cm) : Cm :=
  match shp x.k with
  | 0 => { k := x.k }
  | 1 => { k := x.k, txt := x.txt }
  | 2 => { k := x.k, co := x.co }
  | 3 => { k := x.k, st := x.st, fl := x.fl, dat := x.dat }
  | 4 => { k := x.k, st := x.st, pa := x.pa, dat := x.dat }
  | 5 => { k := x.k, st := x.st }
  | 6 => { k := x.k, op := x.op }
  | 7 => { k := x.k, st := x.st, co := x.co }
  | _ => { k := x.k, dat := x.dat }

noncomputable def barO : Option Code := ((((Tryd.f26.body).bind cR).bind cR).bind cL).bind cR
def barFr (j : Int) : AM.Frame := [(1, .ptr 0 0 0 0), (2, .ptr 1 0 0 0), (3, .ptr 2 0 0 0), (9, .int .i64 j)]
def barP (x y z : Option AM.Obj) (fr : AM.Frame) (H : AM.Heap) : Prop := getF fr 2 = .ptr 1 0 0 0 ∧ getF fr 3 = .ptr 2 0 0 0 ∧ H = [x, y, z]

section
variable (x : Cm) (c t : Nat) (p : AV) (z : Option AM.Obj)

set_option maxRecDepth 100000 in
theorem bar0 : ∃ code, barO = some code ∧
    Tells (Goes (barP (some (cmO x (.ro c p t))) z (some (cmO { k := x.k } (.ro 0 .pn 0))))) X (evT X) 26 0 code (barFr 0) [some (cmO x (.ro c p t)), z, some (cmO { k := x.k } (.ro 0 .pn 0))] := by
  refine ⟨_, rfl, ?_⟩
  refine Tells.of (o := ⟨.normal, [(1, .ptr 0 0 0 0), (2, .ptr 1 0 0 0), (3, .ptr 2 0 0 0), (60, .bool false)], [some (cmO x (.ro c p t)), z, some (cmO { k := x.k } (.ro 0 .pn 0))]⟩) ?_ ⟨rfl, rfl, rfl, rfl⟩
  refine ⟨0, ?_⟩
  simp (maxSteps := 2000000) -implicitDefEqProofs [-getElem?_pos, List.getElem?_cons_zero, List.getElem?_cons_succ, exec, runOps, dstOk, wantedV, AM.step, evalT, evalO, evalArgs, evalParts, getF, putF, afterRegion, assignV, boxOf, newBox, hasIdsP, keepF, ofVal, ofCell, plen, pesz, callV, builtinV, lenV, binV, unV, arith, shiftI, loadV, storeV, putV, indexAddrV, live, upd, pget, pset, psetA, pagg, retag, retagP, byteAV, freezeP, freezeV, joinTags, joinTag, tags, ids, scalar, cellsLen, eqV, convV, faV, fvV, shiftBy, shiftRo, barFr, cmO, Cm.pay]

set_option maxRecDepth 100000 in
theorem bar1 : ∃ code, barO = some code ∧
    Tells (Goes (barP (some (cmO x (.ro c p t))) z (some (cmO { k := x.k, txt := x.txt } (.ro 0 .pn 0))))) X (evT X) 26 0 code (barFr 1) [some (cmO x (.ro c p t)), z, some (cmO { k := x.k } (.ro 0 .pn 0))] := by
  refine ⟨_, rfl, ?_⟩
  refine Tells.of (o := ⟨.normal, [(2, .ptr 1 0 0 0), (3, .ptr 2 0 0 0)], [some (cmO x (.ro c p t)), z, some (cmO { k := x.k, txt := x.txt } (.ro 0 .pn 0))]⟩) ?_ ⟨rfl, rfl, rfl, rfl⟩
  refine ⟨0, ?_⟩
  simp (maxSteps := 2000000) -implicitDefEqProofs [-getElem?_pos, List.getElem?_cons_zero, List.getElem?_cons_succ, exec, runOps, dstOk, wantedV, AM.step, evalT, evalO, evalArgs, evalParts, getF, putF, afterRegion, assignV, boxOf, newBox, hasIdsP, keepF, ofVal, ofCell, plen, pesz, callV, builtinV, lenV, binV, unV, arith, shiftI, loadV, storeV, putV, indexAddrV, live, upd, pget, pset, psetA, pagg, retag, retagP, byteAV, freezeP, freezeV, joinTags, joinTag, tags, ids, scalar, cellsLen, eqV, convV, faV, fvV, shiftBy, shiftRo, barFr, cmO, Cm.pay]

set_option maxRecDepth 100000 in
theorem bar2 : ∃ code, barO = some code ∧
    Tells (Goes (barP (some (cmO x (.ro c p t))) z (some (cmO { k := x.k, co := x.co } (.ro 0 .pn 0))))) X (evT X) 26 0 code (barFr 2) [some (cmO x (.ro c p t)), z, some (cmO { k := x.k } (.ro 0 .pn 0))] := by
  refine ⟨_, rfl, ?_⟩
  refine Tells.of (o := ⟨.normal, [(2, .ptr 1 0 0 0), (3, .ptr 2 0 0 0)], [some (cmO x (.ro c p t)), z, some (cmO { k := x.k, co := x.co } (.ro 0 .pn 0))]⟩) ?_ ⟨rfl, rfl, rfl, rfl⟩
  refine ⟨0, ?_⟩
  simp (maxSteps := 2000000) -implicitDefEqProofs [-getElem?_pos, List.getElem?_cons_zero, List.getElem?_cons_succ, exec, runOps, dstOk, wantedV, AM.step, evalT, evalO, evalArgs, evalParts, getF, putF, afterRegion, assignV, boxOf, newBox, hasIdsP, keepF, ofVal, ofCell, plen, pesz, callV, builtinV, lenV, binV, unV, arith, shiftI, loadV, storeV, putV, indexAddrV, live, upd, pget, pset, psetA, pagg, retag, retagP, byteAV, freezeP, freezeV, joinTags, joinTag, tags, ids, scalar, cellsLen, eqV, convV, faV, fvV, shiftBy, shiftRo, barFr, cmO, Cm.pay]

set_option maxRecDepth 100000 in
theorem bar3 : ∃ code, barO = some code ∧
    Tells (Goes (barP (some (cmO x (.ro c p t))) z (some (cmO { k := x.k, st := x.st, fl := x.fl, dat := x.dat } (.ro c p t))))) X (evT X) 26 0 code (barFr 3) [some (cmO x (.ro c p t)), z, some (cmO { k := x.k } (.ro 0 .pn 0))] := by
  refine ⟨_, rfl, ?_⟩
  refine Tells.of (o := ⟨.normal, [(2, .ptr 1 0 0 0), (3, .ptr 2 0 0 0)], [some (cmO x (.ro c p t)), z, some (cmO { k := x.k, st := x.st, fl := x.fl, dat := x.dat } (.ro c p t))]⟩) ?_ ⟨rfl, rfl, rfl, rfl⟩
  refine Run.block ?_ (by simp)
  apply Run.seq
  · (refine ⟨0, ?_⟩; conv => lhs; simp (maxSteps := 2000000) -implicitDefEqProofs [-getElem?_pos, List.getElem?_cons_zero, List.getElem?_cons_succ, exec, runOps, dstOk, wantedV, AM.step, evalT, evalO, evalArgs, evalParts, getF, putF, afterRegion, assignV, boxOf, newBox, hasIdsP, keepF, ofVal, ofCell, plen, pesz, callV, builtinV, lenV, binV, unV, arith, shiftI, loadV, storeV, putV, indexAddrV, live, upd, pget, pset, psetA, pagg, retag, retagP, byteAV, freezeP, freezeV, joinTags, joinTag, tags, ids, scalar, cellsLen, eqV, convV, faV, fvV, shiftBy, shiftRo, barFr])
  refine condF (by simp [evalO, getF]) ?_
  apply Run.seq
  · (refine ⟨0, ?_⟩; conv => lhs; simp (maxSteps := 2000000) -implicitDefEqProofs [-getElem?_pos, List.getElem?_cons_zero, List.getElem?_cons_succ, exec, runOps, dstOk, wantedV, AM.step, evalT, evalO, evalArgs, evalParts, getF, putF, afterRegion, assignV, boxOf, newBox, hasIdsP, keepF, ofVal, ofCell, plen, pesz, callV, builtinV, lenV, binV, unV, arith, shiftI, loadV, storeV, putV, indexAddrV, live, upd, pget, pset, psetA, pagg, retag, retagP, byteAV, freezeP, freezeV, joinTags, joinTag, tags, ids, scalar, cellsLen, eqV, convV, faV, fvV, shiftBy, shiftRo])
  refine condF (by simp [evalO, getF]) ?_
  apply Run.seq
  · (refine ⟨0, ?_⟩; conv => lhs; simp (maxSteps := 2000000) -implicitDefEqProofs [-getElem?_pos, List.getElem?_cons_zero, List.getElem?_cons_succ, exec, runOps, dstOk, wantedV, AM.step, evalT, evalO, evalArgs, evalParts, getF, putF, afterRegion, assignV, boxOf, newBox, hasIdsP, keepF, ofVal, ofCell, plen, pesz, callV, builtinV, lenV, binV, unV, arith, shiftI, loadV, storeV, putV, indexAddrV, live, upd, pget, pset, psetA, pagg, retag, retagP, byteAV, freezeP, freezeV, joinTags, joinTag, tags, ids, scalar, cellsLen, eqV, convV, faV, fvV, shiftBy, shiftRo])
  refine condT (by simp [evalO, getF]) ?_
  apply Run.dy (by simp) keep26_8 (by simp)
  · (conv => lhs; simp (maxSteps := 2000000) -implicitDefEqProofs [-getElem?_pos, List.getElem?_cons_zero, List.getElem?_cons_succ, exec, runOps, dstOk, wantedV, AM.step, evalT, evalO, evalArgs, evalParts, getF, putF, afterRegion, assignV, boxOf, newBox, hasIdsP, keepF, ofVal, ofCell, plen, pesz, callV, builtinV, lenV, binV, unV, arith, shiftI, loadV, storeV, putV, indexAddrV, live, upd, pget, pset, psetA, pagg, retag, retagP, byteAV, freezeP, freezeV, joinTags, joinTag, tags, ids, scalar, cellsLen, eqV, convV, faV, fvV, shiftBy, shiftRo, runD, out1, markOf, freeO, quietO, pushes, isAssign, calledV, touched, mentioned, opVals, touchCall, mentionCall, idsAt, Op.operands, ids, idsL, lendArgs, lendV, lend1, lendL, cmO, Cm.pay])
    rfl
  · kernel_rfl
  · rfl

set_option maxRecDepth 100000 in
theorem bar4 : ∃ code, barO = some code ∧
    Tells (Goes (barP (some (cmO x (.ro c p t))) z (some (cmO { k := x.k, st := x.st, pa := x.pa, dat := x.dat } (.ro c p t))))) X (evT X) 26 0 code (barFr 4) [some (cmO x (.ro c p t)), z, some (cmO { k := x.k } (.ro 0 .pn 0))] := by
  refine ⟨_, rfl, ?_⟩
  refine Tells.of (o := ⟨.normal, [(2, .ptr 1 0 0 0), (3, .ptr 2 0 0 0)], [some (cmO x (.ro c p t)), z, some (cmO { k := x.k, st := x.st, pa := x.pa, dat := x.dat } (.ro c p t))]⟩) ?_ ⟨rfl, rfl, rfl, rfl⟩
  refine Run.block ?_ (by simp)
  apply Run.seq
  · (refine ⟨0, ?_⟩; conv => lhs; simp (maxSteps := 2000000) -implicitDefEqProofs [-getElem?_pos, List.getElem?_cons_zero, List.getElem?_cons_succ, exec, runOps, dstOk, wantedV, AM.step, evalT, evalO, evalArgs, evalParts, getF, putF, afterRegion, assignV, boxOf, newBox, hasIdsP, keepF, ofVal, ofCell, plen, pesz, callV, builtinV, lenV, binV, unV, arith, shiftI, loadV, storeV, putV, indexAddrV, live, upd, pget, pset, psetA, pagg, retag, retagP, byteAV, freezeP, freezeV, joinTags, joinTag, tags, ids, scalar, cellsLen, eqV, convV, faV, fvV, shiftBy, shiftRo, barFr])
  refine condF (by simp [evalO, getF]) ?_
  apply Run.seq
  · (refine ⟨0, ?_⟩; conv => lhs; simp (maxSteps := 2000000) -implicitDefEqProofs [-getElem?_pos, List.getElem?_cons_zero, List.getElem?_cons_succ, exec, runOps, dstOk, wantedV, AM.step, evalT, evalO, evalArgs, evalParts, getF, putF, afterRegion, assignV, boxOf, newBox, hasIdsP, keepF, ofVal, ofCell, plen, pesz, callV, builtinV, lenV, binV, unV, arith, shiftI, loadV, storeV, putV, indexAddrV, live, upd, pget, pset, psetA, pagg, retag, retagP, byteAV, freezeP, freezeV, joinTags, joinTag, tags, ids, scalar, cellsLen, eqV, convV, faV, fvV, shiftBy, shiftRo])
  refine condF (by simp [evalO, getF]) ?_
  apply Run.seq
  · (refine ⟨0, ?_⟩; conv => lhs; simp (maxSteps := 2000000) -implicitDefEqProofs [-getElem?_pos, List.getElem?_cons_zero, List.getElem?_cons_succ, exec, runOps, dstOk, wantedV, AM.step, evalT, evalO, evalArgs, evalParts, getF, putF, afterRegion, assignV, boxOf, newBox, hasIdsP, keepF, ofVal, ofCell, plen, pesz, callV, builtinV, lenV, binV, unV, arith, shiftI, loadV, storeV, putV, indexAddrV, live, upd, pget, pset, psetA, pagg, retag, retagP, byteAV, freezeP, freezeV, joinTags, joinTag, tags, ids, scalar, cellsLen, eqV, convV, faV, fvV, shiftBy, shiftRo])
  refine condF (by simp [evalO, getF]) ?_
  apply Run.seq
  · (refine ⟨0, ?_⟩; conv => lhs; simp (maxSteps := 2000000) -implicitDefEqProofs [-getElem?_pos, List.getElem?_cons_zero, List.getElem?_cons_succ, exec, runOps, dstOk, wantedV, AM.step, evalT, evalO, evalArgs, evalParts, getF, putF, afterRegion, assignV, boxOf, newBox, hasIdsP, keepF, ofVal, ofCell, plen, pesz, callV, builtinV, lenV, binV, unV, arith, shiftI, loadV, storeV, putV, indexAddrV, live, upd, pget, pset, psetA, pagg, retag, retagP, byteAV, freezeP, freezeV, joinTags, joinTag, tags, ids, scalar, cellsLen, eqV, convV, faV, fvV, shiftBy, shiftRo])
  refine condT (by simp [evalO, getF]) ?_
  apply Run.dy (by simp) keep26_10 (by simp)
  · (conv => lhs; simp (maxSteps := 2000000) -implicitDefEqProofs [-getElem?_pos, List.getElem?_cons_zero, List.getElem?_cons_succ, exec, runOps, dstOk, wantedV, AM.step, evalT, evalO, evalArgs, evalParts, getF, putF, afterRegion, assignV, boxOf, newBox, hasIdsP, keepF, ofVal, ofCell, plen, pesz, callV, builtinV, lenV, binV, unV, arith, shiftI, loadV, storeV, putV, indexAddrV, live, upd, pget, pset, psetA, pagg, retag, retagP, byteAV, freezeP, freezeV, joinTags, joinTag, tags, ids, scalar, cellsLen, eqV, convV, faV, fvV, shiftBy, shiftRo, runD, out1, markOf, freeO, quietO, pushes, isAssign, calledV, touched, mentioned, opVals, touchCall, mentionCall, idsAt, Op.operands, ids, idsL, lendArgs, lendV, lend1, lendL, cmO, Cm.pay])
    rfl
  · kernel_rfl
  · rfl

set_option maxRecDepth 100000 in
theorem bar5 : ∃ code, barO = some code ∧
    Tells (Goes (barP (some (cmO x (.ro c p t))) z (some (cmO { k := x.k, st := x.st } (.ro 0 .pn 0))))) X (evT X) 26 0 code (barFr 5) [some (cmO x (.ro c p t)), z, some (cmO { k := x.k } (.ro 0 .pn 0))] := by
  refine ⟨_, rfl, ?_⟩
  refine Tells.of (o := ⟨.normal, [(2, .ptr 1 0 0 0), (3, .ptr 2 0 0 0)], [some (cmO x (.ro c p t)), z, some (cmO { k := x.k, st := x.st } (.ro 0 .pn 0))]⟩) ?_ ⟨rfl, rfl, rfl, rfl⟩
  refine ⟨0, ?_⟩
  simp (maxSteps := 2000000) -implicitDefEqProofs [-getElem?_pos, List.getElem?_cons_zero, List.getElem?_cons_succ, exec, runOps, dstOk, wantedV, AM.step, evalT, evalO, evalArgs, evalParts, getF, putF, afterRegion, assignV, boxOf, newBox, hasIdsP, keepF, ofVal, ofCell, plen, pesz, callV, builtinV, lenV, binV, unV, arith, shiftI, loadV, storeV, putV, indexAddrV, live, upd, pget, pset, psetA, pagg, retag, retagP, byteAV, freezeP, freezeV, joinTags, joinTag, tags, ids, scalar, cellsLen, eqV, convV, faV, fvV, shiftBy, shiftRo, barFr, cmO, Cm.pay]

set_option maxRecDepth 100000 in
theorem bar6 : ∃ code, barO = some code ∧
    Tells (Goes (barP (some (cmO x (.ro c p t))) z (some (cmO { k := x.k, op := x.op } (.ro 0 .pn 0))))) X (evT X) 26 0 code (barFr 6) [some (cmO x (.ro c p t)), z, some (cmO { k := x.k } (.ro 0 .pn 0))] := by
  refine ⟨_, rfl, ?_⟩
  refine Tells.of (o := ⟨.normal, [(2, .ptr 1 0 0 0), (3, .ptr 2 0 0 0)], [some (cmO x (.ro c p t)), z, some (cmO { k := x.k, op := x.op } (.ro 0 .pn 0))]⟩) ?_ ⟨rfl, rfl, rfl, rfl⟩
  refine ⟨0, ?_⟩
  simp (maxSteps := 2000000) -implicitDefEqProofs [-getElem?_pos, List.getElem?_cons_zero, List.getElem?_cons_succ, exec, runOps, dstOk, wantedV, AM.step, evalT, evalO, evalArgs, evalParts, getF, putF, afterRegion, assignV, boxOf, newBox, hasIdsP, keepF, ofVal, ofCell, plen, pesz, callV, builtinV, lenV, binV, unV, arith, shiftI, loadV, storeV, putV, indexAddrV, live, upd, pget, pset, psetA, pagg, retag, retagP, byteAV, freezeP, freezeV, joinTags, joinTag, tags, ids, scalar, cellsLen, eqV, convV, faV, fvV, shiftBy, shiftRo, barFr, cmO, Cm.pay]

set_option maxRecDepth 100000 in
theorem bar7 : ∃ code, barO = some code ∧
    Tells (Goes (barP (some (cmO x (.ro c p t))) z (some (cmO { k := x.k, st := x.st, co := x.co } (.ro 0 .pn 0))))) X (evT X) 26 0 code (barFr 7) [some (cmO x (.ro c p t)), z, some (cmO { k := x.k } (.ro 0 .pn 0))] := by
  refine ⟨_, rfl, ?_⟩
  refine Tells.of (o := ⟨.normal, [(2, .ptr 1 0 0 0), (3, .ptr 2 0 0 0)], [some (cmO x (.ro c p t)), z, some (cmO { k := x.k, st := x.st, co := x.co } (.ro 0 .pn 0))]⟩) ?_ ⟨rfl, rfl, rfl, rfl⟩
  refine Run.block ?_ (by simp)
  apply Run.seq
  · (refine ⟨0, ?_⟩; conv => lhs; simp (maxSteps := 2000000) -implicitDefEqProofs [-getElem?_pos, List.getElem?_cons_zero, List.getElem?_cons_succ, exec, runOps, dstOk, wantedV, AM.step, evalT, evalO, evalArgs, evalParts, getF, putF, afterRegion, assignV, boxOf, newBox, hasIdsP, keepF, ofVal, ofCell, plen, pesz, callV, builtinV, lenV, binV, unV, arith, shiftI, loadV, storeV, putV, indexAddrV, live, upd, pget, pset, psetA, pagg, retag, retagP, byteAV, freezeP, freezeV, joinTags, joinTag, tags, ids, scalar, cellsLen, eqV, convV, faV, fvV, shiftBy, shiftRo, barFr])
  refine condF (by simp [evalO, getF]) ?_
  apply Run.seq
  · (refine ⟨0, ?_⟩; conv => lhs; simp (maxSteps := 2000000) -implicitDefEqProofs [-getElem?_pos, List.getElem?_cons_zero, List.getElem?_cons_succ, exec, runOps, dstOk, wantedV, AM.step, evalT, evalO, evalArgs, evalParts, getF, putF, afterRegion, assignV, boxOf, newBox, hasIdsP, keepF, ofVal, ofCell, plen, pesz, callV, builtinV, lenV, binV, unV, arith, shiftI, loadV, storeV, putV, indexAddrV, live, upd, pget, pset, psetA, pagg, retag, retagP, byteAV, freezeP, freezeV, joinTags, joinTag, tags, ids, scalar, cellsLen, eqV, convV, faV, fvV, shiftBy, shiftRo])
  refine condF (by simp [evalO, getF]) ?_
  apply Run.seq
  · (refine ⟨0, ?_⟩; conv => lhs; simp (maxSteps := 2000000) -implicitDefEqProofs [-getElem?_pos, List.getElem?_cons_zero, List.getElem?_cons_succ, exec, runOps, dstOk, wantedV, AM.step, evalT, evalO, evalArgs, evalParts, getF, putF, afterRegion, assignV, boxOf, newBox, hasIdsP, keepF, ofVal, ofCell, plen, pesz, callV, builtinV, lenV, binV, unV, arith, shiftI, loadV, storeV, putV, indexAddrV, live, upd, pget, pset, psetA, pagg, retag, retagP, byteAV, freezeP, freezeV, joinTags, joinTag, tags, ids, scalar, cellsLen, eqV, convV, faV, fvV, shiftBy, shiftRo])
  refine condF (by simp [evalO, getF]) ?_
  apply Run.seq
  · (refine ⟨0, ?_⟩; conv => lhs; simp (maxSteps := 2000000) -implicitDefEqProofs [-getElem?_pos, List.getElem?_cons_zero, List.getElem?_cons_succ, exec, runOps, dstOk, wantedV, AM.step, evalT, evalO, evalArgs, evalParts, getF, putF, afterRegion, assignV, boxOf, newBox, hasIdsP, keepF, ofVal, ofCell, plen, pesz, callV, builtinV, lenV, binV, unV, arith, shiftI, loadV, storeV, putV, indexAddrV, live, upd, pget, pset, psetA, pagg, retag, retagP, byteAV, freezeP, freezeV, joinTags, joinTag, tags, ids, scalar, cellsLen, eqV, convV, faV, fvV, shiftBy, shiftRo])
  refine condF (by simp [evalO, getF]) ?_
  apply Run.seq
  · (refine ⟨0, ?_⟩; conv => lhs; simp (maxSteps := 2000000) -implicitDefEqProofs [-getElem?_pos, List.getElem?_cons_zero, List.getElem?_cons_succ, exec, runOps, dstOk, wantedV, AM.step, evalT, evalO, evalArgs, evalParts, getF, putF, afterRegion, assignV, boxOf, newBox, hasIdsP, keepF, ofVal, ofCell, plen, pesz, callV, builtinV, lenV, binV, unV, arith, shiftI, loadV, storeV, putV, indexAddrV, live, upd, pget, pset, psetA, pagg, retag, retagP, byteAV, freezeP, freezeV, joinTags, joinTag, tags, ids, scalar, cellsLen, eqV, convV, faV, fvV, shiftBy, shiftRo])
  refine condF (by simp [evalO, getF]) ?_
  apply Run.seq
  · (refine ⟨0, ?_⟩; conv => lhs; simp (maxSteps := 2000000) -implicitDefEqProofs [-getElem?_pos, List.getElem?_cons_zero, List.getElem?_cons_succ, exec, runOps, dstOk, wantedV, AM.step, evalT, evalO, evalArgs, evalParts, getF, putF, afterRegion, assignV, boxOf, newBox, hasIdsP, keepF, ofVal, ofCell, plen, pesz, callV, builtinV, lenV, binV, unV, arith, shiftI, loadV, storeV, putV, indexAddrV, live, upd, pget, pset, psetA, pagg, retag, retagP, byteAV, freezeP, freezeV, joinTags, joinTag, tags, ids, scalar, cellsLen, eqV, convV, faV, fvV, shiftBy, shiftRo])
  refine condF (by simp [evalO, getF]) ?_
  apply Run.seq
  · (refine ⟨0, ?_⟩; conv => lhs; simp (maxSteps := 2000000) -implicitDefEqProofs [-getElem?_pos, List.getElem?_cons_zero, List.getElem?_cons_succ, exec, runOps, dstOk, wantedV, AM.step, evalT, evalO, evalArgs, evalParts, getF, putF, afterRegion, assignV, boxOf, newBox, hasIdsP, keepF, ofVal, ofCell, plen, pesz, callV, builtinV, lenV, binV, unV, arith, shiftI, loadV, storeV, putV, indexAddrV, live, upd, pget, pset, psetA, pagg, retag, retagP, byteAV, freezeP, freezeV, joinTags, joinTag, tags, ids, scalar, cellsLen, eqV, convV, faV, fvV, shiftBy, shiftRo])
  refine condT (by simp [evalO, getF]) ?_
  apply Run.dy (by simp) keep26_16 (by simp)
  · (conv => lhs; simp (maxSteps := 2000000) -implicitDefEqProofs [-getElem?_pos, List.getElem?_cons_zero, List.getElem?_cons_succ, exec, runOps, dstOk, wantedV, AM.step, evalT, evalO, evalArgs, evalParts, getF, putF, afterRegion, assignV, boxOf, newBox, hasIdsP, keepF, ofVal, ofCell, plen, pesz, callV, builtinV, lenV, binV, unV, arith, shiftI, loadV, storeV, putV, indexAddrV, live, upd, pget, pset, psetA, pagg, retag, retagP, byteAV, freezeP, freezeV, joinTags, joinTag, tags, ids, scalar, cellsLen, eqV, convV, faV, fvV, shiftBy, shiftRo, runD, out1, markOf, freeO, quietO, pushes, isAssign, calledV, touched, mentioned, opVals, touchCall, mentionCall, idsAt, Op.operands, ids, idsL, lendArgs, lendV, lend1, lendL, cmO, Cm.pay])
    rfl
  · kernel_rfl
  · rfl

set_option maxRecDepth 100000 in
theorem bar8 : ∃ code, barO = some code ∧
    Tells (Goes (barP (some (cmO x (.ro c p t))) z (some (cmO { k := x.k, dat := x.dat } (.ro c p t))))) X (evT X) 26 0 code (barFr 8) [some (cmO x (.ro c p t)), z, some (cmO { k := x.k } (.ro 0 .pn 0))] := by
  refine ⟨_, rfl, ?_⟩
  refine Tells.of (o := ⟨.normal, [(2, .ptr 1 0 0 0), (3, .ptr 2 0 0 0)], [some (cmO x (.ro c p t)), z, some (cmO { k := x.k, dat := x.dat } (.ro c p t))]⟩) ?_ ⟨rfl, rfl, rfl, rfl⟩
  refine ⟨0, ?_⟩
  simp (maxSteps := 2000000) -implicitDefEqProofs [-getElem?_pos, List.getElem?_cons_zero, List.getElem?_cons_succ, exec, runOps, dstOk, wantedV, AM.step, evalT, evalO, evalArgs, evalParts, getF, putF, afterRegion, assignV, boxOf, newBox, hasIdsP, keepF, ofVal, ofCell, plen, pesz, callV, builtinV, lenV, binV, unV, arith, shiftI, loadV, storeV, putV, indexAddrV, live, upd, pget, pset, psetA, pagg, retag, retagP, byteAV, freezeP, freezeV, joinTags, joinTag, tags, ids, scalar, cellsLen, eqV, convV, faV, fvV, shiftBy, shiftRo, barFr, cmO, Cm.pay]

end

end Go.Proofs.YtmdciglfpedhgaaDoor
